/- laminalaw15.BloomBuild returns true for all its arguments (built filters and membership tests equal the reference). Conditions: none beyond the row's own (slices and strings of at most 2^47 - 4096 bytes). -/
import Derived.Test.YtjeheopcohnkeaaStBloomBuild
import Derived.Test.YtjeheopcohnkeaaUM01
import Derived.Test.YtjeheopcohnkeaaUM02
import Derived.Test.YtjeheopcohnkeaaUM03
import Derived.Test.YtjeheopcohnkeaaUM06
import Derived.Test.YtjeheopcohnkeaaUM07
import Derived.Test.YtjeheopcohnkeaaUM08
import Derived.Test.YtjeheopcohnkeaaUM11
import Derived.Test.YtjeheopcohnkeaaUM15
import Derived.Test.YtjeheopcohnkeaaUM18
import Derived.Test.YtjeheopcohnkeaaUM21
set_option linter.unusedVariables false
set_option linter.unusedSimpArgs false
namespace Go.Proofs.Ytjeheopcohnkeaa.Pure
open Go Go.RowKit Go.Proofs.Ytjeheopcohnkeaa.QBloomBuild Go.Proofs.YtjeheopcohnkeaaW.PrintWords Go.Proofs.YtjeheopcohnkeaaW.PrintLast Go.Proofs.YtjeheopcohnkeaaM

theorem drop_lt {α : Type} {l r : List α} {i : Nat} {x : α} (h : l.drop i = x :: r) : i < l.length := by
  rcases Nat.lt_or_ge i l.length with h1 | h1
  · exact h1
  · rw [List.drop_of_length_le h1] at h; cases h
theorem drop_ge {α : Type} {l : List α} {i : Nat} (h : l.drop i = []) : l.length ≤ i := by
  rwa [List.drop_eq_nil_iff] at h
theorem drop_next {α : Type} {l r : List α} {i : Nat} {x : α} (h : l.drop i = x :: r) : l.drop (i + 1) = r := by
  rw [← List.drop_drop, h]; rfl
theorem drop_mem {α : Type} {l r : List α} {i : Nat} {x : α} (h : l.drop i = x :: r) : x ∈ l := List.mem_of_mem_drop (h ▸ List.mem_cons_self)

/-! ### the reference's bitset functions -/
theorem tdiv64 (i : Nat) (h : i < 9223372036854775808) : wrap64 (Int.tdiv (i : Int) 64) = ((i / 64 : Nat) : Int) := by
  rw [Int.tdiv_eq_ediv_of_nonneg (by omega), w64 _ (by omega) (by omega)]; omega
theorem tmod64 (i : Nat) : Int.tmod (i : Int) 64 = ((i % 64 : Nat) : Int) := by
  rw [Int.tmod_eq_emod_of_nonneg (by omega)]; omega
theorem utmod64 (i : Nat) : IntKind.u64.wrap (Int.tmod (i : Int) 64) = ((i % 64 : Nat) : Int) := by
  rw [tmod64]; exact wraps_u64 _ (by omega) (by omega)
theorem pow_cast0 (t : Nat) : ((2 ^ t : Nat) : Int) = 2 ^ t := by simp
theorem shl1 (r : Nat) (hr : r < 64) : shl .u64 1 (r : Int) = ((2 ^ r : Nat) : Int) := by
  have h := pow_lt64 r hr
  have h3 : ∀ p : Nat, p < 2 ^ 64 → IntKind.u64.wrap (p : Int) = (p : Int) := fun p hp => wraps_u64 _ (by omega) (by omega)
  unfold shl
  rw [show min ((r : Int).toNat) IntKind.u64.bits = r by simp [IntKind.bits]; omega, Int.one_mul, ← pow_cast0]
  exact h3 _ h
theorem bit_one (y : Int) (h0 : 0 ≤ y) (h1 : y < 18446744073709551616) (r : Nat) (hr : r < 64) : (Go.bits .and .u64 (shr .u64 y (r : Int)) 1 == 1) = y.toNat.testBit r := by
  obtain ⟨m, rfl⟩ := Int.eq_ofNat_of_zero_le h0
  unfold shr
  rw [show min ((r : Int).toNat) IntKind.u64.bits = r by simp [IntKind.bits]; omega, ← pow_cast0, ← Int.natCast_ediv, Int.toNat_natCast, Nat.testBit_eq_decide_div_mod_eq]
  have hqm := Nat.div_le_self m (2 ^ r)
  generalize m / 2 ^ r = q at hqm ⊢
  rw [and_one _ (by omega) (by omega)]
  by_cases hq : q % 2 = 1
  · rw [decide_eq_true hq]; simp; omega
  · rw [decide_eq_false hq]; simp; omega
theorem or_shl (ws : List Int) (hw : wok ws) (i : Nat) : Go.bits .or .u64 (ws.getD (i / 64) 0) (shl .u64 1 (((i % 64 : Nat)) : Int)) = (((ws.getD (i / 64) 0).toNat ||| 2 ^ (i % 64) : Nat) : Int) := by
  have h := wok_get hw (i / 64)
  rw [shl1 _ (Nat.mod_lt _ (by decide))]
  obtain ⟨m, hm⟩ := Int.eq_ofNat_of_zero_le h.1
  rw [hm] at h ⊢
  rw [Int.toNat_natCast]
  exact or_nat m _ (by omega) (pow_lt64 _ (Nat.mod_lt _ (by decide)))
theorem r03con (n i : Nat) (ws : List Int) (hl : ws.length = wc n) (hw : wok ws) (hn : n < 9223372036854775808) : laminaref03_Contains.f (n : Int) ws (i : Int) = some (decide (i < n) && gb ws i) := by
  unfold laminaref03_Contains.f
  rw [if_pos (by omega)]
  by_cases h : i < n
  · have hq : i / 64 < ws.length := by rw [hl]; unfold wc; omega
    rw [if_pos (by omega), tdiv64 i (by omega), utmod64, if_pos (by omega), if_pos (by omega), if_pos (by omega), rd_nat]
    have h2 := wok_get hw (i / 64)
    rw [bit_one _ h2.1 h2.2 _ (Nat.mod_lt _ (by decide)), decide_eq_true h]
    simp [gb]
  · rw [if_neg (by omega), decide_eq_false h]; rfl

/-! ### valid sets -/
def vset (a : Int) (ws : List Int) : Prop := 0 ≤ a ∧ a ≤ 1048576 ∧ ws.length = wc a.toNat ∧ ∀ j, a.toNat ≤ j → gb ws j = false
theorem last_word {ws : List Int} (hw : wok ws) {n : Nat} (hl : ws.length = wc n) (hn : n % 64 ≠ 0) :
    ((ws.getD (n / 64) 0).toNat / 2 ^ (n % 64) = 0) ↔ ∀ j, n ≤ j → gb ws j = false := by
  have hlt : n / 64 < ws.length := by rw [hl]; unfold wc; omega
  have hp := Nat.two_pow_pos (n % 64)
  constructor
  · intro h j hj
    by_cases hq : j / 64 = n / 64
    · unfold gb
      rw [hq]
      have h1 : (ws.getD (n / 64) 0).toNat < 2 ^ (n % 64) := by
        rcases Nat.div_eq_zero_iff.1 h with h2 | h2
        · omega
        · exact h2
      exact Nat.testBit_lt_two_pow (Nat.lt_of_lt_of_le h1 (Nat.pow_le_pow_right (by decide) (by omega)))
    · exact gb_out (by rw [hl]; unfold wc; omega)
  · intro h
    refine Nat.div_eq_of_lt (Nat.lt_pow_two_of_testBit _ (fun i hi => ?_))
    by_cases h64 : i < 64
    · have := h (64 * (n / 64) + i) (by omega)
      unfold gb at this
      rw [show (64 * (n / 64) + i) / 64 = n / 64 by omega, show (64 * (n / 64) + i) % 64 = i by omega] at this
      exact this
    · have h2 := wok_get hw (n / 64)
      have hp2 : 2 ^ 64 ≤ 2 ^ i := Nat.pow_le_pow_right (by decide) (by omega)
      exact Nat.testBit_lt_two_pow (by omega)
theorem vset_iff {n : Nat} {ws : List Int} : vset (n : Int) ws ↔ n ≤ 1048576 ∧ ws.length = wc n ∧ ∀ j, n ≤ j → gb ws j = false := by
  unfold vset
  rw [Int.toNat_natCast]
  constructor
  · rintro ⟨_, h2, h3, h4⟩; exact ⟨by omega, h3, h4⟩
  · rintro ⟨h2, h3, h4⟩; exact ⟨by omega, by omega, h3, h4⟩
theorem vset_wof (n : Nat) (f : Nat → Bool) (hn : n ≤ 1048576) : vset (n : Int) (wof n f) :=
  vset_iff.2 ⟨hn, wof_length n f, fun j hj => by rw [gb_wof, decide_eq_false (by omega), Bool.false_and]⟩
theorem vset_eq {n : Nat} {ws : List Int} (hw : wok ws) (h : vset (n : Int) ws) : ws = wof n (gb ws) := by
  obtain ⟨_, h2, h3⟩ := vset_iff.1 h
  refine wof_eq h2 hw (fun i => ?_)
  by_cases hi : i < n
  · rw [decide_eq_true hi, Bool.true_and]
  · rw [decide_eq_false hi, Bool.false_and, h3 i (by omega)]

/-! ### Of, New -/
def nn (n : Int) : Nat := if n < 0 ∨ n > 1048576 then 0 else n.toNat
theorem nn_le (n : Int) : nn n ≤ 1048576 := by unfold nn; split <;> omega
def ofL (n : Nat) : List Int → List Int → List Int
  | ws, [] => ws
  | ws, x :: r => ofL n (if 0 ≤ x ∧ x < (n : Int) then sb ws x.toNat else ws) r
theorem ofL_len (n : Nat) : ∀ (l ws : List Int), (ofL n ws l).length = ws.length := by
  intro l
  induction l with
  | nil => intro ws; rfl
  | cons x r ih => intro ws; simp only [ofL]; rw [ih]; split <;> simp [sb_length]
theorem ofL_wok (n : Nat) : ∀ (l ws : List Int), wok ws → wok (ofL n ws l) := by
  intro l
  induction l with
  | nil => intro ws h; exact h
  | cons x r ih => intro ws h; simp only [ofL]; exact ih _ (by split <;> first | exact sb_wok h _ | exact h)
theorem wc_words (n : Nat) (hn : n ≤ 1048576) : wrap64 (Int.tdiv (wrap64 ((n : Int) + 63)) 64) = ((wc n : Nat) : Int) := by
  rw [w64 ((n : Int) + 63) (by omega) (by omega), Int.tdiv_eq_ediv_of_nonneg (by omega), w64 _ (by omega) (by omega)]
  unfold wc; omega
theorem inew (n : Int) : bitset_New.f n = some ((nn n : Int), List.replicate (wc (nn n)) 0) := by
  have hw : ∀ m : Nat, m ≤ 1048576 → wc m ≤ 16384 + 1 := fun m h => by unfold wc; omega
  have c0 : bitset_wordCount.f 0 = some 0 := by decide +kernel
  unfold bitset_New.f nn
  by_cases h1 : n < 0
  · rw [if_pos h1, if_pos (.inl h1), c0]; rfl
  · rw [if_neg h1]
    by_cases h2 : n > 1048576
    · rw [if_pos h2, if_pos (.inr h2), c0]; rfl
    · rw [if_neg h2, if_neg (by omega)]
      obtain ⟨m, rfl⟩ := Int.eq_ofNat_of_zero_le (show 0 ≤ n by omega)
      have := hw m (by omega)
      unfold bitset_wordCount.f
      rw [wc_words m (by omega)]
      simp only [Option.bind_some]
      rw [if_pos (by omega), if_pos (by omega), Int.toNat_natCast, Int.toNat_natCast]
theorem rnew (n : Int) : laminaref03_New.f n = some ((nn n : Int), List.replicate (wc (nn n)) 0) := by
  have hw : ∀ m : Nat, m ≤ 1048576 → wc m ≤ 16384 + 1 := fun m h => by unfold wc; omega
  unfold laminaref03_New.f nn
  by_cases h1 : n < 0
  · rw [if_pos h1, if_pos (.inl h1)]; rfl
  · rw [if_neg h1]
    by_cases h2 : n > 1048576
    · rw [if_pos h2, if_pos (.inr h2)]; rfl
    · rw [if_neg h2]
      simp only [if_neg (show ¬ (n < 0 ∨ n > 1048576) by omega)]
      obtain ⟨m, rfl⟩ := Int.eq_ofNat_of_zero_le (show 0 ≤ n by omega)
      have := hw m (by omega)
      rw [wc_words m (by omega)]
      rw [if_pos (by omega), if_pos (by omega), Int.toNat_natCast, Int.toNat_natCast]
theorem of_word {x : Int} {n : Nat} (h0 : 0 ≤ x) (h1 : x < (n : Int)) (hn : n ≤ 1048576) : wrap64 (Int.tdiv x 64) = ((x.toNat / 64 : Nat) : Int) ∧ Int.tmod x 64 = ((x.toNat % 64 : Nat) : Int) := by
  obtain ⟨m, rfl⟩ := Int.eq_ofNat_of_zero_le h0
  exact ⟨by rw [tdiv64 m (by omega), Int.toNat_natCast], by rw [tmod64 m, Int.toNat_natCast]⟩
theorem drop_cons {l : List Int} {i : Nat} (h : i < l.length) : l.drop i = l.getD i 0 :: l.drop (i + 1) := by
  rw [List.getD_eq_getElem?_getD, List.getElem?_eq_getElem h, Option.getD_some]; exact List.drop_eq_getElem_cons h
theorem iof_l0 (n : Nat) (hn : n ≤ 1048576) (l : List Int) (hl : l.length ≤ 1000000) : ∀ (d i : Nat) (ws : List Int), i + d = l.length → ws.length = wc n → wok ws → Ev (fun k => bitset_Of.l0 k l (l.length : Int) (i : Int) (n : Int) ws) ((n : Int), ofL n ws (l.drop i)) := by
  intro d
  induction d with
  | zero =>
    intro i ws h1 h2 h3
    refine Ev.succ ?_
    simp only [bitset_Of.l0]
    refine Ev.neg (by omega) ?_
    rw [List.drop_of_length_le (by omega)]
    exact Ev.now _
  | succ d ih =>
    intro i ws h1 h2 h3
    refine Ev.succ ?_
    simp only [bitset_Of.l0]
    refine Ev.pos (by omega) ?_
    refine Ev.pos (by omega) ?_
    refine Ev.pos (by omega) ?_
    rw [rd_nat, w64_add1 i (by omega), drop_cons (by omega : i < l.length)]
    simp only [ofL]
    generalize l.getD i 0 = x
    by_cases c1 : 0 ≤ x
    · refine Ev.pos c1 ?_
      by_cases c2 : x < (n : Int)
      · obtain ⟨e1, e2⟩ := of_word c1 c2 hn
        have hq : x.toNat / 64 < ws.length := by rw [h2]; unfold wc; omega
        refine Ev.pos c2 ?_
        rw [e1, e2]
        refine Ev.pos (by omega) ?_
        refine Ev.pos (by omega) ?_
        refine Ev.pos (by omega) ?_
        rw [rd_nat, or_shl ws h3 x.toNat, Int.toNat_natCast, if_pos ⟨c1, c2⟩]
        exact ih (i + 1) (sb ws x.toNat) (by omega) (by rw [sb_length]; exact h2) (sb_wok h3 _)
      · refine Ev.neg c2 ?_
        rw [if_neg (fun h => c2 h.2)]
        exact ih (i + 1) ws (by omega) h2 h3
    · refine Ev.neg c1 ?_
      rw [if_neg (fun h => c1 h.1)]
      exact ih (i + 1) ws (by omega) h2 h3
theorem iof_ev (n : Int) (l : List Int) (hl : l.length ≤ 1000000) : Ev (fun k => bitset_Of.f k n l) ((nn n : Int), ofL (nn n) (List.replicate (wc (nn n)) 0) l) := by
  unfold bitset_Of.f
  refine Ev.bind0 (inew n) ?_
  have := iof_l0 (nn n) (nn_le n) l hl l.length 0 (List.replicate (wc (nn n)) 0) (by omega) (by simp) (wok_zeros _)
  rw [List.drop_zero] at this
  exact this
/-! ### Equal -/
theorem req_l0 (n : Int) (ws : List Int) (hl : ws.length ≤ 1000000) : ∀ (d i : Nat), i + d = ws.length → Ev (fun k => laminaref03_Equal.l0 k (i : Int) n ws n ws) true := by
  intro d
  induction d with
  | zero =>
    intro i h
    refine Ev.succ ?_
    simp only [laminaref03_Equal.l0]
    refine Ev.neg (by omega) ?_
    refine Ev.succ ?_
    simp only [laminaref03_Equal.j2]
    exact Ev.neg (by decide) (Ev.now _)
  | succ d ih =>
    intro i h
    refine Ev.succ ?_
    simp only [laminaref03_Equal.l0]
    refine Ev.pos (by omega) ?_
    rw [decide_eq_true (show (i : Int) < (ws.length : Int) by omega)]
    refine Ev.succ ?_
    simp only [laminaref03_Equal.j2]
    refine Ev.pos (by simp) ?_
    refine Ev.pos (by omega) ?_
    refine Ev.pos (by omega) ?_
    refine Ev.pos (by omega) ?_
    refine Ev.pos (by simp) ?_
    rw [w64_add1 i (by omega)]
    exact ih (i + 1) (by omega)
theorem req_ev (n : Int) (ws : List Int) (hl : ws.length ≤ 1000000) : Ev (fun k => laminaref03_Equal.f k n ws n ws) true := by
  unfold laminaref03_Equal.f
  refine Ev.pos (by simp) ?_
  have e : ((ws.length : Int) != (ws.length : Int)) = false := by simp
  rw [e]
  refine Ev.succ ?_
  simp only [laminaref03_Equal.j0]
  refine Ev.neg (by decide) ?_
  exact req_l0 n ws hl ws.length 0 (by omega)

/-! ### words, one by one -/
theorem gb_word (ws : List Int) (i r : Nat) (hr : r < 64) : gb ws (64 * i + r) = (ws.getD i 0).toNat.testBit r := by
  unfold gb; rw [show (64 * i + r) / 64 = i by omega, show (64 * i + r) % 64 = r by omega]
theorem nn_nat (n : Nat) (h : n ≤ 1048576) : nn (n : Int) = n := by unfold nn; rw [if_neg (by omega)]; rfl
/-- The elements of a set that a sorted list gives. -/
theorem ofL_gb (n : Nat) : ∀ (l ws : List Int), ws.length = wc n → (∀ x ∈ l, 0 ≤ x ∧ x < (n : Int)) → ∀ j, gb (ofL n ws l) j = (gb ws j || l.contains (j : Int)) := by
  intro l
  induction l with
  | nil => intro ws _ _ j; simp [ofL]
  | cons x r ih =>
    intro ws h1 h2 j
    have hx := h2 x List.mem_cons_self
    simp only [ofL]
    rw [if_pos hx, ih (sb ws x.toNat) (by rw [sb_length]; exact h1) (fun y hy => h2 y (List.mem_cons_of_mem _ hy)), gb_sb (by rw [h1]; unfold wc; omega), List.contains_cons]
    have e : decide (j = x.toNat) = ((j : Int) == x) := by
      by_cases c : j = x.toNat
      · rw [decide_eq_true c]; simp; omega
      · rw [decide_eq_false c]; simp; omega
    rw [e, Bool.or_assoc]

/-! ### the parameters of a filter -/
def parN (h n : Nat) : Bool := (h == 0 && n == 0) || (decide (1 ≤ h) && decide (h ≤ 11) && decide (64 ≤ n) && decide (n ≤ 65536) && ((n &&& (n - 1)) == 0))
theorem parN_n {h n : Nat} (hp : parN h n = true) : h ≤ 11 ∧ n ≤ 65536 ∧ (h = 0 ↔ n = 0) ∧ (h ≠ 0 → 64 ≤ n) := by
  unfold parN at hp
  simp only [Bool.or_eq_true, Bool.and_eq_true, beq_iff_eq, decide_eq_true_eq] at hp
  omega
/-! ### valid filters -/
theorem beq_ev (h n : Int) (ws : List Int) (hl : ws.length ≤ 1000000) : Ev (fun k => laminaref15_Equal.f k h n ws h n ws) true := by
  unfold laminaref15_Equal.f
  refine Ev.pos rfl ?_
  refine Ev.bind (req_ev n ws hl) ?_
  exact Ev.now _

theorem icon (N : Nat) (ws : List Int) (hw : wok ws) (hl : ws.length = wc N) (hN : N ≤ 1048576) (a : Int) : bitset_Contains.f (N : Int) ws a = some (decide (0 ≤ a ∧ a < (N : Int)) && gb ws a.toNat) := by
  unfold bitset_Contains.f
  by_cases c : a ≥ 0
  · rw [if_pos c]
    obtain ⟨i, rfl⟩ := Int.eq_ofNat_of_zero_le c
    by_cases h : (i : Int) < (N : Int)
    · have hq : i / 64 < ws.length := by rw [hl]; unfold wc; omega
      rw [if_pos h, tdiv64 i (by omega), tmod64 i, if_pos (by omega), if_pos (by omega), if_pos (by omega), rd_nat]
      have h2 := wok_get hw (i / 64)
      rw [bit_one _ h2.1 h2.2 _ (Nat.mod_lt _ (by decide)), decide_eq_true ⟨c, h⟩]
      simp [gb]
    · rw [if_neg h, decide_eq_false (by omega)]; rfl
  · rw [if_neg c, decide_eq_false (by omega)]; rfl

/-! ### Hash -/
theorem or_low (a x : Nat) (ha : a < 72057594037927936) (hx : x < 256) : bits .or .u64 ((a * 256 : Nat) : Int) (x : Int) = ((x + 256 * a : Nat) : Int) := by
  have h := or_u64 8 x a (by omega) (by omega) (by omega)
  rw [bits_or_comm]
  have e : a * 2 ^ 8 = a * 256 := rfl
  rw [e] at h
  rw [h]
  omega
theorem word_l0 (b : List Int) (hb : ∀ x ∈ b, 0 ≤ x ∧ x < 256) (hl : b.length < 1000000000) (i : Nat) (hi : i < 1000000000) : ∀ (d : Nat), d ≤ 8 →
    Ev (fun k => laminaref02_word.l0 k b (i : Int) ((le ((b.drop (i + d)).take (8 - d)) : Nat) : Int) ((d : Int) - 1)) ((le ((b.drop i).take 8) : Nat) : Int) := by
  intro d
  induction d with
  | zero =>
    intro _
    refine Ev.succ ?_
    simp only [laminaref02_word.l0]
    refine Ev.neg (by omega) ?_
    exact Ev.now _
  | succ d ih =>
    intro hd
    refine Ev.succ ?_
    have e1 : (((d + 1 : Nat) : Int) - 1) = (d : Int) := by omega
    have e2 : wrap64 ((d : Int) - 1) = (d : Int) - 1 := w64 _ (by omega) (by omega)
    simp only [laminaref02_word.l0, e1, e2, w64_add i d (by omega)]
    refine Ev.pos (by omega) ?_
    obtain ⟨acc, hacc⟩ : ∃ acc, acc = le ((b.drop (i + (d + 1))).take (8 - (d + 1))) := ⟨_, rfl⟩
    rw [← hacc]
    have hlt : acc < 72057594037927936 := by
      have h1 := le_lt ((b.drop (i + (d + 1))).take (8 - (d + 1))) (fun y hy => hb y (List.mem_of_mem_drop (List.mem_of_mem_take hy)))
      rw [← hacc] at h1
      have h2 : (256 : Nat) ^ ((b.drop (i + (d + 1))).take (8 - (d + 1))).length ≤ 256 ^ 7 := Nat.pow_le_pow_right (by decide) (by rw [List.length_take]; omega)
      exact Nat.lt_of_lt_of_le h1 h2
    have ew : IntKind.u64.wrap ((acc : Int) * 256) = ((acc * 256 : Nat) : Int) := by rw [wraps_u64 _ (by omega) (by omega)]; omega
    by_cases h : i + d < b.length
    · refine Ev.pos (by omega) ?_
      refine Ev.pos (by omega) ?_
      have hx := hb (b[i + d]) (List.getElem_mem h)
      have hg : rd b ((i + d : Nat) : Int) = b[i + d] := by
        rw [rd_nat, List.getD_eq_getElem?_getD, List.getElem?_eq_getElem h]; rfl
      obtain ⟨x, hxe⟩ : ∃ x : Nat, b[i + d] = (x : Int) := ⟨(b[i + d]).toNat, by omega⟩
      have e3 : le ((b.drop (i + d)).take (8 - d)) = x + 256 * acc := by
        rw [List.drop_eq_getElem_cons h, show 8 - d = (8 - (d + 1)) + 1 by omega, List.take_succ_cons, hacc]
        show (b[i + d]).toNat + 256 * _ = _
        rw [hxe, Int.toNat_natCast]
        rfl
      have e4 : bits .or .u64 (IntKind.u64.wrap ((acc : Int) * 256)) (IntKind.u64.wrap (rd b ((i + d : Nat) : Int))) = ((le ((b.drop (i + d)).take (8 - d)) : Nat) : Int) := by
        rw [ew, hg, hxe, wraps_u64 _ (by omega) (by omega), or_low acc x hlt (by omega), e3]
      rw [e4]
      exact ih (by omega)
    · refine Ev.neg (by omega) ?_
      have h0 : acc = 0 := by rw [hacc, List.drop_of_length_le (by omega), List.take_nil]; rfl
      have e4 : IntKind.u64.wrap ((acc : Int) * 256) = ((le ((b.drop (i + d)).take (8 - d)) : Nat) : Int) := by
        rw [ew, h0, List.drop_of_length_le (by omega), List.take_nil]; rfl
      rw [e4]
      exact ih (by omega)
theorem word_ev (b : List Int) (hb : ∀ x ∈ b, 0 ≤ x ∧ x < 256) (hl : b.length < 1000000000) (i : Nat) (hi : i < 1000000000) : Ev (fun k => laminaref02_word.f k b (i : Int)) ((le ((b.drop i).take 8) : Nat) : Int) := by
  unfold laminaref02_word.f
  have := word_l0 b hb hl i hi 8 (Nat.le_refl 8)
  simpa [le] using this
theorem rhash_l0 (b : List Int) (hb : ∀ x ∈ b, 0 ≤ x ∧ x < 256) (hl : b.length < 100000000) : ∀ (m i : Nat) (h : Int), m = (b.length + 7) / 8 - i → i ≤ (b.length + 7) / 8 →
    Ev (fun k => laminaref02_Hash.l0 k b h ((8 * i : Nat) : Int)) (hashI m h (b.drop (8 * i))) := by
  intro m
  induction m with
  | zero =>
    intro i h hm hi
    refine Ev.succ ?_
    simp only [laminaref02_Hash.l0]
    refine Ev.neg (by omega) ?_
    exact Ev.now _
  | succ m ih =>
    intro i h hm hi
    refine Ev.succ ?_
    simp only [laminaref02_Hash.l0]
    refine Ev.pos (by omega) ?_
    refine Ev.bind (word_ev b hb (by omega) (8 * i) (by omega)) ?_
    refine Ev.bind0 (mix_some _) ?_
    have e1 : wrap64 (((8 * i : Nat) : Int) + 8) = ((8 * (i + 1) : Nat) : Int) := by rw [w64 _ (by omega) (by omega)]; omega
    rw [e1]
    have := ih (i + 1) (mixI (bits .xor .u64 h ((le ((b.drop (8 * i)).take 8) : Nat) : Int))) (by omega) (by omega)
    rw [show 8 * (i + 1) = 8 * i + 8 by omega, ← List.drop_drop] at this
    rw [show 8 * (i + 1) = 8 * i + 8 by omega]
    exact this
theorem rhash_ev (s : Int) (b : List Int) (hb : ∀ x ∈ b, 0 ≤ x ∧ x < 256) (hl : b.length < 100000000) : Ev (fun k => laminaref02_Hash.f k s b) (hashI ((b.length + 7) / 8) (mixI (bits .xor .u64 s (b.length : Int))) b) := by
  unfold laminaref02_Hash.f
  rw [wraps_u64 _ (by omega) (by omega)]
  refine Ev.bind0 (mix_some _) ?_
  exact rhash_l0 b hb hl _ 0 _ rfl (Nat.zero_le _)
theorem ihash (s : Int) (b : List Int) (hb : ∀ x ∈ b, 0 ≤ x ∧ x < 256) (hl : b.length < 100000000) : checksum_Hash.f s b = some (hashI ((b.length + 7) / 8) (mixI (bits .xor .u64 s (b.length : Int))) b) := by
  unfold checksum_Hash.f
  rw [if_pos]
  exact ⟨by simp only [List.all_eq_true, Bool.and_eq_true, decide_eq_true_eq]; exact hb, by omega⟩

theorem drop_head {l r : List Int} {i : Nat} {x : Int} (h : l.drop i = x :: r) : l.getD i 0 = x := by
  have e := drop_cons (drop_lt h)
  rw [h] at e
  injection e with e1 _
  exact e1.symm

/-! ### hashes of values -/
theorem bits_rng (op : BinOp) (x y : Int) : 0 ≤ Go.bits op .u64 x y ∧ Go.bits op .u64 x y < 18446744073709551616 := by
  unfold Go.bits
  simp only
  rw [wrap_u64]
  omega
theorem bytes_rng (s : ByteArray) : ∀ x ∈ bytesOf s, 0 ≤ x ∧ x < 256 := by
  intro x hx
  unfold bytesOf at hx
  obtain ⟨c, _, rfl⟩ := List.mem_map.1 hx
  have := c.toNat_lt
  omega
def U64 (x : Int) : Prop := 0 ≤ x ∧ x < 18446744073709551616
theorem mix_u (x : Int) : ∃ r, checksum_Mix.f x = some r ∧ U64 r := ⟨_, rfl, bits_rng _ _ _⟩
theorem mixI_u (x : Int) : U64 (mixI x) := by
  obtain ⟨r, e, h⟩ := mix_u x
  unfold mixI
  rw [e]
  exact h
theorem hashI_u : ∀ (n : Nat) (h : Int) (b : List Int), U64 h → U64 (hashI n h b)
  | 0, _, _, h => h
  | n + 1, _, b, _ => hashI_u n _ _ (mixI_u _)
theorem chash_u (m : Int) (b : List Int) (hb : ∀ x ∈ b, 0 ≤ x ∧ x < 256) (hl : b.length ≤ 1000000000) : ∃ r, checksum_Hash.f m b = some r ∧ U64 r := by
  unfold checksum_Hash.f
  rw [if_pos ⟨by rw [List.all_eq_true]; intro x hx; have := hb x hx; simp; omega, hl⟩]
  exact ⟨_, rfl, hashI_u _ _ _ (mixI_u _)⟩
abbrev VT := S24
/-- What is asked of a value. -/
def vv (v : VT) : Prop := (v.f0 = 0 ∨ v.f0 = 1 ∨ v.f0 = 2) ∨ (v.f0 = 3 ∧ v.f2.size ≤ 4096)
theorem vh_u (h : Int) (v : VT) (hv : vv v) : ∃ r, vhI h v = some r ∧ U64 r := by
  unfold vhI
  by_cases z0 : v.f0 = 0
  · rw [if_pos z0]; exact mix_u _
  rw [if_neg z0]
  by_cases z1 : v.f0 = 1
  · rw [if_pos z1]
    obtain ⟨m, e, _⟩ := mix_u (Go.bits .xor .u64 h 2)
    rw [e, Option.bind_some]
    exact mix_u _
  rw [if_neg z1]
  by_cases z2 : v.f0 = 2
  · rw [if_pos z2]
    obtain ⟨m, e, _⟩ := mix_u (Go.bits .xor .u64 h 3)
    rw [e, Option.bind_some]
    exact mix_u _
  rw [if_neg z2]
  unfold vv at hv
  have z3 : v.f0 = 3 := by omega
  have hs : v.f2.size ≤ 1000000000 := by omega
  rw [if_pos z3, if_pos hs]
  obtain ⟨m, e, _⟩ := mix_u (Go.bits .xor .u64 h 4)
  rw [e, Option.bind_some]
  exact chash_u m _ (bytes_rng _) (by rw [bytesOf_length]; exact hs)
theorem vhash_u (s : Int) (v : VT) (hv : vv v) : ∃ r, value_Hash.f s [v] = some r ∧ U64 r := by
  unfold value_Hash.f
  obtain ⟨m, e, _⟩ := mix_u s
  obtain ⟨r, e2, h⟩ := vh_u m v hv
  rw [e, Option.bind_some]
  simp only [vhL]
  rw [e2, Option.bind_some]
  exact ⟨r, rfl, h⟩
def vh (s : Int) (v : VT) : Int := (value_Hash.f s [v]).getD 0
theorem vh_some (s : Int) (v : VT) (hv : vv v) : value_Hash.f s [v] = some (vh s v) ∧ U64 (vh s v) := by
  obtain ⟨r, e, h⟩ := vhash_u s v hv
  unfold vh
  rw [e]
  exact ⟨rfl, h⟩
/-! ### probes -/
def pv (n h : Nat) (v : VT) : List Int := prL (n : Int) (Go.bits .or .u64 (vh 2 v) 1) h (vh 1 v)
theorem prL_in (n : Nat) (h0 : 0 < n) (h1 : n ≤ 1048576) (g : Int) : ∀ (k : Nat) (h : Int), 0 ≤ h → ∀ x ∈ prL (n : Int) g k h, 0 ≤ x ∧ x < (n : Int)
  | 0, _, _ => by intro x hx; simp [prL] at hx
  | k + 1, h, hh => by
    intro x hx
    simp only [prL, List.mem_cons] at hx
    rcases hx with rfl | hx
    · rw [wraps_u64 (n : Int) (by omega) (by omega), Int.tmod_eq_emod_of_nonneg hh]
      have a := Int.emod_nonneg h (show (n : Int) ≠ 0 by omega)
      have b := Int.emod_lt_of_pos h (show 0 < (n : Int) by omega)
      rw [IntWalk.i64_in _ (by omega)]
      exact ⟨a, b⟩
    · refine prL_in n h0 h1 g k _ ?_ x hx
      rw [wrap_u64]
      omega
theorem pv_in (n h : Nat) (h0 : 0 < n) (h1 : n ≤ 1048576) (v : VT) (hv : vv v) : ∀ x ∈ pv n h v, 0 ≤ x ∧ x < (n : Int) := prL_in n h0 h1 _ h _ (vh_some 1 v hv).2.1
theorem pv_len (n h : Nat) (v : VT) : (pv n h v).length = h := prL_len _ _ _ _
def pvs (n h : Nat) : List VT → List Int
  | [] => []
  | v :: l => pv n h v ++ pvs n h l
theorem pvs_len (n h : Nat) : ∀ l : List VT, (pvs n h l).length = h * l.length
  | [] => rfl
  | v :: l => by simp only [pvs, List.length_append, pv_len, pvs_len n h l, List.length_cons, Nat.mul_add, Nat.mul_one]; omega
theorem pvs_in (n h : Nat) (h0 : 0 < n) (h1 : n ≤ 1048576) : ∀ l : List VT, (∀ v ∈ l, vv v) → ∀ x ∈ pvs n h l, 0 ≤ x ∧ x < (n : Int)
  | [], _ => by intro x hx; simp [pvs] at hx
  | v :: l, hl => by
    intro x hx
    simp only [pvs, List.mem_append] at hx
    rcases hx with hx | hx
    · exact pv_in n h h0 h1 v (hl v List.mem_cons_self) x hx
    · exact pvs_in n h h0 h1 l (fun v hv => hl v (List.mem_cons_of_mem _ hv)) x hx
theorem pv_pvs (n h : Nat) : ∀ (l : List VT) (v : VT), v ∈ l → ∀ x ∈ pv n h v, x ∈ pvs n h l
  | [], v, hv => by cases hv
  | u :: l, v, hv => by
    intro x hx
    simp only [pvs, List.mem_append]
    rcases List.mem_cons.1 hv with rfl | hv
    · exact .inl hx
    · exact .inr (pv_pvs n h l v hv x hx)
theorem bvL_ev (n h : Nat) : ∀ l : List VT, (∀ v ∈ l, vv v) → bvL (n : Int) (h : Int) l = some (pvs n h l)
  | [], _ => rfl
  | v :: l, hl => by
    have h1 := (vh_some 1 v (hl v List.mem_cons_self)).1
    have h2 := (vh_some 2 v (hl v List.mem_cons_self)).1
    simp only [bvL]
    rw [h1, Option.bind_some, h2, Option.bind_some, bvL_ev n h l (fun v hv => hl v (List.mem_cons_of_mem _ hv)), Option.bind_some, Int.toNat_natCast]
    rfl
/-! ### sizes -/
theorem mn16 (a : Int) (h : ¬ a < 1) : ∃ p : Nat, mn a 16 = (p : Int) ∧ 1 ≤ p ∧ p ≤ 16 := by
  have h2 : 1 ≤ mn a 16 ∧ mn a 16 ≤ 16 := by unfold mn; split <;> omega
  exact ⟨(mn a 16).toNat, by omega, by omega, by omega⟩
theorem bldH_nat (p : Nat) (h1 : 1 ≤ p) (h2 : p ≤ 16) : ∃ h : Nat, mx 1 (wrap64 (Int.tdiv (wrap64 ((p : Int) * 7)) 10)) = (h : Int) ∧ 1 ≤ h ∧ h ≤ 11 := by
  have e1 : wrap64 ((p : Int) * 7) = (p : Int) * 7 := by unfold wrap64; omega
  have e2 : Int.tdiv ((p : Int) * 7) 10 = (p : Int) * 7 / 10 := Int.tdiv_eq_ediv_of_nonneg (by omega)
  have e3 : wrap64 ((p : Int) * 7 / 10) = (p : Int) * 7 / 10 := by unfold wrap64; omega
  rw [e1, e2, e3]
  have h3 : 1 ≤ mx 1 ((p : Int) * 7 / 10) ∧ mx 1 ((p : Int) * 7 / 10) ≤ 11 := by unfold mx; split <;> omega
  exact ⟨(mx 1 ((p : Int) * 7 / 10)).toNat, by omega, by omega, by omega⟩
/-- The number of bits: doubled till it suffices. -/
def dbl : Nat → Nat → Nat → Nat
  | 0, n, _ => n
  | k + 1, n, m => if n < m then dbl k (n * 2) m else n
theorem dblN_nat : ∀ (k n m : Nat), dblN k (n : Int) (m : Int) = ((dbl k n m : Nat) : Int)
  | 0, _, _ => rfl
  | k + 1, n, m => by
    unfold dblN dbl
    by_cases c : n < m
    · rw [if_pos c, if_pos (by omega), show (n : Int) * 2 = ((n * 2 : Nat) : Int) by omega, dblN_nat k (n * 2) m]
    · rw [if_neg c, if_neg (by omega)]
theorem dbl_pow : ∀ (k n m j : Nat), n = 64 * 2 ^ j → ∃ i, dbl k n m = 64 * 2 ^ i ∧ i ≤ j + k
  | 0, n, _, j, h => ⟨j, h, by omega⟩
  | k + 1, n, m, j, h => by
    unfold dbl
    by_cases c : n < m
    · rw [if_pos c]
      obtain ⟨i, e, hi⟩ := dbl_pow k (n * 2) m (j + 1) (by rw [h, Nat.pow_succ, Nat.mul_assoc])
      exact ⟨i, e, by omega⟩
    · rw [if_neg c]
      exact ⟨j, h, by omega⟩
theorem parN_dbl (h m : Nat) (h1 : 1 ≤ h) (h2 : h ≤ 11) : parN h (dbl 10 64 m) = true ∧ 64 ≤ dbl 10 64 m ∧ dbl 10 64 m ≤ 65536 := by
  obtain ⟨i, e, hi⟩ := dbl_pow 10 64 m 0 rfl
  rw [e]
  have hh : h = 1 ∨ h = 2 ∨ h = 3 ∨ h = 4 ∨ h = 5 ∨ h = 6 ∨ h = 7 ∨ h = 8 ∨ h = 9 ∨ h = 10 ∨ h = 11 := by omega
  have hii : i = 0 ∨ i = 1 ∨ i = 2 ∨ i = 3 ∨ i = 4 ∨ i = 5 ∨ i = 6 ∨ i = 7 ∨ i = 8 ∨ i = 9 ∨ i = 10 := by omega
  have key : ∀ i : Fin 11, ((64 * 2 ^ i.val &&& (64 * 2 ^ i.val - 1)) == 0) = true ∧ 64 ≤ 64 * 2 ^ i.val ∧ 64 * 2 ^ i.val ≤ 65536 := by decide +kernel
  obtain ⟨k1, k2, k3⟩ := key ⟨i, by omega⟩
  simp only at k1 k2 k3
  refine ⟨?_, k2, k3⟩
  unfold parN
  rw [k1, decide_eq_true h1, decide_eq_true h2, decide_eq_true k2, decide_eq_true k3]
  simp
/-! ### Build -/
/-- The words of a built filter. -/
def bldW (n h : Nat) (l : List VT) : List Int := ofL n (List.replicate (wc n) 0) (pvs n h l)
theorem bldW_len (n h : Nat) (l : List VT) : (bldW n h l).length = wc n := by unfold bldW; rw [ofL_len, List.length_replicate]
theorem bldW_wok (n h : Nat) (l : List VT) : wok (bldW n h l) := ofL_wok n _ _ (wok_zeros _)
theorem bldW_gb (n h : Nat) (h0 : 0 < n) (h1 : n ≤ 1048576) (l : List VT) (hl : ∀ v ∈ l, vv v) (j : Nat) : gb (bldW n h l) j = (pvs n h l).contains (j : Int) := by
  unfold bldW
  rw [ofL_gb n _ _ (by rw [List.length_replicate]) (pvs_in n h h0 h1 l hl), gb_zeros, Bool.false_or]
theorem bldW_zero (n h : Nat) (h0 : 0 < n) (h1 : n ≤ 1048576) (l : List VT) (hl : ∀ v ∈ l, vv v) : ∀ j, n ≤ j → gb (bldW n h l) j = false := by
  intro j hj
  rw [bldW_gb n h h0 h1 l hl]
  rw [Bool.eq_false_iff]
  intro hc
  have := pvs_in n h h0 h1 l hl (j : Int) (by simpa using hc)
  omega
/-- What Build answers. -/
theorem bld_ev (l : List VT) (hl : ∀ v ∈ l, vv v) (hlen : l.length ≤ 200) (a : Int) (p h : Nat) (ha : ¬ a < 1) (hp : mn a 16 = (p : Int)) (hp1 : 1 ≤ p) (hp2 : p ≤ 16) (hh : mx 1 (wrap64 (Int.tdiv (wrap64 ((p : Int) * 7)) 10)) = (h : Int)) (hh1 : 1 ≤ h) (hh2 : h ≤ 11) :
    Ev (fun k => bloom_Build.f k l a) ((h : Int), ((dbl 10 64 (l.length * p) : Nat) : Int), bldW (dbl 10 64 (l.length * p)) h l) := by
  obtain ⟨_, n1, n2⟩ := parN_dbl h (l.length * p) hh1 hh2
  unfold bloom_Build.f bldN bldH
  rw [hp, hh, show (l.length : Int) * (p : Int) = ((l.length * p : Nat) : Int) by rw [Int.natCast_mul], show (64 : Int) = ((64 : Nat) : Int) from rfl, dblN_nat]
  generalize dbl 10 64 (l.length * p) = n at n1 n2 ⊢
  refine Ev.neg ha ?_
  refine Ev.pos (by omega) ?_
  refine Ev.bind0 (inew (n : Int)) ?_
  refine Ev.bind0 (bvL_ev n h l hl) ?_
  have hpl : (pvs n h l).length ≤ 2200 := by
    rw [pvs_len]
    exact Nat.le_trans (Nat.mul_le_mul hh2 hlen) (by decide)
  refine Ev.pos (by omega) ?_
  have ho := iof_ev (n : Int) (pvs n h l) (by omega)
  rw [nn_nat n (by omega)] at ho
  refine Ev.bind ho ?_
  exact Ev.now _
/-! ### MayContain -/
theorem may_ev (h n : Nat) (h2 : h ≤ 11) (hn : h ≠ 0 → 0 < n) (n2 : n ≤ 1048576) (ws : List Int) (hw : wok ws) (hl : ws.length = wc n) (v : VT) (hv : vv v) :
    bloom_MayContain.f (h : Int) (n : Int) ws v.f0 v.f1 v.f2 = some ((pv n h v).all fun x => gb ws x.toNat) := by
  unfold bloom_MayContain.f
  by_cases h0 : h = 0
  · subst h0
    rw [if_pos (show ((0 : Nat) : Int) = 0 from rfl)]
    rfl
  have n0 := hn h0
  rw [if_neg (by omega), if_pos ⟨by omega, by omega, by omega⟩]
  have h1 := (vh_some 1 v hv).1
  have h3 := (vh_some 2 v hv).1
  have ev : (⟨v.f0, v.f1, v.f2⟩ : VT) = v := rfl
  rw [ev, h1, Option.bind_some, h3, Option.bind_some, Int.toNat_natCast]
  have hc : ∀ x ∈ pv n h v, bitset_Contains.f (n : Int) ws x = some (gb ws x.toNat) := by
    intro x hx
    have hx2 := pv_in n h n0 n2 v hv x hx
    rw [icon n ws hw hl n2 x, decide_eq_true hx2, Bool.true_and]
  have e : prL (n : Int) (Go.bits .or .u64 (vh 2 v) 1) h (vh 1 v) = pv n h v := rfl
  rw [e, if_pos (by rw [List.all_eq_true]; intro x hx; rw [hc x hx]; rfl)]
  congr 1
  rw [Bool.eq_iff_iff, List.all_eq_true, List.all_eq_true]
  constructor
  · intro hA x hx
    have := hA x hx
    rw [hc x hx] at this
    simpa using this
  · intro hA x hx
    rw [hc x hx, hA x hx]
    rfl
/-! ### valid values -/
theorem vval (v : VT) : ∃ b, laminaref04_Valid.f v.f0 v.f1 v.f2 = some b ∧ (b = true → vv v) := by
  unfold laminaref04_Valid.f vv
  by_cases z0 : v.f0 = 0
  · rw [if_pos z0]
    split
    · exact ⟨_, rfl, fun _ => .inl (.inl z0)⟩
    · exact ⟨_, rfl, fun h => by cases h⟩
  rw [if_neg z0]
  by_cases z1 : v.f0 = 1
  · rw [if_pos z1]
    split
    · exact ⟨_, rfl, fun _ => .inl (.inr (.inl z1))⟩
    · split
      · exact ⟨_, rfl, fun _ => .inl (.inr (.inl z1))⟩
      · exact ⟨_, rfl, fun h => by cases h⟩
  rw [if_neg z1]
  by_cases z2 : v.f0 = 2
  · rw [if_pos z2]
    exact ⟨_, rfl, fun _ => .inl (.inr (.inr z2))⟩
  rw [if_neg z2]
  by_cases z3 : v.f0 = 3
  · rw [if_pos z3]
    split
    · refine ⟨_, rfl, fun h => .inr ⟨z3, ?_⟩⟩
      have := of_decide_eq_true h
      omega
    · exact ⟨_, rfl, fun h => by cases h⟩
  · rw [if_neg z3]
    exact ⟨_, rfl, fun h => by cases h⟩
theorem rdT_drop {l r : List VT} {i : Nat} {x : VT} (h : l.drop i = x :: r) : rd_T24 l (i : Int) = x := by
  unfold rd_T24
  rw [Int.toNat_natCast, List.getD_eq_getElem?_getD]
  have h2 := congrArg (fun y => y[0]?) h
  simp only [List.getElem?_drop, Nat.add_zero, List.getElem?_cons_zero] at h2
  rw [h2]
  rfl
theorem val_l0 (l : List VT) (hl : l.length ≤ 9223372036854775807) : ∀ (r : List VT) (i : Nat), l.drop i = r → ∃ b, Ev (fun k => laminalaw15_valid.l0 k l (i : Int)) b ∧ (b = true → l.length ≤ 200 ∧ ∀ v ∈ r, vv v) := by
  intro r
  induction r with
  | nil =>
    intro i h
    have := drop_ge h
    refine ⟨decide ((l.length : Int) ≤ 200), ?_, fun hb => ⟨by have := of_decide_eq_true hb; omega, by intro v hv; cases hv⟩⟩
    refine Ev.succ ?_
    simp only [laminalaw15_valid.l0]
    refine Ev.neg (by omega) ?_
    exact Ev.now _
  | cons x r ih =>
    intro i h
    have hlt := drop_lt h
    obtain ⟨b, e, hb⟩ := vval x
    cases b with
    | false =>
      refine ⟨false, ?_, fun h => by cases h⟩
      refine Ev.succ ?_
      simp only [laminalaw15_valid.l0, rdT_drop h]
      refine Ev.pos (by omega) ?_
      refine Ev.pos (by omega) ?_
      refine Ev.bind0 e ?_
      refine Ev.neg (by decide) ?_
      exact Ev.now _
    | true =>
      obtain ⟨b2, e2, hb2⟩ := ih (i + 1) (drop_next h)
      refine ⟨b2, ?_, fun h2 => ⟨(hb2 h2).1, ?_⟩⟩
      · refine Ev.succ ?_
        simp only [laminalaw15_valid.l0, rdT_drop h, w64_add1 i (by omega)]
        refine Ev.pos (by omega) ?_
        refine Ev.pos (by omega) ?_
        refine Ev.bind0 e ?_
        refine Ev.pos rfl ?_
        exact e2
      · intro v hv
        rcases List.mem_cons.1 hv with rfl | hv
        · exact hb rfl
        · exact (hb2 h2).2 v hv
theorem val_ev (l : List VT) (hl : l.length ≤ 9223372036854775807) : ∃ b, Ev (fun k => laminalaw15_valid.f k l) b ∧ (b = true → l.length ≤ 200 ∧ ∀ v ∈ l, vv v) := val_l0 l hl l 0 (by simp)

/-! ### the reference's Build and MayContain -/
theorem rmix_same (x : Int) : laminaref02_Mix.f x = checksum_Mix.f x := rfl
theorem rvh_ev (s : Int) (v : VT) (hv : vv v) : Ev (fun k => laminaref04_Hash.f k s [v]) (vh s v) := by
  obtain ⟨e, _⟩ := vh_some s v hv
  unfold value_Hash.f at e
  unfold laminaref04_Hash.f
  replace e := Option.bind_eq_some_iff.mp e
  obtain ⟨m, em, e⟩ := e
  rw [rmix_same, em]
  simp only [vhL] at e
  replace e := Option.bind_eq_some_iff.mp e
  obtain ⟨q, eq, e⟩ := e
  obtain rfl := Option.some.inj e
  refine Ev.bind0 rfl ?_
  simp only [rhL]
  refine Ev.bind (a := vh s v) ?_ (Ev.now _)
  generalize vh s v = r at eq ⊢
  unfold vhI at eq
  unfold rhI
  simp only [rmix_same]
  by_cases z0 : v.f0 = 0
  · rw [if_pos z0] at eq
    refine Ev.pos z0 ?_
    exact Ev.got eq
  rw [if_neg z0] at eq
  refine Ev.neg z0 ?_
  by_cases z1 : v.f0 = 1
  · rw [if_pos z1] at eq
    refine Ev.pos z1 ?_
    exact Ev.got eq
  rw [if_neg z1] at eq
  refine Ev.neg z1 ?_
  by_cases z2 : v.f0 = 2
  · rw [if_pos z2] at eq
    refine Ev.pos z2 ?_
    exact Ev.got eq
  rw [if_neg z2] at eq
  refine Ev.neg z2 ?_
  unfold vv at hv
  have z3 : v.f0 = 3 := by omega
  have hs : v.f2.size ≤ 1000000000 := by omega
  have hs2 : v.f2.size ≤ 4096 := by omega
  rw [if_pos z3, if_pos hs] at eq
  refine Ev.pos z3 ?_
  refine Ev.pos hs ?_
  replace eq := Option.bind_eq_some_iff.mp eq
  obtain ⟨t, et, eq⟩ := eq
  refine Ev.bind0 et ?_
  have hb := bytes_rng v.f2
  have hl : (bytesOf v.f2).length < 100000000 := by rw [bytesOf_length]; omega
  have h2 := rhash_ev t (bytesOf v.f2) hb hl
  rw [ihash t (bytesOf v.f2) hb hl] at eq
  rw [Option.some.inj eq] at h2
  exact h2
theorem rsize_l0 (a p : Nat) (ha : a ≤ 200) (hp : p ≤ 16) (hm : a * p ≤ 60000) : ∀ (k n : Nat), 60000 ≤ n * 2 ^ k → n ≤ 120000 → Ev (fun f => laminaref15_size.l0 f (a : Int) (p : Int) (n : Int)) ((dbl k n (a * p) : Nat) : Int) := by
  have ew : wrap64 ((a : Int) * (p : Int)) = ((a * p : Nat) : Int) := by
    rw [← Int.natCast_mul, w64 _ (by omega) (by omega)]
  intro k
  induction k with
  | zero =>
    intro n h1 h2
    refine Ev.succ ?_
    simp only [laminaref15_size.l0, ew]
    refine Ev.neg (by simp at h1; omega) ?_
    exact Ev.now _
  | succ k ih =>
    intro n h1 h2
    refine Ev.succ ?_
    simp only [laminaref15_size.l0, ew]
    unfold dbl
    by_cases c : n < a * p
    · rw [if_pos c]
      refine Ev.pos (by omega) ?_
      rw [w64 _ (by omega) (by omega), show 2 * (n : Int) = ((n * 2 : Nat) : Int) by omega]
      exact ih (n * 2) (by rw [Nat.mul_assoc, ← Nat.pow_succ']; exact h1) (by omega)
    · rw [if_neg c]
      refine Ev.neg (by omega) ?_
      exact Ev.now _
theorem rpr_l0 (h0 g : Int) (H n : Nat) (ws : List Int) (hH : H ≤ 11) (hn : 0 < n) (hn2 : n ≤ 1048576) : ∀ (d k : Nat) (acc : List Int), k + d = H → acc.length ≤ k →
    Ev (fun f => laminaref15_Probes.l0 f h0 g acc (k : Int) (H : Int) (n : Int) ws) (acc ++ prL (n : Int) g d (IntKind.u64.wrap (h0 + (k : Int) * g))) := by
  intro d
  induction d with
  | zero =>
    intro k acc h1 h2
    refine Ev.succ ?_
    simp only [laminaref15_Probes.l0]
    refine Ev.neg (by omega) ?_
    exact Ev.eq (Ev.now _) (by simp [prL])
  | succ d ih =>
    intro k acc h1 h2
    refine Ev.succ ?_
    have e1 : IntKind.u64.wrap (n : Int) = (n : Int) := wraps_u64 _ (by omega) (by omega)
    have e2 : IntKind.u64.wrap (k : Int) = (k : Int) := wraps_u64 _ (by omega) (by omega)
    have e3 : IntKind.u64.wrap (h0 + IntKind.u64.wrap ((k : Int) * g)) = IntKind.u64.wrap (h0 + (k : Int) * g) := by
      rw [wrap_u64, wrap_u64, wrap_u64]; generalize (k : Int) * g = y; omega
    have e4 : IntKind.u64.wrap (IntKind.u64.wrap (h0 + (k : Int) * g) + g) = IntKind.u64.wrap (h0 + ((k + 1 : Nat) : Int) * g) := by
      have ek : ((k + 1 : Nat) : Int) * g = (k : Int) * g + g := by rw [Int.natCast_add, Int.add_mul]; simp
      rw [ek, ← Int.add_assoc, wrap_u64, wrap_u64, wrap_u64, Int.emod_add_emod]
    simp only [laminaref15_Probes.l0, e1, e2, e3, w64_add1 k (by omega)]
    refine Ev.pos (by omega) ?_
    refine Ev.neg (by omega) ?_
    refine Ev.pos (by omega) ?_
    refine Ev.eq (ih (k + 1) _ (by omega) (by rw [List.length_append, List.length_singleton]; omega)) ?_
    rw [← e4]
    have hu : 0 ≤ IntKind.u64.wrap (h0 + (k : Int) * g) := by rw [wrap_u64]; omega
    generalize IntKind.u64.wrap (h0 + (k : Int) * g) = y at hu ⊢
    simp only [prL, e1]
    rw [Int.tmod_eq_emod_of_nonneg hu]
    have a := Int.emod_nonneg y (show (n : Int) ≠ 0 by omega)
    have b := Int.emod_lt_of_pos y (show 0 < (n : Int) by omega)
    rw [IntWalk.i64_in _ (by omega), w64 _ (by omega) (by omega)]
    simp
theorem rpr_ev (H n : Nat) (hH : H ≤ 11) (hn : 0 < n) (hn2 : n ≤ 1048576) (ws : List Int) (v : VT) (hv : vv v) : Ev (fun k => laminaref15_Probes.f k (H : Int) (n : Int) ws v.f0 v.f1 v.f2) (pv n H v) := by
  unfold laminaref15_Probes.f
  have ev : (⟨v.f0, v.f1, v.f2⟩ : VT) = v := rfl
  rw [ev]
  refine Ev.bind (rvh_ev 1 v hv) ?_
  refine Ev.bind (rvh_ev 2 v hv) ?_
  have hu := (vh_some 1 v hv).2
  have r := rpr_l0 (vh 1 v) (Go.bits .or .u64 (vh 2 v) 1) H n ws hH hn hn2 H 0 [] (by omega) (by simp)
  refine Ev.eq r ?_
  unfold pv
  rw [show vh 1 v + ((0 : Nat) : Int) * Go.bits .or .u64 (vh 2 v) 1 = vh 1 v by simp, wraps_u64 _ hu.1 hu.2]
  rfl
theorem ofL_append (n : Nat) : ∀ (a b ws : List Int), ofL n ws (a ++ b) = ofL n (ofL n ws a) b
  | [], _, _ => rfl
  | x :: a, b, ws => by simp only [List.cons_append, ofL]; exact ofL_append n a b _
theorem rb_l1 (l : List VT) (i : Nat) (hi : i < 9223372036854775807) (H : Int) (n : Nat) (hn : n ≤ 1048576) (pl : List Int) (hpl : pl.length ≤ 1000000) (R : Int × Int × List Int) : ∀ (r : List Int) (j : Nat) (ws : List Int), pl.drop j = r → (∀ x ∈ r, 0 ≤ x ∧ x < (n : Int)) → ws.length = wc n → wok ws →
    Ev (fun k => laminaref15_Build.l0 k l ((i + 1 : Nat) : Int) H (n : Int) (ofL n ws r)) R → Ev (fun k => laminaref15_Build.l1 k l (i : Int) pl (j : Int) H (n : Int) ws) R := by
  intro r
  induction r with
  | nil =>
    intro j ws hd _ _ _ hR
    have := drop_ge hd
    refine Ev.succ ?_
    simp only [laminaref15_Build.l1, w64_add1 i hi]
    refine Ev.neg (by omega) ?_
    exact hR
  | cons x r ih =>
    intro j ws hd hr h2 h3 hR
    have hlt := drop_lt hd
    obtain ⟨c1, c2⟩ := hr x List.mem_cons_self
    obtain ⟨e1, e2⟩ := of_word c1 c2 hn
    have hq : x.toNat / 64 < ws.length := by rw [h2]; unfold wc; omega
    refine Ev.succ ?_
    have ex : rd pl (j : Int) = x := by rw [rd_nat]; exact drop_head hd
    have e3 : IntKind.u64.wrap ((x.toNat % 64 : Nat) : Int) = ((x.toNat % 64 : Nat) : Int) := wraps_u64 _ (by omega) (by omega)
    simp only [laminaref15_Build.l1, w64_add1 j (by omega), ex, e1, e2, e3]
    refine Ev.pos (by omega) ?_
    refine Ev.pos (by omega) ?_
    refine Ev.pos (by omega) ?_
    refine Ev.pos (by omega) ?_
    refine Ev.pos (by omega) ?_
    rw [rd_nat, or_shl ws h3 x.toNat, Int.toNat_natCast]
    simp only [ofL] at hR
    rw [if_pos ⟨c1, c2⟩] at hR
    exact ih (j + 1) (sb ws x.toNat) (drop_next hd) (fun y hy => hr y (List.mem_cons_of_mem _ hy)) (by rw [sb_length]; exact h2) (sb_wok h3 _) hR
theorem rb_l0 (l : List VT) (hlen : l.length ≤ 200) (H n : Nat) (hH : H ≤ 11) (hn0 : 0 < n) (hn : n ≤ 1048576) : ∀ (r : List VT) (i : Nat) (ws : List Int), l.drop i = r → (∀ v ∈ r, vv v) → ws.length = wc n → wok ws →
    Ev (fun k => laminaref15_Build.l0 k l (i : Int) (H : Int) (n : Int) ws) ((H : Int), (n : Int), ofL n ws (pvs n H r)) := by
  intro r
  induction r with
  | nil =>
    intro i ws hd _ _ _
    have := drop_ge hd
    refine Ev.succ ?_
    simp only [laminaref15_Build.l0]
    refine Ev.neg (by omega) ?_
    exact Ev.now _
  | cons x r ih =>
    intro i ws hd hr h2 h3
    have hlt := drop_lt hd
    have hx := hr x List.mem_cons_self
    refine Ev.succ ?_
    simp only [laminaref15_Build.l0, rdT_drop hd]
    refine Ev.pos (by omega) ?_
    refine Ev.pos (by omega) ?_
    refine Ev.bind (rpr_ev H n hH hn0 hn ws x hx) ?_
    refine rb_l1 l i (by omega) (H : Int) n hn (pv n H x) (by rw [pv_len]; omega) _ (pv n H x) 0 ws (by simp) (pv_in n H hn0 hn x hx) h2 h3 ?_
    simp only [pvs]
    rw [ofL_append]
    exact ih (i + 1) _ (drop_next hd) (fun v hv => hr v (List.mem_cons_of_mem _ hv)) (by rw [ofL_len]; exact h2) (ofL_wok n _ _ h3)
theorem rbld_ev (l : List VT) (hl : ∀ v ∈ l, vv v) (hlen : l.length ≤ 200) (a : Int) (p h : Nat) (ha : ¬ a < 1) (hp : mn a 16 = (p : Int)) (hp1 : 1 ≤ p) (hp2 : p ≤ 16) (hh : mx 1 (wrap64 (Int.tdiv (wrap64 ((p : Int) * 7)) 10)) = (h : Int)) (hh1 : 1 ≤ h) (hh2 : h ≤ 11) :
    Ev (fun k => laminaref15_Build.f k l a) ((h : Int), ((dbl 10 64 (l.length * p) : Nat) : Int), bldW (dbl 10 64 (l.length * p)) h l) := by
  obtain ⟨_, n1, n2⟩ := parN_dbl h (l.length * p) hh1 hh2
  have hm : l.length * p ≤ 60000 := Nat.le_trans (Nat.mul_le_mul hlen hp2) (by decide)
  unfold laminaref15_Build.f laminaref15_size.f
  rw [hp, hh]
  refine Ev.neg ha ?_
  refine Ev.bind (rsize_l0 l.length p hlen hp2 hm 10 64 (by decide) (by decide)) ?_
  generalize dbl 10 64 (l.length * p) = n at n1 n2 ⊢
  have hnew := rnew (n : Int)
  rw [nn_nat n (by omega)] at hnew
  refine Ev.bind0 hnew ?_
  exact rb_l0 l hlen h n hh2 (by omega) (by omega) l 0 _ (by simp) hl (by rw [List.length_replicate]) (wok_zeros _)
theorem rmay_l0 (H : Int) (n : Nat) (hn : n ≤ 1048576) (ws : List Int) (hw : wok ws) (hl : ws.length = wc n) (pl : List Int) (hpl : pl.length ≤ 1000000) : ∀ (r : List Int) (i : Nat), pl.drop i = r → (∀ x ∈ r, 0 ≤ x ∧ x < (n : Int)) → Ev (fun k => laminaref15_MayContain.l0 k pl (i : Int) H (n : Int) ws) (r.all fun x => gb ws x.toNat) := by
  intro r
  induction r with
  | nil =>
    intro i hd _
    have := drop_ge hd
    refine Ev.succ ?_
    simp only [laminaref15_MayContain.l0]
    refine Ev.neg (by omega) ?_
    exact Ev.now _
  | cons x r ih =>
    intro i hd hr
    have hlt := drop_lt hd
    obtain ⟨c1, c2⟩ := hr x List.mem_cons_self
    obtain ⟨y, rfl⟩ := Int.eq_ofNat_of_zero_le c1
    have ex : rd pl (i : Int) = (y : Int) := by rw [rd_nat]; exact drop_head hd
    refine Ev.succ ?_
    simp only [laminaref15_MayContain.l0, ex, w64_add1 i (by omega)]
    refine Ev.pos (by omega) ?_
    refine Ev.pos (by omega) ?_
    refine Ev.bind0 (r03con n y ws hl hw (by omega)) ?_
    rw [decide_eq_true (show y < n by omega), Bool.true_and, List.all_cons, Int.toNat_natCast]
    cases gb ws y with
    | false =>
      refine Ev.neg (by decide) ?_
      exact Ev.now _
    | true =>
      refine Ev.pos rfl ?_
      rw [Bool.true_and]
      exact ih (i + 1) (drop_next hd) (fun z hz => hr z (List.mem_cons_of_mem _ hz))
theorem rmay_ev (h n : Nat) (h2 : h ≤ 11) (hn : h ≠ 0 → 0 < n) (n2 : n ≤ 1048576) (ws : List Int) (hw : wok ws) (hl : ws.length = wc n) (v : VT) (hv : vv v) :
    Ev (fun k => laminaref15_MayContain.f k (h : Int) (n : Int) ws v.f0 v.f1 v.f2) ((pv n h v).all fun x => gb ws x.toNat) := by
  unfold laminaref15_MayContain.f
  by_cases h0 : h = 0
  · subst h0
    refine Ev.pos rfl ?_
    exact Ev.now _
  have n0 := hn h0
  refine Ev.neg (by omega) ?_
  refine Ev.bind (rpr_ev h n h2 n0 n2 ws v hv) ?_
  exact rmay_l0 (h : Int) n n2 ws hw hl (pv n h v) (by rw [pv_len]; omega) (pv n h v) 0 (by simp) (pv_in n h n0 n2 v hv)

theorem blives_ev : laminalaw15_lives.f = some true := rfl
/-- The law behind a built filter. -/
theorem bb_fin (l : List VT) (a : Int) (v : VT) (hv : vv v) (h n : Nat) (ws : List Int) (p1 : h ≤ 11) (hn : h ≠ 0 → 0 < n) (n2 : n ≤ 1000000) (hw : wok ws) (hl : ws.length = wc n) (e1 : Ev (fun k => bloom_Build.f k l a) ((h : Int), (n : Int), ws)) (e2 : Ev (fun k => laminaref15_Build.f k l a) ((h : Int), (n : Int), ws)) :
    Ev (fun k => laminalaw15_BloomBuild.j0 k l a false v.f0 v.f1 v.f2) true := by
  have hwc : wc n ≤ 1000000 := by unfold wc; omega
  refine Ev.succ ?_
  simp only [laminalaw15_BloomBuild.j0]
  refine Ev.neg (by decide) ?_
  refine Ev.bind e1 ?_
  refine Ev.bind e2 ?_
  refine Ev.bind (beq_ev _ _ _ (by dsimp only; omega)) ?_
  refine Ev.pos rfl ?_
  refine Ev.bind0 (may_ev h n p1 hn (by omega) ws hw hl v hv) ?_
  refine Ev.bind (rmay_ev h n p1 hn (by omega) ws hw hl v hv) ?_
  refine Ev.pos (by simp) ?_
  exact Ev.bind0 blives_ev (Ev.now _)
theorem BloomBuild : laminalaw15_BloomBuild.Pure := by
  intro l a v0 v1 v2 hok hka hkv
  obtain ⟨hll, _⟩ := hok
  simp only [maxLen] at hll
  obtain ⟨v, hv⟩ : ∃ v : VT, v = ⟨v0, v1, v2⟩ := ⟨_, rfl⟩
  have q0 : v0 = v.f0 := by rw [hv]
  have q1 : v1 = v.f1 := by rw [hv]
  have q2 : v2 = v.f2 := by rw [hv]
  rw [q0, q1, q2]
  refine Ev.rounds (g := fun k => laminalaw15_BloomBuild.f k l a v.f0 v.f1 v.f2) ?_
  unfold laminalaw15_BloomBuild.f
  have bad : Ev (fun k => laminalaw15_BloomBuild.j0 k l a true v.f0 v.f1 v.f2) true := by
    refine Ev.succ ?_
    simp only [laminalaw15_BloomBuild.j0]
    refine Ev.pos (by simp) ?_
    exact Ev.bind0 blives_ev (Ev.now _)
  obtain ⟨b1, e1, g1⟩ := val_ev l hll
  refine Ev.bind e1 ?_
  cases b1 with
  | false => exact Ev.neg (by decide) bad
  | true =>
    refine Ev.pos rfl ?_
    obtain ⟨b2, e2, g2⟩ := vval v
    refine Ev.bind0 e2 ?_
    cases b2 with
    | false => exact bad
    | true =>
      obtain ⟨l1, vl⟩ := g1 rfl
      have hvv := g2 rfl
      rw [Bool.not_true]
      by_cases ha : a < 1
      · refine bb_fin l a v hvv 0 0 [] (by decide) (fun h => absurd rfl h) (by decide) (by intro x hx; cases hx) rfl ?_ ?_
        · unfold bloom_Build.f
          refine Ev.pos ha ?_
          exact Ev.now _
        · unfold laminaref15_Build.f
          refine Ev.pos ha ?_
          exact Ev.now _
      · obtain ⟨p, hp, hp1, hp2⟩ := mn16 a ha
        obtain ⟨h, hh, hh1, hh2⟩ := bldH_nat p hp1 hp2
        obtain ⟨pa, na1, na2⟩ := parN_dbl h (l.length * p) hh1 hh2
        exact bb_fin l a v hvv h _ _ hh2 (fun _ => by omega) (by omega) (bldW_wok _ _ _) (bldW_len _ _ _) (bld_ev l vl l1 a p h ha hp hp1 hp2 hh hh1 hh2) (rbld_ev l vl l1 a p h ha hp hp1 hp2 hh hh1 hh2)

end Go.Proofs.Ytjeheopcohnkeaa.Pure
