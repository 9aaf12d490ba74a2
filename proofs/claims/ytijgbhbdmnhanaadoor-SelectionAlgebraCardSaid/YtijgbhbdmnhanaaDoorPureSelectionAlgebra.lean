/- laminalaw41.SelectionAlgebra returns true for all its arguments (the bitset operations And, Or, AndNot and Not agree with Intersect, Union, Difference and Complement of the selections), the table of math/bits tied to the program's text. Conditions: none beyond the row's own (slices of at most 2^47 - 4096 bytes). -/
import Derived.Test.YtijgbhbdmnhanaaDoorStSelectionAlgebra
import Derived.Test.YtijgbhbdmnhanaaDoorM01
import Derived.Test.YtijgbhbdmnhanaaDoorM02
import Derived.Test.YtijgbhbdmnhanaaDoorM03
import Derived.Test.YtijgbhbdmnhanaaDoorM04
import Derived.Test.YtijgbhbdmnhanaaDoorM08
import Derived.Test.YtijgbhbdmnhanaaDoorM11
import Derived.Test.YtijgbhbdmnhanaaDoorM12
import Derived.Test.YtijgbhbdmnhanaaDoorM13
set_option linter.unusedVariables false
set_option linter.unusedSimpArgs false
namespace Go.Proofs.YtijgbhbdmnhanaaDoor.Pure
open Go Go.RowKit Go.Proofs.YtijgbhbdmnhanaaDoor.QSelectionAlgebra Go.Proofs.YtijgbhbdmnhanaaDoorW.PrintWords Go.Proofs.YtijgbhbdmnhanaaDoorW.PrintLast Go.Proofs.YtijgbhbdmnhanaaDoorM

/-! ### the reference's selections -/
theorem drop_lt {α : Type} {l r : List α} {i : Nat} {x : α} (h : l.drop i = x :: r) : i < l.length := by
  rcases Nat.lt_or_ge i l.length with h1 | h1
  · exact h1
  · rw [List.drop_of_length_le h1] at h; cases h
theorem drop_ge {α : Type} {l : List α} {i : Nat} (h : l.drop i = []) : l.length ≤ i := by
  rwa [List.drop_eq_nil_iff] at h
theorem drop_next {α : Type} {l r : List α} {i : Nat} {x : α} (h : l.drop i = x :: r) : l.drop (i + 1) = r := by
  rw [← List.drop_drop, h]; rfl
theorem rd_drop {l r : List Int} {i : Nat} {x : Int} (h : l.drop i = x :: r) : rd l (i : Int) = x := by
  rw [rd_nat, List.getD_eq_getElem?_getD, ← List.head?_drop, h]; rfl
def prvI (l : List Int) (i : Nat) : Option Int := if i = 0 then none else some (rd l ((i - 1 : Nat) : Int))
theorem rvalid_l0 (l : List Int) (n : Int) (hl : l.length ≤ 9223372036854775807) : ∀ (r : List Int) (i : Nat), l.drop i = r → Ev (fun k => laminaref41_Valid.l0 k l n i) (vsl n (prvI l i) r) := by
  intro r
  induction r with
  | nil =>
    intro i h
    have := drop_ge h
    refine Ev.succ ?_
    simp only [laminaref41_Valid.l0]
    refine Ev.neg (by omega) ?_
    exact Ev.now _
  | cons x r ih =>
    intro i h
    have hlt := drop_lt h
    have hn := ih (i + 1) (drop_next h)
    have hp : prvI l (i + 1) = some x := by unfold prvI; rw [if_neg (by omega), show i + 1 - 1 = i by omega, rd_drop h]
    rw [hp] at hn
    refine Ev.succ ?_
    simp only [laminaref41_Valid.l0, rd_drop h, w64_add1 i (by omega)]
    refine Ev.pos (by omega) ?_
    refine Ev.pos (by omega) ?_
    unfold vsl
    by_cases c1 : x < 0
    · refine Ev.pos c1 ?_
      exact Ev.eq (Ev.now _) (by rw [if_pos (.inl c1)])
    refine Ev.neg c1 ?_
    by_cases c2 : x ≥ n
    · refine Ev.pos c2 ?_
      exact Ev.eq (Ev.now _) (by rw [if_pos (.inr (.inl c2))])
    refine Ev.neg c2 ?_
    by_cases c3 : (i : Int) > 0
    · refine Ev.pos c3 ?_
      simp only [w64_sub1 i (by omega) (by omega)]
      refine Ev.pos (by omega) ?_
      refine Ev.pos (by omega) ?_
      have he : prvI l i = some (rd l ((i - 1 : Nat) : Int)) := by unfold prvI; rw [if_neg (by omega)]
      by_cases c4 : x ≤ rd l ((i - 1 : Nat) : Int)
      · refine Ev.pos c4 ?_
        exact Ev.eq (Ev.now _) (by rw [if_pos (.inr (.inr (by rw [he]; simpa [pge] using c4)))])
      · refine Ev.neg c4 ?_
        refine Ev.eq hn ?_
        rw [if_neg]
        rintro (h' | h' | h')
        · omega
        · omega
        · rw [he] at h'; simp [pge] at h'; omega
    · refine Ev.neg c3 ?_
      refine Ev.eq hn ?_
      rw [if_neg]
      rintro (h' | h' | h')
      · omega
      · omega
      · unfold prvI at h'; rw [if_pos (by omega)] at h'; simp [pge] at h'
theorem rvalid_ev (l : List Int) (n : Int) (hl : l.length ≤ 9223372036854775807) : Ev (fun k => laminaref41_Valid.f k l n) (vsl n none l) := by
  have := rvalid_l0 l n hl l 0 rfl
  unfold laminaref41_Valid.f
  simpa [prvI] using this
theorem ints_l0 (l : List Int) (hl : l.length < 9223372036854775808) : ∀ (r : List Int) (i : Nat), l.drop i = r → Ev (fun k => laminaref17_Ints.l0 k l l i) true := by
  intro r
  induction r with
  | nil =>
    intro i h
    have := drop_ge h
    refine Ev.succ ?_
    simp only [laminaref17_Ints.l0]
    refine Ev.neg (by omega) ?_
    exact Ev.now _
  | cons x r ih =>
    intro i h
    have hlt := drop_lt h
    refine Ev.succ ?_
    simp only [laminaref17_Ints.l0, w64_add1 i (by omega)]
    refine Ev.pos (by omega) ?_
    refine Ev.pos (by omega) ?_
    refine Ev.pos (by omega) ?_
    refine Ev.pos trivial ?_
    exact ih (i + 1) (drop_next h)
theorem ints_ev (l : List Int) (hl : l.length < 9223372036854775808) : Ev (fun k => laminaref17_Ints.f k l l) true := by
  unfold laminaref17_Ints.f
  refine Ev.pos rfl ?_
  exact ints_l0 l hl l 0 rfl

theorem small_ev (l : List Int) (n : Int) (hl : l.length < 9223372036854775808) : Ev (fun k => laminalaw41_small.f k l n) (decide (n ≤ 300) && vsl n none l) := by
  unfold laminalaw41_small.f
  by_cases h : n ≤ 300
  · refine Ev.pos h ?_
    rw [decide_eq_true h, Bool.true_and]
    exact Ev.bind (rvalid_ev l n (by omega)) (Ev.now _)
  · refine Ev.neg h ?_
    rw [decide_eq_false h]
    exact Ev.now _

/-! ### the reference's bitset functions -/
theorem tdiv64 (i : Nat) (h : i < 9223372036854775808) : wrap64 (Int.tdiv (i : Int) 64) = ((i / 64 : Nat) : Int) := by
  rw [Int.tdiv_eq_ediv_of_nonneg (by omega), w64 _ (by omega) (by omega)]; omega
theorem tmod64 (i : Nat) : Int.tmod (i : Int) 64 = ((i % 64 : Nat) : Int) := by
  rw [Int.tmod_eq_emod_of_nonneg (by omega)]; omega
theorem utmod64 (i : Nat) : IntKind.u64.wrap (Int.tmod (i : Int) 64) = ((i % 64 : Nat) : Int) := by
  rw [tmod64]; exact wraps_u64 _ (by omega) (by omega)
theorem pow_cast0 (t : Nat) : ((2 ^ t : Nat) : Int) = 2 ^ t := by simp
theorem shl1 (r : Nat) (hr : r < 64) : shl .u64 1 (r : Int) = ((2 ^ r : Nat) : Int) := by
  have h := pow_lt64 r hr
  have h3 : ∀ p : Nat, p < 2 ^ 64 → IntKind.u64.wrap (p : Int) = (p : Int) := fun p hp => wraps_u64 _ (by omega) (by omega)
  unfold shl
  rw [show min ((r : Int).toNat) IntKind.u64.bits = r by simp [IntKind.bits]; omega, Int.one_mul, ← pow_cast0]
  exact h3 _ h
theorem bit_one (y : Int) (h0 : 0 ≤ y) (h1 : y < 18446744073709551616) (r : Nat) (hr : r < 64) : (Go.bits .and .u64 (shr .u64 y (r : Int)) 1 == 1) = y.toNat.testBit r := by
  obtain ⟨m, rfl⟩ := Int.eq_ofNat_of_zero_le h0
  unfold shr
  rw [show min ((r : Int).toNat) IntKind.u64.bits = r by simp [IntKind.bits]; omega, ← pow_cast0, ← Int.natCast_ediv, Int.toNat_natCast, Nat.testBit_eq_decide_div_mod_eq]
  have hqm := Nat.div_le_self m (2 ^ r)
  generalize m / 2 ^ r = q at hqm ⊢
  rw [and_one _ (by omega) (by omega)]
  by_cases hq : q % 2 = 1
  · rw [decide_eq_true hq]; simp; omega
  · rw [decide_eq_false hq]; simp; omega
theorem or_shl (ws : List Int) (hw : wok ws) (i : Nat) : Go.bits .or .u64 (ws.getD (i / 64) 0) (shl .u64 1 (((i % 64 : Nat)) : Int)) = (((ws.getD (i / 64) 0).toNat ||| 2 ^ (i % 64) : Nat) : Int) := by
  have h := wok_get hw (i / 64)
  rw [shl1 _ (Nat.mod_lt _ (by decide))]
  obtain ⟨m, hm⟩ := Int.eq_ofNat_of_zero_le h.1
  rw [hm] at h ⊢
  rw [Int.toNat_natCast]
  exact or_nat m _ (by omega) (pow_lt64 _ (Nat.mod_lt _ (by decide)))

/-! ### Of, New -/
def nn (n : Int) : Nat := if n < 0 ∨ n > 1048576 then 0 else n.toNat
theorem nn_le (n : Int) : nn n ≤ 1048576 := by unfold nn; split <;> omega
def ofL (n : Nat) : List Int → List Int → List Int
  | ws, [] => ws
  | ws, x :: r => ofL n (if 0 ≤ x ∧ x < (n : Int) then sb ws x.toNat else ws) r
theorem ofL_len (n : Nat) : ∀ (l ws : List Int), (ofL n ws l).length = ws.length := by
  intro l
  induction l with
  | nil => intro ws; rfl
  | cons x r ih => intro ws; simp only [ofL]; rw [ih]; split <;> simp [sb_length]
theorem ofL_wok (n : Nat) : ∀ (l ws : List Int), wok ws → wok (ofL n ws l) := by
  intro l
  induction l with
  | nil => intro ws h; exact h
  | cons x r ih => intro ws h; simp only [ofL]; exact ih _ (by split <;> first | exact sb_wok h _ | exact h)
theorem wc_words (n : Nat) (hn : n ≤ 1048576) : wrap64 (Int.tdiv (wrap64 ((n : Int) + 63)) 64) = ((wc n : Nat) : Int) := by
  rw [w64 ((n : Int) + 63) (by omega) (by omega), Int.tdiv_eq_ediv_of_nonneg (by omega), w64 _ (by omega) (by omega)]
  unfold wc; omega
theorem inew (n : Int) : bitset_New.f n = some ((nn n : Int), List.replicate (wc (nn n)) 0) := by
  have hw : ∀ m : Nat, m ≤ 1048576 → wc m ≤ 16384 + 1 := fun m h => by unfold wc; omega
  have c0 : bitset_wordCount.f 0 = some 0 := by decide +kernel
  unfold bitset_New.f nn
  by_cases h1 : n < 0
  · rw [if_pos h1, if_pos (.inl h1), c0]; rfl
  · rw [if_neg h1]
    by_cases h2 : n > 1048576
    · rw [if_pos h2, if_pos (.inr h2), c0]; rfl
    · rw [if_neg h2, if_neg (by omega)]
      obtain ⟨m, rfl⟩ := Int.eq_ofNat_of_zero_le (show 0 ≤ n by omega)
      have := hw m (by omega)
      unfold bitset_wordCount.f
      rw [wc_words m (by omega)]
      simp only [Option.bind_some]
      rw [if_pos (by omega), if_pos (by omega), Int.toNat_natCast, Int.toNat_natCast]
theorem of_word {x : Int} {n : Nat} (h0 : 0 ≤ x) (h1 : x < (n : Int)) (hn : n ≤ 1048576) : wrap64 (Int.tdiv x 64) = ((x.toNat / 64 : Nat) : Int) ∧ Int.tmod x 64 = ((x.toNat % 64 : Nat) : Int) := by
  obtain ⟨m, rfl⟩ := Int.eq_ofNat_of_zero_le h0
  exact ⟨by rw [tdiv64 m (by omega), Int.toNat_natCast], by rw [tmod64 m, Int.toNat_natCast]⟩
theorem drop_cons {l : List Int} {i : Nat} (h : i < l.length) : l.drop i = l.getD i 0 :: l.drop (i + 1) := by
  rw [List.getD_eq_getElem?_getD, List.getElem?_eq_getElem h, Option.getD_some]; exact List.drop_eq_getElem_cons h
theorem iof_l0 (n : Nat) (hn : n ≤ 1048576) (l : List Int) (hl : l.length ≤ 1000000) : ∀ (d i : Nat) (ws : List Int), i + d = l.length → ws.length = wc n → wok ws → Ev (fun k => bitset_Of.l0 k l (l.length : Int) (i : Int) (n : Int) ws) ((n : Int), ofL n ws (l.drop i)) := by
  intro d
  induction d with
  | zero =>
    intro i ws h1 h2 h3
    refine Ev.succ ?_
    simp only [bitset_Of.l0]
    refine Ev.neg (by omega) ?_
    rw [List.drop_of_length_le (by omega)]
    exact Ev.now _
  | succ d ih =>
    intro i ws h1 h2 h3
    refine Ev.succ ?_
    simp only [bitset_Of.l0]
    refine Ev.pos (by omega) ?_
    refine Ev.pos (by omega) ?_
    refine Ev.pos (by omega) ?_
    rw [rd_nat, w64_add1 i (by omega), drop_cons (by omega : i < l.length)]
    simp only [ofL]
    generalize l.getD i 0 = x
    by_cases c1 : 0 ≤ x
    · refine Ev.pos c1 ?_
      by_cases c2 : x < (n : Int)
      · obtain ⟨e1, e2⟩ := of_word c1 c2 hn
        have hq : x.toNat / 64 < ws.length := by rw [h2]; unfold wc; omega
        refine Ev.pos c2 ?_
        rw [e1, e2]
        refine Ev.pos (by omega) ?_
        refine Ev.pos (by omega) ?_
        refine Ev.pos (by omega) ?_
        rw [rd_nat, or_shl ws h3 x.toNat, Int.toNat_natCast, if_pos ⟨c1, c2⟩]
        exact ih (i + 1) (sb ws x.toNat) (by omega) (by rw [sb_length]; exact h2) (sb_wok h3 _)
      · refine Ev.neg c2 ?_
        rw [if_neg (fun h => c2 h.2)]
        exact ih (i + 1) ws (by omega) h2 h3
    · refine Ev.neg c1 ?_
      rw [if_neg (fun h => c1 h.1)]
      exact ih (i + 1) ws (by omega) h2 h3
theorem iof_ev (n : Int) (l : List Int) (hl : l.length ≤ 1000000) : Ev (fun k => bitset_Of.f k n l) ((nn n : Int), ofL (nn n) (List.replicate (wc (nn n)) 0) l) := by
  unfold bitset_Of.f
  refine Ev.bind0 (inew n) ?_
  have := iof_l0 (nn n) (nn_le n) l hl l.length 0 (List.replicate (wc (nn n)) 0) (by omega) (by simp) (wok_zeros _)
  rw [List.drop_zero] at this
  exact this
/-! ### Equal -/
theorem elsI_succ (ws : List Int) (i : Nat) : elsI ws (i + 1) = if gb ws i = true then elsI ws i ++ [(i : Int)] else elsI ws i := by
  unfold elsI
  rw [els_split i 0 1, Nat.zero_add]
  by_cases h : gb ws i = true
  · rw [if_pos h]
    have : els (gb ws) i 1 = [i] := by simp [els, h]
    rw [this, List.map_append]; rfl
  · rw [if_neg h]
    have : els (gb ws) i 1 = [] := by simp [els, h]
    rw [this, List.append_nil]
theorem elsI_cut {ws : List Int} {n m : Nat} (h : n ≤ m) (hz : ∀ j, n ≤ j → gb ws j = false) : elsI ws m = elsI ws n := by
  unfold elsI
  obtain ⟨c, rfl⟩ : ∃ c, m = n + c := ⟨m - n, by omega⟩
  rw [els_split, Nat.zero_add, els_none c n (fun i h1 _ => hz i h1), List.append_nil]
theorem elsI_len (ws : List Int) (n : Nat) : (elsI ws n).length ≤ n := by unfold elsI; rw [List.length_map]; exact els_len_le n 0

theorem ifb (a : Int) (n : Nat) (ws : List Int) (hl : ws.length = wc n) (hw : wok ws) (hn : n ≤ 1000) (hz : ∀ j, n ≤ j → gb ws j = false) : selection_FromBitset.f a ws = some (elsI ws n) := by
  have h1 : elsI ws (64 * ws.length) = elsI ws n := elsI_cut (by rw [hl]; exact wc_le n) hz
  have h2 := elsI_len ws n
  have h3 : wc n ≤ 17 := by unfold wc; omega
  unfold selection_FromBitset.f
  rw [if_pos ⟨wokB_of hw, by omega, by rw [h1]; omega⟩, h1]

/-! ### words, one by one -/
theorem set_fill (l : List Int) (i : Nat) (hi : i < l.length) (n : Nat) (hn : n = l.length) : (l.take i ++ List.replicate (n - i) (0 : Int)).set i (l.getD i 0) = l.take (i + 1) ++ List.replicate (n - (i + 1)) 0 := by
  subst hn
  rw [List.set_append_right _ _ (by simp; omega), List.length_take, Nat.min_eq_left (by omega), Nat.sub_self, show l.length - i = (l.length - (i + 1)) + 1 by omega, List.replicate_succ, List.set_cons_zero,
    List.getD_eq_getElem?_getD, List.getElem?_eq_getElem hi, Option.getD_some, List.take_succ_eq_append_getElem hi, List.append_assoc, List.singleton_append]
def gl (G : Nat → Int) (m : Nat) : List Int := (List.range m).map G
theorem gl_len (G : Nat → Int) (m : Nat) : (gl G m).length = m := by simp [gl]
theorem gl_get (G : Nat → Int) (m i : Nat) (h : i < m) : (gl G m).getD i 0 = G i := by
  unfold gl; rw [List.getD_eq_getElem?_getD, List.getElem?_map, List.getElem?_range h]; rfl
theorem gl_wok {G : Nat → Int} {m : Nat} (h : ∀ i, i < m → 0 ≤ G i ∧ G i < 18446744073709551616) : wok (gl G m) := by
  intro x hx
  simp only [gl, List.mem_map, List.mem_range] at hx
  obtain ⟨i, hi, rfl⟩ := hx
  exact h i hi
theorem gb_gl {G : Nat → Int} {m : Nat} {f : Nat → Bool} (h : ∀ i r, i < m → r < 64 → (G i).toNat.testBit r = f (64 * i + r)) : ∀ j, j < 64 * m → gb (gl G m) j = f j := by
  intro j hj
  unfold gb
  rw [gl_get G m (j / 64) (by omega), h (j / 64) (j % 64) (by omega) (Nat.mod_lt _ (by decide)), show 64 * (j / 64) + j % 64 = j by omega]
theorem gb_word (ws : List Int) (i r : Nat) (hr : r < 64) : gb ws (64 * i + r) = (ws.getD i 0).toNat.testBit r := by
  unfold gb; rw [show (64 * i + r) / 64 = i by omega, show (64 * i + r) % 64 = r by omega]
theorem comb1 (a : Int) (ws : List Int) (i : Nat) : bitset_combine_1.f a ws (i : Int) = some (ws.getD i 0) := by
  unfold bitset_combine_1.f
  by_cases h : (i : Int) < (ws.length : Int)
  · rw [if_pos h, if_pos (by omega), rd_nat]
  · rw [if_neg h, List.getD_eq_getElem?_getD, List.getElem?_eq_none (by omega)]; rfl
theorem mx_self (n : Nat) : mx (n : Int) (n : Int) = (n : Int) := by unfold mx; split <;> rfl
theorem nn_nat (n : Nat) (h : n ≤ 1048576) : nn (n : Int) = n := by unfold nn; rw [if_neg (by omega)]; rfl
/-- The elements of a set that a sorted list gives. -/
theorem els_sorted (f : Nat → Bool) : ∀ (n lo : Nat) (s : List Int), s.Pairwise (· < ·) → (∀ x ∈ s, (lo : Int) ≤ x ∧ x < ((lo + n : Nat) : Int)) → (∀ j, lo ≤ j → j < lo + n → f j = s.contains (j : Int)) → (els f lo n).map (fun i : Nat => (i : Int)) = s := by
  intro n
  induction n with
  | zero =>
    intro lo s _ hr _
    cases s with
    | nil => rfl
    | cons x r => have := hr x List.mem_cons_self; omega
  | succ n ih =>
    intro lo s hs hr hf
    have h0 := hf lo (Nat.le_refl _) (by omega)
    simp only [els]
    cases s with
    | nil =>
      rw [show f lo = false by rw [h0]; rfl]
      exact ih (lo + 1) [] List.Pairwise.nil (fun x hx => by cases hx) (fun j h1 h2 => hf j (by omega) (by omega))
    | cons x r =>
      obtain ⟨hx, hs2⟩ := List.pairwise_cons.1 hs
      have hb := hr x List.mem_cons_self
      by_cases hxl : x = (lo : Int)
      · rw [show f lo = true by rw [h0, hxl]; simp]
        simp only [if_true, List.map_cons]
        rw [hxl]
        congr 1
        refine ih (lo + 1) r hs2 (fun y hy => ?_) (fun j h1 h2 => ?_)
        · have h1 := hx y hy
          have h2 := hr y (List.mem_cons_of_mem _ hy)
          omega
        · rw [hf j (by omega) (by omega), List.contains_cons, show ((j : Int) == x) = false by simp; omega, Bool.false_or]
      · have hnot : f lo = false := by
          rw [h0, Bool.eq_false_iff]
          intro hc
          rw [List.contains_iff_mem] at hc
          rcases List.mem_cons.1 hc with e | e
          · exact hxl e.symm
          · have := hx _ e; omega
        rw [hnot]
        refine ih (lo + 1) (x :: r) hs (fun y hy => ?_) (fun j h1 h2 => hf j (by omega) (by omega))
        have h2 := hr y hy
        rcases List.mem_cons.1 hy with e | e
        · omega
        · have := hx y e; omega
theorem elsI_sorted {ws : List Int} {n : Nat} {s : List Int} (hs : s.Pairwise (· < ·)) (hr : ∀ x ∈ s, 0 ≤ x ∧ x < (n : Int)) (hf : ∀ j, j < n → gb ws j = s.contains (j : Int)) : elsI ws n = s := by
  unfold elsI
  exact els_sorted (gb ws) n 0 s hs (fun x hx => by have := hr x hx; omega) (fun j _ h => hf j (by omega))
theorem ofL_gb (n : Nat) : ∀ (l ws : List Int), ws.length = wc n → (∀ x ∈ l, 0 ≤ x ∧ x < (n : Int)) → ∀ j, gb (ofL n ws l) j = (gb ws j || l.contains (j : Int)) := by
  intro l
  induction l with
  | nil => intro ws _ _ j; simp [ofL]
  | cons x r ih =>
    intro ws h1 h2 j
    have hx := h2 x List.mem_cons_self
    simp only [ofL]
    rw [if_pos hx, ih (sb ws x.toNat) (by rw [sb_length]; exact h1) (fun y hy => h2 y (List.mem_cons_of_mem _ hy)), gb_sb (by rw [h1]; unfold wc; omega), List.contains_cons]
    have e : decide (j = x.toNat) = ((j : Int) == x) := by
      by_cases c : j = x.toNat
      · rw [decide_eq_true c]; simp; omega
      · rw [decide_eq_false c]; simp; omega
    rw [e, Bool.or_assoc]

theorem comb_l0_61 (a b : Int) (wa wb : List Int) (m : Nat) (hm : m ≤ 1000000) (N0 : Int) (G : Nat → Int) (hG : ∀ i, i < m → bitset_And_1.f (wa.getD i 0) (wb.getD i 0) = some (G i)) : ∀ (d i : Nat), i + d = m →
    Ev (fun k => bitset_combine_61.l0 k (m : Int) (i : Int) a wa b wb N0 ((gl G m).take i ++ List.replicate (m - i) 0)) (N0, gl G m) := by
  have hl := gl_len G m
  intro d
  induction d with
  | zero =>
    intro i h
    refine Ev.succ ?_
    simp only [bitset_combine_61.l0]
    refine Ev.neg (by omega) ?_
    refine Ev.eq (Ev.now _) ?_
    rw [show m - i = 0 by omega, List.replicate_zero, List.append_nil, List.take_of_length_le (by omega)]
  | succ d ih =>
    intro i h
    refine Ev.succ ?_
    simp only [bitset_combine_61.l0]
    refine Ev.pos (by omega) ?_
    refine Ev.bind0 (comb1 a wa i) ?_
    refine Ev.bind0 (comb1 b wb i) ?_
    refine Ev.bind0 (hG i (by omega)) ?_
    refine Ev.pos (by omega) ?_
    refine Ev.pos (by simp; omega) ?_
    rw [Int.toNat_natCast, ← gl_get G m i (by omega), set_fill (gl G m) i (by omega) m (by omega), w64_add1 i (by omega)]
    exact ih (i + 1) (by omega)
theorem comb_61 (n : Nat) (hn : n ≤ 1048576) (wa wb : List Int) (G : Nat → Int) (hG : ∀ i, i < wc n → bitset_And_1.f (wa.getD i 0) (wb.getD i 0) = some (G i)) : Ev (fun k => bitset_combine_61.f k (n : Int) wa (n : Int) wb) ((n : Int), gl G (wc n)) := by
  unfold bitset_combine_61.f
  rw [mx_self]
  refine Ev.bind0 (inew (n : Int)) ?_
  rw [nn_nat n hn]
  simp only [List.length_replicate]
  have := comb_l0_61 (n : Int) (n : Int) wa wb (wc n) (by unfold wc; omega) (n : Int) G hG (wc n) 0 (by omega)
  rw [List.take_zero, List.nil_append, Nat.sub_zero] at this
  exact this

theorem comb_l0_64 (a b : Int) (wa wb : List Int) (m : Nat) (hm : m ≤ 1000000) (N0 : Int) (G : Nat → Int) (hG : ∀ i, i < m → bitset_Or_1.f (wa.getD i 0) (wb.getD i 0) = some (G i)) : ∀ (d i : Nat), i + d = m →
    Ev (fun k => bitset_combine_64.l0 k (m : Int) (i : Int) a wa b wb N0 ((gl G m).take i ++ List.replicate (m - i) 0)) (N0, gl G m) := by
  have hl := gl_len G m
  intro d
  induction d with
  | zero =>
    intro i h
    refine Ev.succ ?_
    simp only [bitset_combine_64.l0]
    refine Ev.neg (by omega) ?_
    refine Ev.eq (Ev.now _) ?_
    rw [show m - i = 0 by omega, List.replicate_zero, List.append_nil, List.take_of_length_le (by omega)]
  | succ d ih =>
    intro i h
    refine Ev.succ ?_
    simp only [bitset_combine_64.l0]
    refine Ev.pos (by omega) ?_
    refine Ev.bind0 (comb1 a wa i) ?_
    refine Ev.bind0 (comb1 b wb i) ?_
    refine Ev.bind0 (hG i (by omega)) ?_
    refine Ev.pos (by omega) ?_
    refine Ev.pos (by simp; omega) ?_
    rw [Int.toNat_natCast, ← gl_get G m i (by omega), set_fill (gl G m) i (by omega) m (by omega), w64_add1 i (by omega)]
    exact ih (i + 1) (by omega)
theorem comb_64 (n : Nat) (hn : n ≤ 1048576) (wa wb : List Int) (G : Nat → Int) (hG : ∀ i, i < wc n → bitset_Or_1.f (wa.getD i 0) (wb.getD i 0) = some (G i)) : Ev (fun k => bitset_combine_64.f k (n : Int) wa (n : Int) wb) ((n : Int), gl G (wc n)) := by
  unfold bitset_combine_64.f
  rw [mx_self]
  refine Ev.bind0 (inew (n : Int)) ?_
  rw [nn_nat n hn]
  simp only [List.length_replicate]
  have := comb_l0_64 (n : Int) (n : Int) wa wb (wc n) (by unfold wc; omega) (n : Int) G hG (wc n) 0 (by omega)
  rw [List.take_zero, List.nil_append, Nat.sub_zero] at this
  exact this

theorem comb_l0_66 (a b : Int) (wa wb : List Int) (m : Nat) (hm : m ≤ 1000000) (N0 : Int) (G : Nat → Int) (hG : ∀ i, i < m → bitset_AndNot_1.f (wa.getD i 0) (wb.getD i 0) = some (G i)) : ∀ (d i : Nat), i + d = m →
    Ev (fun k => bitset_combine_66.l0 k (m : Int) (i : Int) a wa b wb N0 ((gl G m).take i ++ List.replicate (m - i) 0)) (N0, gl G m) := by
  have hl := gl_len G m
  intro d
  induction d with
  | zero =>
    intro i h
    refine Ev.succ ?_
    simp only [bitset_combine_66.l0]
    refine Ev.neg (by omega) ?_
    refine Ev.eq (Ev.now _) ?_
    rw [show m - i = 0 by omega, List.replicate_zero, List.append_nil, List.take_of_length_le (by omega)]
  | succ d ih =>
    intro i h
    refine Ev.succ ?_
    simp only [bitset_combine_66.l0]
    refine Ev.pos (by omega) ?_
    refine Ev.bind0 (comb1 a wa i) ?_
    refine Ev.bind0 (comb1 b wb i) ?_
    refine Ev.bind0 (hG i (by omega)) ?_
    refine Ev.pos (by omega) ?_
    refine Ev.pos (by simp; omega) ?_
    rw [Int.toNat_natCast, ← gl_get G m i (by omega), set_fill (gl G m) i (by omega) m (by omega), w64_add1 i (by omega)]
    exact ih (i + 1) (by omega)
theorem comb_66 (n : Nat) (hn : n ≤ 1048576) (wa wb : List Int) (G : Nat → Int) (hG : ∀ i, i < wc n → bitset_AndNot_1.f (wa.getD i 0) (wb.getD i 0) = some (G i)) : Ev (fun k => bitset_combine_66.f k (n : Int) wa (n : Int) wb) ((n : Int), gl G (wc n)) := by
  unfold bitset_combine_66.f
  rw [mx_self]
  refine Ev.bind0 (inew (n : Int)) ?_
  rw [nn_nat n hn]
  simp only [List.length_replicate]
  have := comb_l0_66 (n : Int) (n : Int) wa wb (wc n) (by unfold wc; omega) (n : Int) G hG (wc n) 0 (by omega)
  rw [List.take_zero, List.nil_append, Nat.sub_zero] at this
  exact this

theorem comb_l0_68 (a b : Int) (wa wb : List Int) (m : Nat) (hm : m ≤ 1000000) (N0 : Int) (G : Nat → Int) (hG : ∀ i, i < m → bitset_Not_1.f (wa.getD i 0) (wb.getD i 0) = some (G i)) : ∀ (d i : Nat), i + d = m →
    Ev (fun k => bitset_combine_68.l0 k (m : Int) (i : Int) a wa b wb N0 ((gl G m).take i ++ List.replicate (m - i) 0)) (N0, gl G m) := by
  have hl := gl_len G m
  intro d
  induction d with
  | zero =>
    intro i h
    refine Ev.succ ?_
    simp only [bitset_combine_68.l0]
    refine Ev.neg (by omega) ?_
    refine Ev.eq (Ev.now _) ?_
    rw [show m - i = 0 by omega, List.replicate_zero, List.append_nil, List.take_of_length_le (by omega)]
  | succ d ih =>
    intro i h
    refine Ev.succ ?_
    simp only [bitset_combine_68.l0]
    refine Ev.pos (by omega) ?_
    refine Ev.bind0 (comb1 a wa i) ?_
    refine Ev.bind0 (comb1 b wb i) ?_
    refine Ev.bind0 (hG i (by omega)) ?_
    refine Ev.pos (by omega) ?_
    refine Ev.pos (by simp; omega) ?_
    rw [Int.toNat_natCast, ← gl_get G m i (by omega), set_fill (gl G m) i (by omega) m (by omega), w64_add1 i (by omega)]
    exact ih (i + 1) (by omega)
theorem comb_68 (n : Nat) (hn : n ≤ 1048576) (wa wb : List Int) (G : Nat → Int) (hG : ∀ i, i < wc n → bitset_Not_1.f (wa.getD i 0) (wb.getD i 0) = some (G i)) : Ev (fun k => bitset_combine_68.f k (n : Int) wa (n : Int) wb) ((n : Int), gl G (wc n)) := by
  unfold bitset_combine_68.f
  rw [mx_self]
  refine Ev.bind0 (inew (n : Int)) ?_
  rw [nn_nat n hn]
  simp only [List.length_replicate]
  have := comb_l0_68 (n : Int) (n : Int) wa wb (wc n) (by unfold wc; omega) (n : Int) G hG (wc n) 0 (by omega)
  rw [List.take_zero, List.nil_append, Nat.sub_zero] at this
  exact this

/-! ### And, Or, AndNot, Not -/
theorem nat_of {x : Int} (h : 0 ≤ x ∧ x < 18446744073709551616) : ∃ n : Nat, x = (n : Int) ∧ n < 18446744073709551616 := ⟨x.toNat, by omega, by omega⟩
theorem xor_max (x : Nat) (hx : x < 18446744073709551616) : Go.bits .xor .u64 IntKind.u64.max (x : Int) = ((2 ^ 64 - (x + 1) : Nat) : Int) := by
  rw [bits_xor_comm, show IntKind.u64.max = 18446744073709551615 by rfl, xor_ones_u64 (x : Int) (by omega) (by omega)]; omega
theorem andNot_nat (x y : Nat) (hx : x < 18446744073709551616) (hy : y < 18446744073709551616) : Go.bits .andNot .u64 (x : Int) (y : Int) = ((x &&& (2 ^ 64 - (y + 1)) : Nat) : Int) := by
  have hx' : x % 2 ^ 64 = x := Nat.mod_eq_of_lt (by omega)
  have hy' : y % 2 ^ 64 = y := Nat.mod_eq_of_lt (by omega)
  have h3 : x &&& (2 ^ 64 - (y + 1)) ≤ x := Nat.and_le_left
  have e : (BitVec.ofNat 64 x &&& ~~~BitVec.ofNat 64 y : BitVec 64).toNat = x &&& (2 ^ 64 - (y + 1)) := by
    rw [BitVec.toNat_and, BitVec.toNat_not, BitVec.toNat_ofNat, BitVec.toNat_ofNat, hx', hy']
    congr 1
    omega
  simp only [Go.bits, IntKind.bits, BitVec.ofInt_natCast, wrap_u64]
  exact (congrArg (fun n : Nat => (n : Int) % 18446744073709551616) e).trans (by omega)
def band (n : Nat) (wa wb : List Int) : List Int := gl (fun i => (((wa.getD i 0).toNat &&& (wb.getD i 0).toNat : Nat) : Int)) (wc n)
def bor (n : Nat) (wa wb : List Int) : List Int := gl (fun i => (((wa.getD i 0).toNat ||| (wb.getD i 0).toNat : Nat) : Int)) (wc n)
def bandn (n : Nat) (wa wb : List Int) : List Int := gl (fun i => (((wa.getD i 0).toNat &&& (2 ^ 64 - ((wb.getD i 0).toNat + 1)) : Nat) : Int)) (wc n)
theorem and_ev (n : Nat) (hn : n ≤ 1048576) (wa wb : List Int) (ha : wok wa) (hb : wok wb) : Ev (fun k => bitset_And.f k (n : Int) wa (n : Int) wb) ((n : Int), band n wa wb) := by
  unfold bitset_And.f
  refine Ev.bind (comb_61 n hn wa wb _ (fun i _ => ?_)) (Ev.now _)
  obtain ⟨x, ex, hx⟩ := nat_of (wok_get ha i)
  obtain ⟨y, ey, hy⟩ := nat_of (wok_get hb i)
  unfold bitset_And_1.f
  rw [ex, ey, and_nat x y hx hy]; rfl
theorem or_ev (n : Nat) (hn : n ≤ 1048576) (wa wb : List Int) (ha : wok wa) (hb : wok wb) : Ev (fun k => bitset_Or.f k (n : Int) wa (n : Int) wb) ((n : Int), bor n wa wb) := by
  unfold bitset_Or.f
  refine Ev.bind (comb_64 n hn wa wb _ (fun i _ => ?_)) (Ev.now _)
  obtain ⟨x, ex, hx⟩ := nat_of (wok_get ha i)
  obtain ⟨y, ey, hy⟩ := nat_of (wok_get hb i)
  unfold bitset_Or_1.f
  rw [ex, ey, or_nat x y hx hy]; rfl
theorem andn_ev (n : Nat) (hn : n ≤ 1048576) (wa wb : List Int) (ha : wok wa) (hb : wok wb) : Ev (fun k => bitset_AndNot.f k (n : Int) wa (n : Int) wb) ((n : Int), bandn n wa wb) := by
  unfold bitset_AndNot.f
  refine Ev.bind (comb_66 n hn wa wb _ (fun i _ => ?_)) (Ev.now _)
  obtain ⟨x, ex, hx⟩ := nat_of (wok_get ha i)
  obtain ⟨y, ey, hy⟩ := nat_of (wok_get hb i)
  unfold bitset_AndNot_1.f
  rw [ex, ey, andNot_nat x y hx hy]; rfl
theorem band_wok {n : Nat} {wa wb : List Int} (ha : wok wa) : wok (band n wa wb) := gl_wok fun i _ => by
  have h := wok_get ha i
  have : (wa.getD i 0).toNat &&& (wb.getD i 0).toNat ≤ (wa.getD i 0).toNat := Nat.and_le_left
  omega
theorem bor_wok {n : Nat} {wa wb : List Int} (ha : wok wa) (hb : wok wb) : wok (bor n wa wb) := gl_wok fun i _ => by
  have h1 := wok_get ha i
  have h2 := wok_get hb i
  have : (wa.getD i 0).toNat ||| (wb.getD i 0).toNat < 2 ^ 64 := Nat.or_lt_two_pow (by omega) (by omega)
  omega
theorem bandn_wok {n : Nat} {wa wb : List Int} (ha : wok wa) : wok (bandn n wa wb) := gl_wok fun i _ => by
  have h := wok_get ha i
  have : (wa.getD i 0).toNat &&& (2 ^ 64 - ((wb.getD i 0).toNat + 1)) ≤ (wa.getD i 0).toNat := Nat.and_le_left
  omega
theorem gb_band {n : Nat} {wa wb : List Int} : ∀ j, j < 64 * wc n → gb (band n wa wb) j = (gb wa j && gb wb j) := gb_gl fun i r _ hr => by
  simp only [Int.toNat_natCast]
  rw [Nat.testBit_and, gb_word _ _ _ hr, gb_word _ _ _ hr]
theorem gb_bor {n : Nat} {wa wb : List Int} : ∀ j, j < 64 * wc n → gb (bor n wa wb) j = (gb wa j || gb wb j) := gb_gl fun i r _ hr => by
  simp only [Int.toNat_natCast]
  rw [Nat.testBit_or, gb_word _ _ _ hr, gb_word _ _ _ hr]
theorem gb_bandn {n : Nat} {wa wb : List Int} (hb : wok wb) : ∀ j, j < 64 * wc n → gb (bandn n wa wb) j = (gb wa j && !gb wb j) := gb_gl fun i r _ hr => by
  have h := wok_get hb i
  simp only [Int.toNat_natCast]
  rw [Nat.testBit_and, Nat.testBit_two_pow_sub_succ (by omega), gb_word _ _ _ hr, gb_word _ _ _ hr, decide_eq_true hr, Bool.true_and]
/-- Not: the words turned, the last one cut. -/
def bnot (n : Nat) (wa : List Int) : List Int :=
  let W := gl (fun i => ((2 ^ 64 - ((wa.getD i 0).toNat + 1) : Nat) : Int)) (wc n)
  if n % 64 = 0 then W else W.set (wc n - 1) (((W.getD (wc n - 1) 0).toNat % 2 ^ (n % 64) : Nat) : Int)
theorem not_ev (n : Nat) (hn : n ≤ 1048576) (wa : List Int) (ha : wok wa) : Ev (fun k => bitset_Not.f k (n : Int) wa) ((n : Int), bnot n wa) := by
  obtain ⟨W, hW⟩ : ∃ W, W = gl (fun i => ((2 ^ 64 - ((wa.getD i 0).toNat + 1) : Nat) : Int)) (wc n) := ⟨_, rfl⟩
  have hWl : W.length = wc n := by rw [hW]; exact gl_len _ _
  have hWk : wok W := by
    rw [hW]
    exact gl_wok fun i _ => by have h := wok_get ha i; omega
  have e1 : Ev (fun k => bitset_combine_68.f k (n : Int) wa (n : Int) wa) ((n : Int), W) := by
    rw [hW]
    refine comb_68 n hn wa wa _ (fun i _ => ?_)
    obtain ⟨x, ex, hx⟩ := nat_of (wok_get ha i)
    unfold bitset_Not_1.f
    rw [ex, xor_max x hx]; rfl
  unfold bitset_Not.f bnot
  refine Ev.bind e1 ?_
  simp only [← hW]
  rw [tmod64 n]
  by_cases c : n % 64 = 0
  · rw [if_pos c]
    refine Ev.pos (by omega) ?_
    exact Ev.now _
  · rw [if_neg c]
    have hw1 : 1 ≤ wc n := by unfold wc; omega
    have hw2 : wc n ≤ 20000 := by unfold wc; omega
    refine Ev.neg (by omega) ?_
    rw [show wrap64 ((W.length : Int) - 1) = ((wc n - 1 : Nat) : Int) by rw [w64 _ (by omega) (by omega)]; omega]
    refine Ev.pos (by omega) ?_
    refine Ev.pos (by omega) ?_
    refine Ev.pos (by omega) ?_
    refine Ev.eq (Ev.now _) ?_
    rw [Int.toNat_natCast, rd_nat]
    obtain ⟨x, ex, hx⟩ := nat_of (wok_get hWk (wc n - 1))
    have hr : n % 64 < 64 := Nat.mod_lt _ (by decide)
    have hp := pow_lt64 (n % 64) hr
    have hp1 := Nat.two_pow_pos (n % 64)
    have hm := bits_mask .u64 64 (by decide) wraps_u64 (n % 64) (by omega) (x : Int) (by omega) (by omega)
    rw [ex, Int.toNat_natCast, shl1 (n % 64) hr, wraps_u64 _ (by omega) (by omega), pow_cast0, hm, ← pow_cast0]
    congr 1
theorem bnot_len (n : Nat) (wa : List Int) : (bnot n wa).length = wc n := by
  unfold bnot; dsimp only; split <;> simp [gl_len]
theorem bnot_wok {n : Nat} {wa : List Int} (ha : wok wa) : wok (bnot n wa) := by
  have hWk : wok (gl (fun i => ((2 ^ 64 - ((wa.getD i 0).toNat + 1) : Nat) : Int)) (wc n)) := gl_wok fun i _ => by have h := wok_get ha i; omega
  unfold bnot
  dsimp only
  split
  · exact hWk
  · intro x hx
    rcases List.mem_or_eq_of_mem_set hx with h | rfl
    · exact hWk x h
    · have h := wok_get hWk (wc n - 1)
      have : ((gl (fun i => ((2 ^ 64 - ((wa.getD i 0).toNat + 1) : Nat) : Int)) (wc n)).getD (wc n - 1) 0).toNat % 2 ^ (n % 64) ≤ ((gl (fun i => ((2 ^ 64 - ((wa.getD i 0).toNat + 1) : Nat) : Int)) (wc n)).getD (wc n - 1) 0).toNat := Nat.mod_le _ _
      omega
theorem gb_bnot {n : Nat} {wa : List Int} (ha : wok wa) : ∀ j, j < 64 * wc n → gb (bnot n wa) j = (decide (j < n) && !gb wa j) := by
  intro j hj
  have h0 : ∀ j, j < 64 * wc n → gb (gl (fun i => ((2 ^ 64 - ((wa.getD i 0).toNat + 1) : Nat) : Int)) (wc n)) j = !gb wa j := gb_gl fun i r _ hr => by
    have h := wok_get ha i
    simp only [Int.toNat_natCast]
    rw [Nat.testBit_two_pow_sub_succ (by omega), gb_word _ _ _ hr, decide_eq_true hr, Bool.true_and]
  have hg := h0 j hj
  obtain ⟨W, hW⟩ : ∃ W, W = gl (fun i => ((2 ^ 64 - ((wa.getD i 0).toNat + 1) : Nat) : Int)) (wc n) := ⟨_, rfl⟩
  have hWl : W.length = wc n := by rw [hW]; exact gl_len _ _
  unfold bnot
  dsimp only
  rw [← hW] at hg ⊢
  by_cases c : n % 64 = 0
  · rw [if_pos c, hg, decide_eq_true (by unfold wc at hj; omega), Bool.true_and]
  · rw [if_neg c]
    by_cases cj : j / 64 = wc n - 1
    · unfold gb at hg ⊢
      rw [cj] at hg ⊢
      rw [List.getD_eq_getElem?_getD, List.getElem?_set_self (by omega), Option.getD_some, Int.toNat_natCast, Nat.testBit_mod_two_pow, hg]
      congr 1
      by_cases d : j < n
      · rw [decide_eq_true d, decide_eq_true (by unfold wc at cj; omega)]
      · rw [decide_eq_false d, decide_eq_false (by unfold wc at cj; omega)]
    · have e : gb (W.set (wc n - 1) (((W.getD (wc n - 1) 0).toNat % 2 ^ (n % 64) : Nat) : Int)) j = gb W j := by
        unfold gb
        rw [List.getD_eq_getElem?_getD, List.getElem?_set_ne (by omega), ← List.getD_eq_getElem?_getD]
      rw [e, hg, decide_eq_true (by unfold wc at cj hj; omega), Bool.true_and]

/-! ### the union of two increasing lists -/
theorem cons_or {x : Int} {m : List Int} {P : Int → Prop} (hm : m.Pairwise (· < ·)) (hP : ∀ z, z ∈ m ↔ P z) (hx : ∀ z, P z → x < z) : (x :: m).Pairwise (· < ·) ∧ ∀ z, z ∈ x :: m ↔ z = x ∨ P z :=
  ⟨List.pairwise_cons.2 ⟨fun z hz => hx z ((hP z).1 hz), hm⟩, fun z => by rw [List.mem_cons, hP]⟩
theorem mrg_or : ∀ (n : Nat) (a b : List Int), a.length + b.length ≤ n → a.Pairwise (· < ·) → b.Pairwise (· < ·) → (mrg kOr a b).Pairwise (· < ·) ∧ ∀ z, z ∈ mrg kOr a b ↔ z ∈ a ∨ z ∈ b := by
  intro n
  induction n with
  | zero =>
    intro a b h _ _
    obtain rfl : a = [] := List.eq_nil_of_length_eq_zero (by omega)
    obtain rfl : b = [] := List.eq_nil_of_length_eq_zero (by omega)
    simp [mrg]
  | succ n ih =>
    intro a b h ha hb
    rcases a with _ | ⟨x, a⟩ <;> rcases b with _ | ⟨y, b⟩ <;> unfold mrg
    · simp
    · simp only [List.length_nil, List.length_cons] at h
      obtain ⟨hb1, hb2⟩ := List.pairwise_cons.1 hb
      obtain ⟨h1, h2⟩ := ih [] b (by simp; omega) ha hb2
      rw [if_pos (show kOr false true = true from rfl)]
      have := cons_or (x := y) h1 h2 (fun z hz => hb1 z (by rcases hz with h | h; cases h; exact h))
      exact ⟨this.1, fun z => (this.2 z).trans (by simp)⟩
    · simp only [List.length_nil, List.length_cons] at h
      obtain ⟨ha1, ha2⟩ := List.pairwise_cons.1 ha
      obtain ⟨h1, h2⟩ := ih a [] (by simp; omega) ha2 hb
      rw [if_pos (show kOr true false = true from rfl)]
      have := cons_or (x := x) h1 h2 (fun z hz => ha1 z (by rcases hz with h | h; exact h; cases h))
      exact ⟨this.1, fun z => (this.2 z).trans (by simp)⟩
    · simp only [List.length_cons] at h
      obtain ⟨ha1, ha2⟩ := List.pairwise_cons.1 ha
      obtain ⟨hb1, hb2⟩ := List.pairwise_cons.1 hb
      by_cases h1 : x < y
      · rw [if_pos h1, if_pos (show kOr true false = true from rfl)]
        obtain ⟨g1, g2⟩ := ih a (y :: b) (by simp; omega) ha2 hb
        have := cons_or (x := x) g1 g2 (fun z hz => by
          rcases hz with h | h
          · exact ha1 z h
          · rcases List.mem_cons.1 h with rfl | h
            · exact h1
            · have := hb1 z h; omega)
        exact ⟨this.1, fun z => (this.2 z).trans (by simp only [List.mem_cons, or_assoc])⟩
      · rw [if_neg h1]
        by_cases h2 : y < x
        · rw [if_pos h2, if_pos (show kOr false true = true from rfl)]
          obtain ⟨g1, g2⟩ := ih (x :: a) b (by simp; omega) ha hb2
          have := cons_or (x := y) g1 g2 (fun z hz => by
            rcases hz with h | h
            · rcases List.mem_cons.1 h with rfl | h
              · exact h2
              · have := ha1 z h; omega
            · exact hb1 z h)
          exact ⟨this.1, fun z => (this.2 z).trans (by simp only [List.mem_cons]; exact or_left_comm)⟩
        · have e : x = y := by omega
          subst e
          rw [if_neg h2, if_pos (show kOr true true = true from rfl)]
          obtain ⟨g1, g2⟩ := ih a b (by omega) ha2 hb2
          have := cons_or (x := x) g1 g2 (fun z hz => by
            rcases hz with h | h
            · exact ha1 z h
            · exact hb1 z h)
          exact ⟨this.1, fun z => (this.2 z).trans (by
            simp only [List.mem_cons]
            constructor
            · rintro (h | h | h)
              · exact .inl (.inl h)
              · exact .inl (.inr h)
              · exact .inr (.inr h)
            · rintro ((h | h) | (h | h))
              · exact .inl h
              · exact .inr (.inl h)
              · exact .inl h
              · exact .inr (.inr h))⟩

theorem all_l0_selection (n : Int) (hn : n ≤ 1000000) : ∀ (d i : Nat) (acc : List Int), (i : Int) + d = n → acc = (List.range i).map Int.ofNat → Ev (fun k => selection_All.l0 k n acc i) (allN n) := by
  intro d
  induction d with
  | zero =>
    intro i acc h ha
    refine Ev.succ ?_
    simp only [selection_All.l0]
    refine Ev.neg (by omega) ?_
    exact Ev.eq (Ev.now _) (by rw [ha]; unfold allN; rw [show n.toNat = i by omega])
  | succ d ih =>
    intro i acc h ha
    have hl : acc.length = i := by rw [ha]; simp
    refine Ev.succ ?_
    simp only [selection_All.l0, w64_add1 i (by omega)]
    refine Ev.pos (by omega) ?_
    refine Ev.pos (by omega) ?_
    refine ih (i + 1) _ (by omega) ?_
    rw [ha, List.range_succ, List.map_append]; rfl
theorem all_ev_selection (n : Int) (hn : n ≤ 1000000) : Ev (fun k => selection_All.f k n) (allN n) := by
  unfold selection_All.f
  by_cases h : 0 ≤ n
  · exact all_l0_selection n hn n.toNat 0 [] (by omega) rfl
  · refine Ev.succ ?_
    simp only [selection_All.l0]
    refine Ev.neg (by omega) ?_
    exact Ev.eq (Ev.now _) (by unfold allN; rw [show n.toNat = 0 by omega]; rfl)

theorem awake_ev : Ev (fun k => laminalaw41_awake.f k) true := Ev.of laminalaw41_awake.mono (k := 200) (by decide +kernel)
theorem fbs {n : Nat} {w s : List Int} (hn : n ≤ 1000) (hl : w.length = wc n) (hw : wok w) (hs : s.Pairwise (· < ·)) (hr : ∀ x ∈ s, 0 ≤ x ∧ x < (n : Int)) (hf : ∀ j, j < 64 * wc n → gb w j = s.contains (j : Int)) : selection_FromBitset.f (n : Int) w = some s := by
  have hz : ∀ j, n ≤ j → gb w j = false := by
    intro j hj
    by_cases c : j < 64 * wc n
    · rw [hf j c, Bool.eq_false_iff]
      intro h
      rw [List.contains_iff_mem] at h
      have := hr _ h
      omega
    · exact gb_out (by omega)
  rw [ifb (n : Int) n w hl hw hn hz, elsI_sorted hs hr (fun j hj => hf j (by have := wc_le n; omega))]
theorem inter_f (a b : List Int) (h : a.length + b.length < 1000000) : selection_Intersect.f a b = some (mrg kAnd a b) := by
  unfold selection_Intersect.f; rw [if_pos (by omega), mrgN_eq _ _ _ _ (Nat.le_refl _)]
theorem union_f (a b : List Int) (h : a.length + b.length < 1000000) : selection_Union.f a b = some (mrg kOr a b) := by
  unfold selection_Union.f; rw [if_pos (by omega), mrgN_eq _ _ _ _ (Nat.le_refl _)]
theorem differ_f (a b : List Int) (h : a.length + b.length < 1000000) : selection_Difference.f a b = some (mrg kNot a b) := by
  unfold selection_Difference.f; rw [if_pos (by omega), mrgN_eq _ _ _ _ (Nat.le_refl _)]
theorem cont_filter (l : List Int) (p : Int → Bool) (x : Int) : (l.filter p).contains x = (l.contains x && p x) := by
  rw [Bool.eq_iff_iff, Bool.and_eq_true, List.contains_iff_mem, List.contains_iff_mem, List.mem_filter]
theorem mem_allN (m : Nat) (x : Int) : x ∈ allN (m : Int) ↔ 0 ≤ x ∧ x < (m : Int) := by
  unfold allN
  simp only [List.mem_map, List.mem_range, Int.toNat_natCast]
  constructor
  · rintro ⟨i, hi, rfl⟩
    exact ⟨Int.natCast_nonneg i, Int.ofNat_lt.2 hi⟩
  · intro h
    exact ⟨x.toNat, by omega, by rw [Int.ofNat_eq_natCast]; omega⟩
theorem SelectionAlgebra : laminalaw41_SelectionAlgebra.Pure := by
  intro a b n ha ha8 hb hb8 hn
  have lv : Ev (fun k => (laminalaw41_awake.f k).bind fun t => some t) true := Ev.bind awake_ev (Ev.now _)
  have bad : Ev (fun k => laminalaw41_SelectionAlgebra.j0 k a b n true) true := by
    refine Ev.succ ?_
    simp only [laminalaw41_SelectionAlgebra.j0]
    refine Ev.pos (by simp) ?_
    exact lv
  refine Ev.rounds (g := fun k => laminalaw41_SelectionAlgebra.f k a b n) ?_
  unfold laminalaw41_SelectionAlgebra.f
  refine Ev.bind (small_ev a n (by omega)) ?_
  by_cases h1 : (decide (n ≤ 300) && vsl n none a) = true
  case neg => refine Ev.neg h1 ?_; exact bad
  refine Ev.pos h1 ?_
  refine Ev.bind (small_ev b n (by omega)) ?_
  by_cases h2 : (decide (n ≤ 300) && vsl n none b) = true
  case neg => refine Ev.neg h2 ?_; exact bad
  refine Ev.pos h2 ?_
  by_cases h3 : n < 0
  · rw [decide_eq_true h3]; exact bad
  rw [decide_eq_false h3]
  rw [Bool.and_eq_true, decide_eq_true_iff] at h1 h2
  obtain ⟨m, rfl⟩ := Int.eq_ofNat_of_zero_le (show 0 ≤ n by omega)
  have hm : m ≤ 300 := by omega
  obtain ⟨hra, hsa, _⟩ := vsl_all _ _ _ h1.2
  obtain ⟨hrb, hsb, _⟩ := vsl_all _ _ _ h2.2
  have hla : a.length ≤ 300 := by
    rcases vsl_len h1.2 with h | h
    · omega
    · rw [h]; simp
  have hlb : b.length ≤ 300 := by
    rcases vsl_len h2.2 with h | h
    · omega
    · rw [h]; simp
  have W : ∀ l : List Int, l.length ≤ 300 → (∀ x ∈ l, 0 ≤ x ∧ x < (m : Int)) → ∃ w : List Int, Ev (fun k => selection_ToBitset.f k l (m : Int)) ((m : Int), w) ∧ w.length = wc m ∧ wok w ∧ ∀ j, gb w j = l.contains (j : Int) := by
    intro l hl hr
    refine ⟨ofL m (List.replicate (wc m) 0) l, ?_, by rw [ofL_len, List.length_replicate], ofL_wok m l _ (wok_zeros _), fun j => ?_⟩
    · have := iof_ev (m : Int) l (by omega)
      rw [nn_nat m (by omega)] at this
      unfold selection_ToBitset.f
      exact Ev.bind this (Ev.now _)
    · rw [ofL_gb m l _ (List.length_replicate ..) hr, gb_zeros, Bool.false_or]
  obtain ⟨wa, ea, la, oka, ga⟩ := W a hla hra
  obtain ⟨wb, eb, lb, okb, gb2⟩ := W b hlb hrb
  have hm' : m ≤ 1048576 := by omega
  have hu : (mrg kOr a b).length ≤ a.length + b.length := mrg_len _ _ _ _ (Nat.le_refl _)
  have hall := allN_len (m : Int)
  have f1 : (a.filter (fun x => b.contains x)).length ≤ a.length := List.length_filter_le _ _
  have f2 : (a.filter (fun x => !b.contains x)).length ≤ a.length := List.length_filter_le _ _
  have f3 : ((allN (m : Int)).filter (fun x => !a.contains x)).length ≤ (allN (m : Int)).length := List.length_filter_le _ _
  refine Ev.succ ?_
  simp only [laminalaw41_SelectionAlgebra.j0]
  refine Ev.neg (by decide) ?_
  refine Ev.bind ea ?_
  refine Ev.bind eb ?_
  refine Ev.pos rfl ?_
  refine Ev.bind0 (fbs (by omega) la oka hsa hra (fun j _ => ga j)) ?_
  refine Ev.bind (ints_ev _ (by omega)) ?_
  refine Ev.succ ?_
  simp only [laminalaw41_SelectionAlgebra.j1]
  refine Ev.neg (by decide) ?_
  refine Ev.bind (and_ev m hm' wa wb oka okb) ?_
  refine Ev.bind0 (fbs (s := a.filter (fun x => b.contains x)) (by omega) (gl_len _ _) (band_wok oka) (hsa.filter _) (fun x hx => hra x (List.mem_filter.1 hx).1) (fun j hj => by rw [gb_band j hj, ga, gb2, cont_filter])) ?_
  refine Ev.bind0 (inter_f a b (by omega)) ?_
  rw [mrg_and _ a b (Nat.le_refl _) hsa hsb]
  refine Ev.bind (ints_ev _ (by omega)) ?_
  refine Ev.pos (by rfl) ?_
  obtain ⟨hus, hum⟩ := mrg_or _ a b (Nat.le_refl _) hsa hsb
  refine Ev.bind (or_ev m hm' wa wb oka okb) ?_
  refine Ev.bind0 (fbs (s := mrg kOr a b) (by omega) (gl_len _ _) (bor_wok oka okb) hus (fun x hx => by
    rcases (hum x).1 hx with h | h
    · exact hra x h
    · exact hrb x h) (fun j hj => by
    rw [gb_bor j hj, ga, gb2, Bool.eq_iff_iff, Bool.or_eq_true, List.contains_iff_mem, List.contains_iff_mem, List.contains_iff_mem, hum])) ?_
  refine Ev.bind0 (union_f a b (by omega)) ?_
  refine Ev.bind (ints_ev _ (by omega)) ?_
  refine Ev.succ ?_
  simp only [laminalaw41_SelectionAlgebra.j2]
  refine Ev.neg (by decide) ?_
  refine Ev.bind (andn_ev m hm' wa wb oka okb) ?_
  refine Ev.bind0 (fbs (s := a.filter (fun x => !b.contains x)) (by omega) (gl_len _ _) (bandn_wok oka) (hsa.filter _) (fun x hx => hra x (List.mem_filter.1 hx).1) (fun j hj => by rw [gb_bandn okb j hj, ga, gb2, cont_filter])) ?_
  refine Ev.bind0 (differ_f a b (by omega)) ?_
  rw [mrg_not _ a b (Nat.le_refl _) hsa hsb]
  refine Ev.bind (ints_ev _ (by omega)) ?_
  refine Ev.pos (by rfl) ?_
  refine Ev.bind (not_ev m hm' wa oka) ?_
  refine Ev.bind0 (fbs (s := (allN (m : Int)).filter (fun x => !a.contains x)) (by omega) (bnot_len _ _) (bnot_wok oka) ((allN_inc _).filter _) (fun x hx => (mem_allN m x).1 (List.mem_filter.1 hx).1) (fun j hj => by
    rw [gb_bnot oka j hj, ga, cont_filter]
    congr 1
    rw [Bool.eq_iff_iff, decide_eq_true_iff, List.contains_iff_mem, mem_allN]
    omega)) ?_
  unfold selection_Complement.f
  refine Ev.bind (Ev.bind (all_ev_selection (m : Int) (by omega)) (Ev.bind0 (differ_f (allN (m : Int)) a (by omega)) (Ev.now _))) ?_
  rw [mrg_not _ (allN (m : Int)) a (Nat.le_refl _) (allN_inc _) hsa]
  refine Ev.bind (ints_ev _ (by omega)) ?_
  refine Ev.pos (by rfl) ?_
  exact lv

end Go.Proofs.YtijgbhbdmnhanaaDoor.Pure
