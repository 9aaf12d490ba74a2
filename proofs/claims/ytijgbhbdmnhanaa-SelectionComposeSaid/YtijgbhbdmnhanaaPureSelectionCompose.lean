/- laminalaw41.SelectionCompose returns true for all its arguments (the rows of an applied selection are the rows at its indices, and applying two selections is applying the second one's elements of the first). Conditions: none beyond the row's own (slices and strings of at most 2^47 - 4096 bytes each). -/
import Derived.Test.YtijgbhbdmnhanaaStSelectionCompose
import Derived.Test.YtijgbhbdmnhanaaUM01
import Derived.Test.YtijgbhbdmnhanaaUM02
import Derived.Test.YtijgbhbdmnhanaaUM03
import Derived.Test.YtijgbhbdmnhanaaUM04
set_option linter.unusedVariables false
set_option linter.unusedSimpArgs false
namespace Go.Proofs.Ytijgbhbdmnhanaa.Pure
open Go Go.RowKit Go.Proofs.Ytijgbhbdmnhanaa.QSelectionCompose Go.Proofs.YtijgbhbdmnhanaaW.PrintWords Go.Proofs.YtijgbhbdmnhanaaW.PrintLast Go.Proofs.YtijgbhbdmnhanaaM

/-! ### the reference's selections -/
theorem drop_lt {α : Type} {l r : List α} {i : Nat} {x : α} (h : l.drop i = x :: r) : i < l.length := by
  rcases Nat.lt_or_ge i l.length with h1 | h1
  · exact h1
  · rw [List.drop_of_length_le h1] at h; cases h
theorem drop_ge {α : Type} {l : List α} {i : Nat} (h : l.drop i = []) : l.length ≤ i := by
  rwa [List.drop_eq_nil_iff] at h
theorem drop_next {α : Type} {l r : List α} {i : Nat} {x : α} (h : l.drop i = x :: r) : l.drop (i + 1) = r := by
  rw [← List.drop_drop, h]; rfl
theorem rd_drop {l r : List Int} {i : Nat} {x : Int} (h : l.drop i = x :: r) : rd l (i : Int) = x := by
  rw [rd_nat, List.getD_eq_getElem?_getD, ← List.head?_drop, h]; rfl
def prvI (l : List Int) (i : Nat) : Option Int := if i = 0 then none else some (rd l ((i - 1 : Nat) : Int))
theorem rvalid_l0 (l : List Int) (n : Int) (hl : l.length ≤ 9223372036854775807) : ∀ (r : List Int) (i : Nat), l.drop i = r → Ev (fun k => laminaref41_Valid.l0 k l n i) (vsl n (prvI l i) r) := by
  intro r
  induction r with
  | nil =>
    intro i h
    have := drop_ge h
    refine Ev.succ ?_
    simp only [laminaref41_Valid.l0]
    refine Ev.neg (by omega) ?_
    exact Ev.now _
  | cons x r ih =>
    intro i h
    have hlt := drop_lt h
    have hn := ih (i + 1) (drop_next h)
    have hp : prvI l (i + 1) = some x := by unfold prvI; rw [if_neg (by omega), show i + 1 - 1 = i by omega, rd_drop h]
    rw [hp] at hn
    refine Ev.succ ?_
    simp only [laminaref41_Valid.l0, rd_drop h, w64_add1 i (by omega)]
    refine Ev.pos (by omega) ?_
    refine Ev.pos (by omega) ?_
    unfold vsl
    by_cases c1 : x < 0
    · refine Ev.pos c1 ?_
      exact Ev.eq (Ev.now _) (by rw [if_pos (.inl c1)])
    refine Ev.neg c1 ?_
    by_cases c2 : x ≥ n
    · refine Ev.pos c2 ?_
      exact Ev.eq (Ev.now _) (by rw [if_pos (.inr (.inl c2))])
    refine Ev.neg c2 ?_
    by_cases c3 : (i : Int) > 0
    · refine Ev.pos c3 ?_
      simp only [w64_sub1 i (by omega) (by omega)]
      refine Ev.pos (by omega) ?_
      refine Ev.pos (by omega) ?_
      have he : prvI l i = some (rd l ((i - 1 : Nat) : Int)) := by unfold prvI; rw [if_neg (by omega)]
      by_cases c4 : x ≤ rd l ((i - 1 : Nat) : Int)
      · refine Ev.pos c4 ?_
        exact Ev.eq (Ev.now _) (by rw [if_pos (.inr (.inr (by rw [he]; simpa [pge] using c4)))])
      · refine Ev.neg c4 ?_
        refine Ev.eq hn ?_
        rw [if_neg]
        rintro (h' | h' | h')
        · omega
        · omega
        · rw [he] at h'; simp [pge] at h'; omega
    · refine Ev.neg c3 ?_
      refine Ev.eq hn ?_
      rw [if_neg]
      rintro (h' | h' | h')
      · omega
      · omega
      · unfold prvI at h'; rw [if_pos (by omega)] at h'; simp [pge] at h'
theorem rvalid_ev (l : List Int) (n : Int) (hl : l.length ≤ 9223372036854775807) : Ev (fun k => laminaref41_Valid.f k l n) (vsl n none l) := by
  have := rvalid_l0 l n hl l 0 rfl
  unfold laminaref41_Valid.f
  simpa [prvI] using this
theorem ints_l0 (l : List Int) (hl : l.length < 9223372036854775808) : ∀ (r : List Int) (i : Nat), l.drop i = r → Ev (fun k => laminaref17_Ints.l0 k l l i) true := by
  intro r
  induction r with
  | nil =>
    intro i h
    have := drop_ge h
    refine Ev.succ ?_
    simp only [laminaref17_Ints.l0]
    refine Ev.neg (by omega) ?_
    exact Ev.now _
  | cons x r ih =>
    intro i h
    have hlt := drop_lt h
    refine Ev.succ ?_
    simp only [laminaref17_Ints.l0, w64_add1 i (by omega)]
    refine Ev.pos (by omega) ?_
    refine Ev.pos (by omega) ?_
    refine Ev.pos (by omega) ?_
    refine Ev.pos trivial ?_
    exact ih (i + 1) (drop_next h)
theorem ints_ev (l : List Int) (hl : l.length < 9223372036854775808) : Ev (fun k => laminaref17_Ints.f k l l) true := by
  unfold laminaref17_Ints.f
  refine Ev.pos rfl ?_
  exact ints_l0 l hl l 0 rfl

theorem all_l0_selection (n : Int) (hn : n ≤ 1000000) : ∀ (d i : Nat) (acc : List Int), (i : Int) + d = n → acc = (List.range i).map Int.ofNat → Ev (fun k => selection_All.l0 k n acc i) (allN n) := by
  intro d
  induction d with
  | zero =>
    intro i acc h ha
    refine Ev.succ ?_
    simp only [selection_All.l0]
    refine Ev.neg (by omega) ?_
    exact Ev.eq (Ev.now _) (by rw [ha]; unfold allN; rw [show n.toNat = i by omega])
  | succ d ih =>
    intro i acc h ha
    have hl : acc.length = i := by rw [ha]; simp
    refine Ev.succ ?_
    simp only [selection_All.l0, w64_add1 i (by omega)]
    refine Ev.pos (by omega) ?_
    refine Ev.pos (by omega) ?_
    refine ih (i + 1) _ (by omega) ?_
    rw [ha, List.range_succ, List.map_append]; rfl
theorem all_ev_selection (n : Int) (hn : n ≤ 1000000) : Ev (fun k => selection_All.f k n) (allN n) := by
  unfold selection_All.f
  by_cases h : 0 ≤ n
  · exact all_l0_selection n hn n.toNat 0 [] (by omega) rfl
  · refine Ev.succ ?_
    simp only [selection_All.l0]
    refine Ev.neg (by omega) ?_
    exact Ev.eq (Ev.now _) (by unfold allN; rw [show n.toNat = 0 by omega]; rfl)

/-! ### vectors: validity by the reference -/
structure V17 (t : Int) (is : List Int) (ts : List ByteArray) (ns : List Bool) : Prop where
  ty : t = 0 ∨ t = 1 ∨ t = 2 ∨ t = 3
  li : is.length = if t = 1 ∨ t = 2 then ns.length else 0
  lt : ts.length = if t = 3 then ns.length else 0
  en : ∀ i : Nat, i < ns.length → laminaref17_entry.f t is ts ns (i : Int) = some true
theorem entry_some (t : Int) (is : List Int) (ts : List ByteArray) (ns : List Bool) (ty : t = 0 ∨ t = 1 ∨ t = 2 ∨ t = 3) (li : is.length = if t = 1 ∨ t = 2 then ns.length else 0) (lt : ts.length = if t = 3 then ns.length else 0) (i : Nat) (hi : i < ns.length) : ∃ b, laminaref17_entry.f t is ts ns (i : Int) = some b := by
  have h0 : (0 : Int) ≤ (i : Int) := by omega
  have h1 : (i : Int) < (ns.length : Int) := by omega
  unfold laminaref17_entry.f
  rcases ty with rfl | rfl | rfl | rfl
  · rw [if_pos rfl, if_pos h0, if_pos h1]; exact ⟨_, rfl⟩
  · have h2 : (i : Int) < (is.length : Int) := by simp at li; omega
    rw [if_neg (by decide), if_neg (by decide), if_pos rfl, if_pos h0, if_pos h2]
    split
    · exact ⟨_, rfl⟩
    · split <;> exact ⟨_, rfl⟩
  · have h2 : (i : Int) < (is.length : Int) := by simp at li; omega
    rw [if_neg (by decide), if_neg (by decide), if_neg (by decide), if_pos h0, if_pos h2]
    split
    · exact ⟨_, rfl⟩
    · exact ⟨_, rfl⟩
  · have h2 : (i : Int) < (ts.length : Int) := by simp at lt; omega
    rw [if_neg (by decide), if_pos rfl, if_pos h0, if_pos h2]
    split
    · split <;> exact ⟨_, rfl⟩
    · exact ⟨_, rfl⟩
theorem v17_l0 (t : Int) (is : List Int) (ts : List ByteArray) (ns : List Bool) (ty : t = 0 ∨ t = 1 ∨ t = 2 ∨ t = 3) (li : is.length = if t = 1 ∨ t = 2 then ns.length else 0) (lt : ts.length = if t = 3 then ns.length else 0) (hn : ns.length ≤ 9223372036854775807) :
    ∀ (d i : Nat), i + d = ns.length → ∃ b, Ev (fun k => laminaref17_Valid.l0 k (i : Int) t is ts ns) b ∧ (b = true ↔ ∀ j : Nat, i ≤ j → j < ns.length → laminaref17_entry.f t is ts ns (j : Int) = some true) := by
  intro d
  induction d with
  | zero =>
    intro i h
    refine ⟨true, ?_, by simp; intro j h1 h2; omega⟩
    refine Ev.succ ?_
    simp only [laminaref17_Valid.l0]
    refine Ev.neg (by omega) ?_
    exact Ev.now _
  | succ d ih =>
    intro i h
    obtain ⟨b, hb, hb'⟩ := ih (i + 1) (by omega)
    obtain ⟨c, hc⟩ := entry_some t is ts ns ty li lt i (by omega)
    cases c
    · refine ⟨false, ?_, ⟨fun h => (by cases h), fun h2 => ?_⟩⟩
      · refine Ev.succ ?_
        simp only [laminaref17_Valid.l0]
        refine Ev.pos (by omega) ?_
        refine Ev.bind0 hc ?_
        refine Ev.neg (by decide) ?_
        exact Ev.now _
      · have := h2 i (by omega) (by omega)
        rw [hc] at this; cases this
    · refine ⟨b, ?_, hb'.trans ⟨fun e j h1 h2 => ?_, fun e j h1 h2 => e j (by omega) h2⟩⟩
      · refine Ev.succ ?_
        simp only [laminaref17_Valid.l0, w64_add1 i (by omega)]
        refine Ev.pos (by omega) ?_
        refine Ev.bind0 hc ?_
        refine Ev.pos rfl ?_
        exact hb
      · by_cases e2 : j = i
        · subst e2; exact hc
        · exact e j (by omega) h2
theorem v17_j3 (t : Int) (is : List Int) (ts : List ByteArray) (ns : List Bool) (ty : t = 0 ∨ t = 1 ∨ t = 2 ∨ t = 3) (hn : ns.length ≤ 9223372036854775807) (x : Bool) (hx : x = false ↔ is.length = (if t = 1 ∨ t = 2 then ns.length else 0) ∧ ts.length = if t = 3 then ns.length else 0) :
    ∃ b, Ev (fun k => laminaref17_Valid.j3 k x t is ts ns) b ∧ (b = true ↔ V17 t is ts ns) := by
  cases x
  · obtain ⟨li, lt⟩ := hx.1 rfl
    obtain ⟨b, hb, hb'⟩ := v17_l0 t is ts ns ty li lt hn ns.length 0 (by omega)
    refine ⟨b, ?_, hb'.trans ⟨fun e => ⟨ty, li, lt, fun i hi => e i (by omega) hi⟩, fun e j _ h2 => e.en j h2⟩⟩
    refine Ev.succ ?_
    simp only [laminaref17_Valid.j3]
    refine Ev.neg (by decide) ?_
    exact hb
  · refine ⟨false, ?_, ⟨fun h => (by cases h), fun e => (by have := hx.2 ⟨e.li, e.lt⟩; cases this)⟩⟩
    refine Ev.succ ?_
    simp only [laminaref17_Valid.j3]
    refine Ev.pos (by decide) ?_
    exact Ev.now _
theorem v17_ev (t : Int) (is : List Int) (ts : List ByteArray) (ns : List Bool) (hn : ns.length ≤ 9223372036854775807) :
    ∃ b, Ev (fun k => laminaref17_Valid.f k t is ts ns) b ∧ (b = true ↔ V17 t is ts ns) := by
  have two : ∀ x4 : Int, t = 0 ∨ t = 1 ∨ t = 2 ∨ t = 3 → ∀ x3 : Int, (x3 = ((if t = 1 ∨ t = 2 then ns.length else 0 : Nat) : Int)) → (x4 = ((if t = 3 then ns.length else 0 : Nat) : Int)) → ∃ b, Ev (fun k => laminaref17_Valid.j2 k x3 x4 t is ts ns) b ∧ (b = true ↔ V17 t is ts ns) := by
    intro x4 ty x3 h3 h4
    by_cases c : (is.length : Int) = x3
    · obtain ⟨b, hb, hb'⟩ := v17_j3 t is ts ns ty hn ((ts.length : Int) != x4) (by
        rw [bne_eq_false_iff_eq]
        constructor
        · intro e; exact ⟨by omega, by omega⟩
        · intro e; omega)
      refine ⟨b, ?_, hb'⟩
      refine Ev.succ ?_
      simp only [laminaref17_Valid.j2]
      refine Ev.pos c ?_
      exact hb
    · obtain ⟨b, hb, hb'⟩ := v17_j3 t is ts ns ty hn true ⟨fun e => (by cases e), fun e => (by omega)⟩
      refine ⟨b, ?_, hb'⟩
      refine Ev.succ ?_
      simp only [laminaref17_Valid.j2]
      refine Ev.neg c ?_
      exact hb
  have one : t = 0 ∨ t = 1 ∨ t = 2 ∨ t = 3 → ∀ x3 : Int, (x3 = ((if t = 1 ∨ t = 2 then ns.length else 0 : Nat) : Int)) → ∃ b, Ev (fun k => laminaref17_Valid.j1 k x3 0 t is ts ns) b ∧ (b = true ↔ V17 t is ts ns) := by
    intro ty x3 h3
    by_cases c : t = 3
    · obtain ⟨b, hb, hb'⟩ := two (ns.length : Int) ty x3 h3 (by rw [if_pos c])
      refine ⟨b, ?_, hb'⟩
      refine Ev.succ ?_
      simp only [laminaref17_Valid.j1]
      refine Ev.pos c ?_
      exact hb
    · obtain ⟨b, hb, hb'⟩ := two 0 ty x3 h3 (by rw [if_neg c]; rfl)
      refine ⟨b, ?_, hb'⟩
      refine Ev.succ ?_
      simp only [laminaref17_Valid.j1]
      refine Ev.neg c ?_
      exact hb
  have zero : t = 0 ∨ t = 1 ∨ t = 2 ∨ t = 3 → ∀ x : Bool, (x = true ↔ (t = 1 ∨ t = 2)) → ∃ b, Ev (fun k => laminaref17_Valid.j0 k 0 0 x t is ts ns) b ∧ (b = true ↔ V17 t is ts ns) := by
    intro ty x hx
    cases x
    · obtain ⟨b, hb, hb'⟩ := one ty 0 (by rw [if_neg (fun h => by cases hx.2 h)]; rfl)
      refine ⟨b, ?_, hb'⟩
      refine Ev.succ ?_
      simp only [laminaref17_Valid.j0]
      refine Ev.neg (by decide) ?_
      exact hb
    · obtain ⟨b, hb, hb'⟩ := one ty (ns.length : Int) (by rw [if_pos (hx.1 rfl)])
      refine ⟨b, ?_, hb'⟩
      refine Ev.succ ?_
      simp only [laminaref17_Valid.j0]
      refine Ev.pos (by decide) ?_
      exact hb
  by_cases c0 : t ≥ 0 ∧ t ≤ 3
  · have ty : t = 0 ∨ t = 1 ∨ t = 2 ∨ t = 3 := by omega
    have hty : laminaref17_isType.f t = some true := by unfold laminaref17_isType.f; rw [if_pos c0.1, decide_eq_true c0.2]
    by_cases c1 : t = 1
    · obtain ⟨b, hb, hb'⟩ := zero ty true (by simp [c1])
      refine ⟨b, ?_, hb'⟩
      unfold laminaref17_Valid.f
      refine Ev.bind0 hty ?_
      refine Ev.pos rfl ?_
      refine Ev.pos c1 ?_
      exact hb
    · obtain ⟨b, hb, hb'⟩ := zero ty (t == 2) (by simp [c1])
      refine ⟨b, ?_, hb'⟩
      unfold laminaref17_Valid.f
      refine Ev.bind0 hty ?_
      refine Ev.pos rfl ?_
      refine Ev.neg c1 ?_
      exact hb
  · refine ⟨false, ?_, ⟨fun h => (by cases h), fun e => absurd e.ty (by omega)⟩⟩
    have hty : laminaref17_isType.f t = some false := by
      unfold laminaref17_isType.f
      by_cases c1 : t ≥ 0
      · rw [if_pos c1, decide_eq_false (by omega)]
      · rw [if_neg c1]
    unfold laminaref17_Valid.f
    refine Ev.bind0 hty ?_
    refine Ev.neg (by decide) ?_
    exact Ev.now _

/-! ### batches: validity and equality by the reference -/
structure VB (cols : List S48) (n : Int) (all : Bool) (sel : List Int) : Prop where
  h0 : 0 ≤ n
  ha : all = true → sel = []
  hc : ∀ i : Nat, i < cols.length → V17 (cols.getD i z48).f0 (cols.getD i z48).f1 (cols.getD i z48).f2 (cols.getD i z48).f3 ∧ ((cols.getD i z48).f3.length : Int) = n
  hs : vsl n none sel = true
theorem vb_l1 (cols : List S48) (n : Int) (all : Bool) (l : List Int) (hl : l.length ≤ 9223372036854775807) : ∀ (r : List Int) (i : Nat), l.drop i = r → Ev (fun k => laminaref17_ValidBatch.l1 k i cols n all l) (vsl n (prvI l i) r) := by
  intro r
  induction r with
  | nil =>
    intro i h
    have := drop_ge h
    refine Ev.succ ?_
    simp only [laminaref17_ValidBatch.l1]
    refine Ev.neg (by omega) ?_
    exact Ev.now _
  | cons x r ih =>
    intro i h
    have hlt := drop_lt h
    have hn := ih (i + 1) (drop_next h)
    have hp : prvI l (i + 1) = some x := by unfold prvI; rw [if_neg (by omega), show i + 1 - 1 = i by omega, rd_drop h]
    rw [hp] at hn
    refine Ev.succ ?_
    simp only [laminaref17_ValidBatch.l1, rd_drop h, w64_add1 i (by omega)]
    refine Ev.pos (by omega) ?_
    refine Ev.pos (by omega) ?_
    unfold vsl
    by_cases c1 : x < 0
    · refine Ev.pos c1 ?_
      exact Ev.eq (Ev.now _) (by rw [if_pos (.inl c1)])
    refine Ev.neg c1 ?_
    by_cases c2 : x ≥ n
    · refine Ev.pos c2 ?_
      exact Ev.eq (Ev.now _) (by rw [if_pos (.inr (.inl c2))])
    refine Ev.neg c2 ?_
    by_cases c3 : (i : Int) > 0
    · refine Ev.pos c3 ?_
      simp only [w64_sub1 i (by omega) (by omega)]
      refine Ev.pos (by omega) ?_
      refine Ev.pos (by omega) ?_
      have he : prvI l i = some (rd l ((i - 1 : Nat) : Int)) := by unfold prvI; rw [if_neg (by omega)]
      by_cases c4 : x ≤ rd l ((i - 1 : Nat) : Int)
      · refine Ev.pos c4 ?_
        exact Ev.eq (Ev.now _) (by rw [if_pos (.inr (.inr (by rw [he]; simpa [pge] using c4)))])
      · refine Ev.neg c4 ?_
        refine Ev.eq hn ?_
        rw [if_neg]
        rintro (h' | h' | h')
        · omega
        · omega
        · rw [he] at h'; simp [pge] at h'; omega
    · refine Ev.neg c3 ?_
      refine Ev.eq hn ?_
      rw [if_neg]
      rintro (h' | h' | h')
      · omega
      · omega
      · unfold prvI at h'; rw [if_pos (by omega)] at h'; simp [pge] at h'
theorem rd_T_nat (cols : List S48) (i : Nat) : rd_T48 cols (i : Int) = cols.getD i z48 := by simp [rd_T48]
def colok (cols : List S48) (n : Int) (j : Nat) : Prop := V17 (cols.getD j z48).f0 (cols.getD j z48).f1 (cols.getD j z48).f2 (cols.getD j z48).f3 ∧ ((cols.getD j z48).f3.length : Int) = n
theorem vb_l0 (cols : List S48) (n : Int) (all : Bool) (sel : List Int) (hsel : sel.length ≤ 9223372036854775807) (hcl : cols.length ≤ 1000000) (hok : ∀ c ∈ cols, c.f3.length ≤ 9223372036854775807) :
    ∀ (d i : Nat), i + d = cols.length → ∃ b, Ev (fun k => laminaref17_ValidBatch.l0 k (i : Int) cols n all sel) b ∧ (b = true ↔ vsl n none sel = true ∧ ∀ j : Nat, i ≤ j → j < cols.length → colok cols n j) := by
  intro d
  induction d with
  | zero =>
    intro i h
    refine ⟨vsl n none sel, ?_, ⟨fun e => ⟨e, fun j h1 h2 => by omega⟩, fun e => e.1⟩⟩
    refine Ev.succ ?_
    simp only [laminaref17_ValidBatch.l0]
    refine Ev.neg (by omega) ?_
    have := vb_l1 cols n all sel hsel sel 0 rfl
    simpa [prvI] using this
  | succ d ih =>
    intro i h
    obtain ⟨b, hb, hb'⟩ := ih (i + 1) (by omega)
    have hmem : cols.getD i z48 ∈ cols := by
      rw [List.getD_eq_getElem?_getD, List.getElem?_eq_getElem (by omega)]; exact List.getElem_mem _
    obtain ⟨c, hc, hc'⟩ := v17_ev (cols.getD i z48).f0 (cols.getD i z48).f1 (cols.getD i z48).f2 (cols.getD i z48).f3 (hok _ hmem)
    have no : ¬ colok cols n i → ∀ g : Nat → Option Bool, Ev g false → ∃ b, Ev g b ∧ (b = true ↔ vsl n none sel = true ∧ ∀ j : Nat, i ≤ j → j < cols.length → colok cols n j) := fun hc g hg => ⟨false, hg, ⟨fun e => (by cases e), fun e => absurd (e.2 i (Nat.le_refl _) (by omega)) hc⟩⟩
    by_cases c1 : c = true
    · by_cases c2 : ((cols.getD i z48).f3.length : Int) = n
      · refine ⟨b, ?_, hb'.trans ⟨fun e => ⟨e.1, fun j h1 h2 => ?_⟩, fun e => ⟨e.1, fun j h1 h2 => e.2 j (by omega) h2⟩⟩⟩
        · refine Ev.succ ?_
          simp only [laminaref17_ValidBatch.l0, rd_T_nat, w64_add1 i (by omega)]
          refine Ev.pos (by omega) ?_
          refine Ev.pos (by omega) ?_
          refine Ev.bind hc ?_
          refine Ev.pos c1 ?_
          refine Ev.pos c2 ?_
          exact hb
        · by_cases e2 : j = i
          · subst e2; exact ⟨hc'.1 c1, c2⟩
          · exact e.2 j (by omega) h2
      · refine no (fun h => c2 h.2) _ ?_
        refine Ev.succ ?_
        simp only [laminaref17_ValidBatch.l0, rd_T_nat, w64_add1 i (by omega)]
        refine Ev.pos (by omega) ?_
        refine Ev.pos (by omega) ?_
        refine Ev.bind hc ?_
        refine Ev.pos c1 ?_
        refine Ev.neg c2 ?_
        exact Ev.now _
    · refine no (fun h => c1 (hc'.2 h.1)) _ ?_
      refine Ev.succ ?_
      simp only [laminaref17_ValidBatch.l0, rd_T_nat, w64_add1 i (by omega)]
      refine Ev.pos (by omega) ?_
      refine Ev.pos (by omega) ?_
      refine Ev.bind hc ?_
      refine Ev.neg c1 ?_
      exact Ev.now _
theorem vb_ev (cols : List S48) (n : Int) (all : Bool) (sel : List Int) (hsel : sel.length ≤ 9223372036854775807) (hcl : cols.length ≤ 1000000) (hok : ∀ c ∈ cols, c.f3.length ≤ 9223372036854775807) :
    ∃ b, Ev (fun k => laminaref17_ValidBatch.f k cols n all sel) b ∧ (b = true ↔ VB cols n all sel) := by
  have yes : Ev (fun k => laminaref17_ValidBatch.j0 k true cols n all sel) false := by
    refine Ev.succ ?_
    simp only [laminaref17_ValidBatch.j0]
    refine Ev.pos (by decide) ?_
    exact Ev.now _
  obtain ⟨b, hb, hb'⟩ := vb_l0 cols n all sel hsel hcl hok cols.length 0 (by omega)
  have no : Ev (fun k => laminaref17_ValidBatch.j0 k false cols n all sel) b := by
    refine Ev.succ ?_
    simp only [laminaref17_ValidBatch.j0]
    refine Ev.neg (by decide) ?_
    exact hb
  unfold laminaref17_ValidBatch.f
  by_cases c1 : n < 0
  · refine ⟨false, ?_, ⟨fun e => (by cases e), fun e => absurd e.h0 (by omega)⟩⟩
    refine Ev.pos c1 ?_
    exact yes
  by_cases c2 : all = true
  · by_cases c3 : (sel.length : Int) > 0
    · refine ⟨false, ?_, ⟨fun e => (by cases e), fun e => (by have := e.ha c2; rw [this] at c3; simp at c3)⟩⟩
      refine Ev.neg c1 ?_
      refine Ev.pos c2 ?_
      rw [decide_eq_true c3]
      exact yes
    · refine ⟨b, ?_, hb'.trans ⟨fun e => ⟨by omega, fun _ => List.eq_nil_of_length_eq_zero (by omega), fun i hi => e.2 i (by omega) hi, e.1⟩, fun e => ⟨e.hs, fun j _ h2 => e.hc j h2⟩⟩⟩
      refine Ev.neg c1 ?_
      refine Ev.pos c2 ?_
      rw [decide_eq_false c3]
      exact no
  · refine ⟨b, ?_, hb'.trans ⟨fun e => ⟨by omega, fun h => absurd h c2, fun i hi => e.2 i (by omega) hi, e.1⟩, fun e => ⟨e.hs, fun j _ h2 => e.hc j h2⟩⟩⟩
    refine Ev.neg c1 ?_
    refine Ev.neg c2 ?_
    exact no

theorem eqv_l2 (t : Int) (is : List Int) (ts : List ByteArray) (ns : List Bool) (ht : ts.length ≤ 9223372036854775807) : ∀ (d i : Nat), i + d = ts.length → Ev (fun k => laminaref17_Equal.l2 k (i : Int) t is ts ns t is ts ns) true := by
  intro d
  induction d with
  | zero =>
    intro i h
    refine Ev.succ ?_
    simp only [laminaref17_Equal.l2]
    refine Ev.neg (by omega) ?_
    exact Ev.now _
  | succ d ih =>
    intro i h
    refine Ev.succ ?_
    simp only [laminaref17_Equal.l2, w64_add1 i (by omega)]
    refine Ev.pos (by omega) ?_
    refine Ev.pos (by omega) ?_
    refine Ev.pos (by omega) ?_
    refine Ev.pos trivial ?_
    exact ih (i + 1) (by omega)
theorem eqv_l1 (t : Int) (is : List Int) (ts : List ByteArray) (ns : List Bool) (hi : is.length ≤ 9223372036854775807) (ht : ts.length ≤ 9223372036854775807) : ∀ (d i : Nat), i + d = is.length → Ev (fun k => laminaref17_Equal.l1 k (i : Int) t is ts ns t is ts ns) true := by
  intro d
  induction d with
  | zero =>
    intro i h
    refine Ev.succ ?_
    simp only [laminaref17_Equal.l1]
    refine Ev.neg (by omega) ?_
    exact eqv_l2 t is ts ns ht ts.length 0 (by omega)
  | succ d ih =>
    intro i h
    refine Ev.succ ?_
    simp only [laminaref17_Equal.l1, w64_add1 i (by omega)]
    refine Ev.pos (by omega) ?_
    refine Ev.pos (by omega) ?_
    refine Ev.pos (by omega) ?_
    refine Ev.pos trivial ?_
    exact ih (i + 1) (by omega)
theorem eqv_l0 (t : Int) (is : List Int) (ts : List ByteArray) (ns : List Bool) (hi : is.length ≤ 9223372036854775807) (ht : ts.length ≤ 9223372036854775807) (hn : ns.length ≤ 9223372036854775807) : ∀ (d i : Nat), i + d = ns.length → Ev (fun k => laminaref17_Equal.l0 k (i : Int) t is ts ns t is ts ns) true := by
  intro d
  induction d with
  | zero =>
    intro i h
    refine Ev.succ ?_
    simp only [laminaref17_Equal.l0]
    refine Ev.neg (by omega) ?_
    exact eqv_l1 t is ts ns hi ht is.length 0 (by omega)
  | succ d ih =>
    intro i h
    refine Ev.succ ?_
    simp only [laminaref17_Equal.l0, w64_add1 i (by omega)]
    refine Ev.pos (by omega) ?_
    refine Ev.pos (by omega) ?_
    refine Ev.pos (by omega) ?_
    refine Ev.neg (by simp) ?_
    exact ih (i + 1) (by omega)
theorem eqv_ev (t : Int) (is : List Int) (ts : List ByteArray) (ns : List Bool) (hi : is.length ≤ 9223372036854775807) (ht : ts.length ≤ 9223372036854775807) (hn : ns.length ≤ 9223372036854775807) : Ev (fun k => laminaref17_Equal.f k t is ts ns t is ts ns) true := by
  unfold laminaref17_Equal.f
  refine Ev.pos rfl ?_
  refine Ev.pos rfl ?_
  refine Ev.pos rfl ?_
  refine Ev.succ ?_
  simp only [laminaref17_Equal.j0]
  refine Ev.neg (by simp) ?_
  exact eqv_l0 t is ts ns hi ht hn ns.length 0 (by omega)
theorem eqb_l0 (cols : List S48) (n : Int) (all : Bool) (sel : List Int) (hcl : cols.length ≤ 1000000) (hok : ∀ c ∈ cols, c.f1.length ≤ 9223372036854775807 ∧ c.f2.length ≤ 9223372036854775807 ∧ c.f3.length ≤ 9223372036854775807) :
    ∀ (d i : Nat), i + d = cols.length → Ev (fun k => laminaref17_EqualBatches.l0 k (i : Int) cols n all sel cols n all sel) true := by
  intro d
  induction d with
  | zero =>
    intro i h
    refine Ev.succ ?_
    simp only [laminaref17_EqualBatches.l0]
    refine Ev.neg (by omega) ?_
    exact Ev.now _
  | succ d ih =>
    intro i h
    have hmem : cols.getD i z48 ∈ cols := by
      rw [List.getD_eq_getElem?_getD, List.getElem?_eq_getElem (by omega)]; exact List.getElem_mem _
    obtain ⟨o1, o2, o3⟩ := hok _ hmem
    refine Ev.succ ?_
    simp only [laminaref17_EqualBatches.l0, rd_T_nat, w64_add1 i (by omega)]
    refine Ev.pos (by omega) ?_
    refine Ev.pos (by omega) ?_
    refine Ev.pos (by omega) ?_
    refine Ev.bind (eqv_ev _ _ _ _ o1 o2 o3) ?_
    refine Ev.pos rfl ?_
    exact ih (i + 1) (by omega)
theorem eqb_ev (cols : List S48) (n : Int) (all : Bool) (sel : List Int) (hs : sel.length < 9223372036854775807) (hcl : cols.length ≤ 1000000) (hok : ∀ c ∈ cols, c.f1.length ≤ 9223372036854775807 ∧ c.f2.length ≤ 9223372036854775807 ∧ c.f3.length ≤ 9223372036854775807) :
    Ev (fun k => laminaref17_EqualBatches.f k cols n all sel cols n all sel) true := by
  unfold laminaref17_EqualBatches.f
  refine Ev.pos rfl ?_
  refine Ev.neg (by simp) ?_
  refine Ev.bind (ints_ev _ (by omega)) ?_
  refine Ev.pos rfl ?_
  refine Ev.succ ?_
  simp only [laminaref17_EqualBatches.j0]
  refine Ev.neg (by simp) ?_
  exact eqb_l0 cols n all sel hcl hok cols.length 0 (by omega)

theorem awake_ev : Ev (fun k => laminalaw41_awake.f k) true := Ev.of laminalaw41_awake.mono (k := 200) (by decide +kernel)
/-! ### lists of rows -/
theorem vsl_of (n : Int) : ∀ (l : List Int) (p : Option Int), (∀ x ∈ l, 0 ≤ x ∧ x < n) → l.Pairwise (· < ·) → (∀ x ∈ l, ∀ q, p = some q → q < x) → vsl n p l = true := by
  intro l
  induction l with
  | nil => intro p _ _ _; rfl
  | cons x l ih =>
    intro p h1 h2 h3
    have hx := h1 x (List.mem_cons_self)
    unfold vsl
    rw [if_neg]
    · rw [List.pairwise_cons] at h2
      exact ih (some x) (fun y hy => h1 y (List.mem_cons_of_mem _ hy)) h2.2 (fun y hy q hq => by cases hq; exact h2.1 y hy)
    · rintro (h | h | h)
      · omega
      · omega
      · cases p with
        | none => simp [pge] at h
        | some q => have := h3 x (List.mem_cons_self) q rfl; simp [pge] at h; omega
theorem rd_getElem (l : List Int) (i : Nat) (h : i < l.length) : rd l (i : Int) = l[i] := by
  rw [rd_nat, List.getD_eq_getElem?_getD, List.getElem?_eq_getElem h]; rfl
theorem rd_mem (l : List Int) (x : Int) (h0 : 0 ≤ x) (h1 : x < (l.length : Int)) : rd l x ∈ l := by
  obtain ⟨i, rfl⟩ := Int.eq_ofNat_of_zero_le h0
  rw [rd_getElem l i (by omega)]; exact List.getElem_mem _
theorem rd_lt (l : List Int) (h : l.Pairwise (· < ·)) (x y : Int) (h0 : 0 ≤ x) (h1 : x < y) (h2 : y < (l.length : Int)) : rd l x < rd l y := by
  obtain ⟨i, rfl⟩ := Int.eq_ofNat_of_zero_le h0
  obtain ⟨j, rfl⟩ := Int.eq_ofNat_of_zero_le (show 0 ≤ y by omega)
  rw [rd_getElem l i (by omega), rd_getElem l j (by omega)]
  exact List.pairwise_iff_getElem.1 h i j (by omega) (by omega) (by omega)
theorem rd_map (f : Int → Int) (l : List Int) (x : Int) (h0 : 0 ≤ x) (h1 : x < (l.length : Int)) : rd (l.map f) x = f (rd l x) := by
  obtain ⟨i, rfl⟩ := Int.eq_ofNat_of_zero_le h0
  rw [rd_getElem _ i (by rw [List.length_map]; omega), rd_getElem l i (by omega), List.getElem_map]
theorem rd_allN (n : Int) (x : Int) (h0 : 0 ≤ x) (h1 : x < n) : rd (allN n) x = x := by
  obtain ⟨i, rfl⟩ := Int.eq_ofNat_of_zero_le h0
  rw [rd_getElem _ i (by have := allN_len n; unfold allN; rw [List.length_map, List.length_range]; omega)]
  simp [allN]
theorem allN_length (n : Int) (h : 0 ≤ n) : ((allN n).length : Int) = n := by unfold allN; rw [List.length_map, List.length_range]; omega
theorem inc_full (l : List Int) (n : Int) (h1 : ∀ x ∈ l, 0 ≤ x ∧ x < n) (h2 : l.Pairwise (· < ·)) (h3 : (l.length : Int) = n) : l = allN n := by
  have ge : ∀ i : Nat, i < l.length → (i : Int) ≤ rd l i := by
    intro i
    induction i with
    | zero => intro h; exact (h1 _ (rd_mem l _ (by omega) (by omega))).1
    | succ i ih =>
      intro h
      have := rd_lt l h2 (i : Int) ((i + 1 : Nat) : Int) (by omega) (by omega) (by omega)
      have := ih (by omega)
      omega
  have le : ∀ j i : Nat, i + j + 1 = l.length → rd l i ≤ (i : Int) := by
    intro j
    induction j with
    | zero => intro i h; have := (h1 _ (rd_mem l (i : Int) (by omega) (by omega))).2; omega
    | succ j ih =>
      intro i h
      have h4 := rd_lt l h2 (i : Int) ((i + 1 : Nat) : Int) (by omega) (by omega) (by omega)
      have h5 := ih (i + 1) (by omega)
      omega
  apply List.ext_getElem
  · have := allN_length n (by omega); omega
  · intro i hi hj
    have a1 := ge i hi
    have a2 := le (l.length - 1 - i) i (by omega)
    have a3 := rd_allN n (i : Int) (by omega) (by omega)
    rw [rd_getElem l i hi] at a1 a2
    rw [rd_getElem _ i hj] at a3
    omega
def RS (n : Int) (all : Bool) (sel : List Int) : List Int := if all = true then allN n else sel
/-! ### values of vectors, rows of batches -/
def atv (t : Int) (is : List Int) (ts : List ByteArray) (ns : List Bool) (x : Int) : Int × Int × ByteArray :=
  if x < 0 ∨ (ns.length : Int) ≤ x ∨ rdOf false ns x = true then (0, 0, (⟨#[]⟩ : ByteArray)) else if t = 3 then (3, 0, rdOf ByteArray.empty ts x) else (t, rd is x, (⟨#[]⟩ : ByteArray))
theorem atv_ev (t : Int) (is : List Int) (ts : List ByteArray) (ns : List Bool) (hv : V17 t is ts ns) (x : Int) : Ev (fun k => laminaref17_At.f k t is ts ns x) (atv t is ts ns x) := by
  have nul : Ev (fun k => laminaref17_At.j0 k x true t is ts ns) (0, 0, (⟨#[]⟩ : ByteArray)) := by
    refine Ev.succ ?_
    simp only [laminaref17_At.j0]
    refine Ev.pos (by decide) ?_
    exact Ev.now _
  unfold laminaref17_At.f
  by_cases c1 : x < 0
  · refine Ev.pos c1 ?_
    exact Ev.eq nul (by unfold atv; rw [if_pos (.inl c1)])
  refine Ev.neg c1 ?_
  by_cases c2 : x ≥ (ns.length : Int)
  · refine Ev.pos c2 ?_
    exact Ev.eq nul (by unfold atv; rw [if_pos (.inr (.inl c2))])
  refine Ev.neg c2 ?_
  refine Ev.pos (by omega) ?_
  refine Ev.pos (by omega) ?_
  by_cases c3 : rdOf false ns x = true
  · rw [c3]
    exact Ev.eq nul (by unfold atv; rw [if_pos (.inr (.inr c3))])
  have e : atv t is ts ns x = if t = 3 then (3, 0, rdOf ByteArray.empty ts x) else (t, rd is x, (⟨#[]⟩ : ByteArray)) := by
    unfold atv; rw [if_neg]; rintro (h | h | h)
    · exact c1 h
    · exact c2 h
    · exact c3 h
  rw [e, show rdOf false ns x = false by simpa using c3]
  have li := hv.li
  have lt := hv.lt
  refine Ev.succ ?_
  simp only [laminaref17_At.j0]
  refine Ev.neg (by decide) ?_
  by_cases c4 : t = 3
  · rw [if_pos c4] at lt
    refine Ev.pos c4 ?_
    refine Ev.pos (by omega) ?_
    refine Ev.pos (by omega) ?_
    exact Ev.eq (Ev.now _) (by rw [if_pos c4])
  · have h12 : t = 1 ∨ t = 2 := by
      rcases hv.ty with h | h | h | h
      · exfalso
        have he := hv.en x.toNat (by omega)
        unfold laminaref17_entry.f at he
        rw [if_pos h, if_pos (by omega), if_pos (by omega), show ((x.toNat : Nat) : Int) = x by omega] at he
        exact c3 (Option.some.inj he)
      · exact .inl h
      · exact .inr h
      · exact absurd h c4
    rw [if_pos h12] at li
    refine Ev.neg c4 ?_
    refine Ev.pos (by omega) ?_
    refine Ev.pos (by omega) ?_
    exact Ev.eq (Ev.now _) (by rw [if_neg c4])
def cellv (x : Int) (c : S48) : S42 := ⟨(atv c.f0 c.f1 c.f2 c.f3 x).1, (atv c.f0 c.f1 c.f2 c.f3 x).2.1, (atv c.f0 c.f1 c.f2 c.f3 x).2.2⟩
def rowv (cols : List S48) (x : Int) : List S42 := cols.map (cellv x)
theorem row_l0 (cols : List S48) (n : Int) (all : Bool) (sel : List Int) (hcl : cols.length ≤ 10) (hv : ∀ i : Nat, i < cols.length → V17 (cols.getD i z48).f0 (cols.getD i z48).f1 (cols.getD i z48).f2 (cols.getD i z48).f3) (x : Int) :
    ∀ (r : List S48) (i : Nat) (acc : List S42), cols.drop i = r → acc.length = i → Ev (fun k => laminaref17_row.l0 k x acc i cols n all sel) (acc ++ r.map (cellv x)) := by
  intro r
  induction r with
  | nil =>
    intro i acc h _
    have := drop_ge h
    refine Ev.succ ?_
    simp only [laminaref17_row.l0]
    refine Ev.neg (by omega) ?_
    exact Ev.eq (Ev.now _) (by simp)
  | cons c r ih =>
    intro i acc h ha
    have hlt := drop_lt h
    have hc : cols.getD i z48 = c := by rw [List.getD_eq_getElem?_getD, ← List.head?_drop, h]; rfl
    have hvi := hv i hlt
    rw [hc] at hvi
    refine Ev.succ ?_
    simp only [laminaref17_row.l0, rd_T_nat, hc, w64_add1 i (by omega)]
    refine Ev.pos (by omega) ?_
    refine Ev.pos (by omega) ?_
    refine Ev.bind (atv_ev _ _ _ _ hvi x) ?_
    refine Ev.pos (by omega) ?_
    refine Ev.eq (ih (i + 1) _ (drop_next h) (by simp <;> omega)) ?_
    simp [cellv]
theorem row_ev (cols : List S48) (n : Int) (all : Bool) (sel : List Int) (hcl : cols.length ≤ 10) (hv : ∀ i : Nat, i < cols.length → V17 (cols.getD i z48).f0 (cols.getD i z48).f1 (cols.getD i z48).f2 (cols.getD i z48).f3) (x : Int) :
    Ev (fun k => laminaref17_row.f k cols n all sel x) (rowv cols x) := by
  unfold laminaref17_row.f
  exact row_l0 cols n all sel hcl hv x cols 0 [] rfl rfl
theorem rows_l1 (cols : List S48) (n : Int) (all : Bool) (sel : List Int) (hcl : cols.length ≤ 10) (hs : sel.length ≤ 1000) (hv : ∀ i : Nat, i < cols.length → V17 (cols.getD i z48).f0 (cols.getD i z48).f1 (cols.getD i z48).f2 (cols.getD i z48).f3) :
    ∀ (r : List Int) (i : Nat) (acc : List (List S42)), sel.drop i = r → acc.length = i → Ev (fun k => laminaref17_Rows.l1 k acc i cols n all sel) (acc ++ r.map (rowv cols)) := by
  intro r
  induction r with
  | nil =>
    intro i acc h _
    have := drop_ge h
    refine Ev.succ ?_
    simp only [laminaref17_Rows.l1]
    refine Ev.neg (by omega) ?_
    exact Ev.eq (Ev.now _) (by simp)
  | cons x r ih =>
    intro i acc h ha
    have hlt := drop_lt h
    refine Ev.succ ?_
    simp only [laminaref17_Rows.l1, rd_drop h, w64_add1 i (by omega)]
    refine Ev.pos (by omega) ?_
    refine Ev.pos (by omega) ?_
    refine Ev.bind (row_ev cols n all sel hcl hv x) ?_
    refine Ev.pos (by omega) ?_
    refine Ev.eq (ih (i + 1) _ (drop_next h) (by simp <;> omega)) ?_
    simp
theorem rows_l0 (cols : List S48) (n : Int) (all : Bool) (sel : List Int) (hcl : cols.length ≤ 10) (hn : n ≤ 1000) (hv : ∀ i : Nat, i < cols.length → V17 (cols.getD i z48).f0 (cols.getD i z48).f1 (cols.getD i z48).f2 (cols.getD i z48).f3) :
    ∀ (d i : Nat) (acc : List (List S42)), (i : Int) + d = n → acc = ((List.range i).map Int.ofNat).map (rowv cols) → Ev (fun k => laminaref17_Rows.l0 k acc i cols n all sel) ((allN n).map (rowv cols)) := by
  intro d
  induction d with
  | zero =>
    intro i acc h ha
    refine Ev.succ ?_
    simp only [laminaref17_Rows.l0]
    refine Ev.neg (by omega) ?_
    exact Ev.eq (Ev.now _) (by rw [ha]; unfold allN; rw [show n.toNat = i by omega])
  | succ d ih =>
    intro i acc h ha
    have hl : acc.length = i := by rw [ha]; simp
    refine Ev.succ ?_
    simp only [laminaref17_Rows.l0, w64_add1 i (by omega)]
    refine Ev.pos (by omega) ?_
    refine Ev.bind (row_ev cols n all sel hcl hv _) ?_
    refine Ev.pos (by omega) ?_
    refine ih (i + 1) _ (by omega) ?_
    rw [ha, List.range_succ, List.map_append, List.map_append]; rfl
theorem rows_ev (cols : List S48) (n : Int) (all : Bool) (sel : List Int) (hcl : cols.length ≤ 10) (hn0 : 0 ≤ n) (hn : n ≤ 1000) (hs : sel.length ≤ 1000) (hv : ∀ i : Nat, i < cols.length → V17 (cols.getD i z48).f0 (cols.getD i z48).f1 (cols.getD i z48).f2 (cols.getD i z48).f3) :
    Ev (fun k => laminaref17_Rows.f k cols n all sel) ((RS n all sel).map (rowv cols)) := by
  unfold laminaref17_Rows.f RS
  by_cases c : all = true
  · refine Ev.pos c ?_
    rw [if_pos c]
    exact rows_l0 cols n all sel hcl hn hv n.toNat 0 [] (by omega) rfl
  · refine Ev.neg c ?_
    rw [if_neg c]
    exact rows_l1 cols n all sel hcl hs hv sel 0 [] rfl rfl
/-! ### the law -/
theorem g_rs (n : Int) (all : Bool) (sel : List Int) (hn : 0 ≤ n) (x : Int) (h0 : 0 ≤ x) (h1 : x < ((RS n all sel).length : Int)) : selection_Apply.g all sel x = rd (RS n all sel) x := by
  unfold selection_Apply.g RS at *
  by_cases c : all = true
  · rw [if_pos c] at h1 ⊢
    rw [if_pos c]
    rw [rd_allN n x h0 (by have := allN_length n hn; omega)]
  · rw [if_neg c] at h1 ⊢
    rw [if_neg c]
theorem l1_ev (s t : List Int) (A B : List (List S42)) (b1 : List S48) (b2 : Int) (b3 : Bool) (b4 : List Int) (e1 : List S48) (e2 : Int) (e3 : Bool) (e4 : List Int) (x y : Int) (i : Nat) (hx0 : 0 ≤ x) (hx : x < (A.length : Int)) (hy0 : 0 ≤ y) (hy : y < (B.length : Int)) (hab : rd_L11 A x = rd_L11 B y) (hl : (rd_L11 A x).length ≤ 1000)
    (hi : i < 9223372036854775807) (hnext : Ev (fun k => laminalaw41_SelectionCompose.l0 k s t A B s (s.length : Int) ((i + 1 : Nat) : Int) b1 b2 b3 b4 e1 e2 e3 e4) true) :
    ∀ (d j : Nat), j + d = (rd_L11 A x).length → Ev (fun k => laminalaw41_SelectionCompose.l1 k s t A B x y s (s.length : Int) (i : Int) ((rd_L11 A x).length : Int) (j : Int) b1 b2 b3 b4 e1 e2 e3 e4) true := by
  intro d
  induction d with
  | zero =>
    intro j h
    refine Ev.succ ?_
    simp only [laminalaw41_SelectionCompose.l1, w64_add1 i hi]
    refine Ev.neg (by omega) ?_
    exact hnext
  | succ d ih =>
    intro j h
    refine Ev.succ ?_
    simp only [laminalaw41_SelectionCompose.l1, w64_add1 j (by omega)]
    refine Ev.pos (by omega) ?_
    refine Ev.pos hx0 ?_
    refine Ev.pos hx ?_
    refine Ev.pos (by omega) ?_
    refine Ev.pos (by omega) ?_
    refine Ev.pos hy0 ?_
    refine Ev.pos hy ?_
    refine Ev.pos (by rw [← hab]; omega) ?_
    refine Ev.neg (by rw [hab]; simp) ?_
    exact ih (j + 1) (by omega)
theorem l0_ev (s t : List Int) (A B : List (List S42)) (b1 : List S48) (b2 : Int) (b3 : Bool) (b4 : List Int) (e1 : List S48) (e2 : Int) (e3 : Bool) (e4 : List Int) (hs : s.length ≤ 1000) (hA : A.length = s.length) (hin : ∀ i : Nat, i < s.length → 0 ≤ rd s i ∧ rd s i < (B.length : Int) ∧ rd_L11 A i = rd_L11 B (rd s i) ∧ (rd_L11 A i).length ≤ 1000)
    (hend : Ev (fun k => laminalaw41_SelectionCompose.l2 k s t ([] : List Int) t (t.length : Int) 0 b1 b2 b3 b4 e1 e2 e3 e4) true) :
    ∀ (d i : Nat), i + d = s.length → Ev (fun k => laminalaw41_SelectionCompose.l0 k s t A B s (s.length : Int) (i : Int) b1 b2 b3 b4 e1 e2 e3 e4) true := by
  intro d
  induction d with
  | zero =>
    intro i h
    refine Ev.succ ?_
    simp only [laminalaw41_SelectionCompose.l0]
    refine Ev.neg (by omega) ?_
    exact hend
  | succ d ih =>
    intro i h
    obtain ⟨h1, h2, h3, h4⟩ := hin i (by omega)
    refine Ev.succ ?_
    simp only [laminalaw41_SelectionCompose.l0]
    refine Ev.pos (by omega) ?_
    refine Ev.pos (by omega) ?_
    refine Ev.pos (by omega) ?_
    refine Ev.pos (by omega) ?_
    refine Ev.pos h1 ?_
    refine Ev.pos h2 ?_
    refine Ev.pos (by rw [h3]) ?_
    exact l1_ev s t A B b1 b2 b3 b4 e1 e2 e3 e4 i (rd s i) i (by omega) (by omega) h1 h2 h3 h4 (by omega) (ih (i + 1) (by omega)) (rd_L11 A i).length 0 (by omega)
theorem l2_ev (s t : List Int) (b1 : List S48) (b2 : Int) (b3 : Bool) (b4 : List Int) (e1 : List S48) (e2 : Int) (e3 : Bool) (e4 : List Int) (ht : t.length ≤ 1000) (hin : ∀ x ∈ t, 0 ≤ x ∧ x < (s.length : Int)) (R : List S48 × Int × Bool × List Int)
    (h1 : selection_Apply.f e1 e2 e3 e4 t = some R) (h2 : selection_Apply.f b1 b2 b3 b4 (t.map (rd s)) = some R) (hR : Ev (fun k => laminaref17_EqualBatches.f k R.1 R.2.1 R.2.2.1 R.2.2.2 R.1 R.2.1 R.2.2.1 R.2.2.2) true) :
    ∀ (r : List Int) (i : Nat) (acc : List Int), t.drop i = r → acc.length = i → acc ++ r.map (rd s) = t.map (rd s) → Ev (fun k => laminalaw41_SelectionCompose.l2 k s t acc t (t.length : Int) (i : Int) b1 b2 b3 b4 e1 e2 e3 e4) true := by
  intro r
  induction r with
  | nil =>
    intro i acc h _ hacc
    have := drop_ge h
    rw [List.map_nil, List.append_nil] at hacc
    refine Ev.succ ?_
    simp only [laminalaw41_SelectionCompose.l2]
    refine Ev.neg (by omega) ?_
    rw [hacc]
    refine Ev.bind0 h1 ?_
    refine Ev.bind0 h2 ?_
    refine Ev.bind hR ?_
    refine Ev.pos rfl ?_
    exact Ev.bind awake_ev (Ev.now _)
  | cons x r ih =>
    intro i acc h ha hacc
    have hlt := drop_lt h
    have hx := hin x (by
      have : x ∈ t.drop i := by rw [h]; exact List.mem_cons_self
      exact List.mem_of_mem_drop this)
    refine Ev.succ ?_
    simp only [laminalaw41_SelectionCompose.l2, rd_drop h, w64_add1 i (by omega)]
    refine Ev.pos (by omega) ?_
    refine Ev.pos (by omega) ?_
    refine Ev.pos (by omega) ?_
    refine Ev.pos hx.1 ?_
    refine Ev.pos hx.2 ?_
    refine Ev.pos (by omega) ?_
    exact ih (i + 1) _ (drop_next h) (by simp <;> omega) (by rw [← hacc]; simp)
theorem apply_some (cols : List S48) (n : Int) (all : Bool) (sel l : List Int) (hn : 0 ≤ n) (hl : l.length ≤ 1000) (hin : ∀ x ∈ l, 0 ≤ x ∧ x < ((RS n all sel).length : Int)) :
    selection_Apply.f cols n all sel l = some (if (l.length : Int) = n then (cols, n, true, []) else (cols, n, false, l.map (rd (RS n all sel)))) := by
  unfold selection_Apply.f
  by_cases c5 : (l.length : Int) = n
  · rw [if_pos c5, if_pos c5]
  · rw [if_neg c5, if_neg c5, if_pos]
    · rw [List.map_congr_left (fun x hx => g_rs n all sel hn x (hin x hx).1 (hin x hx).2)]
    · simp only [selection_Apply.ok, Bool.and_eq_true, decide_eq_true_eq, Bool.or_eq_true, List.all_eq_true]
      refine ⟨by omega, ?_⟩
      cases all
      · exact .inr (fun x hx => by have := hin x hx; simpa [RS] using this)
      · exact .inl rfl
theorem rd_L_map (cols : List S48) (l : List Int) (x : Int) (h0 : 0 ≤ x) (h1 : x < (l.length : Int)) : rd_L11 (l.map (rowv cols)) x = rowv cols (rd l x) := by
  obtain ⟨i, rfl⟩ := Int.eq_ofNat_of_zero_le h0
  rw [rd_getElem l i (by omega)]
  unfold rd_L11
  rw [Int.toNat_natCast, List.getD_eq_getElem?_getD, List.getElem?_map, List.getElem?_eq_getElem (by omega)]; rfl
theorem SelectionCompose : laminalaw41_SelectionCompose.Pure := by
  intro cols n all sel s t hok hs hs8 ht ht8
  have wake : Ev (fun k => laminalaw41_SelectionCompose.j0 k s t true cols n all sel) true := by
    refine Ev.succ ?_
    simp only [laminalaw41_SelectionCompose.j0]
    refine Ev.pos (by decide) ?_
    exact Ev.bind awake_ev (Ev.now _)
  refine Ev.rounds (g := fun k => laminalaw41_SelectionCompose.f k cols n all sel s t) ?_
  unfold laminalaw41_SelectionCompose.f
  by_cases c1 : n > 100
  · refine Ev.pos c1 ?_
    exact wake
  refine Ev.neg c1 ?_
  by_cases c2 : (cols.length : Int) > 10
  · refine Ev.pos c2 ?_
    exact wake
  refine Ev.neg c2 ?_
  have hsel := hok.2.2.2.1
  have hcols := hok.1.2
  simp only [maxLen] at hsel
  have hok3 : ∀ c ∈ cols, c.f1.length ≤ 9223372036854775807 ∧ c.f2.length ≤ 9223372036854775807 ∧ c.f3.length ≤ 9223372036854775807 := by
    intro c hc
    obtain ⟨_, h1, h2, h3⟩ := hcols c hc
    simp only [maxLen] at h1 h2 h3
    omega
  obtain ⟨b, hb, hb'⟩ := vb_ev cols n all sel (by omega) (by omega) (fun c hc => (hok3 c hc).2.2)
  refine Ev.bind hb ?_
  by_cases c3 : b = true
  · refine Ev.pos c3 ?_
    have hv := hb'.1 c3
    have hv17 : ∀ i : Nat, i < cols.length → V17 (cols.getD i z48).f0 (cols.getD i z48).f1 (cols.getD i z48).f2 (cols.getD i z48).f3 := fun i hi => (hv.hc i hi).1
    have hsl : (sel.length : Int) ≤ 100 := by
      have h1 := hv.h0
      rcases vsl_len hv.hs with h | h
      · omega
      · rw [h]; simp
    -- the rows of b
    have hRl : ((RS n all sel).length : Int) = if all = true then n else (sel.length : Int) := by
      unfold RS; split
      · exact allN_length n hv.h0
      · rfl
    have hRm : laminaref41_Many.f cols n all sel = some ((RS n all sel).length : Int) := by
      unfold laminaref41_Many.f; rw [hRl]; split <;> rfl
    have hRi : (∀ x ∈ RS n all sel, 0 ≤ x ∧ x < n) ∧ (RS n all sel).Pairwise (· < ·) := by
      unfold RS; split
      · refine ⟨fun x hx => ?_, allN_inc n⟩
        unfold allN at hx; simp at hx; obtain ⟨a, ha, rfl⟩ := hx; omega
      · obtain ⟨h1, h2, _⟩ := vsl_all _ _ _ hv.hs; exact ⟨h1, h2⟩
    generalize hR : RS n all sel = R at hRl hRm hRi
    have hRn : (R.length : Int) ≤ 100 := by rw [hRl]; split <;> omega
    refine Ev.bind0 hRm ?_
    refine Ev.bind (rvalid_ev s _ (by omega)) ?_
    by_cases c4 : vsl (R.length : Int) none s = true
    · refine Ev.pos c4 ?_
      refine Ev.bind (rvalid_ev t _ (by omega)) ?_
      by_cases c5 : vsl (s.length : Int) none t = true
      · rw [c5]
        obtain ⟨s1, s2, _⟩ := vsl_all _ _ _ c4
        obtain ⟨t1, t2, _⟩ := vsl_all _ _ _ c5
        have hsl2 : s.length ≤ 100 := by
          rcases vsl_len c4 with h | h
          · omega
          · rw [h]; simp
        have htl2 : t.length ≤ 100 := by
          rcases vsl_len c5 with h | h
          · omega
          · rw [h]; simp
        have hap := apply_some cols n all sel s hv.h0 (by omega) (by rw [hR]; exact s1)
        rw [hR] at hap
        -- the rows of the applied selection
        have hSi : ∀ x ∈ s.map (rd R), 0 ≤ x ∧ x < n := by
          intro x hx
          rw [List.mem_map] at hx
          obtain ⟨y, hy, rfl⟩ := hx
          exact hRi.1 _ (rd_mem R y (s1 y hy).1 (s1 y hy).2)
        have hSp : (s.map (rd R)).Pairwise (· < ·) := by
          rw [List.pairwise_map]
          exact List.Pairwise.imp_of_mem (fun {a b} ha hb hab => rd_lt R hRi.2 a b (s1 a ha).1 hab (s1 b hb).2) s2
        obtain ⟨all', sel', hX, hRX, hlX⟩ : ∃ all' sel', selection_Apply.f cols n all sel s = some (cols, n, all', sel') ∧ RS n all' sel' = s.map (rd R) ∧ VB cols n all' sel' := by
          by_cases c6 : (s.length : Int) = n
          · refine ⟨true, [], by rw [hap, if_pos c6], ?_, ⟨hv.h0, fun _ => rfl, hv.hc, rfl⟩⟩
            unfold RS; rw [if_pos rfl]
            exact (inc_full _ n hSi hSp (by rw [List.length_map]; exact c6)).symm
          · refine ⟨false, s.map (rd R), by rw [hap, if_neg c6], ?_, ⟨hv.h0, fun h => (by cases h), hv.hc, ?_⟩⟩
            · unfold RS; rw [if_neg (by decide)]
            · exact vsl_of n _ none hSi hSp (fun x _ q hq => by cases hq)
        have hsl3 : sel'.length ≤ 1000 := by
          have h1 := hv.h0
          rcases vsl_len hlX.hs with h | h
          · omega
          · rw [h]; simp
        obtain ⟨b', hb1, hb2⟩ := vb_ev cols n all' sel' (by omega) (by omega) (fun c hc => (hok3 c hc).2.2)
        have hMX : laminaref41_Many.f cols n all' sel' = some (s.length : Int) := by
          have h1 : ((RS n all' sel').length : Int) = (s.length : Int) := by rw [hRX, List.length_map]
          unfold RS at h1
          unfold laminaref41_Many.f
          split
          · rename_i h; rw [if_pos h, allN_length n hv.h0] at h1; rw [h1]
          · rename_i h; rw [if_neg h] at h1; rw [h1]
        refine Ev.succ ?_
        simp only [laminalaw41_SelectionCompose.j0]
        refine Ev.neg (by decide) ?_
        refine Ev.bind0 hX ?_
        refine Ev.bind hb1 ?_
        refine Ev.pos (hb2.2 hlX) ?_
        refine Ev.bind0 hMX ?_
        refine Ev.succ ?_
        simp only [laminalaw41_SelectionCompose.j1]
        refine Ev.neg (by simp) ?_
        refine Ev.bind (rows_ev cols n all' sel' (by omega) hv.h0 (by omega) hsl3 hv17) ?_
        refine Ev.bind (rows_ev cols n all sel (by omega) hv.h0 (by omega) (by omega) hv17) ?_
        rw [hRX, hR]
        refine Ev.pos (by simp) ?_
        refine Ev.bind0 hRm ?_
        refine Ev.succ ?_
        simp only [laminalaw41_SelectionCompose.j2]
        refine Ev.neg (by simp) ?_
        have htin : ∀ x ∈ t, 0 ≤ x ∧ x < (s.length : Int) := t1
        have hu : ∀ x ∈ t.map (rd s), 0 ≤ x ∧ x < (R.length : Int) := by
          intro x hx
          rw [List.mem_map] at hx
          obtain ⟨y, hy, rfl⟩ := hx
          exact s1 _ (rd_mem s y (t1 y hy).1 (t1 y hy).2)
        have f1 := apply_some cols n all' sel' t hv.h0 (by omega) (by rw [hRX, List.length_map]; exact t1)
        have f2 := apply_some cols n all sel (t.map (rd s)) hv.h0 (by rw [List.length_map]; omega) (by rw [hR]; exact hu)
        rw [hRX] at f1
        rw [hR, List.length_map, List.map_map] at f2
        have hsame : t.map (rd (s.map (rd R))) = t.map (rd R ∘ rd s) := by
          apply List.map_congr_left
          intro x hx
          exact rd_map (rd R) s x (t1 x hx).1 (t1 x hx).2
        rw [hsame] at f1
        refine l0_ev s t _ _ cols n all sel cols n all' sel' (by omega) (by simp) ?_ ?_ s.length 0 (by omega)
        · intro i hi
          have hm := s1 _ (rd_mem s (i : Int) (by omega) (by omega))
          refine ⟨hm.1, by rw [List.length_map]; exact hm.2, ?_, ?_⟩
          · rw [rd_L_map cols (s.map (rd R)) i (by omega) (by rw [List.length_map]; omega), rd_L_map cols R _ hm.1 hm.2, rd_map _ _ _ (by omega) (by omega)]
          · rw [rd_L_map cols (s.map (rd R)) i (by omega) (by rw [List.length_map]; omega)]
            unfold rowv; rw [List.length_map]; omega
        · refine l2_ev s t cols n all sel cols n all' sel' (by omega) t1 _ f1 f2 ?_ t 0 [] rfl rfl rfl
          by_cases c6 : (t.length : Int) = n
          · simp only [if_pos c6]
            exact eqb_ev cols n true [] (by simp) (by omega) hok3
          · simp only [if_neg c6]
            exact eqb_ev cols n false _ (by rw [List.length_map]; omega) (by omega) hok3
      · rw [Bool.not_eq_true] at c5
        rw [c5]
        exact wake
    · refine Ev.neg c4 ?_
      exact wake
  · refine Ev.neg c3 ?_
    exact wake

end Go.Proofs.Ytijgbhbdmnhanaa.Pure
