/- laminalaw41.SelectionApply returns true for all its arguments (Apply returns the reference's batch for valid batches of at most 300 rows and 10 columns). Conditions: none beyond the row's own (slices and strings of at most 2^47 - 4096 bytes each). -/
import Derived.Test.YtijgbhbdmnhanaaStSelectionApply
import Derived.Test.YtijgbhbdmnhanaaM01
import Derived.Test.YtijgbhbdmnhanaaM02
import Derived.Test.YtijgbhbdmnhanaaM03
import Derived.Test.YtijgbhbdmnhanaaM04
set_option linter.unusedVariables false
set_option linter.unusedSimpArgs false
namespace Go.Proofs.Ytijgbhbdmnhanaa.Pure
open Go Go.RowKit Go.Proofs.Ytijgbhbdmnhanaa.QSelectionApply Go.Proofs.YtijgbhbdmnhanaaW.PrintWords Go.Proofs.YtijgbhbdmnhanaaW.PrintLast Go.Proofs.YtijgbhbdmnhanaaM

/-! ### the reference's selections -/
theorem drop_lt {α : Type} {l r : List α} {i : Nat} {x : α} (h : l.drop i = x :: r) : i < l.length := by
  rcases Nat.lt_or_ge i l.length with h1 | h1
  · exact h1
  · rw [List.drop_of_length_le h1] at h; cases h
theorem drop_ge {α : Type} {l : List α} {i : Nat} (h : l.drop i = []) : l.length ≤ i := by
  rwa [List.drop_eq_nil_iff] at h
theorem drop_next {α : Type} {l r : List α} {i : Nat} {x : α} (h : l.drop i = x :: r) : l.drop (i + 1) = r := by
  rw [← List.drop_drop, h]; rfl
theorem rd_drop {l r : List Int} {i : Nat} {x : Int} (h : l.drop i = x :: r) : rd l (i : Int) = x := by
  rw [rd_nat, List.getD_eq_getElem?_getD, ← List.head?_drop, h]; rfl
def prvI (l : List Int) (i : Nat) : Option Int := if i = 0 then none else some (rd l ((i - 1 : Nat) : Int))
theorem rvalid_l0 (l : List Int) (n : Int) (hl : l.length ≤ 9223372036854775807) : ∀ (r : List Int) (i : Nat), l.drop i = r → Ev (fun k => laminaref41_Valid.l0 k l n i) (vsl n (prvI l i) r) := by
  intro r
  induction r with
  | nil =>
    intro i h
    have := drop_ge h
    refine Ev.succ ?_
    simp only [laminaref41_Valid.l0]
    refine Ev.neg (by omega) ?_
    exact Ev.now _
  | cons x r ih =>
    intro i h
    have hlt := drop_lt h
    have hn := ih (i + 1) (drop_next h)
    have hp : prvI l (i + 1) = some x := by unfold prvI; rw [if_neg (by omega), show i + 1 - 1 = i by omega, rd_drop h]
    rw [hp] at hn
    refine Ev.succ ?_
    simp only [laminaref41_Valid.l0, rd_drop h, w64_add1 i (by omega)]
    refine Ev.pos (by omega) ?_
    refine Ev.pos (by omega) ?_
    unfold vsl
    by_cases c1 : x < 0
    · refine Ev.pos c1 ?_
      exact Ev.eq (Ev.now _) (by rw [if_pos (.inl c1)])
    refine Ev.neg c1 ?_
    by_cases c2 : x ≥ n
    · refine Ev.pos c2 ?_
      exact Ev.eq (Ev.now _) (by rw [if_pos (.inr (.inl c2))])
    refine Ev.neg c2 ?_
    by_cases c3 : (i : Int) > 0
    · refine Ev.pos c3 ?_
      simp only [w64_sub1 i (by omega) (by omega)]
      refine Ev.pos (by omega) ?_
      refine Ev.pos (by omega) ?_
      have he : prvI l i = some (rd l ((i - 1 : Nat) : Int)) := by unfold prvI; rw [if_neg (by omega)]
      by_cases c4 : x ≤ rd l ((i - 1 : Nat) : Int)
      · refine Ev.pos c4 ?_
        exact Ev.eq (Ev.now _) (by rw [if_pos (.inr (.inr (by rw [he]; simpa [pge] using c4)))])
      · refine Ev.neg c4 ?_
        refine Ev.eq hn ?_
        rw [if_neg]
        rintro (h' | h' | h')
        · omega
        · omega
        · rw [he] at h'; simp [pge] at h'; omega
    · refine Ev.neg c3 ?_
      refine Ev.eq hn ?_
      rw [if_neg]
      rintro (h' | h' | h')
      · omega
      · omega
      · unfold prvI at h'; rw [if_pos (by omega)] at h'; simp [pge] at h'
theorem rvalid_ev (l : List Int) (n : Int) (hl : l.length ≤ 9223372036854775807) : Ev (fun k => laminaref41_Valid.f k l n) (vsl n none l) := by
  have := rvalid_l0 l n hl l 0 rfl
  unfold laminaref41_Valid.f
  simpa [prvI] using this
theorem ints_l0 (l : List Int) (hl : l.length < 9223372036854775808) : ∀ (r : List Int) (i : Nat), l.drop i = r → Ev (fun k => laminaref17_Ints.l0 k l l i) true := by
  intro r
  induction r with
  | nil =>
    intro i h
    have := drop_ge h
    refine Ev.succ ?_
    simp only [laminaref17_Ints.l0]
    refine Ev.neg (by omega) ?_
    exact Ev.now _
  | cons x r ih =>
    intro i h
    have hlt := drop_lt h
    refine Ev.succ ?_
    simp only [laminaref17_Ints.l0, w64_add1 i (by omega)]
    refine Ev.pos (by omega) ?_
    refine Ev.pos (by omega) ?_
    refine Ev.pos (by omega) ?_
    refine Ev.pos trivial ?_
    exact ih (i + 1) (drop_next h)
theorem ints_ev (l : List Int) (hl : l.length < 9223372036854775808) : Ev (fun k => laminaref17_Ints.f k l l) true := by
  unfold laminaref17_Ints.f
  refine Ev.pos rfl ?_
  exact ints_l0 l hl l 0 rfl

/-! ### vectors: validity by the reference -/
structure V17 (t : Int) (is : List Int) (ts : List ByteArray) (ns : List Bool) : Prop where
  ty : t = 0 ∨ t = 1 ∨ t = 2 ∨ t = 3
  li : is.length = if t = 1 ∨ t = 2 then ns.length else 0
  lt : ts.length = if t = 3 then ns.length else 0
  en : ∀ i : Nat, i < ns.length → laminaref17_entry.f t is ts ns (i : Int) = some true
theorem entry_some (t : Int) (is : List Int) (ts : List ByteArray) (ns : List Bool) (ty : t = 0 ∨ t = 1 ∨ t = 2 ∨ t = 3) (li : is.length = if t = 1 ∨ t = 2 then ns.length else 0) (lt : ts.length = if t = 3 then ns.length else 0) (i : Nat) (hi : i < ns.length) : ∃ b, laminaref17_entry.f t is ts ns (i : Int) = some b := by
  have h0 : (0 : Int) ≤ (i : Int) := by omega
  have h1 : (i : Int) < (ns.length : Int) := by omega
  unfold laminaref17_entry.f
  rcases ty with rfl | rfl | rfl | rfl
  · rw [if_pos rfl, if_pos h0, if_pos h1]; exact ⟨_, rfl⟩
  · have h2 : (i : Int) < (is.length : Int) := by simp at li; omega
    rw [if_neg (by decide), if_neg (by decide), if_pos rfl, if_pos h0, if_pos h2]
    split
    · exact ⟨_, rfl⟩
    · split <;> exact ⟨_, rfl⟩
  · have h2 : (i : Int) < (is.length : Int) := by simp at li; omega
    rw [if_neg (by decide), if_neg (by decide), if_neg (by decide), if_pos h0, if_pos h2]
    split
    · exact ⟨_, rfl⟩
    · exact ⟨_, rfl⟩
  · have h2 : (i : Int) < (ts.length : Int) := by simp at lt; omega
    rw [if_neg (by decide), if_pos rfl, if_pos h0, if_pos h2]
    split
    · split <;> exact ⟨_, rfl⟩
    · exact ⟨_, rfl⟩
theorem v17_l0 (t : Int) (is : List Int) (ts : List ByteArray) (ns : List Bool) (ty : t = 0 ∨ t = 1 ∨ t = 2 ∨ t = 3) (li : is.length = if t = 1 ∨ t = 2 then ns.length else 0) (lt : ts.length = if t = 3 then ns.length else 0) (hn : ns.length ≤ 9223372036854775807) :
    ∀ (d i : Nat), i + d = ns.length → ∃ b, Ev (fun k => laminaref17_Valid.l0 k (i : Int) t is ts ns) b ∧ (b = true ↔ ∀ j : Nat, i ≤ j → j < ns.length → laminaref17_entry.f t is ts ns (j : Int) = some true) := by
  intro d
  induction d with
  | zero =>
    intro i h
    refine ⟨true, ?_, by simp; intro j h1 h2; omega⟩
    refine Ev.succ ?_
    simp only [laminaref17_Valid.l0]
    refine Ev.neg (by omega) ?_
    exact Ev.now _
  | succ d ih =>
    intro i h
    obtain ⟨b, hb, hb'⟩ := ih (i + 1) (by omega)
    obtain ⟨c, hc⟩ := entry_some t is ts ns ty li lt i (by omega)
    cases c
    · refine ⟨false, ?_, ⟨fun h => (by cases h), fun h2 => ?_⟩⟩
      · refine Ev.succ ?_
        simp only [laminaref17_Valid.l0]
        refine Ev.pos (by omega) ?_
        refine Ev.bind0 hc ?_
        refine Ev.neg (by decide) ?_
        exact Ev.now _
      · have := h2 i (by omega) (by omega)
        rw [hc] at this; cases this
    · refine ⟨b, ?_, hb'.trans ⟨fun e j h1 h2 => ?_, fun e j h1 h2 => e j (by omega) h2⟩⟩
      · refine Ev.succ ?_
        simp only [laminaref17_Valid.l0, w64_add1 i (by omega)]
        refine Ev.pos (by omega) ?_
        refine Ev.bind0 hc ?_
        refine Ev.pos rfl ?_
        exact hb
      · by_cases e2 : j = i
        · subst e2; exact hc
        · exact e j (by omega) h2
theorem v17_j3 (t : Int) (is : List Int) (ts : List ByteArray) (ns : List Bool) (ty : t = 0 ∨ t = 1 ∨ t = 2 ∨ t = 3) (hn : ns.length ≤ 9223372036854775807) (x : Bool) (hx : x = false ↔ is.length = (if t = 1 ∨ t = 2 then ns.length else 0) ∧ ts.length = if t = 3 then ns.length else 0) :
    ∃ b, Ev (fun k => laminaref17_Valid.j3 k x t is ts ns) b ∧ (b = true ↔ V17 t is ts ns) := by
  cases x
  · obtain ⟨li, lt⟩ := hx.1 rfl
    obtain ⟨b, hb, hb'⟩ := v17_l0 t is ts ns ty li lt hn ns.length 0 (by omega)
    refine ⟨b, ?_, hb'.trans ⟨fun e => ⟨ty, li, lt, fun i hi => e i (by omega) hi⟩, fun e j _ h2 => e.en j h2⟩⟩
    refine Ev.succ ?_
    simp only [laminaref17_Valid.j3]
    refine Ev.neg (by decide) ?_
    exact hb
  · refine ⟨false, ?_, ⟨fun h => (by cases h), fun e => (by have := hx.2 ⟨e.li, e.lt⟩; cases this)⟩⟩
    refine Ev.succ ?_
    simp only [laminaref17_Valid.j3]
    refine Ev.pos (by decide) ?_
    exact Ev.now _
theorem v17_ev (t : Int) (is : List Int) (ts : List ByteArray) (ns : List Bool) (hn : ns.length ≤ 9223372036854775807) :
    ∃ b, Ev (fun k => laminaref17_Valid.f k t is ts ns) b ∧ (b = true ↔ V17 t is ts ns) := by
  have two : ∀ x4 : Int, t = 0 ∨ t = 1 ∨ t = 2 ∨ t = 3 → ∀ x3 : Int, (x3 = ((if t = 1 ∨ t = 2 then ns.length else 0 : Nat) : Int)) → (x4 = ((if t = 3 then ns.length else 0 : Nat) : Int)) → ∃ b, Ev (fun k => laminaref17_Valid.j2 k x3 x4 t is ts ns) b ∧ (b = true ↔ V17 t is ts ns) := by
    intro x4 ty x3 h3 h4
    by_cases c : (is.length : Int) = x3
    · obtain ⟨b, hb, hb'⟩ := v17_j3 t is ts ns ty hn ((ts.length : Int) != x4) (by
        rw [bne_eq_false_iff_eq]
        constructor
        · intro e; exact ⟨by omega, by omega⟩
        · intro e; omega)
      refine ⟨b, ?_, hb'⟩
      refine Ev.succ ?_
      simp only [laminaref17_Valid.j2]
      refine Ev.pos c ?_
      exact hb
    · obtain ⟨b, hb, hb'⟩ := v17_j3 t is ts ns ty hn true ⟨fun e => (by cases e), fun e => (by omega)⟩
      refine ⟨b, ?_, hb'⟩
      refine Ev.succ ?_
      simp only [laminaref17_Valid.j2]
      refine Ev.neg c ?_
      exact hb
  have one : t = 0 ∨ t = 1 ∨ t = 2 ∨ t = 3 → ∀ x3 : Int, (x3 = ((if t = 1 ∨ t = 2 then ns.length else 0 : Nat) : Int)) → ∃ b, Ev (fun k => laminaref17_Valid.j1 k x3 0 t is ts ns) b ∧ (b = true ↔ V17 t is ts ns) := by
    intro ty x3 h3
    by_cases c : t = 3
    · obtain ⟨b, hb, hb'⟩ := two (ns.length : Int) ty x3 h3 (by rw [if_pos c])
      refine ⟨b, ?_, hb'⟩
      refine Ev.succ ?_
      simp only [laminaref17_Valid.j1]
      refine Ev.pos c ?_
      exact hb
    · obtain ⟨b, hb, hb'⟩ := two 0 ty x3 h3 (by rw [if_neg c]; rfl)
      refine ⟨b, ?_, hb'⟩
      refine Ev.succ ?_
      simp only [laminaref17_Valid.j1]
      refine Ev.neg c ?_
      exact hb
  have zero : t = 0 ∨ t = 1 ∨ t = 2 ∨ t = 3 → ∀ x : Bool, (x = true ↔ (t = 1 ∨ t = 2)) → ∃ b, Ev (fun k => laminaref17_Valid.j0 k 0 0 x t is ts ns) b ∧ (b = true ↔ V17 t is ts ns) := by
    intro ty x hx
    cases x
    · obtain ⟨b, hb, hb'⟩ := one ty 0 (by rw [if_neg (fun h => by cases hx.2 h)]; rfl)
      refine ⟨b, ?_, hb'⟩
      refine Ev.succ ?_
      simp only [laminaref17_Valid.j0]
      refine Ev.neg (by decide) ?_
      exact hb
    · obtain ⟨b, hb, hb'⟩ := one ty (ns.length : Int) (by rw [if_pos (hx.1 rfl)])
      refine ⟨b, ?_, hb'⟩
      refine Ev.succ ?_
      simp only [laminaref17_Valid.j0]
      refine Ev.pos (by decide) ?_
      exact hb
  by_cases c0 : t ≥ 0 ∧ t ≤ 3
  · have ty : t = 0 ∨ t = 1 ∨ t = 2 ∨ t = 3 := by omega
    have hty : laminaref17_isType.f t = some true := by unfold laminaref17_isType.f; rw [if_pos c0.1, decide_eq_true c0.2]
    by_cases c1 : t = 1
    · obtain ⟨b, hb, hb'⟩ := zero ty true (by simp [c1])
      refine ⟨b, ?_, hb'⟩
      unfold laminaref17_Valid.f
      refine Ev.bind0 hty ?_
      refine Ev.pos rfl ?_
      refine Ev.pos c1 ?_
      exact hb
    · obtain ⟨b, hb, hb'⟩ := zero ty (t == 2) (by simp [c1])
      refine ⟨b, ?_, hb'⟩
      unfold laminaref17_Valid.f
      refine Ev.bind0 hty ?_
      refine Ev.pos rfl ?_
      refine Ev.neg c1 ?_
      exact hb
  · refine ⟨false, ?_, ⟨fun h => (by cases h), fun e => absurd e.ty (by omega)⟩⟩
    have hty : laminaref17_isType.f t = some false := by
      unfold laminaref17_isType.f
      by_cases c1 : t ≥ 0
      · rw [if_pos c1, decide_eq_false (by omega)]
      · rw [if_neg c1]
    unfold laminaref17_Valid.f
    refine Ev.bind0 hty ?_
    refine Ev.neg (by decide) ?_
    exact Ev.now _

/-! ### batches: validity and equality by the reference -/
structure VB (cols : List S48) (n : Int) (all : Bool) (sel : List Int) : Prop where
  h0 : 0 ≤ n
  ha : all = true → sel = []
  hc : ∀ i : Nat, i < cols.length → V17 (cols.getD i z48).f0 (cols.getD i z48).f1 (cols.getD i z48).f2 (cols.getD i z48).f3 ∧ ((cols.getD i z48).f3.length : Int) = n
  hs : vsl n none sel = true
theorem vb_l1 (cols : List S48) (n : Int) (all : Bool) (l : List Int) (hl : l.length ≤ 9223372036854775807) : ∀ (r : List Int) (i : Nat), l.drop i = r → Ev (fun k => laminaref17_ValidBatch.l1 k i cols n all l) (vsl n (prvI l i) r) := by
  intro r
  induction r with
  | nil =>
    intro i h
    have := drop_ge h
    refine Ev.succ ?_
    simp only [laminaref17_ValidBatch.l1]
    refine Ev.neg (by omega) ?_
    exact Ev.now _
  | cons x r ih =>
    intro i h
    have hlt := drop_lt h
    have hn := ih (i + 1) (drop_next h)
    have hp : prvI l (i + 1) = some x := by unfold prvI; rw [if_neg (by omega), show i + 1 - 1 = i by omega, rd_drop h]
    rw [hp] at hn
    refine Ev.succ ?_
    simp only [laminaref17_ValidBatch.l1, rd_drop h, w64_add1 i (by omega)]
    refine Ev.pos (by omega) ?_
    refine Ev.pos (by omega) ?_
    unfold vsl
    by_cases c1 : x < 0
    · refine Ev.pos c1 ?_
      exact Ev.eq (Ev.now _) (by rw [if_pos (.inl c1)])
    refine Ev.neg c1 ?_
    by_cases c2 : x ≥ n
    · refine Ev.pos c2 ?_
      exact Ev.eq (Ev.now _) (by rw [if_pos (.inr (.inl c2))])
    refine Ev.neg c2 ?_
    by_cases c3 : (i : Int) > 0
    · refine Ev.pos c3 ?_
      simp only [w64_sub1 i (by omega) (by omega)]
      refine Ev.pos (by omega) ?_
      refine Ev.pos (by omega) ?_
      have he : prvI l i = some (rd l ((i - 1 : Nat) : Int)) := by unfold prvI; rw [if_neg (by omega)]
      by_cases c4 : x ≤ rd l ((i - 1 : Nat) : Int)
      · refine Ev.pos c4 ?_
        exact Ev.eq (Ev.now _) (by rw [if_pos (.inr (.inr (by rw [he]; simpa [pge] using c4)))])
      · refine Ev.neg c4 ?_
        refine Ev.eq hn ?_
        rw [if_neg]
        rintro (h' | h' | h')
        · omega
        · omega
        · rw [he] at h'; simp [pge] at h'; omega
    · refine Ev.neg c3 ?_
      refine Ev.eq hn ?_
      rw [if_neg]
      rintro (h' | h' | h')
      · omega
      · omega
      · unfold prvI at h'; rw [if_pos (by omega)] at h'; simp [pge] at h'
theorem rd_T_nat (cols : List S48) (i : Nat) : rd_T48 cols (i : Int) = cols.getD i z48 := by simp [rd_T48]
def colok (cols : List S48) (n : Int) (j : Nat) : Prop := V17 (cols.getD j z48).f0 (cols.getD j z48).f1 (cols.getD j z48).f2 (cols.getD j z48).f3 ∧ ((cols.getD j z48).f3.length : Int) = n
theorem vb_l0 (cols : List S48) (n : Int) (all : Bool) (sel : List Int) (hsel : sel.length ≤ 9223372036854775807) (hcl : cols.length ≤ 1000000) (hok : ∀ c ∈ cols, c.f3.length ≤ 9223372036854775807) :
    ∀ (d i : Nat), i + d = cols.length → ∃ b, Ev (fun k => laminaref17_ValidBatch.l0 k (i : Int) cols n all sel) b ∧ (b = true ↔ vsl n none sel = true ∧ ∀ j : Nat, i ≤ j → j < cols.length → colok cols n j) := by
  intro d
  induction d with
  | zero =>
    intro i h
    refine ⟨vsl n none sel, ?_, ⟨fun e => ⟨e, fun j h1 h2 => by omega⟩, fun e => e.1⟩⟩
    refine Ev.succ ?_
    simp only [laminaref17_ValidBatch.l0]
    refine Ev.neg (by omega) ?_
    have := vb_l1 cols n all sel hsel sel 0 rfl
    simpa [prvI] using this
  | succ d ih =>
    intro i h
    obtain ⟨b, hb, hb'⟩ := ih (i + 1) (by omega)
    have hmem : cols.getD i z48 ∈ cols := by
      rw [List.getD_eq_getElem?_getD, List.getElem?_eq_getElem (by omega)]; exact List.getElem_mem _
    obtain ⟨c, hc, hc'⟩ := v17_ev (cols.getD i z48).f0 (cols.getD i z48).f1 (cols.getD i z48).f2 (cols.getD i z48).f3 (hok _ hmem)
    have no : ¬ colok cols n i → ∀ g : Nat → Option Bool, Ev g false → ∃ b, Ev g b ∧ (b = true ↔ vsl n none sel = true ∧ ∀ j : Nat, i ≤ j → j < cols.length → colok cols n j) := fun hc g hg => ⟨false, hg, ⟨fun e => (by cases e), fun e => absurd (e.2 i (Nat.le_refl _) (by omega)) hc⟩⟩
    by_cases c1 : c = true
    · by_cases c2 : ((cols.getD i z48).f3.length : Int) = n
      · refine ⟨b, ?_, hb'.trans ⟨fun e => ⟨e.1, fun j h1 h2 => ?_⟩, fun e => ⟨e.1, fun j h1 h2 => e.2 j (by omega) h2⟩⟩⟩
        · refine Ev.succ ?_
          simp only [laminaref17_ValidBatch.l0, rd_T_nat, w64_add1 i (by omega)]
          refine Ev.pos (by omega) ?_
          refine Ev.pos (by omega) ?_
          refine Ev.bind hc ?_
          refine Ev.pos c1 ?_
          refine Ev.pos c2 ?_
          exact hb
        · by_cases e2 : j = i
          · subst e2; exact ⟨hc'.1 c1, c2⟩
          · exact e.2 j (by omega) h2
      · refine no (fun h => c2 h.2) _ ?_
        refine Ev.succ ?_
        simp only [laminaref17_ValidBatch.l0, rd_T_nat, w64_add1 i (by omega)]
        refine Ev.pos (by omega) ?_
        refine Ev.pos (by omega) ?_
        refine Ev.bind hc ?_
        refine Ev.pos c1 ?_
        refine Ev.neg c2 ?_
        exact Ev.now _
    · refine no (fun h => c1 (hc'.2 h.1)) _ ?_
      refine Ev.succ ?_
      simp only [laminaref17_ValidBatch.l0, rd_T_nat, w64_add1 i (by omega)]
      refine Ev.pos (by omega) ?_
      refine Ev.pos (by omega) ?_
      refine Ev.bind hc ?_
      refine Ev.neg c1 ?_
      exact Ev.now _
theorem vb_ev (cols : List S48) (n : Int) (all : Bool) (sel : List Int) (hsel : sel.length ≤ 9223372036854775807) (hcl : cols.length ≤ 1000000) (hok : ∀ c ∈ cols, c.f3.length ≤ 9223372036854775807) :
    ∃ b, Ev (fun k => laminaref17_ValidBatch.f k cols n all sel) b ∧ (b = true ↔ VB cols n all sel) := by
  have yes : Ev (fun k => laminaref17_ValidBatch.j0 k true cols n all sel) false := by
    refine Ev.succ ?_
    simp only [laminaref17_ValidBatch.j0]
    refine Ev.pos (by decide) ?_
    exact Ev.now _
  obtain ⟨b, hb, hb'⟩ := vb_l0 cols n all sel hsel hcl hok cols.length 0 (by omega)
  have no : Ev (fun k => laminaref17_ValidBatch.j0 k false cols n all sel) b := by
    refine Ev.succ ?_
    simp only [laminaref17_ValidBatch.j0]
    refine Ev.neg (by decide) ?_
    exact hb
  unfold laminaref17_ValidBatch.f
  by_cases c1 : n < 0
  · refine ⟨false, ?_, ⟨fun e => (by cases e), fun e => absurd e.h0 (by omega)⟩⟩
    refine Ev.pos c1 ?_
    exact yes
  by_cases c2 : all = true
  · by_cases c3 : (sel.length : Int) > 0
    · refine ⟨false, ?_, ⟨fun e => (by cases e), fun e => (by have := e.ha c2; rw [this] at c3; simp at c3)⟩⟩
      refine Ev.neg c1 ?_
      refine Ev.pos c2 ?_
      rw [decide_eq_true c3]
      exact yes
    · refine ⟨b, ?_, hb'.trans ⟨fun e => ⟨by omega, fun _ => List.eq_nil_of_length_eq_zero (by omega), fun i hi => e.2 i (by omega) hi, e.1⟩, fun e => ⟨e.hs, fun j _ h2 => e.hc j h2⟩⟩⟩
      refine Ev.neg c1 ?_
      refine Ev.pos c2 ?_
      rw [decide_eq_false c3]
      exact no
  · refine ⟨b, ?_, hb'.trans ⟨fun e => ⟨by omega, fun h => absurd h c2, fun i hi => e.2 i (by omega) hi, e.1⟩, fun e => ⟨e.hs, fun j _ h2 => e.hc j h2⟩⟩⟩
    refine Ev.neg c1 ?_
    refine Ev.neg c2 ?_
    exact no

theorem eqv_l2 (t : Int) (is : List Int) (ts : List ByteArray) (ns : List Bool) (ht : ts.length ≤ 9223372036854775807) : ∀ (d i : Nat), i + d = ts.length → Ev (fun k => laminaref17_Equal.l2 k (i : Int) t is ts ns t is ts ns) true := by
  intro d
  induction d with
  | zero =>
    intro i h
    refine Ev.succ ?_
    simp only [laminaref17_Equal.l2]
    refine Ev.neg (by omega) ?_
    exact Ev.now _
  | succ d ih =>
    intro i h
    refine Ev.succ ?_
    simp only [laminaref17_Equal.l2, w64_add1 i (by omega)]
    refine Ev.pos (by omega) ?_
    refine Ev.pos (by omega) ?_
    refine Ev.pos (by omega) ?_
    refine Ev.pos trivial ?_
    exact ih (i + 1) (by omega)
theorem eqv_l1 (t : Int) (is : List Int) (ts : List ByteArray) (ns : List Bool) (hi : is.length ≤ 9223372036854775807) (ht : ts.length ≤ 9223372036854775807) : ∀ (d i : Nat), i + d = is.length → Ev (fun k => laminaref17_Equal.l1 k (i : Int) t is ts ns t is ts ns) true := by
  intro d
  induction d with
  | zero =>
    intro i h
    refine Ev.succ ?_
    simp only [laminaref17_Equal.l1]
    refine Ev.neg (by omega) ?_
    exact eqv_l2 t is ts ns ht ts.length 0 (by omega)
  | succ d ih =>
    intro i h
    refine Ev.succ ?_
    simp only [laminaref17_Equal.l1, w64_add1 i (by omega)]
    refine Ev.pos (by omega) ?_
    refine Ev.pos (by omega) ?_
    refine Ev.pos (by omega) ?_
    refine Ev.pos trivial ?_
    exact ih (i + 1) (by omega)
theorem eqv_l0 (t : Int) (is : List Int) (ts : List ByteArray) (ns : List Bool) (hi : is.length ≤ 9223372036854775807) (ht : ts.length ≤ 9223372036854775807) (hn : ns.length ≤ 9223372036854775807) : ∀ (d i : Nat), i + d = ns.length → Ev (fun k => laminaref17_Equal.l0 k (i : Int) t is ts ns t is ts ns) true := by
  intro d
  induction d with
  | zero =>
    intro i h
    refine Ev.succ ?_
    simp only [laminaref17_Equal.l0]
    refine Ev.neg (by omega) ?_
    exact eqv_l1 t is ts ns hi ht is.length 0 (by omega)
  | succ d ih =>
    intro i h
    refine Ev.succ ?_
    simp only [laminaref17_Equal.l0, w64_add1 i (by omega)]
    refine Ev.pos (by omega) ?_
    refine Ev.pos (by omega) ?_
    refine Ev.pos (by omega) ?_
    refine Ev.neg (by simp) ?_
    exact ih (i + 1) (by omega)
theorem eqv_ev (t : Int) (is : List Int) (ts : List ByteArray) (ns : List Bool) (hi : is.length ≤ 9223372036854775807) (ht : ts.length ≤ 9223372036854775807) (hn : ns.length ≤ 9223372036854775807) : Ev (fun k => laminaref17_Equal.f k t is ts ns t is ts ns) true := by
  unfold laminaref17_Equal.f
  refine Ev.pos rfl ?_
  refine Ev.pos rfl ?_
  refine Ev.pos rfl ?_
  refine Ev.succ ?_
  simp only [laminaref17_Equal.j0]
  refine Ev.neg (by simp) ?_
  exact eqv_l0 t is ts ns hi ht hn ns.length 0 (by omega)
theorem eqb_l0 (cols : List S48) (n : Int) (all : Bool) (sel : List Int) (hcl : cols.length ≤ 1000000) (hok : ∀ c ∈ cols, c.f1.length ≤ 9223372036854775807 ∧ c.f2.length ≤ 9223372036854775807 ∧ c.f3.length ≤ 9223372036854775807) :
    ∀ (d i : Nat), i + d = cols.length → Ev (fun k => laminaref17_EqualBatches.l0 k (i : Int) cols n all sel cols n all sel) true := by
  intro d
  induction d with
  | zero =>
    intro i h
    refine Ev.succ ?_
    simp only [laminaref17_EqualBatches.l0]
    refine Ev.neg (by omega) ?_
    exact Ev.now _
  | succ d ih =>
    intro i h
    have hmem : cols.getD i z48 ∈ cols := by
      rw [List.getD_eq_getElem?_getD, List.getElem?_eq_getElem (by omega)]; exact List.getElem_mem _
    obtain ⟨o1, o2, o3⟩ := hok _ hmem
    refine Ev.succ ?_
    simp only [laminaref17_EqualBatches.l0, rd_T_nat, w64_add1 i (by omega)]
    refine Ev.pos (by omega) ?_
    refine Ev.pos (by omega) ?_
    refine Ev.pos (by omega) ?_
    refine Ev.bind (eqv_ev _ _ _ _ o1 o2 o3) ?_
    refine Ev.pos rfl ?_
    exact ih (i + 1) (by omega)
theorem eqb_ev (cols : List S48) (n : Int) (all : Bool) (sel : List Int) (hs : sel.length < 9223372036854775807) (hcl : cols.length ≤ 1000000) (hok : ∀ c ∈ cols, c.f1.length ≤ 9223372036854775807 ∧ c.f2.length ≤ 9223372036854775807 ∧ c.f3.length ≤ 9223372036854775807) :
    Ev (fun k => laminaref17_EqualBatches.f k cols n all sel cols n all sel) true := by
  unfold laminaref17_EqualBatches.f
  refine Ev.pos rfl ?_
  refine Ev.neg (by simp) ?_
  refine Ev.bind (ints_ev _ (by omega)) ?_
  refine Ev.pos rfl ?_
  refine Ev.succ ?_
  simp only [laminaref17_EqualBatches.j0]
  refine Ev.neg (by simp) ?_
  exact eqb_l0 cols n all sel hcl hok cols.length 0 (by omega)

theorem awake_ev : Ev (fun k => laminalaw41_awake.f k) true := Ev.of laminalaw41_awake.mono (k := 200) (by decide +kernel)
theorem SelectionApply : laminalaw41_SelectionApply.Pure := by
  intro cols n all sel l hok hl hl8
  have wake : Ev (fun k => laminalaw41_SelectionApply.j0 k l true cols n all sel) true := by
    refine Ev.succ ?_
    simp only [laminalaw41_SelectionApply.j0]
    refine Ev.pos (by decide) ?_
    exact Ev.bind awake_ev (Ev.now _)
  refine Ev.rounds (g := fun k => laminalaw41_SelectionApply.f k cols n all sel l) ?_
  unfold laminalaw41_SelectionApply.f
  by_cases c1 : n > 300
  · refine Ev.pos c1 ?_
    exact wake
  refine Ev.neg c1 ?_
  by_cases c2 : (cols.length : Int) > 10
  · refine Ev.pos c2 ?_
    exact wake
  refine Ev.neg c2 ?_
  have hsel := hok.2.2.2.1
  have hcols := hok.1.2
  simp only [maxLen] at hsel
  have hok3 : ∀ c ∈ cols, c.f1.length ≤ 9223372036854775807 ∧ c.f2.length ≤ 9223372036854775807 ∧ c.f3.length ≤ 9223372036854775807 := by
    intro c hc
    obtain ⟨_, h1, h2, h3⟩ := hcols c hc
    simp only [maxLen] at h1 h2 h3
    omega
  obtain ⟨b, hb, hb'⟩ := vb_ev cols n all sel (by omega) (by omega) (fun c hc => (hok3 c hc).2.2)
  refine Ev.bind hb ?_
  by_cases c3 : b = true
  · refine Ev.pos c3 ?_
    have hv := hb'.1 c3
    have main : ∀ m : Int, m ≤ 300 → (all = false → m = (sel.length : Int)) → Ev (fun k => (laminaref41_Valid.f k l m).bind fun t => laminalaw41_SelectionApply.j0 k l (!t) cols n all sel) true := by
      intro m hm hms
      refine Ev.bind (rvalid_ev l m (by omega)) ?_
      by_cases c4 : vsl m none l = true
      · rw [c4]
        obtain ⟨hr, hs, _⟩ := vsl_all _ _ _ c4
        have hll : l.length ≤ 300 := by
          rcases vsl_len c4 with h | h
          · omega
          · rw [h]; simp
        have hin : all = false → ∀ x ∈ l, 0 ≤ x ∧ x < (sel.length : Int) := fun e x hx => by
          have := hr x hx; rw [hms e] at this; exact this
        refine Ev.succ ?_
        simp only [laminalaw41_SelectionApply.j0]
        refine Ev.neg (by decide) ?_
        have hap : selection_Apply.f cols n all sel l = some (if (l.length : Int) = n then (cols, n, true, []) else (cols, n, false, l.map (selection_Apply.g all sel))) := by
          unfold selection_Apply.f
          by_cases c5 : (l.length : Int) = n
          · rw [if_pos c5, if_pos c5]
          · rw [if_neg c5, if_neg c5, if_pos]
            simp only [selection_Apply.ok, Bool.and_eq_true, decide_eq_true_eq, Bool.or_eq_true, List.all_eq_true]
            refine ⟨by omega, ?_⟩
            cases all
            · exact .inr (fun x hx => hin rfl x hx)
            · exact .inl rfl
        have hrp : laminaref41_Apply.f cols n all sel l = some (if (l.length : Int) = n then (cols, n, true, []) else (cols, n, false, l.map (selection_Apply.g all sel))) := by
          unfold laminaref41_Apply.f
          rw [if_pos]
          · split <;> rfl
          · simp only [selection_Apply.ok, Bool.and_eq_true, decide_eq_true_eq, Bool.or_eq_true, List.all_eq_true]
            refine ⟨by omega, ?_⟩
            cases all
            · exact .inr (fun x hx => hin rfl x hx)
            · exact .inl rfl
        refine Ev.bind0 hap ?_
        refine Ev.bind0 hrp ?_
        have hml : (l.map (selection_Apply.g all sel)).length ≤ 300 := by rw [List.length_map]; exact hll
        by_cases c5 : (l.length : Int) = n
        · simp only [if_pos c5]
          refine Ev.bind (eqb_ev cols n true [] (by simp) (by omega) hok3) ?_
          refine Ev.pos rfl ?_
          exact Ev.bind awake_ev (Ev.now _)
        · simp only [if_neg c5, List.nil_append]
          refine Ev.bind (eqb_ev cols n false _ (by omega) (by omega) hok3) ?_
          refine Ev.pos rfl ?_
          exact Ev.bind awake_ev (Ev.now _)
      · rw [Bool.not_eq_true] at c4
        rw [c4]
        exact wake
    have hsl : (sel.length : Int) ≤ 300 := by
      have h1 := hv.h0
      rcases vsl_len hv.hs with h | h
      · omega
      · rw [h]; simp
    by_cases c4 : all = true
    · refine Ev.bind0 (show laminaref41_Many.f cols n all sel = some n by unfold laminaref41_Many.f; rw [if_pos c4]) ?_
      exact main n (by omega) (fun e => by rw [c4] at e; cases e)
    · refine Ev.bind0 (show laminaref41_Many.f cols n all sel = some (sel.length : Int) by unfold laminaref41_Many.f; rw [if_neg c4]) ?_
      exact main _ hsl (fun _ => rfl)
  · refine Ev.neg c3 ?_
    exact wake

end Go.Proofs.Ytijgbhbdmnhanaa.Pure
