/- laminalaw41.SelectionMade returns true for all its arguments (All, Valid and WhereTrue return the reference's results). Conditions: none beyond the row's own (slices and strings of at most 2^47 - 4096 bytes each). -/
import Derived.Test.YtijgbhbdmnhanaaStSelectionMade
import Derived.Test.YtijgbhbdmnhanaaM01
import Derived.Test.YtijgbhbdmnhanaaM02
import Derived.Test.YtijgbhbdmnhanaaM03
import Derived.Test.YtijgbhbdmnhanaaM04
set_option linter.unusedVariables false
set_option linter.unusedSimpArgs false
namespace Go.Proofs.Ytijgbhbdmnhanaa.Pure
open Go Go.RowKit Go.Proofs.Ytijgbhbdmnhanaa.QSelectionMade Go.Proofs.YtijgbhbdmnhanaaW.PrintWords Go.Proofs.YtijgbhbdmnhanaaW.PrintLast Go.Proofs.YtijgbhbdmnhanaaM

/-! ### the reference's selections -/
theorem drop_lt {α : Type} {l r : List α} {i : Nat} {x : α} (h : l.drop i = x :: r) : i < l.length := by
  rcases Nat.lt_or_ge i l.length with h1 | h1
  · exact h1
  · rw [List.drop_of_length_le h1] at h; cases h
theorem drop_ge {α : Type} {l : List α} {i : Nat} (h : l.drop i = []) : l.length ≤ i := by
  rwa [List.drop_eq_nil_iff] at h
theorem drop_next {α : Type} {l r : List α} {i : Nat} {x : α} (h : l.drop i = x :: r) : l.drop (i + 1) = r := by
  rw [← List.drop_drop, h]; rfl
theorem rd_drop {l r : List Int} {i : Nat} {x : Int} (h : l.drop i = x :: r) : rd l (i : Int) = x := by
  rw [rd_nat, List.getD_eq_getElem?_getD, ← List.head?_drop, h]; rfl
def prvI (l : List Int) (i : Nat) : Option Int := if i = 0 then none else some (rd l ((i - 1 : Nat) : Int))
theorem rvalid_l0 (l : List Int) (n : Int) (hl : l.length ≤ 9223372036854775807) : ∀ (r : List Int) (i : Nat), l.drop i = r → Ev (fun k => laminaref41_Valid.l0 k l n i) (vsl n (prvI l i) r) := by
  intro r
  induction r with
  | nil =>
    intro i h
    have := drop_ge h
    refine Ev.succ ?_
    simp only [laminaref41_Valid.l0]
    refine Ev.neg (by omega) ?_
    exact Ev.now _
  | cons x r ih =>
    intro i h
    have hlt := drop_lt h
    have hn := ih (i + 1) (drop_next h)
    have hp : prvI l (i + 1) = some x := by unfold prvI; rw [if_neg (by omega), show i + 1 - 1 = i by omega, rd_drop h]
    rw [hp] at hn
    refine Ev.succ ?_
    simp only [laminaref41_Valid.l0, rd_drop h, w64_add1 i (by omega)]
    refine Ev.pos (by omega) ?_
    refine Ev.pos (by omega) ?_
    unfold vsl
    by_cases c1 : x < 0
    · refine Ev.pos c1 ?_
      exact Ev.eq (Ev.now _) (by rw [if_pos (.inl c1)])
    refine Ev.neg c1 ?_
    by_cases c2 : x ≥ n
    · refine Ev.pos c2 ?_
      exact Ev.eq (Ev.now _) (by rw [if_pos (.inr (.inl c2))])
    refine Ev.neg c2 ?_
    by_cases c3 : (i : Int) > 0
    · refine Ev.pos c3 ?_
      simp only [w64_sub1 i (by omega) (by omega)]
      refine Ev.pos (by omega) ?_
      refine Ev.pos (by omega) ?_
      have he : prvI l i = some (rd l ((i - 1 : Nat) : Int)) := by unfold prvI; rw [if_neg (by omega)]
      by_cases c4 : x ≤ rd l ((i - 1 : Nat) : Int)
      · refine Ev.pos c4 ?_
        exact Ev.eq (Ev.now _) (by rw [if_pos (.inr (.inr (by rw [he]; simpa [pge] using c4)))])
      · refine Ev.neg c4 ?_
        refine Ev.eq hn ?_
        rw [if_neg]
        rintro (h' | h' | h')
        · omega
        · omega
        · rw [he] at h'; simp [pge] at h'; omega
    · refine Ev.neg c3 ?_
      refine Ev.eq hn ?_
      rw [if_neg]
      rintro (h' | h' | h')
      · omega
      · omega
      · unfold prvI at h'; rw [if_pos (by omega)] at h'; simp [pge] at h'
theorem rvalid_ev (l : List Int) (n : Int) (hl : l.length ≤ 9223372036854775807) : Ev (fun k => laminaref41_Valid.f k l n) (vsl n none l) := by
  have := rvalid_l0 l n hl l 0 rfl
  unfold laminaref41_Valid.f
  simpa [prvI] using this
theorem ints_l0 (l : List Int) (hl : l.length < 9223372036854775808) : ∀ (r : List Int) (i : Nat), l.drop i = r → Ev (fun k => laminaref17_Ints.l0 k l l i) true := by
  intro r
  induction r with
  | nil =>
    intro i h
    have := drop_ge h
    refine Ev.succ ?_
    simp only [laminaref17_Ints.l0]
    refine Ev.neg (by omega) ?_
    exact Ev.now _
  | cons x r ih =>
    intro i h
    have hlt := drop_lt h
    refine Ev.succ ?_
    simp only [laminaref17_Ints.l0, w64_add1 i (by omega)]
    refine Ev.pos (by omega) ?_
    refine Ev.pos (by omega) ?_
    refine Ev.pos (by omega) ?_
    refine Ev.pos trivial ?_
    exact ih (i + 1) (drop_next h)
theorem ints_ev (l : List Int) (hl : l.length < 9223372036854775808) : Ev (fun k => laminaref17_Ints.f k l l) true := by
  unfold laminaref17_Ints.f
  refine Ev.pos rfl ?_
  exact ints_l0 l hl l 0 rfl

theorem all_l0_selection (n : Int) (hn : n ≤ 1000000) : ∀ (d i : Nat) (acc : List Int), (i : Int) + d = n → acc = (List.range i).map Int.ofNat → Ev (fun k => selection_All.l0 k n acc i) (allN n) := by
  intro d
  induction d with
  | zero =>
    intro i acc h ha
    refine Ev.succ ?_
    simp only [selection_All.l0]
    refine Ev.neg (by omega) ?_
    exact Ev.eq (Ev.now _) (by rw [ha]; unfold allN; rw [show n.toNat = i by omega])
  | succ d ih =>
    intro i acc h ha
    have hl : acc.length = i := by rw [ha]; simp
    refine Ev.succ ?_
    simp only [selection_All.l0, w64_add1 i (by omega)]
    refine Ev.pos (by omega) ?_
    refine Ev.pos (by omega) ?_
    refine ih (i + 1) _ (by omega) ?_
    rw [ha, List.range_succ, List.map_append]; rfl
theorem all_ev_selection (n : Int) (hn : n ≤ 1000000) : Ev (fun k => selection_All.f k n) (allN n) := by
  unfold selection_All.f
  by_cases h : 0 ≤ n
  · exact all_l0_selection n hn n.toNat 0 [] (by omega) rfl
  · refine Ev.succ ?_
    simp only [selection_All.l0]
    refine Ev.neg (by omega) ?_
    exact Ev.eq (Ev.now _) (by unfold allN; rw [show n.toNat = 0 by omega]; rfl)

theorem all_l0_laminaref41 (n : Int) (hn : n ≤ 1000000) : ∀ (d i : Nat) (acc : List Int), (i : Int) + d = n → acc = (List.range i).map Int.ofNat → Ev (fun k => laminaref41_All.l0 k n acc i) (allN n) := by
  intro d
  induction d with
  | zero =>
    intro i acc h ha
    refine Ev.succ ?_
    simp only [laminaref41_All.l0]
    refine Ev.neg (by omega) ?_
    exact Ev.eq (Ev.now _) (by rw [ha]; unfold allN; rw [show n.toNat = i by omega])
  | succ d ih =>
    intro i acc h ha
    have hl : acc.length = i := by rw [ha]; simp
    refine Ev.succ ?_
    simp only [laminaref41_All.l0, w64_add1 i (by omega)]
    refine Ev.pos (by omega) ?_
    refine Ev.pos (by omega) ?_
    refine ih (i + 1) _ (by omega) ?_
    rw [ha, List.range_succ, List.map_append]; rfl
theorem all_ev_laminaref41 (n : Int) (hn : n ≤ 1000000) : Ev (fun k => laminaref41_All.f k n) (allN n) := by
  unfold laminaref41_All.f
  by_cases h : 0 ≤ n
  · exact all_l0_laminaref41 n hn n.toNat 0 [] (by omega) rfl
  · refine Ev.succ ?_
    simp only [laminaref41_All.l0]
    refine Ev.neg (by omega) ?_
    exact Ev.eq (Ev.now _) (by unfold allN; rw [show n.toNat = 0 by omega]; rfl)

/-! ### vectors: validity by the reference -/
structure V17 (t : Int) (is : List Int) (ts : List ByteArray) (ns : List Bool) : Prop where
  ty : t = 0 ∨ t = 1 ∨ t = 2 ∨ t = 3
  li : is.length = if t = 1 ∨ t = 2 then ns.length else 0
  lt : ts.length = if t = 3 then ns.length else 0
  en : ∀ i : Nat, i < ns.length → laminaref17_entry.f t is ts ns (i : Int) = some true
theorem entry_some (t : Int) (is : List Int) (ts : List ByteArray) (ns : List Bool) (ty : t = 0 ∨ t = 1 ∨ t = 2 ∨ t = 3) (li : is.length = if t = 1 ∨ t = 2 then ns.length else 0) (lt : ts.length = if t = 3 then ns.length else 0) (i : Nat) (hi : i < ns.length) : ∃ b, laminaref17_entry.f t is ts ns (i : Int) = some b := by
  have h0 : (0 : Int) ≤ (i : Int) := by omega
  have h1 : (i : Int) < (ns.length : Int) := by omega
  unfold laminaref17_entry.f
  rcases ty with rfl | rfl | rfl | rfl
  · rw [if_pos rfl, if_pos h0, if_pos h1]; exact ⟨_, rfl⟩
  · have h2 : (i : Int) < (is.length : Int) := by simp at li; omega
    rw [if_neg (by decide), if_neg (by decide), if_pos rfl, if_pos h0, if_pos h2]
    split
    · exact ⟨_, rfl⟩
    · split <;> exact ⟨_, rfl⟩
  · have h2 : (i : Int) < (is.length : Int) := by simp at li; omega
    rw [if_neg (by decide), if_neg (by decide), if_neg (by decide), if_pos h0, if_pos h2]
    split
    · exact ⟨_, rfl⟩
    · exact ⟨_, rfl⟩
  · have h2 : (i : Int) < (ts.length : Int) := by simp at lt; omega
    rw [if_neg (by decide), if_pos rfl, if_pos h0, if_pos h2]
    split
    · split <;> exact ⟨_, rfl⟩
    · exact ⟨_, rfl⟩
theorem v17_l0 (t : Int) (is : List Int) (ts : List ByteArray) (ns : List Bool) (ty : t = 0 ∨ t = 1 ∨ t = 2 ∨ t = 3) (li : is.length = if t = 1 ∨ t = 2 then ns.length else 0) (lt : ts.length = if t = 3 then ns.length else 0) (hn : ns.length ≤ 9223372036854775807) :
    ∀ (d i : Nat), i + d = ns.length → ∃ b, Ev (fun k => laminaref17_Valid.l0 k (i : Int) t is ts ns) b ∧ (b = true ↔ ∀ j : Nat, i ≤ j → j < ns.length → laminaref17_entry.f t is ts ns (j : Int) = some true) := by
  intro d
  induction d with
  | zero =>
    intro i h
    refine ⟨true, ?_, by simp; intro j h1 h2; omega⟩
    refine Ev.succ ?_
    simp only [laminaref17_Valid.l0]
    refine Ev.neg (by omega) ?_
    exact Ev.now _
  | succ d ih =>
    intro i h
    obtain ⟨b, hb, hb'⟩ := ih (i + 1) (by omega)
    obtain ⟨c, hc⟩ := entry_some t is ts ns ty li lt i (by omega)
    cases c
    · refine ⟨false, ?_, ⟨fun h => (by cases h), fun h2 => ?_⟩⟩
      · refine Ev.succ ?_
        simp only [laminaref17_Valid.l0]
        refine Ev.pos (by omega) ?_
        refine Ev.bind0 hc ?_
        refine Ev.neg (by decide) ?_
        exact Ev.now _
      · have := h2 i (by omega) (by omega)
        rw [hc] at this; cases this
    · refine ⟨b, ?_, hb'.trans ⟨fun e j h1 h2 => ?_, fun e j h1 h2 => e j (by omega) h2⟩⟩
      · refine Ev.succ ?_
        simp only [laminaref17_Valid.l0, w64_add1 i (by omega)]
        refine Ev.pos (by omega) ?_
        refine Ev.bind0 hc ?_
        refine Ev.pos rfl ?_
        exact hb
      · by_cases e2 : j = i
        · subst e2; exact hc
        · exact e j (by omega) h2
theorem v17_j3 (t : Int) (is : List Int) (ts : List ByteArray) (ns : List Bool) (ty : t = 0 ∨ t = 1 ∨ t = 2 ∨ t = 3) (hn : ns.length ≤ 9223372036854775807) (x : Bool) (hx : x = false ↔ is.length = (if t = 1 ∨ t = 2 then ns.length else 0) ∧ ts.length = if t = 3 then ns.length else 0) :
    ∃ b, Ev (fun k => laminaref17_Valid.j3 k x t is ts ns) b ∧ (b = true ↔ V17 t is ts ns) := by
  cases x
  · obtain ⟨li, lt⟩ := hx.1 rfl
    obtain ⟨b, hb, hb'⟩ := v17_l0 t is ts ns ty li lt hn ns.length 0 (by omega)
    refine ⟨b, ?_, hb'.trans ⟨fun e => ⟨ty, li, lt, fun i hi => e i (by omega) hi⟩, fun e j _ h2 => e.en j h2⟩⟩
    refine Ev.succ ?_
    simp only [laminaref17_Valid.j3]
    refine Ev.neg (by decide) ?_
    exact hb
  · refine ⟨false, ?_, ⟨fun h => (by cases h), fun e => (by have := hx.2 ⟨e.li, e.lt⟩; cases this)⟩⟩
    refine Ev.succ ?_
    simp only [laminaref17_Valid.j3]
    refine Ev.pos (by decide) ?_
    exact Ev.now _
theorem v17_ev (t : Int) (is : List Int) (ts : List ByteArray) (ns : List Bool) (hn : ns.length ≤ 9223372036854775807) :
    ∃ b, Ev (fun k => laminaref17_Valid.f k t is ts ns) b ∧ (b = true ↔ V17 t is ts ns) := by
  have two : ∀ x4 : Int, t = 0 ∨ t = 1 ∨ t = 2 ∨ t = 3 → ∀ x3 : Int, (x3 = ((if t = 1 ∨ t = 2 then ns.length else 0 : Nat) : Int)) → (x4 = ((if t = 3 then ns.length else 0 : Nat) : Int)) → ∃ b, Ev (fun k => laminaref17_Valid.j2 k x3 x4 t is ts ns) b ∧ (b = true ↔ V17 t is ts ns) := by
    intro x4 ty x3 h3 h4
    by_cases c : (is.length : Int) = x3
    · obtain ⟨b, hb, hb'⟩ := v17_j3 t is ts ns ty hn ((ts.length : Int) != x4) (by
        rw [bne_eq_false_iff_eq]
        constructor
        · intro e; exact ⟨by omega, by omega⟩
        · intro e; omega)
      refine ⟨b, ?_, hb'⟩
      refine Ev.succ ?_
      simp only [laminaref17_Valid.j2]
      refine Ev.pos c ?_
      exact hb
    · obtain ⟨b, hb, hb'⟩ := v17_j3 t is ts ns ty hn true ⟨fun e => (by cases e), fun e => (by omega)⟩
      refine ⟨b, ?_, hb'⟩
      refine Ev.succ ?_
      simp only [laminaref17_Valid.j2]
      refine Ev.neg c ?_
      exact hb
  have one : t = 0 ∨ t = 1 ∨ t = 2 ∨ t = 3 → ∀ x3 : Int, (x3 = ((if t = 1 ∨ t = 2 then ns.length else 0 : Nat) : Int)) → ∃ b, Ev (fun k => laminaref17_Valid.j1 k x3 0 t is ts ns) b ∧ (b = true ↔ V17 t is ts ns) := by
    intro ty x3 h3
    by_cases c : t = 3
    · obtain ⟨b, hb, hb'⟩ := two (ns.length : Int) ty x3 h3 (by rw [if_pos c])
      refine ⟨b, ?_, hb'⟩
      refine Ev.succ ?_
      simp only [laminaref17_Valid.j1]
      refine Ev.pos c ?_
      exact hb
    · obtain ⟨b, hb, hb'⟩ := two 0 ty x3 h3 (by rw [if_neg c]; rfl)
      refine ⟨b, ?_, hb'⟩
      refine Ev.succ ?_
      simp only [laminaref17_Valid.j1]
      refine Ev.neg c ?_
      exact hb
  have zero : t = 0 ∨ t = 1 ∨ t = 2 ∨ t = 3 → ∀ x : Bool, (x = true ↔ (t = 1 ∨ t = 2)) → ∃ b, Ev (fun k => laminaref17_Valid.j0 k 0 0 x t is ts ns) b ∧ (b = true ↔ V17 t is ts ns) := by
    intro ty x hx
    cases x
    · obtain ⟨b, hb, hb'⟩ := one ty 0 (by rw [if_neg (fun h => by cases hx.2 h)]; rfl)
      refine ⟨b, ?_, hb'⟩
      refine Ev.succ ?_
      simp only [laminaref17_Valid.j0]
      refine Ev.neg (by decide) ?_
      exact hb
    · obtain ⟨b, hb, hb'⟩ := one ty (ns.length : Int) (by rw [if_pos (hx.1 rfl)])
      refine ⟨b, ?_, hb'⟩
      refine Ev.succ ?_
      simp only [laminaref17_Valid.j0]
      refine Ev.pos (by decide) ?_
      exact hb
  by_cases c0 : t ≥ 0 ∧ t ≤ 3
  · have ty : t = 0 ∨ t = 1 ∨ t = 2 ∨ t = 3 := by omega
    have hty : laminaref17_isType.f t = some true := by unfold laminaref17_isType.f; rw [if_pos c0.1, decide_eq_true c0.2]
    by_cases c1 : t = 1
    · obtain ⟨b, hb, hb'⟩ := zero ty true (by simp [c1])
      refine ⟨b, ?_, hb'⟩
      unfold laminaref17_Valid.f
      refine Ev.bind0 hty ?_
      refine Ev.pos rfl ?_
      refine Ev.pos c1 ?_
      exact hb
    · obtain ⟨b, hb, hb'⟩ := zero ty (t == 2) (by simp [c1])
      refine ⟨b, ?_, hb'⟩
      unfold laminaref17_Valid.f
      refine Ev.bind0 hty ?_
      refine Ev.pos rfl ?_
      refine Ev.neg c1 ?_
      exact hb
  · refine ⟨false, ?_, ⟨fun h => (by cases h), fun e => absurd e.ty (by omega)⟩⟩
    have hty : laminaref17_isType.f t = some false := by
      unfold laminaref17_isType.f
      by_cases c1 : t ≥ 0
      · rw [if_pos c1, decide_eq_false (by omega)]
      · rw [if_neg c1]
    unfold laminaref17_Valid.f
    refine Ev.bind0 hty ?_
    refine Ev.neg (by decide) ?_
    exact Ev.now _

theorem awake_ev : Ev (fun k => laminalaw41_awake.f k) true := Ev.of laminalaw41_awake.mono (k := 200) (by decide +kernel)
def ivl (n : Int) : Int → List Int → Bool
  | _, [] => true
  | p, x :: r => if x ≤ p ∨ n ≤ x then false else ivl n x r
theorem ivl_some (n : Int) : ∀ (r : List Int) (p : Int), 0 ≤ p → ivl n p r = vsl n (some p) r := by
  intro r
  induction r with
  | nil => intro p _; rfl
  | cons x r ih =>
    intro p hp
    unfold ivl vsl
    by_cases c : x ≤ p ∨ n ≤ x
    · rw [if_pos c, if_pos]
      rcases c with c | c
      · exact .inr (.inr (by simpa [pge] using c))
      · exact .inr (.inl c)
    · rw [if_neg c, if_neg]
      · exact ih x (by omega)
      · rintro (h | h | h)
        · omega
        · exact c (.inr h)
        · exact c (.inl (by simpa [pge] using h))
theorem ivl_none (n : Int) (r : List Int) : ivl n (-1) r = vsl n none r := by
  cases r with
  | nil => rfl
  | cons x r =>
    unfold ivl vsl
    by_cases c : x ≤ -1 ∨ n ≤ x
    · rw [if_pos c, if_pos]
      rcases c with c | c
      · exact .inl (by omega)
      · exact .inr (.inl c)
    · rw [if_neg c, if_neg]
      · exact ivl_some n r x (by omega)
      · rintro (h | h | h)
        · omega
        · exact c (.inr h)
        · simp [pge] at h
theorem ivalid_l0 (l : List Int) (n : Int) (hl : l.length < 9223372036854775807) : ∀ (r : List Int) (i : Nat) (p : Int), l.drop i = r → Ev (fun k => selection_Valid.l0 k n p l (l.length : Int) i) (ivl n p r) := by
  intro r
  induction r with
  | nil =>
    intro i p h
    have := drop_ge h
    refine Ev.succ ?_
    simp only [selection_Valid.l0]
    refine Ev.neg (by omega) ?_
    exact Ev.now _
  | cons x r ih =>
    intro i p h
    have hlt := drop_lt h
    refine Ev.succ ?_
    simp only [selection_Valid.l0, rd_drop h, w64_add1 i (by omega)]
    refine Ev.pos (by omega) ?_
    refine Ev.pos (by omega) ?_
    refine Ev.pos (by omega) ?_
    unfold ivl
    by_cases c1 : x ≤ p
    · refine Ev.pos c1 ?_
      exact Ev.eq (Ev.now _) (by rw [if_pos (.inl c1)])
    · refine Ev.neg c1 ?_
      by_cases c2 : x ≥ n
      · refine Ev.pos c2 ?_
        exact Ev.eq (Ev.now _) (by rw [if_pos (.inr c2)])
      · refine Ev.neg c2 ?_
        exact Ev.eq (ih (i + 1) x (drop_next h)) (by rw [if_neg (by omega)])
theorem ivalid_ev (l : List Int) (n : Int) (hl : l.length < 9223372036854775807) : Ev (fun k => selection_Valid.f k l n) (vsl n none l) := by
  unfold selection_Valid.f
  exact Ev.eq (ivalid_l0 l n hl l 0 (-1) rfl) (ivl_none n l)
def wt (t : Int) (is : List Int) (ns : List Bool) (x : Int) : Bool := decide (t = 1) && decide (0 ≤ x) && decide (x < (ns.length : Int)) && !(rdOf false ns x) && decide (rd is x = 1)
theorem wt_no {t : Int} {is : List Int} {ns : List Bool} {x : Int} (h : ¬ (t = 1 ∧ 0 ≤ x ∧ x < (ns.length : Int) ∧ rdOf false ns x = false ∧ rd is x = 1)) : wt t is ns x = false := by
  rw [← Bool.not_eq_true]
  intro h'
  simp only [wt, Bool.and_eq_true, decide_eq_true_eq, Bool.not_eq_true'] at h'
  exact h ⟨h'.1.1.1.1, h'.1.1.1.2, h'.1.1.2, h'.1.2, h'.2⟩
theorem wt_yes {t : Int} {is : List Int} {ns : List Bool} {x : Int} (h1 : t = 1) (h2 : 0 ≤ x) (h3 : x < (ns.length : Int)) (h4 : rdOf false ns x = false) (h5 : rd is x = 1) : wt t is ns x = true := by
  simp [wt, h1, h2, h3, h4, h5]
theorem iwhere_l0 (t : Int) (is : List Int) (ts : List ByteArray) (ns : List Bool) (hv : V17 t is ts ns) (l : List Int) (hl : l.length < 1000000) : ∀ (r : List Int) (i : Nat) (acc : List Int), l.drop i = r → acc.length + r.length < 1000000 → Ev (fun k => selection_WhereTrue.l0 k acc l (l.length : Int) i t is ts ns) (acc ++ r.filter (wt t is ns)) := by
  intro r
  induction r with
  | nil =>
    intro i acc h _
    have := drop_ge h
    refine Ev.succ ?_
    simp only [selection_WhereTrue.l0]
    refine Ev.neg (by omega) ?_
    exact Ev.eq (Ev.now _) (by simp)
  | cons x r ih =>
    intro i acc h hc
    have hlt := drop_lt h
    simp only [List.length_cons] at hc
    have skip : wt t is ns x = false → Ev (fun k => selection_WhereTrue.l0 k acc l (l.length : Int) ((i + 1 : Nat) : Int) t is ts ns) (acc ++ (x :: r).filter (wt t is ns)) := fun e =>
      Ev.eq (ih (i + 1) acc (drop_next h) (by omega)) (by rw [List.filter_cons, e]; simp)
    refine Ev.succ ?_
    simp only [selection_WhereTrue.l0, rd_drop h, w64_add1 i (by omega)]
    refine Ev.pos (by omega) ?_
    refine Ev.pos (by omega) ?_
    refine Ev.pos (by omega) ?_
    by_cases c1 : t = 1
    · refine Ev.pos c1 ?_
      by_cases c2 : x ≥ 0
      · refine Ev.pos c2 ?_
        by_cases c3 : x < (ns.length : Int)
        · have li := hv.li
          rw [if_pos (.inl c1)] at li
          refine Ev.pos c3 ?_
          refine Ev.pos (by omega) ?_
          by_cases c4 : rdOf false ns x = true
          · refine Ev.pos c4 ?_
            exact skip (wt_no (fun h' => by rw [c4] at h'; cases h'.2.2.2.1))
          · refine Ev.neg c4 ?_
            refine Ev.pos (by omega) ?_
            by_cases c5 : rd is x = 1
            · refine Ev.pos c5 ?_
              refine Ev.pos (by omega) ?_
              refine Ev.eq (ih (i + 1) (acc ++ [x]) (drop_next h) (by simp <;> omega)) ?_
              rw [List.filter_cons, wt_yes c1 c2 c3 (by simpa using c4) c5]; simp
            · refine Ev.neg c5 ?_
              exact skip (wt_no (fun h' => c5 h'.2.2.2.2))
        · refine Ev.neg c3 ?_
          exact skip (wt_no (fun h' => c3 h'.2.2.1))
      · refine Ev.neg c2 ?_
        exact skip (wt_no (fun h' => c2 h'.2.1))
    · refine Ev.neg c1 ?_
      exact skip (wt_no (fun h' => c1 h'.1))
theorem at_ev (t : Int) (is : List Int) (ts : List ByteArray) (ns : List Bool) (hv : V17 t is ts ns) (ht : t = 1 ∨ t = 0) (x : Int) :
    ∃ a b c, Ev (fun k => laminaref17_At.f k t is ts ns x) (a, b, c) ∧ (decide (a = 1) && decide (b = 1)) = wt t is ns x := by
  have nul : Ev (fun k => laminaref17_At.j0 k x true t is ts ns) (0, 0, (⟨#[]⟩ : ByteArray)) := by
    refine Ev.succ ?_
    simp only [laminaref17_At.j0]
    refine Ev.pos (by decide) ?_
    exact Ev.now _
  unfold laminaref17_At.f
  by_cases c1 : x < 0
  · refine ⟨0, 0, (⟨#[]⟩ : ByteArray), ?_, (wt_no (fun h' => by omega)).symm⟩
    refine Ev.pos c1 ?_
    exact nul
  by_cases c2 : x ≥ (ns.length : Int)
  · refine ⟨0, 0, (⟨#[]⟩ : ByteArray), ?_, (wt_no (fun h' => by omega)).symm⟩
    refine Ev.neg c1 ?_
    refine Ev.pos c2 ?_
    exact nul
  by_cases c3 : rdOf false ns x = true
  · refine ⟨0, 0, (⟨#[]⟩ : ByteArray), ?_, (wt_no (fun h' => by rw [c3] at h'; cases h'.2.2.2.1)).symm⟩
    refine Ev.neg c1 ?_
    refine Ev.neg c2 ?_
    refine Ev.pos (by omega) ?_
    refine Ev.pos (by omega) ?_
    rw [c3]
    exact nul
  have h1 : t = 1 := by
    rcases ht with h | h
    · exact h
    · exfalso
      have he := hv.en x.toNat (by omega)
      unfold laminaref17_entry.f at he
      rw [if_pos h, if_pos (by omega), if_pos (by omega), show ((x.toNat : Nat) : Int) = x by omega] at he
      exact c3 (Option.some.inj he)
  have li := hv.li
  rw [if_pos (.inl h1)] at li
  refine ⟨t, rd is x, (⟨#[]⟩ : ByteArray), ?_, ?_⟩
  · refine Ev.neg c1 ?_
    refine Ev.neg c2 ?_
    refine Ev.pos (by omega) ?_
    refine Ev.pos (by omega) ?_
    rw [show rdOf false ns x = false by simpa using c3]
    refine Ev.succ ?_
    simp only [laminaref17_At.j0]
    refine Ev.neg (by decide) ?_
    refine Ev.neg (by omega) ?_
    refine Ev.pos (by omega) ?_
    refine Ev.pos (by omega) ?_
    exact Ev.now _
  · have h0 : 0 ≤ x := by omega
    have h2 : x < (ns.length : Int) := by omega
    simp [wt, h1, h0, h2, show rdOf false ns x = false by simpa using c3]
theorem rwhere_l0 (t : Int) (is : List Int) (ts : List ByteArray) (ns : List Bool) (hv : V17 t is ts ns) (ht : t = 1 ∨ t = 0) (l : List Int) (hl : l.length < 1000000) : ∀ (r : List Int) (i : Nat) (acc : List Int), l.drop i = r → acc.length + r.length < 1000000 → Ev (fun k => laminaref41_WhereTrue.l0 k l acc i t is ts ns) (acc ++ r.filter (wt t is ns)) := by
  intro r
  induction r with
  | nil =>
    intro i acc h _
    have := drop_ge h
    refine Ev.succ ?_
    simp only [laminaref41_WhereTrue.l0]
    refine Ev.neg (by omega) ?_
    exact Ev.eq (Ev.now _) (by simp)
  | cons x r ih =>
    intro i acc h hc
    have hlt := drop_lt h
    simp only [List.length_cons] at hc
    obtain ⟨a, b, c, ha, hab⟩ := at_ev t is ts ns hv ht x
    have skip : wt t is ns x = false → Ev (fun k => laminaref41_WhereTrue.l0 k l acc ((i + 1 : Nat) : Int) t is ts ns) (acc ++ (x :: r).filter (wt t is ns)) := fun e =>
      Ev.eq (ih (i + 1) acc (drop_next h) (by omega)) (by rw [List.filter_cons, e]; simp)
    refine Ev.succ ?_
    simp only [laminaref41_WhereTrue.l0, rd_drop h, w64_add1 i (by omega)]
    refine Ev.pos (by omega) ?_
    refine Ev.pos (by omega) ?_
    refine Ev.bind ha ?_
    by_cases c1 : a = 1
    · refine Ev.pos c1 ?_
      by_cases c2 : b = 1
      · refine Ev.pos c2 ?_
        refine Ev.pos (by omega) ?_
        refine Ev.eq (ih (i + 1) (acc ++ [x]) (drop_next h) (by simp <;> omega)) ?_
        rw [List.filter_cons, ← hab]; simp [c1, c2]
      · refine Ev.neg c2 ?_
        exact skip (by rw [← hab]; simp [c2])
    · refine Ev.neg c1 ?_
      exact skip (by rw [← hab]; simp [c1])
theorem SelectionMade : laminalaw41_SelectionMade.Pure := by
  intro t is ts ns l n hok hl hl8 hn
  obtain ⟨⟨hll, hlw⟩⟩ : (l.length ≤ maxLen ∧ ∀ y0 ∈ l, (Lit.int .i64 y0).wf = true) ∧ True := ⟨hl, trivial⟩
  have wake : Ev (fun k => laminalaw41_SelectionMade.j0 k l n true t is ts ns) true := by
    refine Ev.succ ?_
    simp only [laminalaw41_SelectionMade.j0]
    refine Ev.pos (by decide) ?_
    exact Ev.bind awake_ev (Ev.now _)
  refine Ev.rounds (g := fun k => laminalaw41_SelectionMade.f k t is ts ns l n) ?_
  unfold laminalaw41_SelectionMade.f
  by_cases c1 : n > 300
  · refine Ev.pos c1 ?_
    exact wake
  refine Ev.neg c1 ?_
  by_cases c2 : (l.length : Int) > 300
  · refine Ev.pos c2 ?_
    exact wake
  refine Ev.neg c2 ?_
  by_cases c3 : (ns.length : Int) > 300
  · rw [decide_eq_true c3]
    exact wake
  rw [decide_eq_false c3]
  have hall := allN_len n
  refine Ev.succ ?_
  simp only [laminalaw41_SelectionMade.j0]
  refine Ev.neg (by decide) ?_
  refine Ev.bind (all_ev_selection n (by omega)) ?_
  refine Ev.bind (all_ev_laminaref41 n (by omega)) ?_
  refine Ev.bind (ints_ev _ (by omega)) ?_
  refine Ev.pos (by rfl) ?_
  refine Ev.bind (ivalid_ev l n (by omega)) ?_
  refine Ev.bind (rvalid_ev l n (by omega)) ?_
  have two : Ev (fun k => laminalaw41_SelectionMade.j2 k l true t is ts ns) true := by
    refine Ev.succ ?_
    simp only [laminalaw41_SelectionMade.j2]
    refine Ev.pos (by decide) ?_
    exact Ev.bind awake_ev (Ev.now _)
  obtain ⟨b, hb, hb'⟩ := v17_ev t is ts ns (by omega)
  refine Ev.succ ?_
  simp only [laminalaw41_SelectionMade.j1]
  refine Ev.neg (by simp) ?_
  refine Ev.bind hb ?_
  by_cases c4 : b = true
  · refine Ev.pos c4 ?_
    have hv := hb'.1 c4
    have fin : t = 1 ∨ t = 0 → Ev (fun k => laminalaw41_SelectionMade.j2 k l (!(vsl 4611686018427387904 none l)) t is ts ns) true := by
      intro ht
      by_cases c5 : vsl 4611686018427387904 none l = true
      · rw [c5]
        refine Ev.succ ?_
        simp only [laminalaw41_SelectionMade.j2]
        refine Ev.neg (by decide) ?_
        refine Ev.bind (by unfold selection_WhereTrue.f; exact iwhere_l0 t is ts ns hv l (by omega) l 0 [] rfl (by simp <;> omega)) ?_
        refine Ev.bind (by unfold laminaref41_WhereTrue.f; exact rwhere_l0 t is ts ns hv ht l (by omega) l 0 [] rfl (by simp <;> omega)) ?_
        have f1 : (l.filter (wt t is ns)).length ≤ l.length := List.length_filter_le _ _
        refine Ev.bind (ints_ev _ (by simp <;> omega)) ?_
        refine Ev.pos (by rfl) ?_
        exact Ev.bind awake_ev (Ev.now _)
      · rw [Bool.not_eq_true] at c5
        rw [c5]
        exact two
    by_cases c6 : t = 1
    · refine Ev.pos c6 ?_
      refine Ev.bind (rvalid_ev l _ (by omega)) ?_
      exact fin (.inl c6)
    · refine Ev.neg c6 ?_
      by_cases c7 : t = 0
      · refine Ev.pos c7 ?_
        refine Ev.bind (rvalid_ev l _ (by omega)) ?_
        exact fin (.inr c7)
      · refine Ev.neg c7 ?_
        exact two
  · refine Ev.neg c4 ?_
    exact two

end Go.Proofs.Ytijgbhbdmnhanaa.Pure
