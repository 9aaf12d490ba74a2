/- laminalaw41.SelectionSets returns true for all its arguments (Intersect, Union, Difference and Complement return the reference's results for selection vectors of at most 300 rows). Conditions: none beyond the row's own (slices of at most 2^47 - 4096 bytes). -/
import Derived.Test.YtijgbhbdmnhanaaQSelectionSetsx9
import Derived.Test.YtijgbhbdmnhanaaM01
import Derived.Test.YtijgbhbdmnhanaaM02
import Derived.Test.YtijgbhbdmnhanaaM04
set_option linter.unusedVariables false
set_option linter.unusedSimpArgs false
namespace Go.Proofs.Ytijgbhbdmnhanaa.Pure
open Go Go.RowKit Go.Proofs.Ytijgbhbdmnhanaa.QSelectionSets Go.Proofs.YtijgbhbdmnhanaaW.PrintWords Go.Proofs.YtijgbhbdmnhanaaW.PrintLast Go.Proofs.YtijgbhbdmnhanaaM

/-! ### Intersect -/
theorem cl_Intersect (x y : Bool) : selection_Intersect_1.f x y = some (kAnd x y) := by cases x <;> cases y <;> rfl
theorem mg_j4_Intersect (a b acc : List Int) (i : Int) (pa pb : Bool) (R : List Int) (hacc : acc.length < 1000000)
    (h1 : pb = true → 0 < b.length ∧ Ev (fun k => selection_merge_32.l0 k a (b.drop 1) (if kAnd pa pb then acc ++ [rd b 0] else acc)) R)
    (h2 : pb = false → Ev (fun k => selection_merge_32.l0 k a b (if kAnd pa pb then acc ++ [i] else acc)) R) :
    Ev (fun k => selection_merge_32.j4 k a b acc pa pb i) R := by
  refine Ev.succ ?_
  simp only [selection_merge_32.j4]
  cases pb with
  | true =>
    obtain ⟨hb, h1⟩ := h1 rfl
    refine Ev.pos (by decide) ?_
    refine Ev.pos (by omega) ?_
    refine Ev.pos (by omega) ?_
    refine Ev.bind (Ev.now _) ?_
    refine Ev.bind0 (cl_Intersect pa true) ?_
    by_cases hk : kAnd pa true = true
    · refine Ev.pos hk ?_
      refine Ev.pos (by omega) ?_
      rw [if_pos hk] at h1
      exact h1
    · refine Ev.neg hk ?_
      rw [if_neg hk] at h1
      exact h1
  | false =>
    have h2 := h2 rfl
    refine Ev.neg (by decide) ?_
    refine Ev.bind0 (cl_Intersect pa false) ?_
    by_cases hk : kAnd pa false = true
    · refine Ev.pos hk ?_
      refine Ev.pos (by omega) ?_
      rw [if_pos hk] at h2
      exact h2
    · refine Ev.neg hk ?_
      rw [if_neg hk] at h2
      exact h2
theorem mg_l0_Intersect : ∀ (n : Nat) (a b acc : List Int), a.length + b.length ≤ n → acc.length + n < 1000000 → Ev (fun k => selection_merge_32.l0 k a b acc) (acc ++ mrg kAnd a b) := by
  intro n
  induction n with
  | zero =>
    intro a b acc h hacc
    obtain rfl : a = [] := List.eq_nil_of_length_eq_zero (by omega)
    obtain rfl : b = [] := List.eq_nil_of_length_eq_zero (by omega)
    refine Ev.succ ?_
    simp only [selection_merge_32.l0]
    refine Ev.neg (by simp) ?_
    refine Ev.succ ?_
    simp only [selection_merge_32.j1]
    refine Ev.neg (by simp) ?_
    exact Ev.eq (Ev.now _) (by simp [mrg])
  | succ n ih =>
    intro a b acc h hacc
    rcases a with _ | ⟨x, a⟩ <;> rcases b with _ | ⟨y, b⟩
    · refine Ev.succ ?_
      simp only [selection_merge_32.l0]
      refine Ev.neg (by simp) ?_
      refine Ev.succ ?_
      simp only [selection_merge_32.j1]
      refine Ev.neg (by simp) ?_
      exact Ev.eq (Ev.now _) (by simp [mrg])
    · simp only [List.length_nil, List.length_cons] at h
      refine Ev.succ ?_
      simp only [selection_merge_32.l0]
      refine Ev.neg (by simp) ?_
      rw [show decide ((((y :: b).length : Nat) : Int) > 0) = true by simp <;> omega]
      refine Ev.succ ?_
      simp only [selection_merge_32.j1]
      refine Ev.pos (by decide) ?_
      refine Ev.neg (by simp) ?_
      refine Ev.succ ?_
      simp only [selection_merge_32.j2]
      refine Ev.pos (by simp <;> omega) ?_
      refine Ev.pos (by simp) ?_
      refine Ev.succ ?_
      simp only [selection_merge_32.j3]
      refine Ev.neg (by decide) ?_
      refine mg_j4_Intersect _ _ _ _ _ _ _ (by omega) (fun _ => ⟨by simp, ?_⟩) (fun e => by cases e)
      have := ih [] b (if kAnd false true then acc ++ [y] else acc) (by simp <;> omega) (by split <;> (try simp) <;> omega)
      refine Ev.eq this ?_
      rw [show mrg kAnd [] (y :: b) = if kAnd false true then y :: mrg kAnd [] b else mrg kAnd [] b by rw [mrg]]
      cases kAnd false true <;> simp
    · simp only [List.length_nil, List.length_cons] at h
      refine Ev.succ ?_
      simp only [selection_merge_32.l0]
      refine Ev.pos (by simp <;> omega) ?_
      refine Ev.succ ?_
      simp only [selection_merge_32.j1]
      refine Ev.pos (by decide) ?_
      refine Ev.pos (by simp <;> omega) ?_
      refine Ev.pos (by simp) ?_
      refine Ev.succ ?_
      simp only [selection_merge_32.j2]
      refine Ev.neg (by simp) ?_
      refine Ev.succ ?_
      simp only [selection_merge_32.j3]
      refine Ev.pos (by decide) ?_
      refine Ev.pos (by simp <;> omega) ?_
      refine Ev.pos (by simp <;> omega) ?_
      refine mg_j4_Intersect _ _ _ _ _ _ _ (by omega) (fun e => by cases e) (fun _ => ?_)
      have := ih a [] (if kAnd true false then acc ++ [x] else acc) (by simp <;> omega) (by split <;> (try simp) <;> omega)
      refine Ev.eq this ?_
      rw [show mrg kAnd (x :: a) [] = if kAnd true false then x :: mrg kAnd a [] else mrg kAnd a [] by rw [mrg]]
      cases kAnd true false <;> simp
    · simp only [List.length_cons] at h
      refine Ev.succ ?_
      simp only [selection_merge_32.l0]
      refine Ev.pos (by simp <;> omega) ?_
      refine Ev.succ ?_
      simp only [selection_merge_32.j1]
      refine Ev.pos (by decide) ?_
      refine Ev.pos (by simp <;> omega) ?_
      refine Ev.neg (by simp <;> omega) ?_
      refine Ev.pos (by simp <;> omega) ?_
      refine Ev.pos (by simp <;> omega) ?_
      refine Ev.succ ?_
      simp only [selection_merge_32.j2]
      refine Ev.pos (by simp <;> omega) ?_
      refine Ev.neg (by simp <;> omega) ?_
      refine Ev.pos (by simp <;> omega) ?_
      refine Ev.pos (by simp <;> omega) ?_
      simp only [show rd (x :: a) 0 = x from rfl, show rd (y :: b) 0 = y from rfl]
      refine Ev.succ ?_
      simp only [selection_merge_32.j3]
      by_cases h1 : x < y
      · have e1 : decide (x ≤ y) = true := decide_eq_true (by omega)
        have e2 : decide (y ≤ x) = false := decide_eq_false (by omega)
        rw [e1, e2]
        refine Ev.pos rfl ?_
        refine Ev.pos (by simp <;> omega) ?_
        refine Ev.pos (by simp <;> omega) ?_
        refine mg_j4_Intersect _ _ _ _ _ _ _ (by omega) (fun e => by cases e) (fun _ => ?_)
        have := ih a (y :: b) (if kAnd true false then acc ++ [x] else acc) (by simp <;> omega) (by split <;> (try simp) <;> omega)
        refine Ev.eq this ?_
        rw [show mrg kAnd (x :: a) (y :: b) = if kAnd true false then x :: mrg kAnd a (y :: b) else mrg kAnd a (y :: b) by rw [mrg, if_pos h1]]
        cases kAnd true false <;> simp
      · by_cases h2 : y < x
        · have e1 : decide (x ≤ y) = false := decide_eq_false (by omega)
          have e2 : decide (y ≤ x) = true := decide_eq_true (by omega)
          rw [e1, e2]
          refine Ev.neg (by decide) ?_
          refine mg_j4_Intersect _ _ _ _ _ _ _ (by omega) (fun _ => ⟨by simp, ?_⟩) (fun e => by cases e)
          have := ih (x :: a) b (if kAnd false true then acc ++ [y] else acc) (by simp <;> omega) (by split <;> (try simp) <;> omega)
          refine Ev.eq this ?_
          rw [show mrg kAnd (x :: a) (y :: b) = if kAnd false true then y :: mrg kAnd (x :: a) b else mrg kAnd (x :: a) b by rw [mrg, if_neg h1, if_pos h2]]
          cases kAnd false true <;> simp
        · have e1 : decide (x ≤ y) = true := decide_eq_true (by omega)
          have e2 : decide (y ≤ x) = true := decide_eq_true (by omega)
          rw [e1, e2]
          refine Ev.pos rfl ?_
          refine Ev.pos (by simp <;> omega) ?_
          refine Ev.pos (by simp <;> omega) ?_
          refine mg_j4_Intersect _ _ _ _ _ _ _ (by omega) (fun _ => ⟨by simp, ?_⟩) (fun e => by cases e)
          have := ih a b (if kAnd true true then acc ++ [y] else acc) (by omega) (by split <;> (try simp) <;> omega)
          refine Ev.eq this ?_
          rw [show mrg kAnd (x :: a) (y :: b) = if kAnd true true then y :: mrg kAnd a b else mrg kAnd a b by rw [mrg, if_neg h1, if_neg h2]]
          cases kAnd true true <;> simp
theorem ev_Intersect (a b : List Int) (h : a.length + b.length < 1000000) : Ev (fun k => selection_Intersect.f k a b) (mrg kAnd a b) := by
  unfold selection_Intersect.f selection_merge_32.f
  refine Ev.bind ?_ (Ev.now _)
  have := mg_l0_Intersect _ a b [] (Nat.le_refl _) (by simpa using h)
  simpa using this

/-! ### Union -/
theorem cl_Union (x y : Bool) : selection_Union_1.f x y = some (kOr x y) := by cases x <;> cases y <;> rfl
theorem mg_j4_Union (a b acc : List Int) (i : Int) (pa pb : Bool) (R : List Int) (hacc : acc.length < 1000000)
    (h1 : pb = true → 0 < b.length ∧ Ev (fun k => selection_merge_34.l0 k a (b.drop 1) (if kOr pa pb then acc ++ [rd b 0] else acc)) R)
    (h2 : pb = false → Ev (fun k => selection_merge_34.l0 k a b (if kOr pa pb then acc ++ [i] else acc)) R) :
    Ev (fun k => selection_merge_34.j4 k a b acc pa pb i) R := by
  refine Ev.succ ?_
  simp only [selection_merge_34.j4]
  cases pb with
  | true =>
    obtain ⟨hb, h1⟩ := h1 rfl
    refine Ev.pos (by decide) ?_
    refine Ev.pos (by omega) ?_
    refine Ev.pos (by omega) ?_
    refine Ev.bind (Ev.now _) ?_
    refine Ev.bind0 (cl_Union pa true) ?_
    by_cases hk : kOr pa true = true
    · refine Ev.pos hk ?_
      refine Ev.pos (by omega) ?_
      rw [if_pos hk] at h1
      exact h1
    · refine Ev.neg hk ?_
      rw [if_neg hk] at h1
      exact h1
  | false =>
    have h2 := h2 rfl
    refine Ev.neg (by decide) ?_
    refine Ev.bind0 (cl_Union pa false) ?_
    by_cases hk : kOr pa false = true
    · refine Ev.pos hk ?_
      refine Ev.pos (by omega) ?_
      rw [if_pos hk] at h2
      exact h2
    · refine Ev.neg hk ?_
      rw [if_neg hk] at h2
      exact h2
theorem mg_l0_Union : ∀ (n : Nat) (a b acc : List Int), a.length + b.length ≤ n → acc.length + n < 1000000 → Ev (fun k => selection_merge_34.l0 k a b acc) (acc ++ mrg kOr a b) := by
  intro n
  induction n with
  | zero =>
    intro a b acc h hacc
    obtain rfl : a = [] := List.eq_nil_of_length_eq_zero (by omega)
    obtain rfl : b = [] := List.eq_nil_of_length_eq_zero (by omega)
    refine Ev.succ ?_
    simp only [selection_merge_34.l0]
    refine Ev.neg (by simp) ?_
    refine Ev.succ ?_
    simp only [selection_merge_34.j1]
    refine Ev.neg (by simp) ?_
    exact Ev.eq (Ev.now _) (by simp [mrg])
  | succ n ih =>
    intro a b acc h hacc
    rcases a with _ | ⟨x, a⟩ <;> rcases b with _ | ⟨y, b⟩
    · refine Ev.succ ?_
      simp only [selection_merge_34.l0]
      refine Ev.neg (by simp) ?_
      refine Ev.succ ?_
      simp only [selection_merge_34.j1]
      refine Ev.neg (by simp) ?_
      exact Ev.eq (Ev.now _) (by simp [mrg])
    · simp only [List.length_nil, List.length_cons] at h
      refine Ev.succ ?_
      simp only [selection_merge_34.l0]
      refine Ev.neg (by simp) ?_
      rw [show decide ((((y :: b).length : Nat) : Int) > 0) = true by simp <;> omega]
      refine Ev.succ ?_
      simp only [selection_merge_34.j1]
      refine Ev.pos (by decide) ?_
      refine Ev.neg (by simp) ?_
      refine Ev.succ ?_
      simp only [selection_merge_34.j2]
      refine Ev.pos (by simp <;> omega) ?_
      refine Ev.pos (by simp) ?_
      refine Ev.succ ?_
      simp only [selection_merge_34.j3]
      refine Ev.neg (by decide) ?_
      refine mg_j4_Union _ _ _ _ _ _ _ (by omega) (fun _ => ⟨by simp, ?_⟩) (fun e => by cases e)
      have := ih [] b (if kOr false true then acc ++ [y] else acc) (by simp <;> omega) (by split <;> (try simp) <;> omega)
      refine Ev.eq this ?_
      rw [show mrg kOr [] (y :: b) = if kOr false true then y :: mrg kOr [] b else mrg kOr [] b by rw [mrg]]
      cases kOr false true <;> simp
    · simp only [List.length_nil, List.length_cons] at h
      refine Ev.succ ?_
      simp only [selection_merge_34.l0]
      refine Ev.pos (by simp <;> omega) ?_
      refine Ev.succ ?_
      simp only [selection_merge_34.j1]
      refine Ev.pos (by decide) ?_
      refine Ev.pos (by simp <;> omega) ?_
      refine Ev.pos (by simp) ?_
      refine Ev.succ ?_
      simp only [selection_merge_34.j2]
      refine Ev.neg (by simp) ?_
      refine Ev.succ ?_
      simp only [selection_merge_34.j3]
      refine Ev.pos (by decide) ?_
      refine Ev.pos (by simp <;> omega) ?_
      refine Ev.pos (by simp <;> omega) ?_
      refine mg_j4_Union _ _ _ _ _ _ _ (by omega) (fun e => by cases e) (fun _ => ?_)
      have := ih a [] (if kOr true false then acc ++ [x] else acc) (by simp <;> omega) (by split <;> (try simp) <;> omega)
      refine Ev.eq this ?_
      rw [show mrg kOr (x :: a) [] = if kOr true false then x :: mrg kOr a [] else mrg kOr a [] by rw [mrg]]
      cases kOr true false <;> simp
    · simp only [List.length_cons] at h
      refine Ev.succ ?_
      simp only [selection_merge_34.l0]
      refine Ev.pos (by simp <;> omega) ?_
      refine Ev.succ ?_
      simp only [selection_merge_34.j1]
      refine Ev.pos (by decide) ?_
      refine Ev.pos (by simp <;> omega) ?_
      refine Ev.neg (by simp <;> omega) ?_
      refine Ev.pos (by simp <;> omega) ?_
      refine Ev.pos (by simp <;> omega) ?_
      refine Ev.succ ?_
      simp only [selection_merge_34.j2]
      refine Ev.pos (by simp <;> omega) ?_
      refine Ev.neg (by simp <;> omega) ?_
      refine Ev.pos (by simp <;> omega) ?_
      refine Ev.pos (by simp <;> omega) ?_
      simp only [show rd (x :: a) 0 = x from rfl, show rd (y :: b) 0 = y from rfl]
      refine Ev.succ ?_
      simp only [selection_merge_34.j3]
      by_cases h1 : x < y
      · have e1 : decide (x ≤ y) = true := decide_eq_true (by omega)
        have e2 : decide (y ≤ x) = false := decide_eq_false (by omega)
        rw [e1, e2]
        refine Ev.pos rfl ?_
        refine Ev.pos (by simp <;> omega) ?_
        refine Ev.pos (by simp <;> omega) ?_
        refine mg_j4_Union _ _ _ _ _ _ _ (by omega) (fun e => by cases e) (fun _ => ?_)
        have := ih a (y :: b) (if kOr true false then acc ++ [x] else acc) (by simp <;> omega) (by split <;> (try simp) <;> omega)
        refine Ev.eq this ?_
        rw [show mrg kOr (x :: a) (y :: b) = if kOr true false then x :: mrg kOr a (y :: b) else mrg kOr a (y :: b) by rw [mrg, if_pos h1]]
        cases kOr true false <;> simp
      · by_cases h2 : y < x
        · have e1 : decide (x ≤ y) = false := decide_eq_false (by omega)
          have e2 : decide (y ≤ x) = true := decide_eq_true (by omega)
          rw [e1, e2]
          refine Ev.neg (by decide) ?_
          refine mg_j4_Union _ _ _ _ _ _ _ (by omega) (fun _ => ⟨by simp, ?_⟩) (fun e => by cases e)
          have := ih (x :: a) b (if kOr false true then acc ++ [y] else acc) (by simp <;> omega) (by split <;> (try simp) <;> omega)
          refine Ev.eq this ?_
          rw [show mrg kOr (x :: a) (y :: b) = if kOr false true then y :: mrg kOr (x :: a) b else mrg kOr (x :: a) b by rw [mrg, if_neg h1, if_pos h2]]
          cases kOr false true <;> simp
        · have e1 : decide (x ≤ y) = true := decide_eq_true (by omega)
          have e2 : decide (y ≤ x) = true := decide_eq_true (by omega)
          rw [e1, e2]
          refine Ev.pos rfl ?_
          refine Ev.pos (by simp <;> omega) ?_
          refine Ev.pos (by simp <;> omega) ?_
          refine mg_j4_Union _ _ _ _ _ _ _ (by omega) (fun _ => ⟨by simp, ?_⟩) (fun e => by cases e)
          have := ih a b (if kOr true true then acc ++ [y] else acc) (by omega) (by split <;> (try simp) <;> omega)
          refine Ev.eq this ?_
          rw [show mrg kOr (x :: a) (y :: b) = if kOr true true then y :: mrg kOr a b else mrg kOr a b by rw [mrg, if_neg h1, if_neg h2]]
          cases kOr true true <;> simp
theorem ev_Union (a b : List Int) (h : a.length + b.length < 1000000) : Ev (fun k => selection_Union.f k a b) (mrg kOr a b) := by
  unfold selection_Union.f selection_merge_34.f
  refine Ev.bind ?_ (Ev.now _)
  have := mg_l0_Union _ a b [] (Nat.le_refl _) (by simpa using h)
  simpa using this

/-! ### Difference -/
theorem cl_Difference (x y : Bool) : selection_Difference_1.f x y = some (kNot x y) := by cases x <;> cases y <;> rfl
theorem mg_j4_Difference (a b acc : List Int) (i : Int) (pa pb : Bool) (R : List Int) (hacc : acc.length < 1000000)
    (h1 : pb = true → 0 < b.length ∧ Ev (fun k => selection_merge_35.l0 k a (b.drop 1) (if kNot pa pb then acc ++ [rd b 0] else acc)) R)
    (h2 : pb = false → Ev (fun k => selection_merge_35.l0 k a b (if kNot pa pb then acc ++ [i] else acc)) R) :
    Ev (fun k => selection_merge_35.j4 k a b acc pa pb i) R := by
  refine Ev.succ ?_
  simp only [selection_merge_35.j4]
  cases pb with
  | true =>
    obtain ⟨hb, h1⟩ := h1 rfl
    refine Ev.pos (by decide) ?_
    refine Ev.pos (by omega) ?_
    refine Ev.pos (by omega) ?_
    refine Ev.bind (Ev.now _) ?_
    refine Ev.bind0 (cl_Difference pa true) ?_
    by_cases hk : kNot pa true = true
    · refine Ev.pos hk ?_
      refine Ev.pos (by omega) ?_
      rw [if_pos hk] at h1
      exact h1
    · refine Ev.neg hk ?_
      rw [if_neg hk] at h1
      exact h1
  | false =>
    have h2 := h2 rfl
    refine Ev.neg (by decide) ?_
    refine Ev.bind0 (cl_Difference pa false) ?_
    by_cases hk : kNot pa false = true
    · refine Ev.pos hk ?_
      refine Ev.pos (by omega) ?_
      rw [if_pos hk] at h2
      exact h2
    · refine Ev.neg hk ?_
      rw [if_neg hk] at h2
      exact h2
theorem mg_l0_Difference : ∀ (n : Nat) (a b acc : List Int), a.length + b.length ≤ n → acc.length + n < 1000000 → Ev (fun k => selection_merge_35.l0 k a b acc) (acc ++ mrg kNot a b) := by
  intro n
  induction n with
  | zero =>
    intro a b acc h hacc
    obtain rfl : a = [] := List.eq_nil_of_length_eq_zero (by omega)
    obtain rfl : b = [] := List.eq_nil_of_length_eq_zero (by omega)
    refine Ev.succ ?_
    simp only [selection_merge_35.l0]
    refine Ev.neg (by simp) ?_
    refine Ev.succ ?_
    simp only [selection_merge_35.j1]
    refine Ev.neg (by simp) ?_
    exact Ev.eq (Ev.now _) (by simp [mrg])
  | succ n ih =>
    intro a b acc h hacc
    rcases a with _ | ⟨x, a⟩ <;> rcases b with _ | ⟨y, b⟩
    · refine Ev.succ ?_
      simp only [selection_merge_35.l0]
      refine Ev.neg (by simp) ?_
      refine Ev.succ ?_
      simp only [selection_merge_35.j1]
      refine Ev.neg (by simp) ?_
      exact Ev.eq (Ev.now _) (by simp [mrg])
    · simp only [List.length_nil, List.length_cons] at h
      refine Ev.succ ?_
      simp only [selection_merge_35.l0]
      refine Ev.neg (by simp) ?_
      rw [show decide ((((y :: b).length : Nat) : Int) > 0) = true by simp <;> omega]
      refine Ev.succ ?_
      simp only [selection_merge_35.j1]
      refine Ev.pos (by decide) ?_
      refine Ev.neg (by simp) ?_
      refine Ev.succ ?_
      simp only [selection_merge_35.j2]
      refine Ev.pos (by simp <;> omega) ?_
      refine Ev.pos (by simp) ?_
      refine Ev.succ ?_
      simp only [selection_merge_35.j3]
      refine Ev.neg (by decide) ?_
      refine mg_j4_Difference _ _ _ _ _ _ _ (by omega) (fun _ => ⟨by simp, ?_⟩) (fun e => by cases e)
      have := ih [] b (if kNot false true then acc ++ [y] else acc) (by simp <;> omega) (by split <;> (try simp) <;> omega)
      refine Ev.eq this ?_
      rw [show mrg kNot [] (y :: b) = if kNot false true then y :: mrg kNot [] b else mrg kNot [] b by rw [mrg]]
      cases kNot false true <;> simp
    · simp only [List.length_nil, List.length_cons] at h
      refine Ev.succ ?_
      simp only [selection_merge_35.l0]
      refine Ev.pos (by simp <;> omega) ?_
      refine Ev.succ ?_
      simp only [selection_merge_35.j1]
      refine Ev.pos (by decide) ?_
      refine Ev.pos (by simp <;> omega) ?_
      refine Ev.pos (by simp) ?_
      refine Ev.succ ?_
      simp only [selection_merge_35.j2]
      refine Ev.neg (by simp) ?_
      refine Ev.succ ?_
      simp only [selection_merge_35.j3]
      refine Ev.pos (by decide) ?_
      refine Ev.pos (by simp <;> omega) ?_
      refine Ev.pos (by simp <;> omega) ?_
      refine mg_j4_Difference _ _ _ _ _ _ _ (by omega) (fun e => by cases e) (fun _ => ?_)
      have := ih a [] (if kNot true false then acc ++ [x] else acc) (by simp <;> omega) (by split <;> (try simp) <;> omega)
      refine Ev.eq this ?_
      rw [show mrg kNot (x :: a) [] = if kNot true false then x :: mrg kNot a [] else mrg kNot a [] by rw [mrg]]
      cases kNot true false <;> simp
    · simp only [List.length_cons] at h
      refine Ev.succ ?_
      simp only [selection_merge_35.l0]
      refine Ev.pos (by simp <;> omega) ?_
      refine Ev.succ ?_
      simp only [selection_merge_35.j1]
      refine Ev.pos (by decide) ?_
      refine Ev.pos (by simp <;> omega) ?_
      refine Ev.neg (by simp <;> omega) ?_
      refine Ev.pos (by simp <;> omega) ?_
      refine Ev.pos (by simp <;> omega) ?_
      refine Ev.succ ?_
      simp only [selection_merge_35.j2]
      refine Ev.pos (by simp <;> omega) ?_
      refine Ev.neg (by simp <;> omega) ?_
      refine Ev.pos (by simp <;> omega) ?_
      refine Ev.pos (by simp <;> omega) ?_
      simp only [show rd (x :: a) 0 = x from rfl, show rd (y :: b) 0 = y from rfl]
      refine Ev.succ ?_
      simp only [selection_merge_35.j3]
      by_cases h1 : x < y
      · have e1 : decide (x ≤ y) = true := decide_eq_true (by omega)
        have e2 : decide (y ≤ x) = false := decide_eq_false (by omega)
        rw [e1, e2]
        refine Ev.pos rfl ?_
        refine Ev.pos (by simp <;> omega) ?_
        refine Ev.pos (by simp <;> omega) ?_
        refine mg_j4_Difference _ _ _ _ _ _ _ (by omega) (fun e => by cases e) (fun _ => ?_)
        have := ih a (y :: b) (if kNot true false then acc ++ [x] else acc) (by simp <;> omega) (by split <;> (try simp) <;> omega)
        refine Ev.eq this ?_
        rw [show mrg kNot (x :: a) (y :: b) = if kNot true false then x :: mrg kNot a (y :: b) else mrg kNot a (y :: b) by rw [mrg, if_pos h1]]
        cases kNot true false <;> simp
      · by_cases h2 : y < x
        · have e1 : decide (x ≤ y) = false := decide_eq_false (by omega)
          have e2 : decide (y ≤ x) = true := decide_eq_true (by omega)
          rw [e1, e2]
          refine Ev.neg (by decide) ?_
          refine mg_j4_Difference _ _ _ _ _ _ _ (by omega) (fun _ => ⟨by simp, ?_⟩) (fun e => by cases e)
          have := ih (x :: a) b (if kNot false true then acc ++ [y] else acc) (by simp <;> omega) (by split <;> (try simp) <;> omega)
          refine Ev.eq this ?_
          rw [show mrg kNot (x :: a) (y :: b) = if kNot false true then y :: mrg kNot (x :: a) b else mrg kNot (x :: a) b by rw [mrg, if_neg h1, if_pos h2]]
          cases kNot false true <;> simp
        · have e1 : decide (x ≤ y) = true := decide_eq_true (by omega)
          have e2 : decide (y ≤ x) = true := decide_eq_true (by omega)
          rw [e1, e2]
          refine Ev.pos rfl ?_
          refine Ev.pos (by simp <;> omega) ?_
          refine Ev.pos (by simp <;> omega) ?_
          refine mg_j4_Difference _ _ _ _ _ _ _ (by omega) (fun _ => ⟨by simp, ?_⟩) (fun e => by cases e)
          have := ih a b (if kNot true true then acc ++ [y] else acc) (by omega) (by split <;> (try simp) <;> omega)
          refine Ev.eq this ?_
          rw [show mrg kNot (x :: a) (y :: b) = if kNot true true then y :: mrg kNot a b else mrg kNot a b by rw [mrg, if_neg h1, if_neg h2]]
          cases kNot true true <;> simp
theorem ev_Difference (a b : List Int) (h : a.length + b.length < 1000000) : Ev (fun k => selection_Difference.f k a b) (mrg kNot a b) := by
  unfold selection_Difference.f selection_merge_35.f
  refine Ev.bind ?_ (Ev.now _)
  have := mg_l0_Difference _ a b [] (Nat.le_refl _) (by simpa using h)
  simpa using this

/-! ### the reference's selections -/
theorem drop_lt {α : Type} {l r : List α} {i : Nat} {x : α} (h : l.drop i = x :: r) : i < l.length := by
  rcases Nat.lt_or_ge i l.length with h1 | h1
  · exact h1
  · rw [List.drop_of_length_le h1] at h; cases h
theorem drop_ge {α : Type} {l : List α} {i : Nat} (h : l.drop i = []) : l.length ≤ i := by
  rwa [List.drop_eq_nil_iff] at h
theorem drop_next {α : Type} {l r : List α} {i : Nat} {x : α} (h : l.drop i = x :: r) : l.drop (i + 1) = r := by
  rw [← List.drop_drop, h]; rfl
theorem rd_drop {l r : List Int} {i : Nat} {x : Int} (h : l.drop i = x :: r) : rd l (i : Int) = x := by
  rw [rd_nat, List.getD_eq_getElem?_getD, ← List.head?_drop, h]; rfl
def prvI (l : List Int) (i : Nat) : Option Int := if i = 0 then none else some (rd l ((i - 1 : Nat) : Int))
theorem rvalid_l0 (l : List Int) (n : Int) (hl : l.length < 9223372036854775808) : ∀ (r : List Int) (i : Nat), l.drop i = r → Ev (fun k => laminaref41_Valid.l0 k l n i) (vsl n (prvI l i) r) := by
  intro r
  induction r with
  | nil =>
    intro i h
    have := drop_ge h
    refine Ev.succ ?_
    simp only [laminaref41_Valid.l0]
    refine Ev.neg (by omega) ?_
    exact Ev.now _
  | cons x r ih =>
    intro i h
    have hlt := drop_lt h
    have hn := ih (i + 1) (drop_next h)
    have hp : prvI l (i + 1) = some x := by unfold prvI; rw [if_neg (by omega), show i + 1 - 1 = i by omega, rd_drop h]
    rw [hp] at hn
    refine Ev.succ ?_
    simp only [laminaref41_Valid.l0, rd_drop h, w64_add1 i (by omega)]
    refine Ev.pos (by omega) ?_
    refine Ev.pos (by omega) ?_
    unfold vsl
    by_cases c1 : x < 0
    · refine Ev.pos c1 ?_
      exact Ev.eq (Ev.now _) (by rw [if_pos (.inl c1)])
    refine Ev.neg c1 ?_
    by_cases c2 : x ≥ n
    · refine Ev.pos c2 ?_
      exact Ev.eq (Ev.now _) (by rw [if_pos (.inr (.inl c2))])
    refine Ev.neg c2 ?_
    by_cases c3 : (i : Int) > 0
    · refine Ev.pos c3 ?_
      simp only [w64_sub1 i (by omega) (by omega)]
      refine Ev.pos (by omega) ?_
      refine Ev.pos (by omega) ?_
      have he : prvI l i = some (rd l ((i - 1 : Nat) : Int)) := by unfold prvI; rw [if_neg (by omega)]
      by_cases c4 : x ≤ rd l ((i - 1 : Nat) : Int)
      · refine Ev.pos c4 ?_
        exact Ev.eq (Ev.now _) (by rw [if_pos (.inr (.inr (by rw [he]; simpa [pge] using c4)))])
      · refine Ev.neg c4 ?_
        refine Ev.eq hn ?_
        rw [if_neg]
        rintro (h' | h' | h')
        · omega
        · omega
        · rw [he] at h'; simp [pge] at h'; omega
    · refine Ev.neg c3 ?_
      refine Ev.eq hn ?_
      rw [if_neg]
      rintro (h' | h' | h')
      · omega
      · omega
      · unfold prvI at h'; rw [if_pos (by omega)] at h'; simp [pge] at h'
theorem rvalid_ev (l : List Int) (n : Int) (hl : l.length < 9223372036854775808) : Ev (fun k => laminaref41_Valid.f k l n) (vsl n none l) := by
  have := rvalid_l0 l n hl l 0 rfl
  unfold laminaref41_Valid.f
  simpa [prvI] using this
theorem ints_l0 (l : List Int) (hl : l.length < 9223372036854775808) : ∀ (r : List Int) (i : Nat), l.drop i = r → Ev (fun k => laminaref17_Ints.l0 k l l i) true := by
  intro r
  induction r with
  | nil =>
    intro i h
    have := drop_ge h
    refine Ev.succ ?_
    simp only [laminaref17_Ints.l0]
    refine Ev.neg (by omega) ?_
    exact Ev.now _
  | cons x r ih =>
    intro i h
    have hlt := drop_lt h
    refine Ev.succ ?_
    simp only [laminaref17_Ints.l0, w64_add1 i (by omega)]
    refine Ev.pos (by omega) ?_
    refine Ev.pos (by omega) ?_
    refine Ev.pos (by omega) ?_
    refine Ev.pos trivial ?_
    exact ih (i + 1) (drop_next h)
theorem ints_ev (l : List Int) (hl : l.length < 9223372036854775808) : Ev (fun k => laminaref17_Ints.f k l l) true := by
  unfold laminaref17_Ints.f
  refine Ev.pos rfl ?_
  exact ints_l0 l hl l 0 rfl

theorem small_ev (l : List Int) (n : Int) (hl : l.length < 9223372036854775808) : Ev (fun k => laminalaw41_small.f k l n) (decide (n ≤ 300) && vsl n none l) := by
  unfold laminalaw41_small.f
  by_cases h : n ≤ 300
  · refine Ev.pos h ?_
    rw [decide_eq_true h, Bool.true_and]
    exact Ev.bind (rvalid_ev l n hl) (Ev.now _)
  · refine Ev.neg h ?_
    rw [decide_eq_false h]
    exact Ev.now _
theorem contains_l0 (l : List Int) (v : Int) (hl : l.length < 9223372036854775808) : ∀ (r : List Int) (i : Nat), l.drop i = r → Ev (fun k => laminaref41_contains.l0 k l v i) (r.contains v) := by
  intro r
  induction r with
  | nil =>
    intro i h
    have := drop_ge h
    refine Ev.succ ?_
    simp only [laminaref41_contains.l0]
    refine Ev.neg (by omega) ?_
    exact Ev.now _
  | cons x r ih =>
    intro i h
    have hlt := drop_lt h
    refine Ev.succ ?_
    simp only [laminaref41_contains.l0, rd_drop h, w64_add1 i (by omega)]
    refine Ev.pos (by omega) ?_
    refine Ev.pos (by omega) ?_
    by_cases c : x = v
    · refine Ev.pos c ?_
      exact Ev.eq (Ev.now _) (by rw [List.contains_cons, c]; simp)
    · refine Ev.neg c ?_
      refine Ev.eq (ih (i + 1) (drop_next h)) ?_
      rw [List.contains_cons, beq_eq_false_iff_ne.2 (fun e => c e.symm)]
      simp
theorem contains_ev (l : List Int) (v : Int) (hl : l.length < 9223372036854775808) : Ev (fun k => laminaref41_contains.f k l v) (l.contains v) := contains_l0 l v hl l 0 rfl
theorem rinter_l0 (a b : List Int) (ha : a.length < 1000000) (hb : b.length < 9223372036854775808) : ∀ (r : List Int) (i : Nat) (acc : List Int), a.drop i = r → acc.length + r.length < 1000000 → Ev (fun k => laminaref41_Intersect.l0 k a b acc i) (acc ++ r.filter (fun x => b.contains x)) := by
  intro r
  induction r with
  | nil =>
    intro i acc h _
    have := drop_ge h
    refine Ev.succ ?_
    simp only [laminaref41_Intersect.l0]
    refine Ev.neg (by omega) ?_
    exact Ev.eq (Ev.now _) (by simp)
  | cons x r ih =>
    intro i acc h hc
    have hlt := drop_lt h
    simp only [List.length_cons] at hc
    refine Ev.succ ?_
    simp only [laminaref41_Intersect.l0, rd_drop h, w64_add1 i (by omega)]
    refine Ev.pos (by omega) ?_
    refine Ev.pos (by omega) ?_
    refine Ev.bind (contains_ev b x hb) ?_
    by_cases c : b.contains x = true
    · refine Ev.pos c ?_
      refine Ev.pos (by omega) ?_
      refine Ev.eq (ih (i + 1) (acc ++ [x]) (drop_next h) (by simp <;> omega)) ?_
      rw [List.filter_cons, if_pos c]; simp
    · refine Ev.neg c ?_
      refine Ev.eq (ih (i + 1) acc (drop_next h) (by omega)) ?_
      rw [List.filter_cons, if_neg c]
theorem rinter_ev (a b : List Int) (ha : a.length < 1000000) (hb : b.length < 9223372036854775808) : Ev (fun k => laminaref41_Intersect.f k a b) (a.filter (fun x => b.contains x)) := by
  have := rinter_l0 a b ha hb a 0 [] rfl (by simpa using ha)
  unfold laminaref41_Intersect.f
  simpa using this
theorem rdiff_l0 (a b : List Int) (ha : a.length < 1000000) (hb : b.length < 9223372036854775808) : ∀ (r : List Int) (i : Nat) (acc : List Int), a.drop i = r → acc.length + r.length < 1000000 → Ev (fun k => laminaref41_Difference.l0 k a b acc i) (acc ++ r.filter (fun x => !b.contains x)) := by
  intro r
  induction r with
  | nil =>
    intro i acc h _
    have := drop_ge h
    refine Ev.succ ?_
    simp only [laminaref41_Difference.l0]
    refine Ev.neg (by omega) ?_
    exact Ev.eq (Ev.now _) (by simp)
  | cons x r ih =>
    intro i acc h hc
    have hlt := drop_lt h
    simp only [List.length_cons] at hc
    refine Ev.succ ?_
    simp only [laminaref41_Difference.l0, rd_drop h, w64_add1 i (by omega)]
    refine Ev.pos (by omega) ?_
    refine Ev.pos (by omega) ?_
    refine Ev.bind (contains_ev b x hb) ?_
    by_cases c : b.contains x = true
    · refine Ev.pos c ?_
      refine Ev.eq (ih (i + 1) acc (drop_next h) (by omega)) ?_
      rw [List.filter_cons, c]; simp
    · refine Ev.neg c ?_
      refine Ev.pos (by omega) ?_
      refine Ev.eq (ih (i + 1) (acc ++ [x]) (drop_next h) (by simp <;> omega)) ?_
      rw [Bool.not_eq_true] at c
      rw [List.filter_cons, c]; simp
theorem rdiff_ev (a b : List Int) (ha : a.length < 1000000) (hb : b.length < 9223372036854775808) : Ev (fun k => laminaref41_Difference.f k a b) (a.filter (fun x => !b.contains x)) := by
  have := rdiff_l0 a b ha hb a 0 [] rfl (by simpa using ha)
  unfold laminaref41_Difference.f
  simpa using this
theorem runion_l0 (a b : List Int) (ha : a.length < 1000000) (hb : b.length < 1000000) : ∀ (n : Nat) (p q : List Int) (i j : Nat) (acc : List Int), p.length + q.length ≤ n → a.drop i = p → b.drop j = q → i ≤ a.length → j ≤ b.length → acc.length + n < 3000000 →
    Ev (fun k => laminaref41_Union.l0 k a b acc i j) (acc ++ mrg kOr p q) := by
  intro n
  induction n with
  | zero =>
    intro p q i j acc h hp hq hi hj hacc
    obtain rfl : p = [] := List.eq_nil_of_length_eq_zero (by omega)
    obtain rfl : q = [] := List.eq_nil_of_length_eq_zero (by omega)
    have h1 := drop_ge hp
    have h2 := drop_ge hq
    refine Ev.succ ?_
    simp only [laminaref41_Union.l0]
    refine Ev.neg (by omega) ?_
    rw [decide_eq_false (by omega)]
    refine Ev.succ ?_
    simp only [laminaref41_Union.j1]
    refine Ev.neg (by decide) ?_
    exact Ev.eq (Ev.now _) (by simp [mrg])
  | succ n ih =>
    intro p q i j acc h hp hq hi hj hacc
    rcases p with _ | ⟨x, p⟩ <;> rcases q with _ | ⟨y, q⟩
    · exact (ih [] [] i j acc (by simp) hp hq hi hj (by omega))
    · have h1 := drop_ge hp
      have h2 := drop_lt hq
      simp only [List.length_nil, List.length_cons] at h
      refine Ev.succ ?_
      simp only [laminaref41_Union.l0]
      refine Ev.neg (by omega) ?_
      rw [decide_eq_true (by omega)]
      refine Ev.succ ?_
      simp only [laminaref41_Union.j1]
      refine Ev.pos (by decide) ?_
      refine Ev.neg (by omega) ?_
      refine Ev.neg (by omega) ?_
      refine Ev.succ ?_
      simp only [laminaref41_Union.j2, rd_drop hq, w64_add1 j (by omega)]
      refine Ev.neg (by decide) ?_
      refine Ev.neg (by omega) ?_
      refine Ev.pos (by omega) ?_
      refine Ev.pos (by omega) ?_
      refine Ev.pos (by omega) ?_
      refine Ev.eq (ih [] q i (j + 1) (acc ++ [y]) (by simp <;> omega) hp (drop_next hq) hi (by omega) (by simp <;> omega)) ?_
      rw [show mrg kOr [] (y :: q) = y :: mrg kOr [] q by rw [mrg, if_pos (by decide)]]
      simp
    · have h1 := drop_lt hp
      have h2 := drop_ge hq
      simp only [List.length_nil, List.length_cons] at h
      refine Ev.succ ?_
      simp only [laminaref41_Union.l0]
      refine Ev.pos (by omega) ?_
      refine Ev.succ ?_
      simp only [laminaref41_Union.j1]
      refine Ev.pos (by decide) ?_
      refine Ev.pos (by omega) ?_
      refine Ev.succ ?_
      simp only [laminaref41_Union.j2, rd_drop hp, w64_add1 i (by omega)]
      refine Ev.pos (by decide) ?_
      refine Ev.pos (by omega) ?_
      refine Ev.pos (by omega) ?_
      refine Ev.pos (by omega) ?_
      refine Ev.eq (ih p [] (i + 1) j (acc ++ [x]) (by simp <;> omega) (drop_next hp) hq (by omega) hj (by simp <;> omega)) ?_
      rw [show mrg kOr (x :: p) [] = x :: mrg kOr p [] by rw [mrg, if_pos (by decide)]]
      simp
    · have h1 := drop_lt hp
      have h2 := drop_lt hq
      simp only [List.length_cons] at h
      refine Ev.succ ?_
      simp only [laminaref41_Union.l0]
      refine Ev.pos (by omega) ?_
      refine Ev.succ ?_
      simp only [laminaref41_Union.j1, rd_drop hp, rd_drop hq]
      refine Ev.pos (by decide) ?_
      refine Ev.neg (by omega) ?_
      refine Ev.pos (by omega) ?_
      refine Ev.pos (by omega) ?_
      refine Ev.pos (by omega) ?_
      refine Ev.pos (by omega) ?_
      refine Ev.succ ?_
      simp only [laminaref41_Union.j2, rd_drop hp, rd_drop hq, w64_add1 i (by omega), w64_add1 j (by omega)]
      by_cases c1 : x < y
      · refine Ev.pos (decide_eq_true c1) ?_
        refine Ev.pos (by omega) ?_
        refine Ev.pos (by omega) ?_
        refine Ev.pos (by omega) ?_
        refine Ev.eq (ih p (y :: q) (i + 1) j (acc ++ [x]) (by simp <;> omega) (drop_next hp) hq (by omega) hj (by simp <;> omega)) ?_
        rw [show mrg kOr (x :: p) (y :: q) = x :: mrg kOr p (y :: q) by rw [mrg, if_pos c1, if_pos (by decide)]]
        simp
      · refine Ev.neg (by simpa using c1) ?_
        refine Ev.pos (by omega) ?_
        refine Ev.pos (by omega) ?_
        refine Ev.pos (by omega) ?_
        refine Ev.pos (by omega) ?_
        by_cases c2 : x = y
        · refine Ev.pos c2 ?_
          refine Ev.pos (by omega) ?_
          refine Ev.eq (ih p q (i + 1) (j + 1) (acc ++ [y]) (by omega) (drop_next hp) (drop_next hq) (by omega) (by omega) (by simp <;> omega)) ?_
          rw [show mrg kOr (x :: p) (y :: q) = y :: mrg kOr p q by rw [mrg, if_neg c1, if_neg (by omega), if_pos (by decide)]]
          simp
        · refine Ev.neg c2 ?_
          refine Ev.pos (by omega) ?_
          refine Ev.eq (ih (x :: p) q i (j + 1) (acc ++ [y]) (by simp <;> omega) hp (drop_next hq) hi (by omega) (by simp <;> omega)) ?_
          rw [show mrg kOr (x :: p) (y :: q) = y :: mrg kOr (x :: p) q by rw [mrg, if_neg c1, if_pos (by omega), if_pos (by decide)]]
          simp
theorem runion_ev (a b : List Int) (ha : a.length < 1000000) (hb : b.length < 1000000) : Ev (fun k => laminaref41_Union.f k a b) (mrg kOr a b) := by
  have := runion_l0 a b ha hb (a.length + b.length) a b 0 0 [] (Nat.le_refl _) rfl rfl (by omega) (by omega) (by simp <;> omega)
  unfold laminaref41_Union.f
  simpa using this

theorem all_l0_selection (n : Int) (hn : n ≤ 1000000) : ∀ (d i : Nat) (acc : List Int), (i : Int) + d = n → acc = (List.range i).map Int.ofNat → Ev (fun k => selection_All.l0 k n acc i) (allN n) := by
  intro d
  induction d with
  | zero =>
    intro i acc h ha
    refine Ev.succ ?_
    simp only [selection_All.l0]
    refine Ev.neg (by omega) ?_
    exact Ev.eq (Ev.now _) (by rw [ha]; unfold allN; rw [show n.toNat = i by omega])
  | succ d ih =>
    intro i acc h ha
    have hl : acc.length = i := by rw [ha]; simp
    refine Ev.succ ?_
    simp only [selection_All.l0, w64_add1 i (by omega)]
    refine Ev.pos (by omega) ?_
    refine Ev.pos (by omega) ?_
    refine ih (i + 1) _ (by omega) ?_
    rw [ha, List.range_succ, List.map_append]; rfl
theorem all_ev_selection (n : Int) (hn : n ≤ 1000000) : Ev (fun k => selection_All.f k n) (allN n) := by
  unfold selection_All.f
  by_cases h : 0 ≤ n
  · exact all_l0_selection n hn n.toNat 0 [] (by omega) rfl
  · refine Ev.succ ?_
    simp only [selection_All.l0]
    refine Ev.neg (by omega) ?_
    exact Ev.eq (Ev.now _) (by unfold allN; rw [show n.toNat = 0 by omega]; rfl)

theorem all_l0_laminaref41 (n : Int) (hn : n ≤ 1000000) : ∀ (d i : Nat) (acc : List Int), (i : Int) + d = n → acc = (List.range i).map Int.ofNat → Ev (fun k => laminaref41_All.l0 k n acc i) (allN n) := by
  intro d
  induction d with
  | zero =>
    intro i acc h ha
    refine Ev.succ ?_
    simp only [laminaref41_All.l0]
    refine Ev.neg (by omega) ?_
    exact Ev.eq (Ev.now _) (by rw [ha]; unfold allN; rw [show n.toNat = i by omega])
  | succ d ih =>
    intro i acc h ha
    have hl : acc.length = i := by rw [ha]; simp
    refine Ev.succ ?_
    simp only [laminaref41_All.l0, w64_add1 i (by omega)]
    refine Ev.pos (by omega) ?_
    refine Ev.pos (by omega) ?_
    refine ih (i + 1) _ (by omega) ?_
    rw [ha, List.range_succ, List.map_append]; rfl
theorem all_ev_laminaref41 (n : Int) (hn : n ≤ 1000000) : Ev (fun k => laminaref41_All.f k n) (allN n) := by
  unfold laminaref41_All.f
  by_cases h : 0 ≤ n
  · exact all_l0_laminaref41 n hn n.toNat 0 [] (by omega) rfl
  · refine Ev.succ ?_
    simp only [laminaref41_All.l0]
    refine Ev.neg (by omega) ?_
    exact Ev.eq (Ev.now _) (by unfold allN; rw [show n.toNat = 0 by omega]; rfl)

theorem awake_ev : Ev (fun k => laminalaw41_awake.f k) true := Ev.of laminalaw41_awake.mono (k := 200) (by decide +kernel)
theorem SelectionSets : laminalaw41_SelectionSets.Pure := by
  intro a b n hal ha8 haw hbl hb8 hbw hn
  have awake_true : ∀ t : List Int, Ev (fun k => laminalaw41_SelectionSets.j0 k a b n true) true := fun _ => by
    refine Ev.succ ?_
    simp only [laminalaw41_SelectionSets.j0]
    refine Ev.pos (by decide) ?_
    exact Ev.bind awake_ev (Ev.now _)
  refine Ev.rounds (g := fun k => laminalaw41_SelectionSets.f k a b n) ?_
  unfold laminalaw41_SelectionSets.f
  refine Ev.bind (small_ev a n (by omega)) ?_
  by_cases h1 : (decide (n ≤ 300) && vsl n none a) = true
  · refine Ev.pos h1 ?_
    refine Ev.bind (small_ev b n (by omega)) ?_
    by_cases h2 : (decide (n ≤ 300) && vsl n none b) = true
    · rw [h2]
      rw [Bool.and_eq_true, decide_eq_true_iff] at h1 h2
      obtain ⟨hr1, hs1, _⟩ := vsl_all _ _ _ h1.2
      obtain ⟨hr2, hs2, _⟩ := vsl_all _ _ _ h2.2
      have hl1 : a.length ≤ 300 := by
        rcases vsl_len h1.2 with h | h
        · omega
        · rw [h]; simp
      have hl2 : b.length ≤ 300 := by
        rcases vsl_len h2.2 with h | h
        · omega
        · rw [h]; simp
      have hu : (mrg kOr a b).length ≤ a.length + b.length := mrg_len _ _ _ _ (Nat.le_refl _)
      have hall := allN_len n
      have f1 : (a.filter (fun x => b.contains x)).length ≤ a.length := List.length_filter_le _ _
      have f2 : (a.filter (fun x => !b.contains x)).length ≤ a.length := List.length_filter_le _ _
      have f3 : ((allN n).filter (fun x => !a.contains x)).length ≤ (allN n).length := List.length_filter_le _ _
      refine Ev.succ ?_
      simp only [laminalaw41_SelectionSets.j0]
      refine Ev.neg (by decide) ?_
      refine Ev.bind (ev_Intersect a b (by omega)) ?_
      rw [mrg_and _ a b (Nat.le_refl _) hs1 hs2]
      refine Ev.bind (rinter_ev a b (by omega) (by omega)) ?_
      refine Ev.bind (ints_ev _ (by omega)) ?_
      refine Ev.pos (by rfl) ?_
      refine Ev.bind (ev_Union a b (by omega)) ?_
      refine Ev.bind (runion_ev a b (by omega) (by omega)) ?_
      refine Ev.bind (ints_ev _ (by omega)) ?_
      refine Ev.pos (by rfl) ?_
      refine Ev.bind (ev_Difference a b (by omega)) ?_
      rw [mrg_not _ a b (Nat.le_refl _) hs1 hs2]
      refine Ev.bind (rdiff_ev a b (by omega) (by omega)) ?_
      refine Ev.bind (ints_ev _ (by omega)) ?_
      refine Ev.pos (by rfl) ?_
      unfold selection_Complement.f laminaref41_Complement.f
      refine Ev.bind (Ev.bind (all_ev_selection n (by omega)) (Ev.bind (ev_Difference (allN n) a (by omega)) (Ev.now _))) ?_
      rw [mrg_not _ (allN n) a (Nat.le_refl _) (allN_inc n) hs1]
      refine Ev.bind (Ev.bind (all_ev_laminaref41 n (by omega)) (Ev.bind (rdiff_ev (allN n) a (by omega) (by omega)) (Ev.now _))) ?_
      refine Ev.bind (ints_ev _ (by omega)) ?_
      refine Ev.pos (by rfl) ?_
      exact Ev.bind awake_ev (Ev.now _)
    · rw [Bool.not_eq_true] at h2
      rw [h2]
      exact awake_true a
  · refine Ev.neg h1 ?_
    exact awake_true a

end Go.Proofs.Ytijgbhbdmnhanaa.Pure
