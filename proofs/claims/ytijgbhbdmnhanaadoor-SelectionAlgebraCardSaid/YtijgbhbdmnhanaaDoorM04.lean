/- Facts on strictly increasing lists of numbers. -/
import Derived.Test.YtijgbhbdmnhanaaDoorM02
set_option linter.unusedVariables false
set_option linter.unusedSimpArgs false
namespace Go.Proofs.YtijgbhbdmnhanaaDoorM
open Go

def pge (p : Option Int) (x : Int) : Bool := match p with
  | none => false
  | some q => decide (x ≤ q)
/-- A selection of rows below n, all of them behind p. -/
def vsl (n : Int) : Option Int → List Int → Bool
  | _, [] => true
  | p, x :: r => if x < 0 ∨ n ≤ x ∨ pge p x = true then false else vsl n (some x) r

theorem vsl_all (n : Int) : ∀ (l : List Int) (p : Option Int), vsl n p l = true → (∀ x ∈ l, 0 ≤ x ∧ x < n) ∧ l.Pairwise (· < ·) ∧ ∀ x ∈ l, ∀ q, p = some q → q < x := by
  intro l
  induction l with
  | nil => intro p _; exact ⟨fun x hx => (by cases hx), List.Pairwise.nil, fun x hx => (by cases hx)⟩
  | cons x r ih =>
    intro p h
    unfold vsl at h
    split at h
    · cases h
    · rename_i hc
      obtain ⟨h1, h2, h3⟩ := ih _ h
      have hq : ∀ q, p = some q → q < x := by
        rintro q rfl
        have : ¬ pge (some q) x = true := fun e => hc (.inr (.inr e))
        simp [pge] at this
        exact this
      refine ⟨fun y hy => ?_, List.pairwise_cons.2 ⟨fun y hy => h3 y hy x rfl, h2⟩, fun y hy q hp => ?_⟩
      · rcases List.mem_cons.1 hy with rfl | hy
        · omega
        · exact h1 y hy
      · rcases List.mem_cons.1 hy with rfl | hy
        · exact hq q hp
        · have := h3 y hy x rfl; have := hq q hp; omega
theorem inc_len : ∀ (l : List Int) (a n : Int), l.Pairwise (· < ·) → (∀ x ∈ l, a ≤ x ∧ x < n) → a ≤ n → (l.length : Int) ≤ n - a := by
  intro l
  induction l with
  | nil => intro a n _ _ h; simp; omega
  | cons x r ih =>
    intro a n hp hr h
    obtain ⟨h1, h2⟩ := List.pairwise_cons.1 hp
    have hx := hr x List.mem_cons_self
    have := ih (x + 1) n h2 (fun y hy => ⟨by have := h1 y hy; omega, (hr y (List.mem_cons_of_mem _ hy)).2⟩) (by omega)
    simp only [List.length_cons]
    omega
theorem vsl_len {n : Int} {l : List Int} (h : vsl n none l = true) : (l.length : Int) ≤ n ∨ l = [] := by
  obtain ⟨h1, h2, _⟩ := vsl_all n l none h
  rcases l with _ | ⟨x, r⟩
  · exact .inr rfl
  · have := h1 x List.mem_cons_self
    exact .inl (by have := inc_len (x :: r) 0 n h2 h1 (by omega); omega)
/-- Two increasing lists walked through together. -/
def mrg (K : Bool → Bool → Bool) : List Int → List Int → List Int
  | [], [] => []
  | x :: a, [] => if K true false then x :: mrg K a [] else mrg K a []
  | [], y :: b => if K false true then y :: mrg K [] b else mrg K [] b
  | x :: a, y :: b => if x < y then (if K true false then x :: mrg K a (y :: b) else mrg K a (y :: b)) else if y < x then (if K false true then y :: mrg K (x :: a) b else mrg K (x :: a) b) else if K true true then y :: mrg K a b else mrg K a b
termination_by a b => a.length + b.length
/-- The same, by rounds. -/
def mrgN (K : Bool → Bool → Bool) : Nat → List Int → List Int → List Int
  | 0, _, _ => []
  | _ + 1, [], [] => []
  | n + 1, x :: a, [] => if K true false then x :: mrgN K n a [] else mrgN K n a []
  | n + 1, [], y :: b => if K false true then y :: mrgN K n [] b else mrgN K n [] b
  | n + 1, x :: a, y :: b => if x < y then (if K true false then x :: mrgN K n a (y :: b) else mrgN K n a (y :: b)) else if y < x then (if K false true then y :: mrgN K n (x :: a) b else mrgN K n (x :: a) b) else if K true true then y :: mrgN K n a b else mrgN K n a b
theorem mrgN_eq (K : Bool → Bool → Bool) : ∀ (n : Nat) (a b : List Int), a.length + b.length ≤ n → mrgN K n a b = mrg K a b := by
  intro n
  induction n with
  | zero =>
    intro a b h
    obtain rfl : a = [] := List.eq_nil_of_length_eq_zero (by omega)
    obtain rfl : b = [] := List.eq_nil_of_length_eq_zero (by omega)
    rw [mrg, mrgN]
  | succ n ih =>
    intro a b h
    rcases a with _ | ⟨x, a⟩ <;> rcases b with _ | ⟨y, b⟩
    · rw [mrg, mrgN]
    · rw [mrg, mrgN]; simp only [List.length_cons, List.length_nil] at h; rw [ih [] b (by simp; omega)]
    · rw [mrg, mrgN]; simp only [List.length_cons, List.length_nil] at h; rw [ih a [] (by simp; omega)]
    · rw [mrg, mrgN]; simp only [List.length_cons] at h
      rw [ih a (y :: b) (by simp; omega), ih (x :: a) b (by simp; omega), ih a b (by omega)]
theorem mrg_len (K : Bool → Bool → Bool) : ∀ (n : Nat) (a b : List Int), a.length + b.length ≤ n → (mrg K a b).length ≤ n := by
  intro n
  induction n with
  | zero =>
    intro a b h
    obtain rfl : a = [] := List.eq_nil_of_length_eq_zero (by omega)
    obtain rfl : b = [] := List.eq_nil_of_length_eq_zero (by omega)
    simp [mrg]
  | succ n ih =>
    intro a b h
    rcases a with _ | ⟨x, a⟩ <;> rcases b with _ | ⟨y, b⟩ <;> unfold mrg
    · simp
    · simp only [List.length_nil, List.length_cons] at h
      have := ih [] b (by simp; omega)
      split <;> simp <;> omega
    · simp only [List.length_nil, List.length_cons] at h
      have := ih a [] (by simp; omega)
      split <;> simp <;> omega
    · simp only [List.length_cons] at h
      have h1 := ih a (y :: b) (by simp; omega)
      have h2 := ih (x :: a) b (by simp; omega)
      have h3 := ih a b (by omega)
      split
      · split <;> simp <;> omega
      · split
        · split <;> simp <;> omega
        · split <;> simp <;> omega
def kAnd (a b : Bool) : Bool := a && b
def kOr (a b : Bool) : Bool := true
def kNot (a b : Bool) : Bool := a && !b
theorem not_mem_lt {x : Int} {b : List Int} (h : ∀ y ∈ b, x < y) : b.contains x = false := by
  rw [Bool.eq_false_iff]
  intro hc
  have := h x (by simpa using hc)
  omega
theorem mrg_and : ∀ (n : Nat) (a b : List Int), a.length + b.length ≤ n → a.Pairwise (· < ·) → b.Pairwise (· < ·) → mrg kAnd a b = a.filter (fun x => b.contains x) := by
  intro n
  induction n with
  | zero =>
    intro a b h _ _
    obtain rfl : a = [] := List.eq_nil_of_length_eq_zero (by omega)
    obtain rfl : b = [] := List.eq_nil_of_length_eq_zero (by omega)
    simp [mrg]
  | succ n ih =>
    intro a b h ha hb
    rcases a with _ | ⟨x, a⟩ <;> rcases b with _ | ⟨y, b⟩ <;> unfold mrg
    · simp
    · simp only [List.length_nil, List.length_cons] at h
      rw [if_neg (by decide), ih [] b (by simp; omega) ha (List.pairwise_cons.1 hb).2]
      simp
    · simp only [List.length_nil, List.length_cons] at h
      rw [if_neg (by decide), ih a [] (by simp; omega) (List.pairwise_cons.1 ha).2 hb]
      simp
    · simp only [List.length_cons] at h
      obtain ⟨ha1, ha2⟩ := List.pairwise_cons.1 ha
      obtain ⟨hb1, hb2⟩ := List.pairwise_cons.1 hb
      by_cases h1 : x < y
      · rw [if_pos h1, if_neg (by decide), ih a (y :: b) (by simp; omega) ha2 hb, List.filter_cons, not_mem_lt, if_neg (by decide)]
        intro z hz
        rcases List.mem_cons.1 hz with rfl | hz
        · exact h1
        · have := hb1 z hz; omega
      · rw [if_neg h1]
        by_cases h2 : y < x
        · rw [if_pos h2, if_neg (by decide), ih (x :: a) b (by simp; omega) ha hb2]
          apply List.filter_congr
          intro z hz
          have : y ≠ z := by
            rcases List.mem_cons.1 hz with rfl | hz
            · omega
            · have := ha1 z hz; omega
          rw [List.contains_cons, beq_eq_false_iff_ne.2 (fun e => this e.symm), Bool.false_or]
        · have e : x = y := by omega
          subst e
          rw [if_neg h2, if_pos (by decide), ih a b (by omega) ha2 hb2, List.filter_cons, if_pos (by simp)]
          congr 1
          apply List.filter_congr
          intro z hz
          have : x ≠ z := by have := ha1 z hz; omega
          rw [List.contains_cons, beq_eq_false_iff_ne.2 (fun e => this e.symm), Bool.false_or]
theorem mrg_not : ∀ (n : Nat) (a b : List Int), a.length + b.length ≤ n → a.Pairwise (· < ·) → b.Pairwise (· < ·) → mrg kNot a b = a.filter (fun x => !b.contains x) := by
  intro n
  induction n with
  | zero =>
    intro a b h _ _
    obtain rfl : a = [] := List.eq_nil_of_length_eq_zero (by omega)
    obtain rfl : b = [] := List.eq_nil_of_length_eq_zero (by omega)
    simp [mrg]
  | succ n ih =>
    intro a b h ha hb
    rcases a with _ | ⟨x, a⟩ <;> rcases b with _ | ⟨y, b⟩ <;> unfold mrg
    · simp
    · simp only [List.length_nil, List.length_cons] at h
      rw [if_neg (by decide), ih [] b (by simp; omega) ha (List.pairwise_cons.1 hb).2]
      simp
    · simp only [List.length_nil, List.length_cons] at h
      rw [if_pos (by decide), ih a [] (by simp; omega) (List.pairwise_cons.1 ha).2 hb]
      simp
    · simp only [List.length_cons] at h
      obtain ⟨ha1, ha2⟩ := List.pairwise_cons.1 ha
      obtain ⟨hb1, hb2⟩ := List.pairwise_cons.1 hb
      by_cases h1 : x < y
      · rw [if_pos h1, if_pos (by decide), ih a (y :: b) (by simp; omega) ha2 hb, List.filter_cons, not_mem_lt, if_pos (by decide)]
        intro z hz
        rcases List.mem_cons.1 hz with rfl | hz
        · exact h1
        · have := hb1 z hz; omega
      · rw [if_neg h1]
        by_cases h2 : y < x
        · rw [if_pos h2, if_neg (by decide), ih (x :: a) b (by simp; omega) ha hb2]
          apply List.filter_congr
          intro z hz
          have : y ≠ z := by
            rcases List.mem_cons.1 hz with rfl | hz
            · omega
            · have := ha1 z hz; omega
          rw [List.contains_cons, beq_eq_false_iff_ne.2 (fun e => this e.symm), Bool.false_or]
        · have e : x = y := by omega
          subst e
          rw [if_neg h2, if_neg (by decide), ih a b (by omega) ha2 hb2, List.filter_cons, if_neg (by simp)]
          apply List.filter_congr
          intro z hz
          have : x ≠ z := by have := ha1 z hz; omega
          rw [List.contains_cons, beq_eq_false_iff_ne.2 (fun e => this e.symm), Bool.false_or]
/-- All rows. -/
def allN (n : Int) : List Int := (List.range n.toNat).map Int.ofNat
theorem allN_inc (n : Int) : (allN n).Pairwise (· < ·) := by
  unfold allN
  rw [List.pairwise_map]
  exact List.pairwise_lt_range.imp (fun h => by simp only [Int.ofNat_eq_natCast]; omega)
theorem allN_len (n : Int) : (allN n).length = n.toNat := by simp [allN]
end Go.Proofs.YtijgbhbdmnhanaaDoorM
