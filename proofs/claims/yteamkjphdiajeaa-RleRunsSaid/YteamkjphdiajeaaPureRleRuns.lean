/- laminalaw07.RleRuns returns true for all its arguments (Runs, Valid and Expand return the reference's results, and Expand is the inverse of Runs). Conditions: none beyond the row's own (slices that can be read, each of at most 2^47 - 4096 bytes). -/
import Derived.Test.YteamkjphdiajeaaStRleRuns
import Derived.Test.YteamkjphdiajeaaM01
import Derived.Test.YteamkjphdiajeaaM02
import Derived.Test.YteamkjphdiajeaaM03
set_option linter.unusedVariables false
set_option linter.unusedSimpArgs false
namespace Go.Proofs.Yteamkjphdiajeaa.Pure
open Go Go.RowKit Go.Proofs.Yteamkjphdiajeaa.QRleRuns Go.Proofs.YteamkjphdiajeaaW.PrintWords Go.Proofs.YteamkjphdiajeaaW.PrintLast Go.Proofs.YteamkjphdiajeaaM

/-! ### runs -/
abbrev Run := S77
theorem rdT (l : List Run) (n : Nat) : rd_T77 l (n : Int) = l.getD n z77 := by simp [rd_T77]
theorem rdT_drop {l r : List Run} {i : Nat} {x : Run} (h : l.drop i = x :: r) : rd_T77 l (i : Int) = x := by
  rw [rdT, List.getD_eq_getElem?_getD, ← List.head?_drop, h]; rfl
theorem drop_lt {α : Type} {l r : List α} {i : Nat} {x : α} (h : l.drop i = x :: r) : i < l.length := by
  rcases Nat.lt_or_ge i l.length with h1 | h1
  · exact h1
  · rw [List.drop_of_length_le h1] at h; cases h
theorem drop_ge {α : Type} {l : List α} {i : Nat} (h : l.drop i = []) : l.length ≤ i := by
  rwa [List.drop_eq_nil_iff] at h
theorem drop_next {α : Type} {l r : List α} {i : Nat} {x : α} (h : l.drop i = x :: r) : l.drop (i + 1) = r := by
  rw [← List.drop_drop, h]; rfl
theorem drop_mem {α : Type} {l r : List α} {i : Nat} {x : α} (h : l.drop i = x :: r) : x ∈ l := List.mem_of_mem_drop (h ▸ List.mem_cons_self)
def prv (l : List Run) (i : Nat) : Option Int := if i = 0 then none else some (rd_T77 l ((i - 1 : Nat) : Int)).f0
def rvl : Option Int → Int → List Run → Bool
  | _, _, [] => true
  | p, left, x :: r => if 1 ≤ x.f1 ∧ x.f1 ≤ left ∧ p ≠ some x.f0 then rvl (some x.f0) (left - x.f1) r else false
theorem prv_next {l r : List Run} {i : Nat} {x : Run} (h : l.drop i = x :: r) : prv l (i + 1) = some x.f0 := by
  unfold prv
  rw [if_neg (by omega), show i + 1 - 1 = i by omega, rdT_drop h]
theorem val_l0 (l : List Run) (hl : l.length < 9223372036854775808) (hw : ∀ y ∈ l, -9223372036854775808 ≤ y.f1 ∧ y.f1 ≤ 9223372036854775807) : ∀ (r : List Run) (i : Nat) (tot : Int), l.drop i = r → 0 ≤ tot → tot ≤ 65536 →
    Ev (fun k => rle_Valid.l0 k l tot l (l.length : Int) i) (rvl (prv l i) (65536 - tot) r) := by
  intro r
  induction r with
  | nil =>
    intro i tot h h0 h1
    have := drop_ge h
    refine Ev.succ ?_
    simp only [rle_Valid.l0]
    refine Ev.neg (by omega) ?_
    exact Ev.now _
  | cons x r ih =>
    intro i tot h h0 h1
    have hlt := drop_lt h
    have hx := hw x (drop_mem h)
    have hi1 : 0 < i → wrap64 ((i : Int) - 1) = ((i - 1 : Nat) : Int) := fun hp => by rw [w64 _ (by omega) (by omega)]; omega
    refine Ev.succ ?_
    simp only [rle_Valid.l0, rdT_drop h, w64_add1 i (by omega), w64 (65536 - tot) (by omega) (by omega)]
    refine Ev.pos (by omega) ?_
    refine Ev.pos (by omega) ?_
    refine Ev.pos (by omega) ?_
    unfold rvl
    by_cases c1 : x.f1 < 1
    · refine Ev.pos c1 ?_
      exact Ev.eq (Ev.now _) (by rw [if_neg (by omega)])
    refine Ev.neg c1 ?_
    by_cases c2 : x.f1 > 65536 - tot
    · refine Ev.pos c2 ?_
      exact Ev.eq (Ev.now _) (by rw [if_neg (by omega)])
    refine Ev.neg c2 ?_
    have hnext : Ev (fun k => rle_Valid.l0 k l (wrap64 (tot + x.f1)) l (l.length : Int) ((i + 1 : Nat) : Int)) (rvl (some x.f0) (65536 - tot - x.f1) r) := by
      rw [w64 _ (by omega) (by omega)]
      have := ih (i + 1) (tot + x.f1) (drop_next h) (by omega) (by omega)
      rw [prv_next h, show 65536 - (tot + x.f1) = 65536 - tot - x.f1 by omega] at this
      exact this
    by_cases c3 : (i : Int) > 0
    · refine Ev.pos c3 ?_
      simp only [hi1 (by omega)]
      refine Ev.pos (by omega) ?_
      refine Ev.pos (by omega) ?_
      by_cases c4 : x.f0 = (rd_T77 l ((i - 1 : Nat) : Int)).f0
      · refine Ev.pos c4 ?_
        refine Ev.eq (Ev.now _) ?_
        rw [if_neg]
        rintro ⟨_, _, h3⟩
        exact h3 (by unfold prv; rw [if_neg (by omega), c4])
      · refine Ev.neg c4 ?_
        refine Ev.eq hnext ?_
        rw [if_pos]
        refine ⟨by omega, by omega, ?_⟩
        unfold prv
        rw [if_neg (by omega)]
        intro he
        injection he with he
        exact c4 he.symm
    · refine Ev.neg c3 ?_
      refine Ev.eq hnext ?_
      rw [if_pos]
      refine ⟨by omega, by omega, ?_⟩
      unfold prv
      rw [if_pos (by omega)]
      intro he; cases he
theorem val_ev (l : List Run) (hl : l.length < 9223372036854775808) (hw : ∀ y ∈ l, -9223372036854775808 ≤ y.f1 ∧ y.f1 ≤ 9223372036854775807) : Ev (fun k => rle_Valid.f k l) (rvl none 65536 l) := by
  have := val_l0 l hl hw l 0 0 rfl (by omega) (by omega)
  unfold rle_Valid.f
  simpa [prv] using this
theorem rvl_tot : ∀ (l : List Run) (p : Option Int) (left : Int), 0 ≤ left → rvl p left l = true → (∀ x ∈ l, 1 ≤ x.f1) ∧ (l.map (·.f1)).sum ≤ left := by
  intro l
  induction l with
  | nil => intro p left h0 _; exact ⟨fun x hx => by (cases hx), by simpa using h0⟩
  | cons x r ih =>
    intro p left h0 h
    unfold rvl at h
    split at h
    · rename_i hc
      obtain ⟨h1, h2⟩ := ih _ _ (by omega) h
      refine ⟨fun y hy => ?_, ?_⟩
      · rcases List.mem_cons.1 hy with rfl | hy
        · exact hc.1
        · exact h1 y hy
      · simp only [List.map_cons, List.sum_cons]; omega
    · cases h
theorem rvl_le : ∀ (l : List Run) (p : Option Int) (left : Int), 0 ≤ left → rvl p left l = true → ∀ x ∈ l, x.f1 ≤ left := by
  intro l
  induction l with
  | nil => intro p left h0 _ x hx; cases hx
  | cons x r ih =>
    intro p left h0 h y hy
    unfold rvl at h
    split at h
    · rename_i hc
      rcases List.mem_cons.1 hy with rfl | hy
      · exact hc.2.1
      · have := ih _ _ (by omega) h y hy
        omega
    · cases h
def rexp : List Run → List Int
  | [] => []
  | x :: r => List.replicate x.f1.toNat x.f0 ++ rexp r
theorem rexp_append (a b : List Run) : rexp (a ++ b) = rexp a ++ rexp b := by
  induction a with
  | nil => rfl
  | cons x a ih => simp [rexp, ih]
theorem rexp_len : ∀ (l : List Run), (∀ x ∈ l, 0 ≤ x.f1) → ((rexp l).length : Int) = (l.map (·.f1)).sum := by
  intro l
  induction l with
  | nil => intro _; rfl
  | cons x r ih =>
    intro h
    have := ih (fun y hy => h y (List.mem_cons_of_mem _ hy))
    have := h x List.mem_cons_self
    simp only [rexp, List.length_append, List.length_replicate, List.map_cons, List.sum_cons]
    omega
theorem exp_l1 (l : List Run) (n i c v cc : Int) (hc : c ≤ 65536) (R : List Int × Int) : ∀ (d j : Nat) (acc : List Int), (j : Int) + d = c → acc.length + d < 1000000 →
    Ev (fun k => rle_Expand.l0 k (acc ++ List.replicate d v) l n (wrap64 (i + 1))) R → Ev (fun k => rle_Expand.l1 k acc l n i c j v cc) R := by
  intro d
  induction d with
  | zero =>
    intro j acc hj ha h
    refine Ev.succ ?_
    simp only [rle_Expand.l1]
    refine Ev.neg (by omega) ?_
    simpa using h
  | succ d ih =>
    intro j acc hj ha h
    refine Ev.succ ?_
    simp only [rle_Expand.l1, w64_add1 j (by omega)]
    refine Ev.pos (by omega) ?_
    refine Ev.pos (by omega) ?_
    refine ih (j + 1) (acc ++ [v]) (by omega) (by simp; omega) ?_
    rw [List.append_assoc, show [v] ++ List.replicate d v = List.replicate (d + 1) v from (List.replicate_succ ..).symm]
    exact h
theorem exp_l0 (l : List Run) (hl : l.length < 9223372036854775808) : ∀ (r : List Run) (i : Nat) (acc : List Int), l.drop i = r → (∀ x ∈ r, 1 ≤ x.f1) → (acc.length : Int) + (r.map (·.f1)).sum ≤ 65536 →
    Ev (fun k => rle_Expand.l0 k acc l (l.length : Int) i) (acc ++ rexp r, 0) := by
  intro r
  induction r with
  | nil =>
    intro i acc h _ _
    have := drop_ge h
    refine Ev.succ ?_
    simp only [rle_Expand.l0]
    refine Ev.neg (by omega) ?_
    simp only [rexp, List.append_nil]
    exact Ev.now _
  | cons x r ih =>
    intro i acc h hc hs
    have hlt := drop_lt h
    have hx := hc x List.mem_cons_self
    have hr := rexp_len r (fun y hy => by have := hc y (List.mem_cons_of_mem _ hy); omega)
    simp only [List.map_cons, List.sum_cons] at hs
    refine Ev.succ ?_
    simp only [rle_Expand.l0, rdT_drop h]
    refine Ev.pos (by omega) ?_
    refine Ev.pos (by omega) ?_
    refine Ev.pos (by omega) ?_
    obtain ⟨m, hm⟩ := Int.eq_ofNat_of_zero_le (show 0 ≤ x.f1 by omega)
    refine exp_l1 l _ _ _ _ _ (by omega) _ m 0 acc (by omega) (by omega) ?_
    rw [w64_add1 i (by omega)]
    have := ih (i + 1) (acc ++ List.replicate m x.f0) (drop_next h) (fun y hy => hc y (List.mem_cons_of_mem _ hy)) (by simp; omega)
    simpa [rexp, hm] using this
theorem exp_ev (l : List Run) (hl : l.length < 9223372036854775808) (hw : ∀ y ∈ l, -9223372036854775808 ≤ y.f1 ∧ y.f1 ≤ 9223372036854775807) : Ev (fun k => rle_Expand.f k l) (if rvl none 65536 l = true then (rexp l, 0) else ([], 4)) := by
  unfold rle_Expand.f
  refine Ev.bind (val_ev l hl hw) ?_
  by_cases h : rvl none 65536 l = true
  · refine Ev.pos h ?_
    rw [if_pos h]
    obtain ⟨h1, h2⟩ := rvl_tot l none 65536 (by omega) h
    have := exp_l0 l hl l 0 [] rfl h1 (by simpa using h2)
    simpa using this
  · refine Ev.neg h ?_
    rw [if_neg h]
    exact Ev.now _

/-! ### the reference's runs -/
theorem rval_l0 (l : List Run) (hl : l.length < 9223372036854775808) (hw : ∀ y ∈ l, -9223372036854775808 ≤ y.f1 ∧ y.f1 ≤ 9223372036854775807) : ∀ (r : List Run) (i : Nat) (left : Int), l.drop i = r → 0 ≤ left → left ≤ 65536 →
    Ev (fun k => laminaref07_Valid.l0 k l left i) (rvl (prv l i) left r) := by
  intro r
  induction r with
  | nil =>
    intro i tot h h0 h1
    have := drop_ge h
    refine Ev.succ ?_
    simp only [laminaref07_Valid.l0]
    refine Ev.neg (by omega) ?_
    exact Ev.now _
  | cons x r ih =>
    intro i tot h h0 h1
    have hlt := drop_lt h
    have hx := hw x (drop_mem h)
    have hi1 : 0 < i → wrap64 ((i : Int) - 1) = ((i - 1 : Nat) : Int) := fun hp => by rw [w64 _ (by omega) (by omega)]; omega
    refine Ev.succ ?_
    simp only [laminaref07_Valid.l0, rdT_drop h, w64_add1 i (by omega)]
    refine Ev.pos (by omega) ?_
    refine Ev.pos (by omega) ?_
    unfold rvl
    by_cases c1 : x.f1 < 1
    · refine Ev.pos c1 ?_
      exact Ev.eq (Ev.now _) (by rw [if_neg (by omega)])
    refine Ev.neg c1 ?_
    by_cases c2 : x.f1 > tot
    · refine Ev.pos c2 ?_
      exact Ev.eq (Ev.now _) (by rw [if_neg (by omega)])
    refine Ev.neg c2 ?_
    have hnext : Ev (fun k => laminaref07_Valid.l0 k l (wrap64 (tot - x.f1)) ((i + 1 : Nat) : Int)) (rvl (some x.f0) (tot - x.f1) r) := by
      rw [w64 _ (by omega) (by omega)]
      have := ih (i + 1) (tot - x.f1) (drop_next h) (by omega) (by omega)
      rw [prv_next h] at this
      exact this
    by_cases c3 : (i : Int) > 0
    · refine Ev.pos c3 ?_
      simp only [hi1 (by omega)]
      refine Ev.pos (by omega) ?_
      refine Ev.pos (by omega) ?_
      by_cases c4 : x.f0 = (rd_T77 l ((i - 1 : Nat) : Int)).f0
      · refine Ev.pos c4 ?_
        refine Ev.eq (Ev.now _) ?_
        rw [if_neg]
        rintro ⟨_, _, h3⟩
        exact h3 (by unfold prv; rw [if_neg (by omega), c4])
      · refine Ev.neg c4 ?_
        refine Ev.eq hnext ?_
        rw [if_pos]
        refine ⟨by omega, by omega, ?_⟩
        unfold prv
        rw [if_neg (by omega)]
        intro he
        injection he with he
        exact c4 he.symm
    · refine Ev.neg c3 ?_
      refine Ev.eq hnext ?_
      rw [if_pos]
      refine ⟨by omega, by omega, ?_⟩
      unfold prv
      rw [if_pos (by omega)]
      intro he; cases he
theorem rval_ev (l : List Run) (hl : l.length < 9223372036854775808) (hw : ∀ y ∈ l, -9223372036854775808 ≤ y.f1 ∧ y.f1 ≤ 9223372036854775807) : Ev (fun k => laminaref07_Valid.f k l) (rvl none 65536 l) := by
  have := rval_l0 l hl hw l 0 65536 rfl (by omega) (by omega)
  unfold laminaref07_Valid.f
  simpa [prv] using this

theorem rexp_l1 (l : List Run) (hl : l.length < 9223372036854775808) (i : Nat) (hi : i < l.length) (R : List Int × Int) (hc : (rd_T77 l (i : Int)).f1 ≤ 65536) : ∀ (d j : Nat) (acc : List Int), (j : Int) + d = (rd_T77 l (i : Int)).f1 → acc.length + d < 1000000 →
    Ev (fun k => laminaref07_Expand.l0 k l (acc ++ List.replicate d (rd_T77 l (i : Int)).f0) ((i + 1 : Nat) : Int)) R → Ev (fun k => laminaref07_Expand.l1 k l acc i j) R := by
  intro d
  induction d with
  | zero =>
    intro j acc hj ha h
    refine Ev.succ ?_
    simp only [laminaref07_Expand.l1, w64_add1 i (by omega)]
    refine Ev.pos (by omega) ?_
    refine Ev.pos (by omega) ?_
    refine Ev.neg (by omega) ?_
    simpa using h
  | succ d ih =>
    intro j acc hj ha h
    refine Ev.succ ?_
    simp only [laminaref07_Expand.l1, w64_add1 j (by omega)]
    refine Ev.pos (by omega) ?_
    refine Ev.pos (by omega) ?_
    refine Ev.pos (by omega) ?_
    refine Ev.pos (by omega) ?_
    refine ih (j + 1) (acc ++ [_]) (by omega) (by simp; omega) ?_
    rw [List.append_assoc, List.singleton_append, ← List.replicate_succ]
    exact h
theorem rexp_l0 (l : List Run) (hl : l.length < 9223372036854775808) : ∀ (r : List Run) (i : Nat) (acc : List Int), l.drop i = r → (∀ x ∈ r, 1 ≤ x.f1) → (acc.length : Int) + (r.map (·.f1)).sum ≤ 65536 →
    Ev (fun k => laminaref07_Expand.l0 k l acc i) (acc ++ rexp r, 0) := by
  intro r
  induction r with
  | nil =>
    intro i acc h _ _
    have := drop_ge h
    refine Ev.succ ?_
    simp only [laminaref07_Expand.l0]
    refine Ev.neg (by omega) ?_
    simp only [rexp, List.append_nil]
    exact Ev.now _
  | cons x r ih =>
    intro i acc h hc hs
    have hlt := drop_lt h
    have hx := hc x List.mem_cons_self
    have hr := rexp_len r (fun y hy => by have := hc y (List.mem_cons_of_mem _ hy); omega)
    simp only [List.map_cons, List.sum_cons] at hs
    refine Ev.succ ?_
    simp only [laminaref07_Expand.l0]
    refine Ev.pos (by omega) ?_
    obtain ⟨m, hm⟩ := Int.eq_ofNat_of_zero_le (show 0 ≤ x.f1 by omega)
    refine rexp_l1 l hl i hlt _ (by rw [rdT_drop h]; omega) m 0 acc (by rw [rdT_drop h]; omega) (by omega) ?_
    rw [rdT_drop h]
    have := ih (i + 1) (acc ++ List.replicate m x.f0) (drop_next h) (fun y hy => hc y (List.mem_cons_of_mem _ hy)) (by simp; omega)
    simpa [rexp, hm] using this
theorem rexp_ev (l : List Run) (hl : l.length < 9223372036854775808) (hw : ∀ y ∈ l, -9223372036854775808 ≤ y.f1 ∧ y.f1 ≤ 9223372036854775807) : Ev (fun k => laminaref07_Expand.f k l) (if rvl none 65536 l = true then (rexp l, 0) else ([], 4)) := by
  unfold laminaref07_Expand.f
  refine Ev.bind (rval_ev l hl hw) ?_
  by_cases h : rvl none 65536 l = true
  · refine Ev.pos h ?_
    rw [if_pos h]
    obtain ⟨h1, h2⟩ := rvl_tot l none 65536 (by omega) h
    have := rexp_l0 l hl l 0 [] rfl h1 (by simpa using h2)
    simpa using this
  · refine Ev.neg h ?_
    rw [if_neg h]
    exact Ev.now _
theorem requal_l0 (l : List Run) (hl : l.length < 9223372036854775808) : ∀ (r : List Run) (i : Nat), l.drop i = r → Ev (fun k => laminaref07_Equal.l0 k l l i) true := by
  intro r
  induction r with
  | nil =>
    intro i h
    have := drop_ge h
    refine Ev.succ ?_
    simp only [laminaref07_Equal.l0]
    refine Ev.neg (by omega) ?_
    exact Ev.now _
  | cons x r ih =>
    intro i h
    have hlt := drop_lt h
    refine Ev.succ ?_
    simp only [laminaref07_Equal.l0, rdT_drop h, w64_add1 i (by omega)]
    refine Ev.pos (by omega) ?_
    refine Ev.pos (by omega) ?_
    refine Ev.pos (by omega) ?_
    refine Ev.neg (by simp) ?_
    exact ih (i + 1) (drop_next h)
theorem requal_ev (l : List Run) (hl : l.length < 9223372036854775808) : Ev (fun k => laminaref07_Equal.f k l l) true := by
  unfold laminaref07_Equal.f
  refine Ev.pos rfl ?_
  exact requal_l0 l hl l 0 rfl
theorem rints_l0 (l : List Int) (hl : l.length < 9223372036854775808) : ∀ (r : List Int) (i : Nat), l.drop i = r → Ev (fun k => laminaref07_Ints.l0 k l l i) true := by
  intro r
  induction r with
  | nil =>
    intro i h
    have := drop_ge h
    refine Ev.succ ?_
    simp only [laminaref07_Ints.l0]
    refine Ev.neg (by omega) ?_
    exact Ev.now _
  | cons x r ih =>
    intro i h
    have hlt := drop_lt h
    refine Ev.succ ?_
    simp only [laminaref07_Ints.l0, w64_add1 i (by omega)]
    refine Ev.pos (by omega) ?_
    refine Ev.pos (by omega) ?_
    refine Ev.pos (by omega) ?_
    refine Ev.pos trivial ?_
    exact ih (i + 1) (drop_next h)
theorem rints_ev (l : List Int) (hl : l.length < 9223372036854775808) : Ev (fun k => laminaref07_Ints.f k l l) true := by
  unfold laminaref07_Ints.f
  refine Ev.pos rfl ?_
  exact rints_l0 l hl l 0 rfl

/-! ### making runs -/
def stp (acc : List Run) (x : Int) : List Run :=
  if 0 < acc.length ∧ (rd_T77 acc ((acc.length - 1 : Nat) : Int)).f0 = x then acc.set (acc.length - 1) ⟨(rd_T77 acc ((acc.length - 1 : Nat) : Int)).f0, (rd_T77 acc ((acc.length - 1 : Nat) : Int)).f1 + 1⟩ else acc ++ [⟨x, 1⟩]
def rrun : List Run → List Int → List Run
  | acc, [] => acc
  | acc, x :: r => rrun (stp acc x) r
def lastv : Option Int → List Run → Option Int
  | p, [] => p
  | _, x :: r => lastv (some x.f0) r
theorem rvl_app : ∀ (a b : List Run) (p : Option Int) (left : Int), rvl p left (a ++ b) = (rvl p left a && rvl (lastv p a) (left - (a.map (·.f1)).sum) b) := by
  intro a
  induction a with
  | nil => intro b p left; simp [rvl, lastv]
  | cons x a ih =>
    intro b p left
    simp only [List.cons_append, rvl]
    by_cases h : 1 ≤ x.f1 ∧ x.f1 ≤ left ∧ p ≠ some x.f0
    · rw [if_pos h, if_pos h, ih]
      simp only [lastv, List.map_cons, List.sum_cons]
      rw [show left - x.f1 - (a.map (·.f1)).sum = left - (x.f1 + (a.map (·.f1)).sum) by omega]
    · rw [if_neg h, if_neg h]; rfl
theorem lastv_app (a : List Run) (y : Run) : ∀ p, lastv p (a ++ [y]) = some y.f0 := by
  induction a with
  | nil => intro p; rfl
  | cons x a ih => intro p; exact ih _
theorem rd_last (pre : List Run) (y : Run) : rd_T77 (pre ++ [y]) (((pre ++ [y]).length - 1 : Nat) : Int) = y := by
  rw [rdT, List.getD_eq_getElem?_getD, List.length_append, List.length_singleton, Nat.add_sub_cancel, List.getElem?_append_right (Nat.le_refl _)]
  simp
theorem stp_snoc (pre : List Run) (y : Run) (x : Int) : stp (pre ++ [y]) x = if y.f0 = x then pre ++ [⟨y.f0, y.f1 + 1⟩] else pre ++ [y] ++ [⟨x, 1⟩] := by
  unfold stp
  rw [rd_last]
  by_cases h : y.f0 = x
  · rw [if_pos h, if_pos ⟨by simp, h⟩, List.length_append, List.length_singleton, Nat.add_sub_cancel, List.set_append_right _ _ (Nat.le_refl _)]
    simp
  · rw [if_neg h, if_neg (fun hc => h hc.2)]
def Made (acc : List Run) (done : List Int) : Prop := rvl none 65536 acc = true ∧ rexp acc = done ∧ (acc.map (·.f1)).sum = done.length
theorem snoc_of {α : Type} (l : List α) (h : l ≠ []) : ∃ pre y, l = pre ++ [y] := ⟨l.dropLast, l.getLast h, (List.dropLast_concat_getLast h).symm⟩
theorem Made.nil : Made [] [] := ⟨rfl, rfl, rfl⟩
theorem Made.step {acc : List Run} {done : List Int} (h : Made acc done) (x : Int) (hd : done.length < 65536) : Made (stp acc x) (done ++ [x]) := by
  obtain ⟨hv, he, hs⟩ := h
  by_cases hn : acc = []
  · subst hn
    have : done = [] := by rw [← he]; rfl
    subst this
    refine ⟨?_, ?_, ?_⟩
    · simp [stp, rvl]
    · simp [stp, rexp]
    · simp [stp]
  · obtain ⟨pre, y, rfl⟩ := snoc_of acc hn
    rw [rvl_app, Bool.and_eq_true] at hv
    obtain ⟨hv1, hv2⟩ := hv
    have hy : 1 ≤ y.f1 ∧ y.f1 ≤ 65536 - (pre.map (·.f1)).sum ∧ lastv none pre ≠ some y.f0 := by
      unfold rvl at hv2
      split at hv2
      · assumption
      · cases hv2
    have hs' : (pre.map (·.f1)).sum + y.f1 = done.length := by simpa using hs
    rw [stp_snoc]
    obtain ⟨m, hm⟩ := Int.eq_ofNat_of_zero_le (show 0 ≤ y.f1 by omega)
    by_cases hx : y.f0 = x
    · rw [if_pos hx]
      refine ⟨?_, ?_, ?_⟩
      · rw [rvl_app, hv1]
        simp only [rvl, Bool.true_and]
        rw [if_pos ⟨by omega, by omega, hy.2.2⟩]
      · rw [rexp_append] at he ⊢
        simp only [rexp, List.append_nil, hm, Int.toNat_natCast] at he ⊢
        rw [show ((m : Int) + 1).toNat = m + 1 by omega, List.replicate_succ', ← List.append_assoc, he, hx]
      · simp; omega
    · rw [if_neg hx]
      refine ⟨?_, ?_, ?_⟩
      · rw [rvl_app, rvl_app, hv1, hv2, lastv_app]
        simp only [rvl, Bool.true_and]
        rw [if_pos]
        refine ⟨by omega, ?_, fun e => hx (by injection e)⟩
        simp only [List.map_append, List.map_cons, List.map_nil, List.sum_append, List.sum_cons, List.sum_nil]
        omega
      · rw [rexp_append, he]; simp [rexp]
      · simp; omega
theorem Made.last {acc : List Run} {done vs r : List Int} (h : Made acc done) (hvs : vs = done ++ r) (hd : 0 < done.length) : ∃ pre y, acc = pre ++ [y] ∧ 1 ≤ y.f1 ∧ y.f1 ≤ 65536 ∧ rd vs ((done.length - 1 : Nat) : Int) = y.f0 := by
  obtain ⟨hv, he, hs⟩ := h
  have hn : acc ≠ [] := by
    rintro rfl
    rw [← he] at hd
    simp [rexp] at hd
  obtain ⟨pre, y, rfl⟩ := snoc_of acc hn
  obtain ⟨hc, hle⟩ := rvl_tot _ _ _ (by omega) hv
  have hy := hc y (by simp)
  have hp : 0 ≤ (pre.map (·.f1)).sum := by
    have : ∀ l : List Run, (∀ x ∈ l, 1 ≤ x.f1) → 0 ≤ (l.map (·.f1)).sum := by
      intro l
      induction l with
      | nil => intro _; simp
      | cons z l ih =>
        intro hz
        have := ih (fun q hq => hz q (List.mem_cons_of_mem _ hq))
        have := hz z List.mem_cons_self
        simp only [List.map_cons, List.sum_cons]; omega
    exact this pre (fun z hz => hc z (by simp [hz]))
  simp only [List.map_append, List.map_cons, List.map_nil, List.sum_append, List.sum_cons, List.sum_nil] at hle
  refine ⟨pre, y, rfl, hy, by omega, ?_⟩
  obtain ⟨m, hm⟩ := Int.eq_ofNat_of_zero_le (show 0 ≤ y.f1 by omega)
  rw [rexp_append] at he
  simp only [rexp, List.append_nil, hm, Int.toNat_natCast] at he
  have hl : done.length = (rexp pre).length + m := by rw [← he]; simp
  have hl2 : (rexp pre ++ List.replicate m y.f0).length = (rexp pre).length + m := by simp
  rw [rd_nat, hvs, List.getD_eq_getElem?_getD, List.getElem?_append_left (by omega), ← he, List.getElem?_append_right (by omega), List.getElem?_replicate, if_pos (by omega)]
  rfl
theorem runs_l0 (vs : List Int) (hl : vs.length ≤ 65536) : ∀ (r : List Int) (i : Nat) (acc : List Run), vs.drop i = r → i ≤ vs.length → Made acc (vs.take i) →
    Ev (fun k => rle_Runs.l0 k vs acc vs (vs.length : Int) i) (rrun acc r) ∧ Made (rrun acc r) vs := by
  intro r
  induction r with
  | nil =>
    intro i acc h hi hm
    have := drop_ge h
    refine ⟨?_, ?_⟩
    · refine Ev.succ ?_
      simp only [rle_Runs.l0]
      refine Ev.neg (by omega) ?_
      exact Ev.now _
    · rw [List.take_of_length_le this] at hm
      exact hm
  | cons x r ih =>
    intro i acc h hi hm
    have hlt := drop_lt h
    have htl : (vs.take i).length = i := by rw [List.length_take]; omega
    have hx : rd vs (i : Int) = x := by rw [rd_nat, List.getD_eq_getElem?_getD, ← List.head?_drop, h]; rfl
    have htake : vs.take (i + 1) = vs.take i ++ [x] := by
      rw [List.take_succ_eq_append_getElem hlt]
      have : vs[i] = x := by
        have h2 := List.drop_eq_getElem_cons hlt
        rw [h] at h2
        injection h2 with h2 _
        exact h2.symm
      rw [this]
    have hm' := hm.step x (by omega)
    rw [← htake] at hm'
    have hnext := ih (i + 1) (stp acc x) (drop_next h) (by omega) hm'
    refine ⟨?_, hnext.2⟩
    refine Ev.succ ?_
    simp only [rle_Runs.l0, hx, w64_add1 i (by omega)]
    refine Ev.pos (by omega) ?_
    refine Ev.pos (by omega) ?_
    refine Ev.pos (by omega) ?_
    have hlen : acc.length ≤ 65536 := by
      have h1 := (rvl_tot _ _ _ (by omega) hm.1)
      have h2 := rexp_len acc (fun y hy => by have := h1.1 y hy; omega)
      have : acc.length ≤ (rexp acc).length := by
        have : ∀ l : List Run, (∀ x ∈ l, 1 ≤ x.f1) → l.length ≤ (rexp l).length := by
          intro l
          induction l with
          | nil => intro _; simp
          | cons z l ih =>
            intro hz
            have := ih (fun q hq => hz q (List.mem_cons_of_mem _ hq))
            have := hz z List.mem_cons_self
            simp only [List.length_cons, rexp, List.length_append, List.length_replicate]; omega
        exact this acc h1.1
      omega
    by_cases c : (i : Int) > 0
    · refine Ev.pos c ?_
      simp only [w64_sub1 i (by omega) (by omega)]
      refine Ev.pos (by omega) ?_
      refine Ev.pos (by omega) ?_
      obtain ⟨pre, y, rfl, hy1, hy2, hlast⟩ := hm.last (List.take_append_drop i vs).symm (by omega)
      rw [htl] at hlast
      simp only [hlast, w64_sub1 (pre ++ [y]).length (by simp) (by omega), rd_last, w64 (y.f1 + 1) (by omega) (by omega), Int.toNat_natCast]
      have hst := stp_snoc pre y x
      by_cases c2 : x = y.f0
      · refine Ev.pos c2 ?_
        refine Ev.pos (by omega) ?_
        refine Ev.pos (by simp; omega) ?_
        rw [if_pos c2.symm] at hst
        rw [List.length_append, List.length_singleton, Nat.add_sub_cancel, List.set_append_right _ _ (Nat.le_refl _), Nat.sub_self, List.set_cons_zero, ← hst]
        exact hnext.1
      · refine Ev.neg c2 ?_
        refine Ev.pos (by omega) ?_
        rw [if_neg (fun e => c2 e.symm)] at hst
        rw [← hst]
        exact hnext.1
    · refine Ev.neg c ?_
      refine Ev.pos (by omega) ?_
      have h0 : i = 0 := by omega
      subst h0
      have ha : acc = [] := by
        rcases acc with _ | ⟨z, acc⟩
        · rfl
        · obtain ⟨hv, he, hs⟩ := hm
          have hz := (rvl_tot _ _ _ (by omega) hv).1 z List.mem_cons_self
          have := congrArg List.length he
          simp [rexp] at this
          omega
      subst ha
      exact hnext.1
theorem runs_ev (vs : List Int) (hl : vs.length ≤ 65536) : Ev (fun k => rle_Runs.f k vs) (rrun [] vs) ∧ Made (rrun [] vs) vs :=
  runs_l0 vs hl vs 0 [] rfl (by omega) (by simpa using Made.nil)

theorem rruns_l0 (vs : List Int) (hl : vs.length ≤ 65536) : ∀ (r : List Int) (i : Nat) (acc : List Run), vs.drop i = r → i ≤ vs.length → Made acc (vs.take i) →
    Ev (fun k => laminaref07_Runs.l0 k vs acc i) (rrun acc r) := by
  intro r
  induction r with
  | nil =>
    intro i acc h hi hm
    have := drop_ge h
    refine Ev.succ ?_
    simp only [laminaref07_Runs.l0]
    refine Ev.neg (by omega) ?_
    exact Ev.now _
  | cons x r ih =>
    intro i acc h hi hm
    have hlt := drop_lt h
    have htl : (vs.take i).length = i := by rw [List.length_take]; omega
    have hx : rd vs (i : Int) = x := by rw [rd_nat, List.getD_eq_getElem?_getD, ← List.head?_drop, h]; rfl
    have htake : vs.take (i + 1) = vs.take i ++ [x] := by
      rw [List.take_succ_eq_append_getElem hlt]
      have : vs[i] = x := by
        have h2 := List.drop_eq_getElem_cons hlt
        rw [h] at h2
        injection h2 with h2 _
        exact h2.symm
      rw [this]
    have hm' := hm.step x (by omega)
    rw [← htake] at hm'
    have hnext := ih (i + 1) (stp acc x) (drop_next h) (by omega) hm'
    refine Ev.succ ?_
    simp only [laminaref07_Runs.l0, hx, w64_add1 i (by omega)]
    refine Ev.pos (by omega) ?_
    by_cases hn : acc = []
    · subst hn
      refine Ev.neg (by simp) ?_
      refine Ev.pos (by omega) ?_
      refine Ev.pos (by simp) ?_
      exact hnext
    · have hpos : 0 < (vs.take i).length := by
        rcases Nat.eq_zero_or_pos (vs.take i).length with h0 | h0
        · exfalso
          obtain ⟨pre, y, rfl⟩ := snoc_of acc hn
          obtain ⟨hv, he, hs⟩ := hm
          have hz := (rvl_tot _ _ _ (by omega) hv).1 y (by simp)
          have := congrArg List.length he
          rw [h0, rexp_append] at this
          simp [rexp] at this
          omega
        · exact h0
      obtain ⟨pre, y, rfl, hy1, hy2, hlast⟩ := hm.last (List.take_append_drop i vs).symm hpos
      have hlen : (pre ++ [y]).length ≤ 65536 := by
        have h1 := (rvl_tot _ _ _ (by omega) hm.1)
        have h2 := rexp_len (pre ++ [y]) (fun y hy => by have := h1.1 y hy; omega)
        have : ∀ l : List Run, (∀ x ∈ l, 1 ≤ x.f1) → l.length ≤ (rexp l).length := by
          intro l
          induction l with
          | nil => intro _; simp
          | cons z l ih =>
            intro hz
            have := ih (fun q hq => hz q (List.mem_cons_of_mem _ hq))
            have := hz z List.mem_cons_self
            simp only [List.length_cons, rexp, List.length_append, List.length_replicate]; omega
        have := this (pre ++ [y]) h1.1
        omega
      have hst := stp_snoc pre y x
      refine Ev.pos (by simp) ?_
      simp only [w64_sub1 (pre ++ [y]).length (by simp) (by omega), rd_last, w64 (y.f1 + 1) (by omega) (by omega), Int.toNat_natCast]
      refine Ev.pos (by omega) ?_
      refine Ev.pos (by simp; omega) ?_
      refine Ev.pos (by omega) ?_
      by_cases c2 : y.f0 = x
      · refine Ev.pos c2 ?_
        rw [if_pos c2] at hst
        rw [List.length_append, List.length_singleton, Nat.add_sub_cancel, List.set_append_right _ _ (Nat.le_refl _), Nat.sub_self, List.set_cons_zero, ← hst]
        exact hnext
      · refine Ev.neg c2 ?_
        refine Ev.pos (by omega) ?_
        rw [if_neg c2] at hst
        rw [← hst]
        exact hnext
theorem rruns_ev (vs : List Int) (hl : vs.length ≤ 65536) : Ev (fun k => laminaref07_Runs.f k vs) (rrun [] vs) :=
  rruns_l0 vs hl vs 0 [] rfl (by omega) (by simpa using Made.nil)

theorem awake_ev : Ev (fun k => laminalaw07_awake.f k) true := Ev.of laminalaw07_awake.mono (k := 40) (by decide +kernel)
theorem small_l0 (l : List Run) (hl : l.length < 9223372036854775808) (hw : ∀ y ∈ l, -9223372036854775808 ≤ y.f1 ∧ y.f1 ≤ 9223372036854775807) : ∀ (r : List Run) (i : Nat) (left : Int), l.drop i = r → 0 ≤ left → left ≤ 5000 → ∃ b, Ev (fun k => laminalaw07_small.l0 k l left i) b := by
  intro r
  induction r with
  | nil =>
    intro i left h h0 h1
    have := drop_ge h
    refine ⟨true, Ev.succ ?_⟩
    simp only [laminalaw07_small.l0]
    refine Ev.neg (by omega) ?_
    exact Ev.now _
  | cons x r ih =>
    intro i left h h0 h1
    have hlt := drop_lt h
    have hx := hw x (drop_mem h)
    by_cases c1 : x.f1 > left
    · refine ⟨false, Ev.succ ?_⟩
      simp only [laminalaw07_small.l0, rdT_drop h]
      refine Ev.pos (by omega) ?_
      refine Ev.pos (by omega) ?_
      refine Ev.pos c1 ?_
      exact Ev.now _
    by_cases c2 : x.f1 < 1
    · refine ⟨false, Ev.succ ?_⟩
      simp only [laminalaw07_small.l0, rdT_drop h]
      refine Ev.pos (by omega) ?_
      refine Ev.pos (by omega) ?_
      refine Ev.neg c1 ?_
      refine Ev.pos c2 ?_
      exact Ev.now _
    obtain ⟨b, hb⟩ := ih (i + 1) (left - x.f1) (drop_next h) (by omega) (by omega)
    refine ⟨b, Ev.succ ?_⟩
    simp only [laminalaw07_small.l0, rdT_drop h, w64_add1 i (by omega), w64 (left - x.f1) (by omega) (by omega)]
    refine Ev.pos (by omega) ?_
    refine Ev.pos (by omega) ?_
    refine Ev.neg c1 ?_
    refine Ev.neg c2 ?_
    exact hb
theorem j2_true (l : List Run) : Ev (fun k => laminalaw07_RleRuns.j2 k l true) true := by
  refine Ev.succ ?_
  simp only [laminalaw07_RleRuns.j2]
  refine Ev.pos (by decide) ?_
  exact Ev.bind awake_ev (Ev.now _)
theorem j2_false (l : List Run) (hl : l.length < 9223372036854775808) (hw : ∀ y ∈ l, -9223372036854775808 ≤ y.f1 ∧ y.f1 ≤ 9223372036854775807) : Ev (fun k => laminalaw07_RleRuns.j2 k l false) true := by
  refine Ev.succ ?_
  simp only [laminalaw07_RleRuns.j2]
  refine Ev.neg (by decide) ?_
  refine Ev.bind (exp_ev l hl hw) ?_
  refine Ev.bind (rexp_ev l hl hw) ?_
  refine Ev.pos (by rfl) ?_
  refine Ev.bind (rints_ev _ ?_) ?_
  · by_cases h : rvl none 65536 l = true
    · rw [if_pos h]
      obtain ⟨h1, h2⟩ := rvl_tot l none 65536 (by omega) h
      have := rexp_len l (fun x hx => by have := h1 x hx; omega)
      show (rexp l).length < _
      omega
    · rw [if_neg h]; decide
  · refine Ev.pos (by rfl) ?_
    exact Ev.bind awake_ev (Ev.now _)
theorem RleRuns : laminalaw07_RleRuns.Pure := by
  intro vs l ⟨hvl, hvw⟩ hv8 ⟨hll, hlw⟩
  have hmx : maxLen = 9223372036854775807 := rfl
  rw [hmx] at hll hvl
  have hw : ∀ y ∈ l, -9223372036854775808 ≤ y.f1 ∧ y.f1 ≤ 9223372036854775807 := fun y hy => bounds_i64 (hlw y hy).2
  refine Ev.rounds (g := fun k => laminalaw07_RleRuns.f k vs l) ?_
  unfold laminalaw07_RleRuns.f
  by_cases hbig : (vs.length : Int) > 5000
  · refine Ev.pos hbig ?_
    refine Ev.succ ?_
    simp only [laminalaw07_RleRuns.j0]
    refine Ev.pos (by decide) ?_
    refine Ev.pos hbig ?_
    exact Ev.bind awake_ev (Ev.now _)
  refine Ev.neg hbig ?_
  refine Ev.bind (val_ev l (by omega) hw) ?_
  refine Ev.bind (rval_ev l (by omega) hw) ?_
  rw [show (rvl none 65536 l != rvl none 65536 l) = false by simp]
  refine Ev.succ ?_
  simp only [laminalaw07_RleRuns.j0]
  refine Ev.neg (by decide) ?_
  obtain ⟨hr, hm⟩ := runs_ev vs (by omega)
  refine Ev.bind hr ?_
  obtain ⟨hv, he, hs⟩ := hm
  have h1 := (rvl_tot _ _ _ (by omega) hv).1
  have h2 := rvl_le _ _ _ (by omega) hv
  have hlen : (rrun [] vs).length ≤ 5000 := by
    have : ∀ l : List Run, (∀ x ∈ l, 1 ≤ x.f1) → l.length ≤ (rexp l).length := by
      intro l
      induction l with
      | nil => intro _; simp
      | cons z l ih =>
        intro hz
        have := ih (fun q hq => hz q (List.mem_cons_of_mem _ hq))
        have := hz z List.mem_cons_self
        simp only [List.length_cons, rexp, List.length_append, List.length_replicate]; omega
    have := this _ h1
    rw [he] at this
    omega
  refine Ev.bind (exp_ev _ (by omega) (fun y hy => by have := h1 y hy; have := h2 y hy; omega)) ?_
  rw [if_pos hv, he]
  refine Ev.bind (rruns_ev vs (by omega)) ?_
  refine Ev.bind (requal_ev _ (by omega)) ?_
  refine Ev.pos (by rfl) ?_
  refine Ev.pos (by rfl) ?_
  refine Ev.bind (rints_ev vs (by omega)) ?_
  refine Ev.succ ?_
  simp only [laminalaw07_RleRuns.j1]
  refine Ev.neg (by decide) ?_
  refine Ev.bind (rval_ev l (by omega) hw) ?_
  by_cases hvl2 : rvl none 65536 l = true
  · refine Ev.pos hvl2 ?_
    obtain ⟨b, hb⟩ := small_l0 l (by omega) hw l 0 5000 rfl (by omega) (by omega)
    refine Ev.bind (g := fun k => laminalaw07_small.f k l) hb ?_
    cases b
    · exact j2_true l
    · exact j2_false l (by omega) hw
  · refine Ev.neg hvl2 ?_
    exact j2_false l (by omega) hw

end Go.Proofs.Yteamkjphdiajeaa.Pure
