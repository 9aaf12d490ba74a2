/- laminalaw07.RleAccess returns true for all its arguments (At returns the reference's element, and Filter the elements for which a comparison holds). Conditions: none beyond the row's own. -/
import Derived.Test.YteamkjphdiajeaaStRleAccess
import Derived.Test.YteamkjphdiajeaaM01
import Derived.Test.YteamkjphdiajeaaM02
import Derived.Test.YteamkjphdiajeaaM03
import Derived.Test.YteamkjphdiajeaaM08
set_option linter.unusedVariables false
set_option linter.unusedSimpArgs false
namespace Go.Proofs.Yteamkjphdiajeaa.Pure
open Go Go.RowKit Go.Proofs.Yteamkjphdiajeaa.QRleAccess Go.Proofs.YteamkjphdiajeaaW.PrintWords Go.Proofs.YteamkjphdiajeaaW.PrintLast Go.Proofs.YteamkjphdiajeaaM

/-! ### runs -/
abbrev Run := S77
theorem rdT (l : List Run) (n : Nat) : rd_T77 l (n : Int) = l.getD n z77 := by simp [rd_T77]
theorem rdT_drop {l r : List Run} {i : Nat} {x : Run} (h : l.drop i = x :: r) : rd_T77 l (i : Int) = x := by
  rw [rdT, List.getD_eq_getElem?_getD, ← List.head?_drop, h]; rfl
theorem drop_lt {α : Type} {l r : List α} {i : Nat} {x : α} (h : l.drop i = x :: r) : i < l.length := by
  rcases Nat.lt_or_ge i l.length with h1 | h1
  · exact h1
  · rw [List.drop_of_length_le h1] at h; cases h
theorem drop_ge {α : Type} {l : List α} {i : Nat} (h : l.drop i = []) : l.length ≤ i := by
  rwa [List.drop_eq_nil_iff] at h
theorem drop_next {α : Type} {l r : List α} {i : Nat} {x : α} (h : l.drop i = x :: r) : l.drop (i + 1) = r := by
  rw [← List.drop_drop, h]; rfl
theorem drop_mem {α : Type} {l r : List α} {i : Nat} {x : α} (h : l.drop i = x :: r) : x ∈ l := List.mem_of_mem_drop (h ▸ List.mem_cons_self)
def prv (l : List Run) (i : Nat) : Option Int := if i = 0 then none else some (rd_T77 l ((i - 1 : Nat) : Int)).f0
def rvl : Option Int → Int → List Run → Bool
  | _, _, [] => true
  | p, left, x :: r => if 1 ≤ x.f1 ∧ x.f1 ≤ left ∧ p ≠ some x.f0 then rvl (some x.f0) (left - x.f1) r else false
theorem prv_next {l r : List Run} {i : Nat} {x : Run} (h : l.drop i = x :: r) : prv l (i + 1) = some x.f0 := by
  unfold prv
  rw [if_neg (by omega), show i + 1 - 1 = i by omega, rdT_drop h]
theorem val_l0 (l : List Run) (hl : l.length < 9223372036854775808) (hw : ∀ y ∈ l, -9223372036854775808 ≤ y.f1 ∧ y.f1 ≤ 9223372036854775807) : ∀ (r : List Run) (i : Nat) (tot : Int), l.drop i = r → 0 ≤ tot → tot ≤ 65536 →
    Ev (fun k => rle_Valid.l0 k l tot l (l.length : Int) i) (rvl (prv l i) (65536 - tot) r) := by
  intro r
  induction r with
  | nil =>
    intro i tot h h0 h1
    have := drop_ge h
    refine Ev.succ ?_
    simp only [rle_Valid.l0]
    refine Ev.neg (by omega) ?_
    exact Ev.now _
  | cons x r ih =>
    intro i tot h h0 h1
    have hlt := drop_lt h
    have hx := hw x (drop_mem h)
    have hi1 : 0 < i → wrap64 ((i : Int) - 1) = ((i - 1 : Nat) : Int) := fun hp => by rw [w64 _ (by omega) (by omega)]; omega
    refine Ev.succ ?_
    simp only [rle_Valid.l0, rdT_drop h, w64_add1 i (by omega), w64 (65536 - tot) (by omega) (by omega)]
    refine Ev.pos (by omega) ?_
    refine Ev.pos (by omega) ?_
    refine Ev.pos (by omega) ?_
    unfold rvl
    by_cases c1 : x.f1 < 1
    · refine Ev.pos c1 ?_
      exact Ev.eq (Ev.now _) (by rw [if_neg (by omega)])
    refine Ev.neg c1 ?_
    by_cases c2 : x.f1 > 65536 - tot
    · refine Ev.pos c2 ?_
      exact Ev.eq (Ev.now _) (by rw [if_neg (by omega)])
    refine Ev.neg c2 ?_
    have hnext : Ev (fun k => rle_Valid.l0 k l (wrap64 (tot + x.f1)) l (l.length : Int) ((i + 1 : Nat) : Int)) (rvl (some x.f0) (65536 - tot - x.f1) r) := by
      rw [w64 _ (by omega) (by omega)]
      have := ih (i + 1) (tot + x.f1) (drop_next h) (by omega) (by omega)
      rw [prv_next h, show 65536 - (tot + x.f1) = 65536 - tot - x.f1 by omega] at this
      exact this
    by_cases c3 : (i : Int) > 0
    · refine Ev.pos c3 ?_
      simp only [hi1 (by omega)]
      refine Ev.pos (by omega) ?_
      refine Ev.pos (by omega) ?_
      by_cases c4 : x.f0 = (rd_T77 l ((i - 1 : Nat) : Int)).f0
      · refine Ev.pos c4 ?_
        refine Ev.eq (Ev.now _) ?_
        rw [if_neg]
        rintro ⟨_, _, h3⟩
        exact h3 (by unfold prv; rw [if_neg (by omega), c4])
      · refine Ev.neg c4 ?_
        refine Ev.eq hnext ?_
        rw [if_pos]
        refine ⟨by omega, by omega, ?_⟩
        unfold prv
        rw [if_neg (by omega)]
        intro he
        injection he with he
        exact c4 he.symm
    · refine Ev.neg c3 ?_
      refine Ev.eq hnext ?_
      rw [if_pos]
      refine ⟨by omega, by omega, ?_⟩
      unfold prv
      rw [if_pos (by omega)]
      intro he; cases he
theorem val_ev (l : List Run) (hl : l.length < 9223372036854775808) (hw : ∀ y ∈ l, -9223372036854775808 ≤ y.f1 ∧ y.f1 ≤ 9223372036854775807) : Ev (fun k => rle_Valid.f k l) (rvl none 65536 l) := by
  have := val_l0 l hl hw l 0 0 rfl (by omega) (by omega)
  unfold rle_Valid.f
  simpa [prv] using this
theorem rvl_tot : ∀ (l : List Run) (p : Option Int) (left : Int), 0 ≤ left → rvl p left l = true → (∀ x ∈ l, 1 ≤ x.f1) ∧ (l.map (·.f1)).sum ≤ left := by
  intro l
  induction l with
  | nil => intro p left h0 _; exact ⟨fun x hx => by (cases hx), by simpa using h0⟩
  | cons x r ih =>
    intro p left h0 h
    unfold rvl at h
    split at h
    · rename_i hc
      obtain ⟨h1, h2⟩ := ih _ _ (by omega) h
      refine ⟨fun y hy => ?_, ?_⟩
      · rcases List.mem_cons.1 hy with rfl | hy
        · exact hc.1
        · exact h1 y hy
      · simp only [List.map_cons, List.sum_cons]; omega
    · cases h
theorem rvl_le : ∀ (l : List Run) (p : Option Int) (left : Int), 0 ≤ left → rvl p left l = true → ∀ x ∈ l, x.f1 ≤ left := by
  intro l
  induction l with
  | nil => intro p left h0 _ x hx; cases hx
  | cons x r ih =>
    intro p left h0 h y hy
    unfold rvl at h
    split at h
    · rename_i hc
      rcases List.mem_cons.1 hy with rfl | hy
      · exact hc.2.1
      · have := ih _ _ (by omega) h y hy
        omega
    · cases h
def rexp : List Run → List Int
  | [] => []
  | x :: r => List.replicate x.f1.toNat x.f0 ++ rexp r
theorem rexp_append (a b : List Run) : rexp (a ++ b) = rexp a ++ rexp b := by
  induction a with
  | nil => rfl
  | cons x a ih => simp [rexp, ih]
theorem rexp_len : ∀ (l : List Run), (∀ x ∈ l, 0 ≤ x.f1) → ((rexp l).length : Int) = (l.map (·.f1)).sum := by
  intro l
  induction l with
  | nil => intro _; rfl
  | cons x r ih =>
    intro h
    have := ih (fun y hy => h y (List.mem_cons_of_mem _ hy))
    have := h x List.mem_cons_self
    simp only [rexp, List.length_append, List.length_replicate, List.map_cons, List.sum_cons]
    omega
theorem exp_l1 (l : List Run) (n i c v cc : Int) (hc : c ≤ 65536) (R : List Int × Int) : ∀ (d j : Nat) (acc : List Int), (j : Int) + d = c → acc.length + d < 1000000 →
    Ev (fun k => rle_Expand.l0 k (acc ++ List.replicate d v) l n (wrap64 (i + 1))) R → Ev (fun k => rle_Expand.l1 k acc l n i c j v cc) R := by
  intro d
  induction d with
  | zero =>
    intro j acc hj ha h
    refine Ev.succ ?_
    simp only [rle_Expand.l1]
    refine Ev.neg (by omega) ?_
    simpa using h
  | succ d ih =>
    intro j acc hj ha h
    refine Ev.succ ?_
    simp only [rle_Expand.l1, w64_add1 j (by omega)]
    refine Ev.pos (by omega) ?_
    refine Ev.pos (by omega) ?_
    refine ih (j + 1) (acc ++ [v]) (by omega) (by simp; omega) ?_
    rw [List.append_assoc, show [v] ++ List.replicate d v = List.replicate (d + 1) v from (List.replicate_succ ..).symm]
    exact h
theorem exp_l0 (l : List Run) (hl : l.length < 9223372036854775808) : ∀ (r : List Run) (i : Nat) (acc : List Int), l.drop i = r → (∀ x ∈ r, 1 ≤ x.f1) → (acc.length : Int) + (r.map (·.f1)).sum ≤ 65536 →
    Ev (fun k => rle_Expand.l0 k acc l (l.length : Int) i) (acc ++ rexp r, 0) := by
  intro r
  induction r with
  | nil =>
    intro i acc h _ _
    have := drop_ge h
    refine Ev.succ ?_
    simp only [rle_Expand.l0]
    refine Ev.neg (by omega) ?_
    simp only [rexp, List.append_nil]
    exact Ev.now _
  | cons x r ih =>
    intro i acc h hc hs
    have hlt := drop_lt h
    have hx := hc x List.mem_cons_self
    have hr := rexp_len r (fun y hy => by have := hc y (List.mem_cons_of_mem _ hy); omega)
    simp only [List.map_cons, List.sum_cons] at hs
    refine Ev.succ ?_
    simp only [rle_Expand.l0, rdT_drop h]
    refine Ev.pos (by omega) ?_
    refine Ev.pos (by omega) ?_
    refine Ev.pos (by omega) ?_
    obtain ⟨m, hm⟩ := Int.eq_ofNat_of_zero_le (show 0 ≤ x.f1 by omega)
    refine exp_l1 l _ _ _ _ _ (by omega) _ m 0 acc (by omega) (by omega) ?_
    rw [w64_add1 i (by omega)]
    have := ih (i + 1) (acc ++ List.replicate m x.f0) (drop_next h) (fun y hy => hc y (List.mem_cons_of_mem _ hy)) (by simp; omega)
    simpa [rexp, hm] using this
theorem exp_ev (l : List Run) (hl : l.length < 9223372036854775808) (hw : ∀ y ∈ l, -9223372036854775808 ≤ y.f1 ∧ y.f1 ≤ 9223372036854775807) : Ev (fun k => rle_Expand.f k l) (if rvl none 65536 l = true then (rexp l, 0) else ([], 4)) := by
  unfold rle_Expand.f
  refine Ev.bind (val_ev l hl hw) ?_
  by_cases h : rvl none 65536 l = true
  · refine Ev.pos h ?_
    rw [if_pos h]
    obtain ⟨h1, h2⟩ := rvl_tot l none 65536 (by omega) h
    have := exp_l0 l hl l 0 [] rfl h1 (by simpa using h2)
    simpa using this
  · refine Ev.neg h ?_
    rw [if_neg h]
    exact Ev.now _

/-! ### the reference's runs -/
theorem rval_l0 (l : List Run) (hl : l.length < 9223372036854775808) (hw : ∀ y ∈ l, -9223372036854775808 ≤ y.f1 ∧ y.f1 ≤ 9223372036854775807) : ∀ (r : List Run) (i : Nat) (left : Int), l.drop i = r → 0 ≤ left → left ≤ 65536 →
    Ev (fun k => laminaref07_Valid.l0 k l left i) (rvl (prv l i) left r) := by
  intro r
  induction r with
  | nil =>
    intro i tot h h0 h1
    have := drop_ge h
    refine Ev.succ ?_
    simp only [laminaref07_Valid.l0]
    refine Ev.neg (by omega) ?_
    exact Ev.now _
  | cons x r ih =>
    intro i tot h h0 h1
    have hlt := drop_lt h
    have hx := hw x (drop_mem h)
    have hi1 : 0 < i → wrap64 ((i : Int) - 1) = ((i - 1 : Nat) : Int) := fun hp => by rw [w64 _ (by omega) (by omega)]; omega
    refine Ev.succ ?_
    simp only [laminaref07_Valid.l0, rdT_drop h, w64_add1 i (by omega)]
    refine Ev.pos (by omega) ?_
    refine Ev.pos (by omega) ?_
    unfold rvl
    by_cases c1 : x.f1 < 1
    · refine Ev.pos c1 ?_
      exact Ev.eq (Ev.now _) (by rw [if_neg (by omega)])
    refine Ev.neg c1 ?_
    by_cases c2 : x.f1 > tot
    · refine Ev.pos c2 ?_
      exact Ev.eq (Ev.now _) (by rw [if_neg (by omega)])
    refine Ev.neg c2 ?_
    have hnext : Ev (fun k => laminaref07_Valid.l0 k l (wrap64 (tot - x.f1)) ((i + 1 : Nat) : Int)) (rvl (some x.f0) (tot - x.f1) r) := by
      rw [w64 _ (by omega) (by omega)]
      have := ih (i + 1) (tot - x.f1) (drop_next h) (by omega) (by omega)
      rw [prv_next h] at this
      exact this
    by_cases c3 : (i : Int) > 0
    · refine Ev.pos c3 ?_
      simp only [hi1 (by omega)]
      refine Ev.pos (by omega) ?_
      refine Ev.pos (by omega) ?_
      by_cases c4 : x.f0 = (rd_T77 l ((i - 1 : Nat) : Int)).f0
      · refine Ev.pos c4 ?_
        refine Ev.eq (Ev.now _) ?_
        rw [if_neg]
        rintro ⟨_, _, h3⟩
        exact h3 (by unfold prv; rw [if_neg (by omega), c4])
      · refine Ev.neg c4 ?_
        refine Ev.eq hnext ?_
        rw [if_pos]
        refine ⟨by omega, by omega, ?_⟩
        unfold prv
        rw [if_neg (by omega)]
        intro he
        injection he with he
        exact c4 he.symm
    · refine Ev.neg c3 ?_
      refine Ev.eq hnext ?_
      rw [if_pos]
      refine ⟨by omega, by omega, ?_⟩
      unfold prv
      rw [if_pos (by omega)]
      intro he; cases he
theorem rval_ev (l : List Run) (hl : l.length < 9223372036854775808) (hw : ∀ y ∈ l, -9223372036854775808 ≤ y.f1 ∧ y.f1 ≤ 9223372036854775807) : Ev (fun k => laminaref07_Valid.f k l) (rvl none 65536 l) := by
  have := rval_l0 l hl hw l 0 65536 rfl (by omega) (by omega)
  unfold laminaref07_Valid.f
  simpa [prv] using this

theorem rexp_l1 (l : List Run) (hl : l.length < 9223372036854775808) (i : Nat) (hi : i < l.length) (R : List Int × Int) (hc : (rd_T77 l (i : Int)).f1 ≤ 65536) : ∀ (d j : Nat) (acc : List Int), (j : Int) + d = (rd_T77 l (i : Int)).f1 → acc.length + d < 1000000 →
    Ev (fun k => laminaref07_Expand.l0 k l (acc ++ List.replicate d (rd_T77 l (i : Int)).f0) ((i + 1 : Nat) : Int)) R → Ev (fun k => laminaref07_Expand.l1 k l acc i j) R := by
  intro d
  induction d with
  | zero =>
    intro j acc hj ha h
    refine Ev.succ ?_
    simp only [laminaref07_Expand.l1, w64_add1 i (by omega)]
    refine Ev.pos (by omega) ?_
    refine Ev.pos (by omega) ?_
    refine Ev.neg (by omega) ?_
    simpa using h
  | succ d ih =>
    intro j acc hj ha h
    refine Ev.succ ?_
    simp only [laminaref07_Expand.l1, w64_add1 j (by omega)]
    refine Ev.pos (by omega) ?_
    refine Ev.pos (by omega) ?_
    refine Ev.pos (by omega) ?_
    refine Ev.pos (by omega) ?_
    refine ih (j + 1) (acc ++ [_]) (by omega) (by simp; omega) ?_
    rw [List.append_assoc, List.singleton_append, ← List.replicate_succ]
    exact h
theorem rexp_l0 (l : List Run) (hl : l.length < 9223372036854775808) : ∀ (r : List Run) (i : Nat) (acc : List Int), l.drop i = r → (∀ x ∈ r, 1 ≤ x.f1) → (acc.length : Int) + (r.map (·.f1)).sum ≤ 65536 →
    Ev (fun k => laminaref07_Expand.l0 k l acc i) (acc ++ rexp r, 0) := by
  intro r
  induction r with
  | nil =>
    intro i acc h _ _
    have := drop_ge h
    refine Ev.succ ?_
    simp only [laminaref07_Expand.l0]
    refine Ev.neg (by omega) ?_
    simp only [rexp, List.append_nil]
    exact Ev.now _
  | cons x r ih =>
    intro i acc h hc hs
    have hlt := drop_lt h
    have hx := hc x List.mem_cons_self
    have hr := rexp_len r (fun y hy => by have := hc y (List.mem_cons_of_mem _ hy); omega)
    simp only [List.map_cons, List.sum_cons] at hs
    refine Ev.succ ?_
    simp only [laminaref07_Expand.l0]
    refine Ev.pos (by omega) ?_
    obtain ⟨m, hm⟩ := Int.eq_ofNat_of_zero_le (show 0 ≤ x.f1 by omega)
    refine rexp_l1 l hl i hlt _ (by rw [rdT_drop h]; omega) m 0 acc (by rw [rdT_drop h]; omega) (by omega) ?_
    rw [rdT_drop h]
    have := ih (i + 1) (acc ++ List.replicate m x.f0) (drop_next h) (fun y hy => hc y (List.mem_cons_of_mem _ hy)) (by simp; omega)
    simpa [rexp, hm] using this
theorem rexp_ev (l : List Run) (hl : l.length < 9223372036854775808) (hw : ∀ y ∈ l, -9223372036854775808 ≤ y.f1 ∧ y.f1 ≤ 9223372036854775807) : Ev (fun k => laminaref07_Expand.f k l) (if rvl none 65536 l = true then (rexp l, 0) else ([], 4)) := by
  unfold laminaref07_Expand.f
  refine Ev.bind (rval_ev l hl hw) ?_
  by_cases h : rvl none 65536 l = true
  · refine Ev.pos h ?_
    rw [if_pos h]
    obtain ⟨h1, h2⟩ := rvl_tot l none 65536 (by omega) h
    have := rexp_l0 l hl l 0 [] rfl h1 (by simpa using h2)
    simpa using this
  · refine Ev.neg h ?_
    rw [if_neg h]
    exact Ev.now _

theorem small_l0 (l : List Run) (hl : l.length < 9223372036854775808) (hw : ∀ y ∈ l, -9223372036854775808 ≤ y.f1 ∧ y.f1 ≤ 9223372036854775807) : ∀ (r : List Run) (i : Nat) (left : Int), l.drop i = r → 0 ≤ left → left ≤ 5000 → ∃ b, Ev (fun k => laminalaw07_small.l0 k l left i) b := by
  intro r
  induction r with
  | nil =>
    intro i left h h0 h1
    have := drop_ge h
    refine ⟨true, Ev.succ ?_⟩
    simp only [laminalaw07_small.l0]
    refine Ev.neg (by omega) ?_
    exact Ev.now _
  | cons x r ih =>
    intro i left h h0 h1
    have hlt := drop_lt h
    have hx := hw x (drop_mem h)
    by_cases c1 : x.f1 > left
    · refine ⟨false, Ev.succ ?_⟩
      simp only [laminalaw07_small.l0, rdT_drop h]
      refine Ev.pos (by omega) ?_
      refine Ev.pos (by omega) ?_
      refine Ev.pos c1 ?_
      exact Ev.now _
    by_cases c2 : x.f1 < 1
    · refine ⟨false, Ev.succ ?_⟩
      simp only [laminalaw07_small.l0, rdT_drop h]
      refine Ev.pos (by omega) ?_
      refine Ev.pos (by omega) ?_
      refine Ev.neg c1 ?_
      refine Ev.pos c2 ?_
      exact Ev.now _
    obtain ⟨b, hb⟩ := ih (i + 1) (left - x.f1) (drop_next h) (by omega) (by omega)
    refine ⟨b, Ev.succ ?_⟩
    simp only [laminalaw07_small.l0, rdT_drop h, w64_add1 i (by omega), w64 (left - x.f1) (by omega) (by omega)]
    refine Ev.pos (by omega) ?_
    refine Ev.pos (by omega) ?_
    refine Ev.neg c1 ?_
    refine Ev.neg c2 ?_
    exact hb

/-! ### blocks -/
theorem blk_at0 (w : World) (o : Obj) (g : Nat) (h : g = w.heap.size) : (w.alloc o).heap[g]? = some o := by subst h; exact blk_new w o

/-! ### Filter's closure -/
theorem wof_len_le (n : Nat) (f : Nat → Bool) (h : n ≤ 1000000) : (wof n f).length ≤ 1000000 := by rw [wof_length]; unfold wc; omega
theorem or_bit (y : Int) (h0 : 0 ≤ y) (h1 : y < 18446744073709551616) (r : Nat) (hr : r < 64) : bits .or .u64 y (2 ^ r) = ((y.toNat ||| 2 ^ r : Nat) : Int) := by
  have h2 := or_nat y.toNat (2 ^ r) (by omega) (pow_lt64 r hr)
  rw [show ((y.toNat : Nat) : Int) = y by omega] at h2
  rw [← h2]
  congr 1
theorem wrap_pow (r : Nat) (hr : r < 64) : IntKind.u64.wrap ((2 : Int) ^ r) = 2 ^ r := by
  have h := pow_lt64 r hr
  have h2 : ((2 ^ r : Nat) : Int) = 2 ^ r := by simp
  have h3 : ∀ p : Nat, p < 2 ^ 64 → IntKind.u64.wrap (p : Int) = (p : Int) := fun p hp => wraps_u64 _ (by omega) (by omega)
  rw [← h2]
  exact h3 _ h
theorem sb_of (zs : List Int) (m q r : Nat) (y : Int) (hq : q = m / 64) (hr : r = m % 64) (hy : y = rdOf 0 zs (q : Int)) (hw : wok zs) : zs.set q (bits .or .u64 y (2 ^ r)) = sb zs m := by
  have h1 : y = zs.getD q 0 := by rw [hy]; simp [rdOf]
  have h2 := wok_get hw q
  rw [← h1] at h2
  unfold sb
  rw [or_bit y h2.1 h2.2 r (by omega), ← hq, ← hr, ← h1]
def K64 (bS : Nat) (w W : World) : Prop := ∀ (g : Nat) (cs : Array Value) (t : Nat), w.heap[g]? = some (.cells cs t (0, 0)) → t ≠ 78 → g ≠ bS → W.heap[g]? = some (.cells cs t (0, 0))
theorem K64.refl (bS : Nat) (w : World) : K64 bS w w := fun _ _ _ h _ _ => h
theorem K64.setS {bS : Nat} {w W : World} (h : K64 bS w W) (j : Nat) (u : Value) : K64 bS w (W.setCell ⟨bS, j, none⟩ u) := fun g cs t h1 h2 h3 => blk_far (h g cs t h1 h2 h3) h3 u
theorem K64.set {bS : Nat} {w W : World} (h : K64 bS w W) {base : Nat} {ok : Nat → Prop} {g : Nat} {n c : Nat} {xs : List Int} (hR : Kd.R (Kd.int .u64) 78 W base ok (.slice (some ⟨g, 0, none⟩) n c) xs) (j : Nat) (u : Value) : K64 bS w (W.setCell ⟨g, j, none⟩ u) := fun g' cs t h1 h2 h3 => by
  have h4 := h g' cs t h1 h2 h3
  have h5 := Kd.R_ne hR h4 (Ne.symm h2)
  exact blk_far h4 (fun e => h5 (by rw [e]; rfl)) u
theorem K64.grown {bS : Nat} {w W W1 : World} (h : K64 bS w W) {base : Nat} {ok : Nat → Prop} {v : Value} {xs : List Int} (hR : Kd.R (Kd.int .u64) 78 W base ok v xs) (hg : W.grownBy W1 v.ownBlock) : K64 bS w W1 := fun g' cs t h1 h2 h3 => by
  have h4 := h g' cs t h1 h2 h3
  exact blk_grown h4 hg (Kd.R_ne hR h4 (Ne.symm h2))
theorem K64.drew {bS : Nat} {w W : World} (h : K64 bS w W) : K64 bS w W.drew := h
theorem add_rel (base bS n j m c : Nat) (f : Nat → Bool) (W w : World) (A : Option Addr) (cap : Nat) (zs : List Int) (hm : m = n + j) (hj : j + 1 ≤ c) (hz : zs = wof (m + 1) f)
    (hS : W.heap[bS]? = some (.cells #[.int .i64 ((m : Int) + 1), .slice A zs.length cap] 39 (0, 0))) (hR : Kd.R (Kd.int .u64) 78 W base (fun k => k ≠ bS) (.slice A zs.length cap) zs) (hB : Below base w W) (hK : K64 bS w W) :
    ∃ (j_1 : Nat) (A : Option Addr) (cap : Nat), j_1 ≤ c ∧ Value.int .i64 ((j : Int) + 1) = .int .i64 (j_1 : Int) ∧
      W.heap[bS]? = some (.cells #[.int .i64 ((n + j_1 : Nat) : Int), .slice A (wof (n + j_1) f).length cap] 39 (0, 0)) ∧
      Aside0 (Kd.R (Kd.int .u64) 78 W base (fun k => k ≠ bS) (.slice A (wof (n + j_1) f).length cap) (wof (n + j_1) f)) ∧ Below base w W ∧ Aside0 (K64 bS w W) := by
  subst hz
  have e : n + (j + 1) = m + 1 := by omega
  refine ⟨j + 1, A, cap, hj, by simp, ?_, ⟨?_⟩, hB, ⟨hK⟩⟩
  · rw [e, show ((m + 1 : Nat) : Int) = (m : Int) + 1 by simp]; exact hS
  · rw [e]; exact hR
set_option maxHeartbeats 2000000 in
set_option maxRecDepth 100000 in
theorem add_calls (base bS n c : Nat) (on : Bool) (f : Nat → Bool) (hf : ∀ i, n ≤ i → i < n + c → f i = on) (A : Option Addr) (cap : Nat) (w : World)
    (hS : w.heap[bS]? = some (.cells #[.int .i64 (n : Int), .slice A (wof n f).length cap] 39 (0, 0)))
    (hR : Kd.R (Kd.int .u64) 78 w base (fun k => k ≠ bS) (.slice A (wof n f).length cap) (wof n f)) (hnc : n + c ≤ 1000000) (hb : base ≤ bS) :
    Calls Try.prog 49 #[.int .i64 (c : Int), .bool on, .pointer (some ⟨bS, 0, none⟩)] w fun e w' => e = .returned (.tuple #[]) ∧ ∃ (A' : Option Addr) (cap' : Nat),
      w'.heap[bS]? = some (.cells #[.int .i64 ((n + c : Nat) : Int), .slice A' (wof (n + c) f).length cap'] 39 (0, 0)) ∧
      Kd.R (Kd.int .u64) 78 w' base (fun k => k ≠ bS) (.slice A' (wof (n + c) f).length cap') (wof (n + c) f) ∧ Below base w w' ∧ K64 bS w w' := by
  have HF := Aside0.mk hf
  clear hf
  have hub := Try.underlying39
  go_enter Try.func49, Try.ntmps49
  go_wp2
  go_loopw [6] (fun v6 wr => ∃ (j : Nat) (A : Option Addr) (cap : Nat), j ≤ c ∧ v6 = .int .i64 (j : Int) ∧
      wr.heap[bS]? = some (.cells #[.int .i64 ((n + j : Nat) : Int), .slice A (wof (n + j) f).length cap] 39 (0, 0)) ∧
      Aside0 (Kd.R (Kd.int .u64) 78 wr base (fun k => k ≠ bS) (.slice A (wof (n + j) f).length cap) (wof (n + j) f)) ∧ Below base w wr ∧ Aside0 (K64 bS w wr)) (fun v6 _ => c - (intOf v6).toNat)
  case atStart => exact ⟨0, A, cap, Nat.zero_le _, rfl, hS, ⟨hR⟩, Below.refl _ _, ⟨K64.refl _ _⟩⟩
  case round =>
    obtain ⟨j, A, cap, hj, rfl, hS, HR, hB, HK⟩ := hrel
    by_cases hlt : j < c
    · obtain ⟨m, hm⟩ : ∃ m, m = n + j := ⟨_, rfl⟩
      rw [← hm] at hS HR
      have hm6 : m ≤ 1000000 := by omega
      have hwl := wof_len_le m f hm6
      obtain ⟨ys, hys⟩ : ∃ ys, ys = wof m f := ⟨_, rfl⟩
      rw [← hys] at hS HR hwl
      have HM := Aside0.mk hm
      have HY := Aside0.mk hys
      clear hm hys
      obtain ⟨r, hr⟩ : ∃ r : Nat, r = m % 64 := ⟨_, rfl⟩
      have er : (m : Int) % 64 = (r : Int) := by omega
      have c0 : wr.cell? ⟨bS, 0, none⟩ = some (.int .i64 (m : Int)) := by rw [blk_cell hS]; rfl
      have c1 : wr.cell? ⟨bS, 1, none⟩ = some (.slice A ys.length cap) := by rw [blk_cell hS]; rfl
      have f1 : wr.frozen? ⟨bS, 1, none⟩ = false := blk_frozen hS 1
      have f0 : wr.frozen? ⟨bS, 0, none⟩ = false := blk_frozen hS 0
      have HRR := Aside0.mk hr
      clear hr
      have hfm := HF.out m (by have := HM.out; omega) (by have := HM.out; omega)
      have HFM := Aside0.mk hfm
      clear hfm
      have hbw := blk_lt hS
      have hAb : some bS ≠ ((.slice A ys.length cap) : Value).ownBlock := fun e => (HR.out.1 bS e.symm) rfl
      by_cases hr0 : r = 0
      · subst hr0
        cases on
        · go_wp2_with (at_builtin; refine Kd.R_append (Kd.int .u64) (w0 := wr) base rfl _ _ 37 78 (.int .u64 0) 8 rfl Try.underlying37 info78 rfl (by decide) (by decide) (.slice A ys.length cap) ys 0 [.int .u64 0] (fun k => k ≠ bS) (fun _ => False) rfl rfl rfl (fun _ h => h.elim) (fun k hk => by omega) HR.out (Below.refl _ _) (by omega) (by omega) ?_; intro v1 w1 hR1 hb1 hg1 hat1; obtain ⟨vA, vc, rfl⟩ := Kd.R_slice hR1; have hS1 := blk_grown hS hg1 hAb; have d0 : w1.cell? ⟨bS, 0, none⟩ = some (.int .i64 (m : Int)) := (by rw [blk_cell hS1]; rfl); have d1 : w1.cell? ⟨bS, 1, none⟩ = some (.slice A ys.length cap) := (by rw [blk_cell hS1]; rfl); have e1 : w1.frozen? ⟨bS, 1, none⟩ = false := blk_frozen hS1 1; have e0 : w1.frozen? ⟨bS, 0, none⟩ = false := blk_frozen hS1 0)
          go_roundw
          case rel =>
            exact add_rel base bS n j m c f _ w vA vc _ HM.out (by omega) (by rw [wof_snoc, HFM.out, ← HY.out]; simp [← HRR.out]) (by have := blk_put (blk_put hS1 1 (.slice vA (ys ++ [0]).length vc) rfl) 0 (.int .i64 ((m : Int) + 1)) rfl; simpa using this) (Kd.R_far (p := ⟨bS, 0, none⟩) (Kd.R_far (p := ⟨bS, 1, none⟩) hR1 (fun k hk => hk) _) (fun k hk => hk) _) (((hB.trans hb1).setCell hb _).setCell hb _) (((HK.out.grown HR.out hg1).setS _ _).setS _ _)
          case measure => simp [intOf]; omega
        · go_wp2_with (at_builtin; refine Kd.R_append (Kd.int .u64) (w0 := wr) base rfl _ _ 37 78 (.int .u64 0) 8 rfl Try.underlying37 info78 rfl (by decide) (by decide) (.slice A ys.length cap) ys 0 [.int .u64 0] (fun k => k ≠ bS) (fun _ => False) rfl rfl rfl (fun _ h => h.elim) (fun k hk => by omega) HR.out (Below.refl _ _) (by omega) (by omega) ?_; intro v1 w1 hR1 hb1 hg1 hat1; obtain ⟨g, vc, rfl, hgb, _, _⟩ := Kd.R_form hR1 (by simp); have hS1 := blk_grown hS hg1 hAb; have d0 : w1.cell? ⟨bS, 0, none⟩ = some (.int .i64 (m : Int)) := (by rw [blk_cell hS1]; rfl); have d1 : w1.cell? ⟨bS, 1, none⟩ = some (.slice A ys.length cap) := (by rw [blk_cell hS1]; rfl); have e1 : w1.frozen? ⟨bS, 1, none⟩ = false := blk_frozen hS1 1; have e0 : w1.frozen? ⟨bS, 0, none⟩ = false := blk_frozen hS1 0; have hgn : g ≠ bS := hR1.1 g (by simp [Value.ownBlock]); obtain ⟨q, hq⟩ : ∃ q : Nat, q = m / 64 := ⟨_, rfl⟩; have eq : (m : Int) / 64 = (q : Int) := (by omega); have hql : q < (ys ++ [0]).length := (by have h1 := HY.out; have h2 := wof_length m f; rw [List.length_append, List.length_singleton, h1, h2]; unfold wc; omega); obtain ⟨hcy, hfy⟩ := Kd.R_cell (0 : Int) hR1 (q : Int) (by omega) (by omega); rw [Int.toNat_natCast] at hcy hfy; obtain ⟨y, hy⟩ : ∃ y : Int, y = rdOf 0 (ys ++ [0]) (q : Int) := ⟨_, rfl⟩; rw [← hy] at hcy; have HYV := Aside0.mk hy; have hq2 : (q : Int) < (ys.length : Int) + 1 := (by rw [List.length_append, List.length_singleton] at hql; omega); have ew : IntKind.i64.wrap (q : Int) = (q : Int) := IntWalk.i64_in _ (by omega); have HQ := Aside0.mk (And.intro hq hql); clear hy hq hql)
          go_region
          go_wp2
          go_roundw
          case rel =>
            have hR2 := (Kd.R_put (enc := Value.int .u64) (h1 := fun _ => rfl) (Kd.R_far (p := ⟨bS, 1, none⟩) hR1 (fun k hk => hk) (.slice (some ⟨g, 0, none⟩) (ys ++ [0]).length vc)) (q : Int) (bits .or .u64 y 1)).1
            rw [Int.toNat_natCast] at hR2
            have hzs : (ys ++ [0]).set q (bits .or .u64 y 1) = wof (m + 1) f := by
              have hm0 : m % 64 = 0 := HRR.out.symm
              rw [wof_snoc, HFM.out, if_pos rfl, if_pos hm0, ← HY.out]
              have := sb_of (ys ++ [0]) m q 0 y HQ.out.1 HRR.out HYV.out (wok_append0 (by rw [HY.out]; exact wof_wok m f))
              simpa using this
            exact add_rel base bS n j m c f _ w (some ⟨g, 0, none⟩) vc ((ys ++ [0]).set q (bits .or .u64 y 1)) HM.out (by omega) hzs (by rw [List.length_set]; have := blk_drew (blk_put (blk_far (blk_put hS1 1 (.slice (some ⟨g, 0, none⟩) (ys ++ [0]).length vc) rfl) (Ne.symm hgn) (.int .u64 (bits .or .u64 y 1)) (p := ⟨g, q, none⟩)) 0 (.int .i64 ((m : Int) + 1)) rfl); simpa using this) (by rw [List.length_set]; have : Kd.R (Kd.int .u64) 78 _ base (fun k => k ≠ bS) _ _ := Kd.R_drew (Kd.R_far (p := ⟨bS, 0, none⟩) hR2 (fun k hk => hk) (.int .i64 ((m : Int) + 1))); simpa using this) (below_drew ((((hB.trans hb1).setCell hb _).setCell hgb _).setCell hb _)) ((((HK.out.grown HR.out hg1).setS 1 _).set (Kd.R_far (p := ⟨bS, 1, none⟩) hR1 (fun k hk => hk) _) _ _).setS _ _).drew
          case measure => simp [intOf]; omega
      · have er0 : ¬ (r : Int) = 0 := by omega
        cases on
        · go_wp2
          go_roundw
          case rel =>
            exact add_rel base bS n j m c f _ w A cap _ HM.out (by omega) (by rw [wof_snoc, HFM.out, ← HY.out]; have := HRR.out; simp [show ¬ m % 64 = 0 by omega]) (by have := blk_put hS 0 (.int .i64 ((m : Int) + 1)) rfl; simpa using this) (Kd.R_far (p := ⟨bS, 0, none⟩) HR.out (fun k hk => hk) _) (hB.setCell hb _) (HK.out.setS _ _)
          case measure => simp [intOf]; omega
        · have hyl : 0 < ys.length := by have h1 := HY.out; have h2 := wof_length m f; have h3 := HRR.out; rw [h1, h2]; unfold wc; omega
          obtain ⟨g, vc, hv, hgb, _, _⟩ := Kd.R_form HR.out hyl
          obtain ⟨rfl, rfl⟩ : A = some ⟨g, 0, none⟩ ∧ cap = vc := by injection hv with e1 e2 e3; exact ⟨e1, e3⟩
          clear hv
          have hgn : g ≠ bS := HR.out.1 g (by simp [Value.ownBlock])
          obtain ⟨q, hq⟩ : ∃ q : Nat, q = m / 64 := ⟨_, rfl⟩
          have eq : (m : Int) / 64 = (q : Int) := by omega
          have hql : q < ys.length := by have h1 := HY.out; have h2 := wof_length m f; have h3 := HRR.out; rw [h1, h2]; unfold wc; omega
          obtain ⟨hcy, hfy⟩ := Kd.R_cell (0 : Int) HR.out (q : Int) (by omega) (by omega)
          rw [Int.toNat_natCast] at hcy hfy
          obtain ⟨y, hy⟩ : ∃ y : Int, y = rdOf 0 ys (q : Int) := ⟨_, rfl⟩
          rw [← hy] at hcy
          have hq2 : (q : Int) < (ys.length : Int) := by omega
          have ew : IntKind.i64.wrap (q : Int) = (q : Int) := IntWalk.i64_in _ (by omega)
          have ewr : IntKind.u64.wrap (r : Int) = (r : Int) := wraps_u64 _ (by omega) (by have := HRR.out; omega)
          have hr64 : r < 64 := by have := HRR.out; omega
          have hr64' : r ≤ 64 := by omega
          have HYV := Aside0.mk hy
          have HQ := Aside0.mk (And.intro hq hql)
          clear hy hq hql hyl
          go_wp2
          go_region
          go_wp2
          go_roundw
          case rel =>
            have hR2 := (Kd.R_put (enc := Value.int .u64) (h1 := fun _ => rfl) HR.out (q : Int) (bits .or .u64 y (IntKind.u64.wrap (2 ^ r)))).1
            rw [Int.toNat_natCast] at hR2
            have hzs : ys.set q (bits .or .u64 y (IntKind.u64.wrap (2 ^ r))) = wof (m + 1) f := by
              have hm0 : ¬ m % 64 = 0 := by have := HRR.out; omega
              rw [wof_snoc, HFM.out, if_pos rfl, if_neg hm0, ← HY.out, wrap_pow r hr64]
              exact sb_of ys m q r y HQ.out.1 HRR.out HYV.out (by rw [HY.out]; exact wof_wok m f)
            exact add_rel base bS n j m c f _ w (some ⟨g, 0, none⟩) cap (ys.set q (bits .or .u64 y (IntKind.u64.wrap (2 ^ r)))) HM.out (by omega) hzs (by rw [List.length_set]; have := blk_drew (blk_put (blk_far hS (Ne.symm hgn) (.int .u64 (bits .or .u64 y (IntKind.u64.wrap (2 ^ r)))) (p := ⟨g, q, none⟩)) 0 (.int .i64 ((m : Int) + 1)) rfl); simpa using this) (by rw [List.length_set]; have : Kd.R (Kd.int .u64) 78 _ base (fun k => k ≠ bS) _ _ := Kd.R_drew (Kd.R_far (p := ⟨bS, 0, none⟩) hR2 (fun k hk => hk) (.int .i64 ((m : Int) + 1))); simpa using this) (below_drew ((hB.setCell hgb _).setCell hb _)) ((HK.out.set HR.out _ _).setS _ _).drew
          case measure => simp [intOf]; omega
    · obtain rfl : j = c := by omega
      go_wp2
      go_end0
      exact ⟨rfl, A, cap, hS, HR.out, hB, HK.out⟩

/-! ### Filter -/
def tot (l : List Run) : Nat := (l.map fun x => x.f1.toNat).sum
/-- What the elements from number n on are. -/
def vals (l : List Run) : List Int := l.flatMap fun x => List.replicate x.f1.toNat x.f0
theorem tot_take (l : List Run) (i : Nat) (h : i < l.length) : tot (l.take (i + 1)) = tot (l.take i) + (l.getD i z77).f1.toNat := by
  unfold tot
  rw [List.take_succ_eq_append_getElem h]
  rw [List.map_append, List.sum_append]
  simp [List.getD, List.getElem?_eq_getElem h]
theorem tot_take_le (l : List Run) (i : Nat) : tot (l.take i) ≤ tot l := by
  have : tot l = tot (l.take i) + tot (l.drop i) := by
    unfold tot
    rw [← List.sum_append, ← List.map_append, List.take_append_drop]
  omega
set_option maxHeartbeats 2000000 in
set_option maxRecDepth 100000 in
theorem filter_calls (A0 : Option Addr) (c0 : Nat) (l : List Run) (w : World) (hc0 : l.length ≤ c0) (kf : Int → Bool) (hcnt : ∀ x ∈ l, 0 ≤ x.f1) (htot : tot l ≤ 100000) (p1 p2 p3 : Value) (Kp : Nat → World → Prop)
    (hk : ∀ (j : Nat) (v : Int) (W : World), j < l.length → Kp j W → w.heap.size ≤ W.heap.size → Calls Try.prog 26 #[.int .i64 v, p1, p2, p3] W fun e W' => e = .returned (.bool (kf v)) ∧ Kp (j + 1) W' ∧ W.heap.size ≤ W'.heap.size ∧ ∀ g, w.heap.size ≤ g → g < W.heap.size → W'.heap[g]? = W.heap[g]?)
    (hk2 : ∀ (j : Nat) (W W' : World), Kp j W → w.heap.size ≤ W.heap.size → Below w.heap.size W W' → Kp j W') (hk3 : ∀ (j : Nat) (W : World), Kp j W → Kd.C k77 W A0 l.length l) (h0 : Kp 0 w) (f : Nat → Bool)
    (hf : ∀ i, i < l.length → ∀ j, tot (l.take i) ≤ j → j < tot (l.take (i + 1)) → f j = kf (l.getD i z77).f0) :
    Calls Try.prog 25 #[.slice A0 l.length c0, .func (.func 26) #[] #[p1, p2, p3]] w fun e w' => ∃ v1_ : Value, e = .returned (.agg #[.int .i64 (tot l : Int), v1_]) ∧ Kd.R (Kd.int .u64) 78 w' w.heap.size (fun _ => True) v1_ (wof (tot l) f) ∧ Kp l.length w' := by
  have hub := Try.underlying39
  have hur := Try.underlying77
  have hmf : ∀ (fn : Fn) (first cap : Array Value) (w : World), (Instr.makeFunc fn first cap).run Try.prog w = .ok (.func fn first cap) w := fun _ _ _ _ => rfl
  have hmx := Kd.C_max (hk3 0 w h0)
  have HK := Aside0.mk hk
  have HK2 := Aside0.mk hk2
  have HK3 := Aside0.mk hk3
  have HF := Aside0.mk hf
  have HCN := Aside0.mk hcnt
  have H0 := Aside0.mk h0
  clear hk hk2 hk3 hf hcnt h0
  go_enter Try.func25, Try.ntmps25
  go_wp2
  go_loopw [12] (fun v12 wr => ∃ (i : Nat) (A : Option Addr) (cap : Nat), i ≤ l.length ∧ v12 = .int .i64 (i : Int) ∧
      wr.heap[w.heap.size]? = some (.cells #[.int .i64 0, .slice none 0 0] 39 (0, 0)) ∧ wr.heap[w.heap.size + 1]? = some (.cells #[.int .i64 (tot (l.take i) : Int), .slice A (wof (tot (l.take i)) f).length cap] 39 (0, 0)) ∧
      Aside0 (Kd.R (Kd.int .u64) 78 wr w.heap.size (fun k => k ≠ w.heap.size + 1) (.slice A (wof (tot (l.take i)) f).length cap) (wof (tot (l.take i)) f)) ∧ Aside0 (Kp i wr)) (fun v12 _ => l.length - (intOf v12).toNat)
  case atStart => exact ⟨0, none, 0, Nat.zero_le _, rfl, blk_alloc (blk_new _ _) _, by have := blk_at0 (w.alloc (.cells #[.int .i64 0, .slice none 0 0] 39 (0, 0))) (.cells #[.int .i64 0, .slice none 0 0] 39 (0, 0)) (w.heap.size + 1) (by simp); simpa [tot, wof, wofN, wc] using this, ⟨by have := Kd.R_nil (Kd.int .u64) 78 ((w.alloc (.cells #[.int .i64 0, .slice none 0 0] 39 (0, 0))).alloc (.cells #[.int .i64 0, .slice none 0 0] 39 (0, 0))) w.heap.size (fun k => k ≠ w.heap.size + 1); simpa [tot, wof, wofN, wc] using this⟩, ⟨HK2.out 0 w _ H0.out (Nat.le_refl _) (below_alloc (below_alloc (Below.refl _ _) _) _)⟩⟩
  case round =>
    obtain ⟨i, A, cap, hi, rfl, hT, hS, HR, HKP⟩ := hrel
    have hsz : w.heap.size + 1 < wr.heap.size := blk_lt hS
    by_cases hlt : i < l.length
    · obtain ⟨ad, rfl, hx0, hx1⟩ := at_T77 (HK3.out i wr HKP.out) (i : Int) (by omega) (by omega)
      obtain ⟨v, c, hx⟩ : ∃ (v : Int) (c : Nat), rd_T77 l (i : Int) = ⟨v, (c : Int)⟩ := by
        have h1 := HCN.out (rd_T77 l (i : Int)) (by rw [rdT, List.getD_eq_getElem?_getD, List.getElem?_eq_getElem hlt]; exact List.getElem_mem hlt)
        have he : ∀ r : Run, 0 ≤ r.f1 → r = ⟨r.f0, (r.f1.toNat : Int)⟩ := fun r h => by
          cases r with
          | mk a b => simp only at h ⊢; rw [Int.toNat_of_nonneg h]
        exact ⟨_, _, he _ h1⟩
      rw [hx, Int.toNat_natCast] at hx0 hx1
      simp only at hx0 hx1
      have hgd : l.getD i z77 = ⟨v, (c : Int)⟩ := by rw [← hx, rdT]
      have htt := tot_take l i hlt
      rw [hgd] at htt
      simp only [Int.toNat_natCast] at htt
      have hle := tot_take_le l (i + 1)
      have hfi := HF.out i hlt
      rw [hgd, htt] at hfi
      simp only at hfi
      have HFI := Aside0.mk hfi
      have HTT := Aside0.mk htt
      clear hx hgd hfi htt
      have hlt' : (i : Int) < (l.length : Int) := by omega
      obtain ⟨n, hn⟩ : ∃ n, n = tot (l.take i) := ⟨_, rfl⟩
      rw [← hn] at hS HR
      have hfi := HFI.out
      rw [← hn] at hfi
      have HFN := Aside0.mk hfi
      clear hfi HFI
      have HN := Aside0.mk hn
      have hnc : n + c ≤ 100000 := by have := HTT.out; omega
      clear hn hle
      go_wp2
      obtain ⟨w2, hw2⟩ : ∃ w2, w2 = wr.alloc (.cells #[.int .i64 v, .int .i64 (c : Int)] 77 (0, 0)) := ⟨_, rfl⟩
      rw [← hw2]
      have k0 : w2.heap[w.heap.size]? = some (.cells #[.int .i64 0, .slice none 0 0] 39 (0, 0)) := by rw [hw2]; exact blk_alloc hT _
      have k1 : w2.heap[w.heap.size + 1]? = some (.cells #[.int .i64 (n : Int), .slice A (wof n f).length cap] 39 (0, 0)) := by rw [hw2]; exact blk_alloc hS _
      have kx : w2.heap[wr.heap.size]? = some (.cells #[.int .i64 v, .int .i64 (c : Int)] 77 (0, 0)) := by rw [hw2]; exact blk_new _ _
      have hs2 : wr.heap.size < w2.heap.size := blk_lt kx
      have KP2 : Aside0 (Kp i w2) := ⟨by rw [hw2]; exact HK2.out i wr _ HKP.out (by omega) (below_alloc (Below.refl _ _) _ |>.mono (by omega))⟩
      have HR2 : Aside0 (Kd.R (Kd.int .u64) 78 w2 w.heap.size (fun k => k ≠ w.heap.size + 1) (.slice A (wof n f).length cap) (wof n f)) := ⟨by rw [hw2]; exact Kd.R_alloc HR.out _⟩
      have x0 : w2.cell? ⟨wr.heap.size, 0, none⟩ = some (.int .i64 v) := by rw [blk_cell kx]; rfl
      have x1 : w2.cell? ⟨wr.heap.size, 1, none⟩ = some (.int .i64 (c : Int)) := by rw [blk_cell kx]; rfl
      clear hw2 hT hS HR HKP hx0 hx1
      go_region_held3 (fun w' => w'.cell? ⟨wr.heap.size, 0, none⟩ = some (.int .i64 v) ∧ w'.cell? ⟨wr.heap.size, 1, none⟩ = some (.int .i64 (c : Int))) (first | go_keep | exact ⟨by assumption, by assumption⟩)
        ((first
          | (go_at_call 26; refine (HK.out i v _ hlt (by first | exact HK2.out i w2 _ KP2.out (by omega) (below_drew (Below.refl _ _)) | exact HK2.out i w2 _ KP2.out (by omega) (pw_below_drewN (Below.refl _ _) _)) (by first | omega | (simp; omega))).mono ?_; rintro e w3 ⟨rfl, K3, hs3, hg3⟩; have KP3 := Aside0.mk K3; clear K3; have hs3' : w2.heap.size ≤ w3.heap.size := hs3; have k03 := (hg3 w.heap.size (Nat.le_refl _) (blk_lt k0)).trans k0; have k13 := (hg3 (w.heap.size + 1) (by omega) (blk_lt k1)).trans k1; have kx3 := (hg3 wr.heap.size (by omega) (blk_lt kx)).trans kx; have y0 : w3.cell? ⟨wr.heap.size, 0, none⟩ = some (.int .i64 v) := (by rw [blk_cell kx3]; rfl); have y1 : w3.cell? ⟨wr.heap.size, 1, none⟩ = some (.int .i64 (c : Int)) := (by rw [blk_cell kx3]; rfl); have HR3 : Aside0 (Kd.R (Kd.int .u64) 78 w3 w.heap.size (fun k => k ≠ w.heap.size + 1) (.slice A (wof n f).length cap) (wof n f)) := (⟨Kd.R_mono (Kd.R_step (Kd.R_bound HR2.out) (fun k hk hlt => hg3 k hk.2.1 hlt)) (fun _ hk => hk.1)⟩))
          | (go_at_call 49; refine (add_calls w.heap.size (w.heap.size + 1) n c (kf v) f HFN.out A cap _ k13 HR3.out (by omega) (by omega)).mono ?_; rintro e w4 ⟨rfl, A4, cap4, q1, q2, q3, q4⟩; have k04 := q4 _ _ _ k03 (by decide) (by omega); have kx4 := q4 _ _ _ kx3 (by decide) (by omega); have z0 : w4.cell? ⟨wr.heap.size, 0, none⟩ = some (.int .i64 v) := (by rw [blk_cell kx4]; rfl); have z1 : w4.cell? ⟨wr.heap.size, 1, none⟩ = some (.int .i64 (c : Int)) := (by rw [blk_cell kx4]; rfl); have HR4 := Aside0.mk q2; have KP4 : Aside0 (Kp (i + 1) w4) := (⟨HK2.out (i + 1) w3 w4 KP3.out (by omega) q3⟩); clear q2 q4)))
      clear x0 x1
      go_wp2
      go_roundw
      case rel =>
        have e1 : tot (l.take (i + 1)) = n + c := by rw [HTT.out, HN.out]
        refine ⟨i + 1, A4, cap4, by omega, by simp, k04, ?_, ⟨?_⟩, KP4⟩
        · rw [e1]; exact q1
        · rw [e1]; exact HR4.out
      case measure => simp [intOf]; omega
    · have hil : i = l.length := by omega
      subst hil
      rw [List.take_length] at hS HR
      have u0 : wr.cell? ⟨w.heap.size + 1, 0, none⟩ = some (.int .i64 (tot l : Int)) := by rw [blk_cell hS]; rfl
      have u1 : wr.cell? ⟨w.heap.size + 1, 1, none⟩ = some (.slice A (wof (tot l) f).length cap) := by rw [blk_cell hS]; rfl
      have v0 : wr.cell? ⟨w.heap.size, 0, none⟩ = some (.int .i64 0) := by rw [blk_cell hT]; rfl
      have v1 : wr.cell? ⟨w.heap.size, 1, none⟩ = some (.slice none 0 0) := by rw [blk_cell hT]; rfl
      have f0 : wr.frozen? ⟨w.heap.size, 0, none⟩ = false := blk_frozen hT 0
      have f1 : wr.frozen? ⟨w.heap.size, 1, none⟩ = false := blk_frozen hT 1
      go_wp2
      refine bodyPost_ret (results_cell_row rfl _ _ w.heap.size 39 #[.int .i64 (tot l : Int), .slice A (wof (tot l) f).length cap] (0, 0) _ rfl (by have := blk_put (blk_put hT 0 (.int .i64 (tot l : Int)) rfl) 1 (.slice A (wof (tot l) f).length cap) rfl; exact this) Try.underlying39 rfl (by kernel_rfl)) rfl ?_
      refine ⟨_, rfl, ?_, HK2.out l.length wr _ HKP.out (by omega) (((Below.refl w.heap.size wr).setCell (p := ⟨w.heap.size, 0, none⟩) (Nat.le_refl _) _).setCell (p := ⟨w.heap.size, 1, none⟩) (Nat.le_refl _) _)⟩
      exact Kd.R_mono (Kd.R_far (p := ⟨w.heap.size, 1, none⟩) (Kd.R_far (p := ⟨w.heap.size, 0, none⟩) (Kd.R_types HR.out hT (by decide)) (fun k hk => hk.2) _) (fun k hk => hk.2) _) (fun _ _ => trivial)

/-! ### the law's closure -/
def kfn (op n v : Int) : Bool := decide (op = 1 ∧ v = n ∨ op = 3 ∧ v < n ∨ op = 5 ∧ v > n)
set_option maxHeartbeats 2000000 in
set_option maxRecDepth 100000 in
theorem keep_calls (bC bO bN : Nat) (op n v : Int) (c : Nat) (hop : op = 1 ∨ op = 3 ∨ op = 5) (hc : c < 1000000) (W : World) (hC : W.heap[bC]? = some (.cells #[.int .i64 (c : Int)] 3 (0, 0))) (hO : W.heap[bO]? = some (.cells #[.int .i64 op] 3 (0, 0))) (hN : W.heap[bN]? = some (.cells #[.int .i64 n] 2 (0, 0))) (h1 : bC ≠ bO) (h2 : bC ≠ bN) :
    Calls Try.prog 26 #[.int .i64 v, .pointer (some ⟨bC, 0, none⟩), .pointer (some ⟨bO, 0, none⟩), .pointer (some ⟨bN, 0, none⟩)] W fun e W' => e = .returned (.bool (kfn op n v)) ∧ W'.heap[bC]? = some (.cells #[.int .i64 ((c + 1 : Nat) : Int)] 3 (0, 0)) ∧ (∀ g, g ≠ bC → W'.heap[g]? = W.heap[g]?) ∧ W'.heap.size = W.heap.size ∧ Below bC W W' := by
  have cC : W.cell? ⟨bC, 0, none⟩ = some (.int .i64 (c : Int)) := by rw [blk_cell hC]; rfl
  have fC : W.frozen? ⟨bC, 0, none⟩ = false := blk_frozen hC 0
  have cO : W.cell? ⟨bO, 0, none⟩ = some (.int .i64 op) := by rw [blk_cell hO]; rfl
  have cN : W.cell? ⟨bN, 0, none⟩ = some (.int .i64 n) := by rw [blk_cell hN]; rfl
  have g1 : bO ≠ bC := Ne.symm h1
  have g2 : bN ≠ bC := Ne.symm h2
  have hc1 : (c : Int) + 1 = ((c + 1 : Nat) : Int) := by simp
  have HC := Aside0.mk hC
  have fin : ∀ (b : Bool) (W' : World), W' = W.setCell ⟨bC, 0, none⟩ (.int .i64 ((c : Int) + 1)) → b = kfn op n v → Ending.returned (.bool b) = Ending.returned (.bool (kfn op n v)) ∧ W'.heap[bC]? = some (.cells #[.int .i64 ((c + 1 : Nat) : Int)] 3 (0, 0)) ∧ (∀ g, g ≠ bC → W'.heap[g]? = W.heap[g]?) ∧ W'.heap.size = W.heap.size ∧ Below bC W W' := by
    intro b W' hw hb
    subst hw
    refine ⟨by rw [hb], ?_, fun g hg => ?_, ?_, ?_⟩
    · rw [← hc1]; have := blk_put HC.out 0 (.int .i64 ((c : Int) + 1)) rfl; exact this
    · exact Below.heap_setCell W ⟨bC, 0, none⟩ _ g hg
    · simp [World.setCell]
    · exact (Below.refl bC W).setCell (p := ⟨bC, 0, none⟩) (Nat.le_refl _) _
  have FIN := Aside0.mk fin
  clear fin hC hO hN h1 h2 hc1
  rcases hop with rfl | rfl | rfl
  · by_cases e : v = n
    · subst e
      have e1 : (v == v) = true := by simp
      go_enter Try.func26, Try.ntmps26
      go_wp2
      go_ret
      exact FIN.out _ _ rfl (by simp [kfn])
    · have e1 : (v == n) = false := by simp [e]
      go_enter Try.func26, Try.ntmps26
      go_wp2
      go_ret
      exact FIN.out _ _ rfl (by simp [kfn]; exact e)
  · by_cases e : v < n
    · skip
      go_enter Try.func26, Try.ntmps26
      go_wp2
      go_ret
      exact FIN.out _ _ rfl (by simp [kfn]; exact e)
    · skip
      go_enter Try.func26, Try.ntmps26
      go_wp2
      go_ret
      exact FIN.out _ _ rfl (by simp [kfn]; omega)
  · by_cases e : n < v
    · skip
      go_enter Try.func26, Try.ntmps26
      go_wp2
      go_ret
      exact FIN.out _ _ rfl (by simp [kfn]; exact e)
    · skip
      go_enter Try.func26, Try.ntmps26
      go_wp2
      go_ret
      exact FIN.out _ _ rfl (by simp [kfn]; omega)

/-! ### the law -/
theorem heapRun : Kd.Heap k77 := Kd.heap_iso _ (Kd.heap_pair (Kd.heap_int .i64) (Kd.heap_int .i64))
/-- Between two calls of the closure: j calls, nothing else has turned. -/
def LK (A0 : Option Addr) (l : List Run) (w W8 : World) (bC : Nat) (j : Nat) (W : World) : Prop := W.heap[bC]? = some (.cells #[.int .i64 (j : Int)] 3 (0, 0)) ∧ (∀ g, g < W8.heap.size → g ≠ bC → W.heap[g]? = W8.heap[g]?) ∧ W8.heap.size ≤ W.heap.size ∧ Below w.heap.size w W
theorem LK_keep {A0 : Option Addr} {l : List Run} {w W8 : World} {bC bO bN : Nat} {op n : Int} (hop : op = 1 ∨ op = 3 ∨ op = 5) (hll : l.length ≤ 100000) (hO : W8.heap[bO]? = some (.cells #[.int .i64 op] 3 (0, 0))) (hN : W8.heap[bN]? = some (.cells #[.int .i64 n] 2 (0, 0))) (h1 : bC ≠ bO) (h2 : bC ≠ bN) (h3 : bC < W8.heap.size) (h4 : w.heap.size ≤ bC) (j : Nat) (v : Int) (W : World) (hj : j < l.length) (h : LK A0 l w W8 bC j W) :
    Calls Try.prog 26 #[.int .i64 v, .pointer (some ⟨bC, 0, none⟩), .pointer (some ⟨bO, 0, none⟩), .pointer (some ⟨bN, 0, none⟩)] W fun e W' => e = .returned (.bool (kfn op n v)) ∧ LK A0 l w W8 bC (j + 1) W' ∧ W.heap.size ≤ W'.heap.size ∧ ∀ g, W8.heap.size ≤ g → g < W.heap.size → W'.heap[g]? = W.heap[g]? := by
  obtain ⟨q1, q2, q3, q4⟩ := h
  refine (keep_calls bC bO bN op n v j hop (by omega) W q1 ((q2 _ (blk_lt hO) (Ne.symm h1)).trans hO) ((q2 _ (blk_lt hN) (Ne.symm h2)).trans hN) h1 h2).mono ?_
  rintro e W' ⟨r1, r2, r3, r4, r5⟩
  exact ⟨r1, ⟨r2, fun g hg hne => (r3 g hne).trans (q2 g hg hne), by omega, q4.trans (r5.mono h4)⟩, by omega, fun g hg _ => r3 g (by omega)⟩
theorem LK_below {A0 : Option Addr} {l : List Run} {w W8 : World} {bC : Nat} (h3 : bC < W8.heap.size) (h5 : w.heap.size ≤ W8.heap.size) (j : Nat) (W W' : World) (h : LK A0 l w W8 bC j W) (hs : W8.heap.size ≤ W.heap.size) (hb : Below W8.heap.size W W') : LK A0 l w W8 bC j W' := by
  obtain ⟨q1, q2, q3, q4⟩ := h
  exact ⟨(hb.block bC h3).trans q1, fun g hg hne => (hb.block g hg).trans (q2 g hg hne), Nat.le_trans hs hb.size, q4.trans (hb.mono h5)⟩
theorem LK_C {A0 : Option Addr} {l : List Run} {w W8 : World} {bC : Nat} (hr0 : Kd.C k77 w A0 l.length l) (j : Nat) (W : World) (h : LK A0 l w W8 bC j W) : Kd.C k77 W A0 l.length l := by
  obtain ⟨q1, q2, q3, q4⟩ := h
  exact Kd.C_below hr0 q4
set_option maxHeartbeats 4000000 in
set_option maxRecDepth 100000 in
theorem law_calls (k : Nat) (A0 : Option Addr) (c0 : Nat) (l : List Run) (i op n : Int) (vb sb : Bool) (x : Int) (p : Bool) (f : Nat → Bool) (w : World) (hr0 : Kd.C k77 w A0 l.length l) (hc0 : l.length ≤ c0)
    (hA : laminalaw07_awake.f k = some true) (hV : laminaref07_Valid.f k l = some vb) (hS : vb = true → laminalaw07_small.f k l = some sb)
    (hX : vb = true → sb = true → (op = 1 ∨ op = 3 ∨ op = 5) → rle_At.f k l i = some (x, p) ∧ laminaref07_At.f k l i = some (x, p) ∧ laminaref07_Matching.f k l op n = some ((tot l : Int), wof (tot l) f) ∧ laminalaw07_sameBits.f k (tot l : Int) (wof (tot l) f) (tot l : Int) (wof (tot l) f) = some true ∧
      (∀ x ∈ l, 0 ≤ x.f1) ∧ tot l ≤ 100000 ∧ l.length ≤ 100000 ∧ ∀ i, i < l.length → ∀ j, tot (l.take i) ≤ j → j < tot (l.take (i + 1)) → f j = kfn op n (l.getD i z77).f0) :
    Calls Try.prog 4 #[.slice A0 l.length c0, .int .i64 i, .int .i64 op, .int .i64 n] w fun e w' => e = .returned (.bool true) ∧ Below w.heap.size w w' := by
  have HR := Aside0.mk hr0
  have HV := Aside0.mk hV
  have HS := Aside0.mk hS
  have HX := Aside0.mk hX
  have fin : ∀ (w1 : World), Below w.heap.size w w1 → Calls Try.prog 15 #[] w1 fun e w' => e = .returned (.bool true) ∧ Below w.heap.size w w' := fun w1 h1 => (laminalaw07_awake.calls k true w1 hA).mono (fun e w2 h2 => ⟨h2.1, below_then h1 h1.size h2.2⟩)
  have FIN := Aside0.mk fin
  have HAW := Aside0.mk hA
  clear fin hr0 hA hV hS hX
  have hub := Try.underlying39
  have hmf : ∀ (fn : Fn) (first cap : Array Value) (w : World), (Instr.makeFunc fn first cap).run Try.prog w = .ok (.func fn first cap) w := fun _ _ _ _ => rfl
  cases vb
  · go_enter Try.func4, Try.ntmps4
    go_wp2_with (first | (go_at_call 14; refine (laminaref07_Valid.calls k _ _ l false _ (Kd.C_below HR.out (below_alloc (below_alloc (Below.refl _ _) _) _)) hc0 HV.out).mono ?_; rintro e w1 ⟨rfl, ⟨nd1, rfl⟩⟩) | (go_at_call 15; refine (FIN.out _ (pw_below_drewN (below_alloc (below_alloc (Below.refl _ _) _) _) _)).mono ?_; rintro e w9 ⟨rfl, hB9⟩))
    go_ret
    exact ⟨rfl, hB9⟩
  have hS := HS.out rfl
  have HS1 := Aside0.mk hS
  clear hS
  cases sb
  · go_enter Try.func4, Try.ntmps4
    go_wp2_with (first | (go_at_call 14; refine (laminaref07_Valid.calls k _ _ l true _ (Kd.C_below HR.out (below_alloc (below_alloc (Below.refl _ _) _) _)) hc0 HV.out).mono ?_; rintro e w1 ⟨rfl, ⟨nd1, rfl⟩⟩) | (go_at_call 21; refine (laminalaw07_small.calls k _ _ l false _ (Kd.C_below HR.out (pw_below_drewN (below_alloc (below_alloc (Below.refl _ _) _) _) _)) hc0 HS1.out).mono ?_; rintro e w2 ⟨rfl, ⟨nd2, rfl⟩⟩) | (go_at_call 15; refine (FIN.out _ (pw_below_drewN (below_alloc (below_alloc (Below.refl _ _) _) _) _)).mono ?_; rintro e w9 ⟨rfl, hB9⟩))
    go_ret
    exact ⟨rfl, hB9⟩
  by_cases hop : op = 1 ∨ op = 3 ∨ op = 5
  · obtain ⟨hI, hJ, hM, hB, hcnt, htot, hll, hff⟩ := HX.out rfl rfl hop
    have HI := Aside0.mk hI
    have HJ := Aside0.mk hJ
    have HM := Aside0.mk hM
    have HSB := Aside0.mk hB
    have HFF := Aside0.mk hff
    have HCN := Aside0.mk hcnt
    have xx : (x != x) = false := by simp
    have pp : (p != p) = false := by simp
    clear hI hJ hM hB hff hcnt HX
    have ho : ((op != 1) = true ∧ (op != 3) = true ∧ (op != 5) = false) ∨ ((op != 1) = true ∧ (op != 3) = false) ∨ (op != 1) = false := by
      rcases hop with rfl | rfl | rfl <;> simp
    have HOP := Aside0.mk hop
    clear hop
    rcases ho with ⟨o1, o3, o5⟩ | ⟨o1, o3⟩ | o1
    · go_enter Try.func4, Try.ntmps4
      go_wp2_with (first | (go_at_call 14; refine (laminaref07_Valid.calls k _ _ l true _ (Kd.C_below HR.out (below_alloc (below_alloc (Below.refl _ _) _) _)) hc0 HV.out).mono ?_; rintro e w1 ⟨rfl, ⟨nd1, rfl⟩⟩) | (go_at_call 21; refine (laminalaw07_small.calls k _ _ l true _ (Kd.C_below HR.out (pw_below_drewN (below_alloc (below_alloc (Below.refl _ _) _) _) _)) hc0 HS1.out).mono ?_; rintro e w2 ⟨rfl, ⟨nd2, rfl⟩⟩) | (go_at_call 23; refine (rle_At.calls k _ _ l i x p _ (Kd.C_below HR.out (pw_below_drewN (below_alloc (below_alloc (Below.refl _ _) _) _) _)) hc0 HI.out).mono ?_; rintro e w3 ⟨rfl, hB3⟩; have hB3' : Below w.heap.size w w3 := below_then (pw_below_drewN (below_alloc (below_alloc (Below.refl _ _) _) _) _) (by simp; omega) hB3; have k6 := blk_below (blk_drewN ((blk_alloc (blk_new w (.cells #[.int .i64 op] 3 (0, 0))) (.cells #[.int .i64 n] 2 (0, 0)))) (nd1 + nd2)) hB3; have k7 := blk_below (blk_drewN ((blk_at0 (w.alloc (.cells #[.int .i64 op] 3 (0, 0))) (.cells #[.int .i64 n] 2 (0, 0)) (w.heap.size + 1) (by simp))) (nd1 + nd2)) hB3) | (go_at_call 24; refine (laminaref07_At.calls k _ _ l i x p w3 (Kd.C_below HR.out hB3') hc0 HJ.out).mono ?_; rintro e w4 ⟨rfl, ⟨nd3, rfl⟩⟩; have zb := blk_at0 (w3.drewN nd3) (.cells #[.int .i64 0] 3 (0, 0)) w3.heap.size rfl; have z0 : ((w3.drewN nd3).alloc (.cells #[.int .i64 0] 3 (0, 0))).cell? ⟨w3.heap.size, 0, none⟩ = some (.int .i64 0) := (by rw [blk_cell zb]; rfl); have z1 := blk_frozen zb 0; obtain ⟨W8, hW8⟩ : ∃ W8, W8 = ((w3.drewN nd3).alloc (.cells #[.int .i64 0] 3 (0, 0))).setCell ⟨w3.heap.size, 0, none⟩ (.int .i64 0) := ⟨_, rfl⟩; have K6 : Aside0 (W8.heap[w.heap.size]? = some (.cells #[.int .i64 op] 3 (0, 0))) := ⟨by rw [hW8]; exact blk_far (blk_alloc (blk_drewN k6 _) _) (by have := blk_lt k6; simp; omega) _⟩; have K7 : Aside0 (W8.heap[w.heap.size + 1]? = some (.cells #[.int .i64 n] 2 (0, 0))) := ⟨by rw [hW8]; exact blk_far (blk_alloc (blk_drewN k7 _) _) (by have := blk_lt k7; simp; omega) _⟩; have KC : Aside0 (W8.heap[w3.heap.size]? = some (.cells #[.int .i64 ((0 : Nat) : Int)] 3 (0, 0))) := ⟨by rw [hW8]; exact blk_put zb 0 _ rfl⟩; have B8 : Aside0 (Below w.heap.size w W8) := ⟨by rw [hW8]; exact (below_alloc (pw_below_drewN hB3' _) _).setCell (p := ⟨w3.heap.size, 0, none⟩) hB3'.size _⟩; have S8 : Aside0 (w3.heap.size < W8.heap.size ∧ w.heap.size ≤ W8.heap.size ∧ w.heap.size ≤ w3.heap.size) := ⟨⟨blk_lt KC.out, B8.out.size, hB3'.size⟩⟩; have HW8 := Aside0.mk hW8; clear zb hW8) | (go_at_call 25; rw [← HW8.out]; (refine (filter_calls _ _ l W8 hc0 (kfn op n) HCN.out htot _ _ _ (LK A0 l w W8 w3.heap.size) ?k1 ?k2 ?k3 ?k4 f HFF.out).mono ?_; (case k1 => exact fun j v W hj h hs => LK_keep HOP.out hll K6.out K7.out (by have := blk_lt k6; omega) (by have := blk_lt k7; omega) S8.out.1 S8.out.2.2 j v W hj h); (case k2 => exact fun j W W' h hs hb => LK_below S8.out.1 S8.out.2.1 j W W' h hs hb); (case k3 => exact fun j W h => LK_C HR.out j W h); (case k4 => exact ⟨KC.out, fun _ _ _ => rfl, Nat.le_refl _, B8.out⟩); rintro e w10 ⟨v1_, rfl, hR10, hL10⟩; obtain ⟨vA, vc, rfl⟩ := Kd.R_slice hR10; have HR10 := Aside0.mk hR10; have HL10 := Aside0.mk hL10; clear hR10 hL10)))
      obtain ⟨w11, hw11⟩ : ∃ w11, w11 = w10.alloc (.cells #[.int .i64 (tot l : Int), .slice vA (wof (tot l) f).length vc] 39 (0, 0)) := ⟨_, rfl⟩
      rw [← hw11]
      obtain ⟨q1, q2, q3, q4⟩ := HL10.out
      have b0 : w11.heap[w3.heap.size]? = some (.cells #[.int .i64 (l.length : Int)] 3 (0, 0)) := by rw [hw11]; exact blk_alloc q1 _
      have b1 : w11.heap[w10.heap.size]? = some (.cells #[.int .i64 (tot l : Int), .slice vA (wof (tot l) f).length vc] 39 (0, 0)) := by rw [hw11]; exact blk_new _ _
      have b3 : w11.heap[w.heap.size]? = some (.cells #[.int .i64 op] 3 (0, 0)) := by rw [hw11]; exact blk_alloc ((q2 _ (blk_lt K6.out) (by have := blk_lt k6; omega)).trans K6.out) _
      have b4 : w11.heap[w.heap.size + 1]? = some (.cells #[.int .i64 n] 2 (0, 0)) := by rw [hw11]; exact blk_alloc ((q2 _ (blk_lt K7.out) (by have := blk_lt k7; omega)).trans K7.out) _
      have R11 : Aside0 (Kd.R (Kd.int .u64) 78 w11 W8.heap.size (fun _ => True) (.slice vA (wof (tot l) f).length vc) (wof (tot l) f)) := ⟨by rw [hw11]; exact Kd.R_alloc HR10.out _⟩
      have B11 : Aside0 (Below w.heap.size w w11) := ⟨by rw [hw11]; exact below_alloc q4 _⟩
      have C11 : Aside0 (Kd.C k77 w11 A0 l.length l) := ⟨Kd.C_below HR.out B11.out⟩
      have m0 : w11.cell? ⟨w3.heap.size, 0, none⟩ = some (.int .i64 (l.length : Int)) := by rw [blk_cell b0]; rfl
      have m1 : w11.cell? ⟨w10.heap.size, 0, none⟩ = some (.int .i64 (tot l : Int)) := by rw [blk_cell b1]; rfl
      have m2 : w11.cell? ⟨w10.heap.size, 1, none⟩ = some (.slice vA (wof (tot l) f).length vc) := by rw [blk_cell b1]; rfl
      have m3 : w11.cell? ⟨w.heap.size, 0, none⟩ = some (.int .i64 op) := by rw [blk_cell b3]; rfl
      have m4 : w11.cell? ⟨w.heap.size + 1, 0, none⟩ = some (.int .i64 n) := by rw [blk_cell b4]; rfl
      clear hw11 q1 q2 q3 q4 b0 b1 b3 b4 z0 z1 k6 k7
      go_region_held3 (fun w' => w'.cell? ⟨w3.heap.size, 0, none⟩ = some (.int .i64 (l.length : Int)) ∧ w'.cell? ⟨w10.heap.size, 0, none⟩ = some (.int .i64 (tot l : Int)) ∧ w'.cell? ⟨w10.heap.size, 1, none⟩ = some (.slice vA (wof (tot l) f).length vc) ∧ w'.cell? ⟨w.heap.size, 0, none⟩ = some (.int .i64 op) ∧ w'.cell? ⟨w.heap.size + 1, 0, none⟩ = some (.int .i64 n)) (first | go_keep | exact ⟨by assumption, by assumption, by assumption, by assumption, by assumption⟩)
        ((first
          | (go_at_call 28; go_loud (refine (laminaref07_Matching.calls k _ _ l op n _ _ _ (by first | exact C11.out | exact Kd.C_drew C11.out | exact Kd.C_drewN C11.out _) hc0 HM.out).mono ?_; rintro e w12 ⟨v2_, rfl, hR12, hB12_⟩; have hB12 : Below w11.heap.size w11 w12 := ⟨hB12_.os, hB12_.tape, hB12_.output, hB12_.size, hB12_.block⟩; clear hB12_; obtain ⟨vB, vd, rfl⟩ := Kd.R_slice hR12; have n0 := (hB12.cell (World.block_lt_of_cell? _ _ (show _ from m0))).trans m0; have n1 := (hB12.cell (World.block_lt_of_cell? _ _ (show _ from m1))).trans m1; have n2 := (hB12.cell (World.block_lt_of_cell? _ _ (show _ from m2))).trans m2; have n3 := (hB12.cell (World.block_lt_of_cell? _ _ (show _ from m3))).trans m3; have n4 := (hB12.cell (World.block_lt_of_cell? _ _ (show _ from m4))).trans m4; have R12 := Aside0.mk hR12; have R12a := Aside0.mk (Kd.R_below R11.out hB12); have B12 := Aside0.mk (below_then B11.out B11.out.size hB12); clear hR12 hB12))
          | (go_at_call 27; go_loud (refine (laminalaw07_sameBits.calls k _ _ _ _ _ _ _ _ true _ (Kd.R_reads' R12a.out).2.2 (Kd.R_reads' R12a.out).2.1 (Kd.R_reads' R12.out).2.2 (Kd.R_reads' R12.out).2.1 HSB.out).mono ?_; rintro e w13 ⟨rfl, hB13_⟩; have hB13 : Below w12.heap.size w12 w13 := ⟨hB13_.os, hB13_.tape, hB13_.output, hB13_.size, hB13_.block⟩; clear hB13_; have o0_ := (hB13.cell (World.block_lt_of_cell? _ _ (show _ from n0))).trans n0; have o1_ := (hB13.cell (World.block_lt_of_cell? _ _ (show _ from n1))).trans n1; have o2_ := (hB13.cell (World.block_lt_of_cell? _ _ (show _ from n2))).trans n2; have o3_ := (hB13.cell (World.block_lt_of_cell? _ _ (show _ from n3))).trans n3; have o4_ := (hB13.cell (World.block_lt_of_cell? _ _ (show _ from n4))).trans n4; have B13 := Aside0.mk (below_then B12.out B12.out.size hB13); clear hB13))
          | (go_at_call 15; go_loud (refine (laminalaw07_awake.calls k true _ HAW.out).mono ?_; rintro e w9 ⟨rfl, hB9b_⟩; have hB9b : Below w13.heap.size w13 w9 := ⟨hB9b_.os, hB9b_.tape, hB9b_.output, hB9b_.size, hB9b_.block⟩; clear hB9b_; have p0_ := (hB9b.cell (World.block_lt_of_cell? _ _ (show _ from o0_))).trans o0_; have p1_ := (hB9b.cell (World.block_lt_of_cell? _ _ (show _ from o1_))).trans o1_; have p2_ := (hB9b.cell (World.block_lt_of_cell? _ _ (show _ from o2_))).trans o2_; have p3_ := (hB9b.cell (World.block_lt_of_cell? _ _ (show _ from o3_))).trans o3_; have p4_ := (hB9b.cell (World.block_lt_of_cell? _ _ (show _ from o4_))).trans o4_; have B9 := Aside0.mk (below_then B13.out B13.out.size hB9b); clear hB9b))))
      go_wp2
      go_ret
      exact ⟨rfl, B9.out⟩
    · go_enter Try.func4, Try.ntmps4
      go_wp2_with (first | (go_at_call 14; refine (laminaref07_Valid.calls k _ _ l true _ (Kd.C_below HR.out (below_alloc (below_alloc (Below.refl _ _) _) _)) hc0 HV.out).mono ?_; rintro e w1 ⟨rfl, ⟨nd1, rfl⟩⟩) | (go_at_call 21; refine (laminalaw07_small.calls k _ _ l true _ (Kd.C_below HR.out (pw_below_drewN (below_alloc (below_alloc (Below.refl _ _) _) _) _)) hc0 HS1.out).mono ?_; rintro e w2 ⟨rfl, ⟨nd2, rfl⟩⟩) | (go_at_call 23; refine (rle_At.calls k _ _ l i x p _ (Kd.C_below HR.out (pw_below_drewN (below_alloc (below_alloc (Below.refl _ _) _) _) _)) hc0 HI.out).mono ?_; rintro e w3 ⟨rfl, hB3⟩; have hB3' : Below w.heap.size w w3 := below_then (pw_below_drewN (below_alloc (below_alloc (Below.refl _ _) _) _) _) (by simp; omega) hB3; have k6 := blk_below (blk_drewN ((blk_alloc (blk_new w (.cells #[.int .i64 op] 3 (0, 0))) (.cells #[.int .i64 n] 2 (0, 0)))) (nd1 + nd2)) hB3; have k7 := blk_below (blk_drewN ((blk_at0 (w.alloc (.cells #[.int .i64 op] 3 (0, 0))) (.cells #[.int .i64 n] 2 (0, 0)) (w.heap.size + 1) (by simp))) (nd1 + nd2)) hB3) | (go_at_call 24; refine (laminaref07_At.calls k _ _ l i x p w3 (Kd.C_below HR.out hB3') hc0 HJ.out).mono ?_; rintro e w4 ⟨rfl, ⟨nd3, rfl⟩⟩; have zb := blk_at0 (w3.drewN nd3) (.cells #[.int .i64 0] 3 (0, 0)) w3.heap.size rfl; have z0 : ((w3.drewN nd3).alloc (.cells #[.int .i64 0] 3 (0, 0))).cell? ⟨w3.heap.size, 0, none⟩ = some (.int .i64 0) := (by rw [blk_cell zb]; rfl); have z1 := blk_frozen zb 0; obtain ⟨W8, hW8⟩ : ∃ W8, W8 = ((w3.drewN nd3).alloc (.cells #[.int .i64 0] 3 (0, 0))).setCell ⟨w3.heap.size, 0, none⟩ (.int .i64 0) := ⟨_, rfl⟩; have K6 : Aside0 (W8.heap[w.heap.size]? = some (.cells #[.int .i64 op] 3 (0, 0))) := ⟨by rw [hW8]; exact blk_far (blk_alloc (blk_drewN k6 _) _) (by have := blk_lt k6; simp; omega) _⟩; have K7 : Aside0 (W8.heap[w.heap.size + 1]? = some (.cells #[.int .i64 n] 2 (0, 0))) := ⟨by rw [hW8]; exact blk_far (blk_alloc (blk_drewN k7 _) _) (by have := blk_lt k7; simp; omega) _⟩; have KC : Aside0 (W8.heap[w3.heap.size]? = some (.cells #[.int .i64 ((0 : Nat) : Int)] 3 (0, 0))) := ⟨by rw [hW8]; exact blk_put zb 0 _ rfl⟩; have B8 : Aside0 (Below w.heap.size w W8) := ⟨by rw [hW8]; exact (below_alloc (pw_below_drewN hB3' _) _).setCell (p := ⟨w3.heap.size, 0, none⟩) hB3'.size _⟩; have S8 : Aside0 (w3.heap.size < W8.heap.size ∧ w.heap.size ≤ W8.heap.size ∧ w.heap.size ≤ w3.heap.size) := ⟨⟨blk_lt KC.out, B8.out.size, hB3'.size⟩⟩; have HW8 := Aside0.mk hW8; clear zb hW8) | (go_at_call 25; rw [← HW8.out]; (refine (filter_calls _ _ l W8 hc0 (kfn op n) HCN.out htot _ _ _ (LK A0 l w W8 w3.heap.size) ?k1 ?k2 ?k3 ?k4 f HFF.out).mono ?_; (case k1 => exact fun j v W hj h hs => LK_keep HOP.out hll K6.out K7.out (by have := blk_lt k6; omega) (by have := blk_lt k7; omega) S8.out.1 S8.out.2.2 j v W hj h); (case k2 => exact fun j W W' h hs hb => LK_below S8.out.1 S8.out.2.1 j W W' h hs hb); (case k3 => exact fun j W h => LK_C HR.out j W h); (case k4 => exact ⟨KC.out, fun _ _ _ => rfl, Nat.le_refl _, B8.out⟩); rintro e w10 ⟨v1_, rfl, hR10, hL10⟩; obtain ⟨vA, vc, rfl⟩ := Kd.R_slice hR10; have HR10 := Aside0.mk hR10; have HL10 := Aside0.mk hL10; clear hR10 hL10)))
      obtain ⟨w11, hw11⟩ : ∃ w11, w11 = w10.alloc (.cells #[.int .i64 (tot l : Int), .slice vA (wof (tot l) f).length vc] 39 (0, 0)) := ⟨_, rfl⟩
      rw [← hw11]
      obtain ⟨q1, q2, q3, q4⟩ := HL10.out
      have b0 : w11.heap[w3.heap.size]? = some (.cells #[.int .i64 (l.length : Int)] 3 (0, 0)) := by rw [hw11]; exact blk_alloc q1 _
      have b1 : w11.heap[w10.heap.size]? = some (.cells #[.int .i64 (tot l : Int), .slice vA (wof (tot l) f).length vc] 39 (0, 0)) := by rw [hw11]; exact blk_new _ _
      have b3 : w11.heap[w.heap.size]? = some (.cells #[.int .i64 op] 3 (0, 0)) := by rw [hw11]; exact blk_alloc ((q2 _ (blk_lt K6.out) (by have := blk_lt k6; omega)).trans K6.out) _
      have b4 : w11.heap[w.heap.size + 1]? = some (.cells #[.int .i64 n] 2 (0, 0)) := by rw [hw11]; exact blk_alloc ((q2 _ (blk_lt K7.out) (by have := blk_lt k7; omega)).trans K7.out) _
      have R11 : Aside0 (Kd.R (Kd.int .u64) 78 w11 W8.heap.size (fun _ => True) (.slice vA (wof (tot l) f).length vc) (wof (tot l) f)) := ⟨by rw [hw11]; exact Kd.R_alloc HR10.out _⟩
      have B11 : Aside0 (Below w.heap.size w w11) := ⟨by rw [hw11]; exact below_alloc q4 _⟩
      have C11 : Aside0 (Kd.C k77 w11 A0 l.length l) := ⟨Kd.C_below HR.out B11.out⟩
      have m0 : w11.cell? ⟨w3.heap.size, 0, none⟩ = some (.int .i64 (l.length : Int)) := by rw [blk_cell b0]; rfl
      have m1 : w11.cell? ⟨w10.heap.size, 0, none⟩ = some (.int .i64 (tot l : Int)) := by rw [blk_cell b1]; rfl
      have m2 : w11.cell? ⟨w10.heap.size, 1, none⟩ = some (.slice vA (wof (tot l) f).length vc) := by rw [blk_cell b1]; rfl
      have m3 : w11.cell? ⟨w.heap.size, 0, none⟩ = some (.int .i64 op) := by rw [blk_cell b3]; rfl
      have m4 : w11.cell? ⟨w.heap.size + 1, 0, none⟩ = some (.int .i64 n) := by rw [blk_cell b4]; rfl
      clear hw11 q1 q2 q3 q4 b0 b1 b3 b4 z0 z1 k6 k7
      go_region_held3 (fun w' => w'.cell? ⟨w3.heap.size, 0, none⟩ = some (.int .i64 (l.length : Int)) ∧ w'.cell? ⟨w10.heap.size, 0, none⟩ = some (.int .i64 (tot l : Int)) ∧ w'.cell? ⟨w10.heap.size, 1, none⟩ = some (.slice vA (wof (tot l) f).length vc) ∧ w'.cell? ⟨w.heap.size, 0, none⟩ = some (.int .i64 op) ∧ w'.cell? ⟨w.heap.size + 1, 0, none⟩ = some (.int .i64 n)) (first | go_keep | exact ⟨by assumption, by assumption, by assumption, by assumption, by assumption⟩)
        ((first
          | (go_at_call 28; go_loud (refine (laminaref07_Matching.calls k _ _ l op n _ _ _ (by first | exact C11.out | exact Kd.C_drew C11.out | exact Kd.C_drewN C11.out _) hc0 HM.out).mono ?_; rintro e w12 ⟨v2_, rfl, hR12, hB12_⟩; have hB12 : Below w11.heap.size w11 w12 := ⟨hB12_.os, hB12_.tape, hB12_.output, hB12_.size, hB12_.block⟩; clear hB12_; obtain ⟨vB, vd, rfl⟩ := Kd.R_slice hR12; have n0 := (hB12.cell (World.block_lt_of_cell? _ _ (show _ from m0))).trans m0; have n1 := (hB12.cell (World.block_lt_of_cell? _ _ (show _ from m1))).trans m1; have n2 := (hB12.cell (World.block_lt_of_cell? _ _ (show _ from m2))).trans m2; have n3 := (hB12.cell (World.block_lt_of_cell? _ _ (show _ from m3))).trans m3; have n4 := (hB12.cell (World.block_lt_of_cell? _ _ (show _ from m4))).trans m4; have R12 := Aside0.mk hR12; have R12a := Aside0.mk (Kd.R_below R11.out hB12); have B12 := Aside0.mk (below_then B11.out B11.out.size hB12); clear hR12 hB12))
          | (go_at_call 27; go_loud (refine (laminalaw07_sameBits.calls k _ _ _ _ _ _ _ _ true _ (Kd.R_reads' R12a.out).2.2 (Kd.R_reads' R12a.out).2.1 (Kd.R_reads' R12.out).2.2 (Kd.R_reads' R12.out).2.1 HSB.out).mono ?_; rintro e w13 ⟨rfl, hB13_⟩; have hB13 : Below w12.heap.size w12 w13 := ⟨hB13_.os, hB13_.tape, hB13_.output, hB13_.size, hB13_.block⟩; clear hB13_; have o0_ := (hB13.cell (World.block_lt_of_cell? _ _ (show _ from n0))).trans n0; have o1_ := (hB13.cell (World.block_lt_of_cell? _ _ (show _ from n1))).trans n1; have o2_ := (hB13.cell (World.block_lt_of_cell? _ _ (show _ from n2))).trans n2; have o3_ := (hB13.cell (World.block_lt_of_cell? _ _ (show _ from n3))).trans n3; have o4_ := (hB13.cell (World.block_lt_of_cell? _ _ (show _ from n4))).trans n4; have B13 := Aside0.mk (below_then B12.out B12.out.size hB13); clear hB13))
          | (go_at_call 15; go_loud (refine (laminalaw07_awake.calls k true _ HAW.out).mono ?_; rintro e w9 ⟨rfl, hB9b_⟩; have hB9b : Below w13.heap.size w13 w9 := ⟨hB9b_.os, hB9b_.tape, hB9b_.output, hB9b_.size, hB9b_.block⟩; clear hB9b_; have p0_ := (hB9b.cell (World.block_lt_of_cell? _ _ (show _ from o0_))).trans o0_; have p1_ := (hB9b.cell (World.block_lt_of_cell? _ _ (show _ from o1_))).trans o1_; have p2_ := (hB9b.cell (World.block_lt_of_cell? _ _ (show _ from o2_))).trans o2_; have p3_ := (hB9b.cell (World.block_lt_of_cell? _ _ (show _ from o3_))).trans o3_; have p4_ := (hB9b.cell (World.block_lt_of_cell? _ _ (show _ from o4_))).trans o4_; have B9 := Aside0.mk (below_then B13.out B13.out.size hB9b); clear hB9b))))
      go_wp2
      go_ret
      exact ⟨rfl, B9.out⟩
    · go_enter Try.func4, Try.ntmps4
      go_wp2_with (first | (go_at_call 14; refine (laminaref07_Valid.calls k _ _ l true _ (Kd.C_below HR.out (below_alloc (below_alloc (Below.refl _ _) _) _)) hc0 HV.out).mono ?_; rintro e w1 ⟨rfl, ⟨nd1, rfl⟩⟩) | (go_at_call 21; refine (laminalaw07_small.calls k _ _ l true _ (Kd.C_below HR.out (pw_below_drewN (below_alloc (below_alloc (Below.refl _ _) _) _) _)) hc0 HS1.out).mono ?_; rintro e w2 ⟨rfl, ⟨nd2, rfl⟩⟩) | (go_at_call 23; refine (rle_At.calls k _ _ l i x p _ (Kd.C_below HR.out (pw_below_drewN (below_alloc (below_alloc (Below.refl _ _) _) _) _)) hc0 HI.out).mono ?_; rintro e w3 ⟨rfl, hB3⟩; have hB3' : Below w.heap.size w w3 := below_then (pw_below_drewN (below_alloc (below_alloc (Below.refl _ _) _) _) _) (by simp; omega) hB3; have k6 := blk_below (blk_drewN ((blk_alloc (blk_new w (.cells #[.int .i64 op] 3 (0, 0))) (.cells #[.int .i64 n] 2 (0, 0)))) (nd1 + nd2)) hB3; have k7 := blk_below (blk_drewN ((blk_at0 (w.alloc (.cells #[.int .i64 op] 3 (0, 0))) (.cells #[.int .i64 n] 2 (0, 0)) (w.heap.size + 1) (by simp))) (nd1 + nd2)) hB3) | (go_at_call 24; refine (laminaref07_At.calls k _ _ l i x p w3 (Kd.C_below HR.out hB3') hc0 HJ.out).mono ?_; rintro e w4 ⟨rfl, ⟨nd3, rfl⟩⟩; have zb := blk_at0 (w3.drewN nd3) (.cells #[.int .i64 0] 3 (0, 0)) w3.heap.size rfl; have z0 : ((w3.drewN nd3).alloc (.cells #[.int .i64 0] 3 (0, 0))).cell? ⟨w3.heap.size, 0, none⟩ = some (.int .i64 0) := (by rw [blk_cell zb]; rfl); have z1 := blk_frozen zb 0; obtain ⟨W8, hW8⟩ : ∃ W8, W8 = ((w3.drewN nd3).alloc (.cells #[.int .i64 0] 3 (0, 0))).setCell ⟨w3.heap.size, 0, none⟩ (.int .i64 0) := ⟨_, rfl⟩; have K6 : Aside0 (W8.heap[w.heap.size]? = some (.cells #[.int .i64 op] 3 (0, 0))) := ⟨by rw [hW8]; exact blk_far (blk_alloc (blk_drewN k6 _) _) (by have := blk_lt k6; simp; omega) _⟩; have K7 : Aside0 (W8.heap[w.heap.size + 1]? = some (.cells #[.int .i64 n] 2 (0, 0))) := ⟨by rw [hW8]; exact blk_far (blk_alloc (blk_drewN k7 _) _) (by have := blk_lt k7; simp; omega) _⟩; have KC : Aside0 (W8.heap[w3.heap.size]? = some (.cells #[.int .i64 ((0 : Nat) : Int)] 3 (0, 0))) := ⟨by rw [hW8]; exact blk_put zb 0 _ rfl⟩; have B8 : Aside0 (Below w.heap.size w W8) := ⟨by rw [hW8]; exact (below_alloc (pw_below_drewN hB3' _) _).setCell (p := ⟨w3.heap.size, 0, none⟩) hB3'.size _⟩; have S8 : Aside0 (w3.heap.size < W8.heap.size ∧ w.heap.size ≤ W8.heap.size ∧ w.heap.size ≤ w3.heap.size) := ⟨⟨blk_lt KC.out, B8.out.size, hB3'.size⟩⟩; have HW8 := Aside0.mk hW8; clear zb hW8) | (go_at_call 25; rw [← HW8.out]; (refine (filter_calls _ _ l W8 hc0 (kfn op n) HCN.out htot _ _ _ (LK A0 l w W8 w3.heap.size) ?k1 ?k2 ?k3 ?k4 f HFF.out).mono ?_; (case k1 => exact fun j v W hj h hs => LK_keep HOP.out hll K6.out K7.out (by have := blk_lt k6; omega) (by have := blk_lt k7; omega) S8.out.1 S8.out.2.2 j v W hj h); (case k2 => exact fun j W W' h hs hb => LK_below S8.out.1 S8.out.2.1 j W W' h hs hb); (case k3 => exact fun j W h => LK_C HR.out j W h); (case k4 => exact ⟨KC.out, fun _ _ _ => rfl, Nat.le_refl _, B8.out⟩); rintro e w10 ⟨v1_, rfl, hR10, hL10⟩; obtain ⟨vA, vc, rfl⟩ := Kd.R_slice hR10; have HR10 := Aside0.mk hR10; have HL10 := Aside0.mk hL10; clear hR10 hL10)))
      obtain ⟨w11, hw11⟩ : ∃ w11, w11 = w10.alloc (.cells #[.int .i64 (tot l : Int), .slice vA (wof (tot l) f).length vc] 39 (0, 0)) := ⟨_, rfl⟩
      rw [← hw11]
      obtain ⟨q1, q2, q3, q4⟩ := HL10.out
      have b0 : w11.heap[w3.heap.size]? = some (.cells #[.int .i64 (l.length : Int)] 3 (0, 0)) := by rw [hw11]; exact blk_alloc q1 _
      have b1 : w11.heap[w10.heap.size]? = some (.cells #[.int .i64 (tot l : Int), .slice vA (wof (tot l) f).length vc] 39 (0, 0)) := by rw [hw11]; exact blk_new _ _
      have b3 : w11.heap[w.heap.size]? = some (.cells #[.int .i64 op] 3 (0, 0)) := by rw [hw11]; exact blk_alloc ((q2 _ (blk_lt K6.out) (by have := blk_lt k6; omega)).trans K6.out) _
      have b4 : w11.heap[w.heap.size + 1]? = some (.cells #[.int .i64 n] 2 (0, 0)) := by rw [hw11]; exact blk_alloc ((q2 _ (blk_lt K7.out) (by have := blk_lt k7; omega)).trans K7.out) _
      have R11 : Aside0 (Kd.R (Kd.int .u64) 78 w11 W8.heap.size (fun _ => True) (.slice vA (wof (tot l) f).length vc) (wof (tot l) f)) := ⟨by rw [hw11]; exact Kd.R_alloc HR10.out _⟩
      have B11 : Aside0 (Below w.heap.size w w11) := ⟨by rw [hw11]; exact below_alloc q4 _⟩
      have C11 : Aside0 (Kd.C k77 w11 A0 l.length l) := ⟨Kd.C_below HR.out B11.out⟩
      have m0 : w11.cell? ⟨w3.heap.size, 0, none⟩ = some (.int .i64 (l.length : Int)) := by rw [blk_cell b0]; rfl
      have m1 : w11.cell? ⟨w10.heap.size, 0, none⟩ = some (.int .i64 (tot l : Int)) := by rw [blk_cell b1]; rfl
      have m2 : w11.cell? ⟨w10.heap.size, 1, none⟩ = some (.slice vA (wof (tot l) f).length vc) := by rw [blk_cell b1]; rfl
      have m3 : w11.cell? ⟨w.heap.size, 0, none⟩ = some (.int .i64 op) := by rw [blk_cell b3]; rfl
      have m4 : w11.cell? ⟨w.heap.size + 1, 0, none⟩ = some (.int .i64 n) := by rw [blk_cell b4]; rfl
      clear hw11 q1 q2 q3 q4 b0 b1 b3 b4 z0 z1 k6 k7
      go_region_held3 (fun w' => w'.cell? ⟨w3.heap.size, 0, none⟩ = some (.int .i64 (l.length : Int)) ∧ w'.cell? ⟨w10.heap.size, 0, none⟩ = some (.int .i64 (tot l : Int)) ∧ w'.cell? ⟨w10.heap.size, 1, none⟩ = some (.slice vA (wof (tot l) f).length vc) ∧ w'.cell? ⟨w.heap.size, 0, none⟩ = some (.int .i64 op) ∧ w'.cell? ⟨w.heap.size + 1, 0, none⟩ = some (.int .i64 n)) (first | go_keep | exact ⟨by assumption, by assumption, by assumption, by assumption, by assumption⟩)
        ((first
          | (go_at_call 28; go_loud (refine (laminaref07_Matching.calls k _ _ l op n _ _ _ (by first | exact C11.out | exact Kd.C_drew C11.out | exact Kd.C_drewN C11.out _) hc0 HM.out).mono ?_; rintro e w12 ⟨v2_, rfl, hR12, hB12_⟩; have hB12 : Below w11.heap.size w11 w12 := ⟨hB12_.os, hB12_.tape, hB12_.output, hB12_.size, hB12_.block⟩; clear hB12_; obtain ⟨vB, vd, rfl⟩ := Kd.R_slice hR12; have n0 := (hB12.cell (World.block_lt_of_cell? _ _ (show _ from m0))).trans m0; have n1 := (hB12.cell (World.block_lt_of_cell? _ _ (show _ from m1))).trans m1; have n2 := (hB12.cell (World.block_lt_of_cell? _ _ (show _ from m2))).trans m2; have n3 := (hB12.cell (World.block_lt_of_cell? _ _ (show _ from m3))).trans m3; have n4 := (hB12.cell (World.block_lt_of_cell? _ _ (show _ from m4))).trans m4; have R12 := Aside0.mk hR12; have R12a := Aside0.mk (Kd.R_below R11.out hB12); have B12 := Aside0.mk (below_then B11.out B11.out.size hB12); clear hR12 hB12))
          | (go_at_call 27; go_loud (refine (laminalaw07_sameBits.calls k _ _ _ _ _ _ _ _ true _ (Kd.R_reads' R12a.out).2.2 (Kd.R_reads' R12a.out).2.1 (Kd.R_reads' R12.out).2.2 (Kd.R_reads' R12.out).2.1 HSB.out).mono ?_; rintro e w13 ⟨rfl, hB13_⟩; have hB13 : Below w12.heap.size w12 w13 := ⟨hB13_.os, hB13_.tape, hB13_.output, hB13_.size, hB13_.block⟩; clear hB13_; have o0_ := (hB13.cell (World.block_lt_of_cell? _ _ (show _ from n0))).trans n0; have o1_ := (hB13.cell (World.block_lt_of_cell? _ _ (show _ from n1))).trans n1; have o2_ := (hB13.cell (World.block_lt_of_cell? _ _ (show _ from n2))).trans n2; have o3_ := (hB13.cell (World.block_lt_of_cell? _ _ (show _ from n3))).trans n3; have o4_ := (hB13.cell (World.block_lt_of_cell? _ _ (show _ from n4))).trans n4; have B13 := Aside0.mk (below_then B12.out B12.out.size hB13); clear hB13))
          | (go_at_call 15; go_loud (refine (laminalaw07_awake.calls k true _ HAW.out).mono ?_; rintro e w9 ⟨rfl, hB9b_⟩; have hB9b : Below w13.heap.size w13 w9 := ⟨hB9b_.os, hB9b_.tape, hB9b_.output, hB9b_.size, hB9b_.block⟩; clear hB9b_; have p0_ := (hB9b.cell (World.block_lt_of_cell? _ _ (show _ from o0_))).trans o0_; have p1_ := (hB9b.cell (World.block_lt_of_cell? _ _ (show _ from o1_))).trans o1_; have p2_ := (hB9b.cell (World.block_lt_of_cell? _ _ (show _ from o2_))).trans o2_; have p3_ := (hB9b.cell (World.block_lt_of_cell? _ _ (show _ from o3_))).trans o3_; have p4_ := (hB9b.cell (World.block_lt_of_cell? _ _ (show _ from o4_))).trans o4_; have B9 := Aside0.mk (below_then B13.out B13.out.size hB9b); clear hB9b))))
      go_wp2
      go_ret
      exact ⟨rfl, B9.out⟩
  · have o1 : (op != 1) = true := by simp; omega
    have o3 : (op != 3) = true := by simp; omega
    have o5 : (op != 5) = true := by simp; omega
    go_enter Try.func4, Try.ntmps4
    go_wp2_with (first | (go_at_call 14; refine (laminaref07_Valid.calls k _ _ l true _ (Kd.C_below HR.out (below_alloc (below_alloc (Below.refl _ _) _) _)) hc0 HV.out).mono ?_; rintro e w1 ⟨rfl, ⟨nd1, rfl⟩⟩) | (go_at_call 21; refine (laminalaw07_small.calls k _ _ l true _ (Kd.C_below HR.out (pw_below_drewN (below_alloc (below_alloc (Below.refl _ _) _) _) _)) hc0 HS1.out).mono ?_; rintro e w2 ⟨rfl, ⟨nd2, rfl⟩⟩) | (go_at_call 15; refine (FIN.out _ (pw_below_drewN (below_alloc (below_alloc (Below.refl _ _) _) _) _)).mono ?_; rintro e w9 ⟨rfl, hB9⟩))
    go_ret
    exact ⟨rfl, hB9⟩

/-! ### the reference's bitset functions -/
theorem tdiv64 (i : Nat) (h : i < 9223372036854775808) : wrap64 (Int.tdiv (i : Int) 64) = ((i / 64 : Nat) : Int) := by
  rw [Int.tdiv_eq_ediv_of_nonneg (by omega), w64 _ (by omega) (by omega)]; omega
theorem tmod64 (i : Nat) : Int.tmod (i : Int) 64 = ((i % 64 : Nat) : Int) := by
  rw [Int.tmod_eq_emod_of_nonneg (by omega)]; omega
theorem utmod64 (i : Nat) : IntKind.u64.wrap (Int.tmod (i : Int) 64) = ((i % 64 : Nat) : Int) := by
  rw [tmod64]; exact wraps_u64 _ (by omega) (by omega)
theorem pow_cast0 (t : Nat) : ((2 ^ t : Nat) : Int) = 2 ^ t := by simp
theorem shl1 (r : Nat) (hr : r < 64) : shl .u64 1 (r : Int) = ((2 ^ r : Nat) : Int) := by
  have h := pow_lt64 r hr
  have h3 : ∀ p : Nat, p < 2 ^ 64 → IntKind.u64.wrap (p : Int) = (p : Int) := fun p hp => wraps_u64 _ (by omega) (by omega)
  unfold shl
  rw [show min ((r : Int).toNat) IntKind.u64.bits = r by simp [IntKind.bits]; omega, Int.one_mul, ← pow_cast0]
  exact h3 _ h
theorem bit_one (y : Int) (h0 : 0 ≤ y) (h1 : y < 18446744073709551616) (r : Nat) (hr : r < 64) : (Go.bits .and .u64 (shr .u64 y (r : Int)) 1 == 1) = y.toNat.testBit r := by
  obtain ⟨m, rfl⟩ := Int.eq_ofNat_of_zero_le h0
  unfold shr
  rw [show min ((r : Int).toNat) IntKind.u64.bits = r by simp [IntKind.bits]; omega, ← pow_cast0, ← Int.natCast_ediv, Int.toNat_natCast, Nat.testBit_eq_decide_div_mod_eq]
  have hqm := Nat.div_le_self m (2 ^ r)
  generalize m / 2 ^ r = q at hqm ⊢
  rw [and_one _ (by omega) (by omega)]
  by_cases hq : q % 2 = 1
  · rw [decide_eq_true hq]; simp; omega
  · rw [decide_eq_false hq]; simp; omega
theorem or_shl (ws : List Int) (hw : wok ws) (i : Nat) : Go.bits .or .u64 (ws.getD (i / 64) 0) (shl .u64 1 (((i % 64 : Nat)) : Int)) = (((ws.getD (i / 64) 0).toNat ||| 2 ^ (i % 64) : Nat) : Int) := by
  have h := wok_get hw (i / 64)
  rw [shl1 _ (Nat.mod_lt _ (by decide))]
  obtain ⟨m, hm⟩ := Int.eq_ofNat_of_zero_le h.1
  rw [hm] at h ⊢
  rw [Int.toNat_natCast]
  exact or_nat m _ (by omega) (pow_lt64 _ (Nat.mod_lt _ (by decide)))
theorem r03new (n : Nat) (hn : n ≤ 1048576) : laminaref03_New.f (n : Int) = some ((n : Int), List.replicate (wc n) 0) := by
  unfold laminaref03_New.f
  rw [if_neg (by omega), if_neg (by omega)]
  have e : wrap64 (Int.tdiv (wrap64 ((n : Int) + 63)) 64) = ((wc n : Nat) : Int) := by
    rw [w64 ((n : Int) + 63) (by omega) (by omega), show (n : Int) + 63 = ((n + 63 : Nat) : Int) by omega, tdiv64 _ (by omega)]; rfl
  rw [e, if_pos (by omega), if_pos (by unfold wc; omega), Int.toNat_natCast]
theorem r03con (n i : Nat) (ws : List Int) (hl : ws.length = wc n) (hw : wok ws) (hn : n < 9223372036854775808) : laminaref03_Contains.f (n : Int) ws (i : Int) = some (decide (i < n) && gb ws i) := by
  unfold laminaref03_Contains.f
  rw [if_pos (by omega)]
  by_cases h : i < n
  · have hq : i / 64 < ws.length := by rw [hl]; unfold wc; omega
    rw [if_pos (by omega), tdiv64 i (by omega), utmod64, if_pos (by omega), if_pos (by omega), if_pos (by omega), rd_nat]
    have h2 := wok_get hw (i / 64)
    rw [bit_one _ h2.1 h2.2 _ (Nat.mod_lt _ (by decide)), decide_eq_true h]
    simp [gb]
  · rw [if_neg (by omega), decide_eq_false h]; rfl
theorem r03con_neg (n : Int) (i : Int) (ws : List Int) (hi : i < 0) : laminaref03_Contains.f n ws i = some false := by
  unfold laminaref03_Contains.f
  rw [if_neg (by omega)]
theorem range_map_set (n i : Nat) (f : Nat → Bool) (l : List Bool) (hl : l.length = n) (h : ∀ j, j < i → l.getD j false = f j) (hi : i < n) : ∀ j, j < i + 1 → (l.set i (f i)).getD j false = f j := by
  intro j hj
  by_cases e : j = i
  · subst e; simp [List.getD_eq_getElem?_getD, List.getElem?_set_self (show j < l.length by omega)]
  · rw [List.getD_eq_getElem?_getD, List.getElem?_set_ne (by omega), ← List.getD_eq_getElem?_getD]; exact h j (by omega)
theorem list_of_getD (n : Nat) (f : Nat → Bool) (l : List Bool) (hl : l.length = n) (h : ∀ j, j < n → l.getD j false = f j) : l = (List.range n).map f := by
  apply List.ext_getElem
  · simp [hl]
  · intro j h1 h2
    have := h j (by omega)
    rw [List.getD_eq_getElem?_getD, List.getElem?_eq_getElem h1] at this
    simpa using this
theorem r03bits_l0 (n : Nat) (ws : List Int) (hl : ws.length = wc n) (hw : wok ws) (hn : n ≤ 1048576) : ∀ (d i : Nat) (l : List Bool), i + d = n → l.length = n → (∀ j, j < i → l.getD j false = gb ws j) →
    Ev (fun k => laminaref03_bits.l0 k l (i : Int) (n : Int) ws) ((List.range n).map (gb ws)) := by
  intro d
  induction d with
  | zero =>
    intro i l hi hll h
    refine Ev.succ ?_
    simp only [laminaref03_bits.l0]
    refine Ev.neg (by omega) ?_
    exact Ev.eq (Ev.now _) (list_of_getD n _ l hll (fun j hj => h j (by omega)))
  | succ d ih =>
    intro i l hi hll h
    refine Ev.succ ?_
    simp only [laminaref03_bits.l0, w64_add1 i (by omega)]
    refine Ev.pos (by omega) ?_
    refine Ev.bind0 (r03con n i ws hl hw (by omega)) ?_
    refine Ev.pos (by omega) ?_
    refine Ev.pos (by omega) ?_
    rw [decide_eq_true (show i < n by omega), Bool.true_and, Int.toNat_natCast]
    exact ih (i + 1) _ (by omega) (by simp [hll]) (range_map_set n i (gb ws) l hll h (by omega))
theorem r03bits (n : Nat) (ws : List Int) (hl : ws.length = wc n) (hw : wok ws) (hn : n ≤ 1048576) : Ev (fun k => laminaref03_bits.f k (n : Int) ws) ((List.range n).map (gb ws)) := by
  unfold laminaref03_bits.f
  refine Ev.pos (by omega) ?_
  refine Ev.pos (by omega) ?_
  rw [Int.toNat_natCast]
  exact r03bits_l0 n ws hl hw hn n 0 _ (by omega) (by simp) (fun j hj => by omega)
theorem r03build_l0 (bs : List Bool) (f : Nat → Bool) (hf : ∀ i, i < bs.length → bs.getD i false = f i) (hn : bs.length ≤ 1048576) : ∀ (d i : Nat), i + d = bs.length →
    Ev (fun k => laminaref03_build.l0 k bs (i : Int) (bs.length : Int) (wofN (wc bs.length) f i)) ((bs.length : Int), wof bs.length f) := by
  intro d
  induction d with
  | zero =>
    intro i hi
    refine Ev.succ ?_
    simp only [laminaref03_build.l0]
    refine Ev.neg (by omega) ?_
    refine Ev.eq (Ev.now _) ?_
    rw [show i = bs.length by omega]; rfl
  | succ d ih =>
    intro i hi
    have ih2 := ih (i + 1) (by omega)
    have hq : i / 64 < (wofN (wc bs.length) f i).length := by rw [wofN_length]; unfold wc; omega
    have hrd : rdOf false bs (i : Int) = f i := by rw [← hf i (by omega)]; simp [rdOf]
    refine Ev.succ ?_
    simp only [laminaref03_build.l0, w64_add1 i (by omega), tdiv64 i (by omega), utmod64, hrd]
    refine Ev.pos (by omega) ?_
    refine Ev.pos (by omega) ?_
    simp only [wofN] at ih2
    by_cases h : f i = true
    · rw [if_pos h] at ih2
      refine Ev.pos h ?_
      refine Ev.pos (by omega) ?_
      refine Ev.pos (by omega) ?_
      refine Ev.pos (by omega) ?_
      rw [Int.toNat_natCast, rd_nat, or_shl _ (wofN_wok _ _ _)]
      exact ih2
    · rw [if_neg h] at ih2
      refine Ev.neg h ?_
      exact ih2
theorem r03build (bs : List Bool) (f : Nat → Bool) (hf : ∀ i, i < bs.length → bs.getD i false = f i) (hn : bs.length ≤ 1048576) : Ev (fun k => laminaref03_build.f k bs) ((bs.length : Int), wof bs.length f) := by
  unfold laminaref03_build.f
  refine Ev.bind0 (r03new _ hn) ?_
  exact r03build_l0 bs f hf hn bs.length 0 (by omega)
/-- Set. -/
theorem r03set (n : Nat) (ws : List Int) (hl : ws.length = wc n) (hw : wok ws) (hn : n ≤ 1048576) (i : Nat) (hi : i < n) (on : Bool) : Ev (fun k => laminaref03_Set.f k (n : Int) ws (i : Int) on) ((n : Int), wof n (fun j => if j = i then on else gb ws j)) := by
  unfold laminaref03_Set.f
  refine Ev.bind (r03bits n ws hl hw hn) ?_
  refine Ev.pos (by omega) ?_
  refine Ev.pos (by rw [List.length_map, List.length_range]; omega) ?_
  refine Ev.pos (by omega) ?_
  rw [Int.toNat_natCast]
  have hb := r03build (((List.range n).map (gb ws)).set i on) (fun j => if j = i then on else gb ws j) (by
    intro j hj
    simp only [List.length_set, List.length_map, List.length_range] at hj
    by_cases e : j = i
    · subst e; rw [if_pos rfl]; simp [List.getD_eq_getElem?_getD, hi]
    · rw [if_neg e, List.getD_eq_getElem?_getD, List.getElem?_set_ne (by omega)]; simp [hj]) (by simp; omega)
  have hlen : (((List.range n).map (gb ws)).set i on).length = n := by simp
  rw [hlen] at hb
  refine Ev.bind hb ?_
  exact Ev.now _

/-! ### one element -/
def atR : List Run → Int → Int × Bool
  | [], _ => (0, false)
  | x :: r, i => if i < x.f1 then (x.f0, true) else atR r (i - x.f1)
theorem atR_get : ∀ (l : List Run) (i : Nat), (∀ x ∈ l, 0 ≤ x.f1) → atR l (i : Int) = if i < (rexp l).length then ((rexp l).getD i 0, true) else (0, false) := by
  intro l
  induction l with
  | nil => intro i _; simp [atR, rexp]
  | cons x r ih =>
    intro i h
    have hx := h x List.mem_cons_self
    obtain ⟨c, hc⟩ := Int.eq_ofNat_of_zero_le hx
    simp only [atR, rexp, List.length_append, List.length_replicate, hc, Int.toNat_natCast]
    by_cases hi : i < c
    · rw [if_pos (by omega), if_pos (by omega), List.getD_eq_getElem?_getD, List.getElem?_append_left (by simpa using hi)]
      simp [hi]
    · rw [if_neg (by omega), show (i : Int) - c = ((i - c : Nat) : Int) by omega, ih (i - c) (fun y hy => h y (List.mem_cons_of_mem _ hy))]
      by_cases h2 : i - c < (rexp r).length
      · rw [if_pos h2, if_pos (by omega), List.getD_eq_getElem?_getD, List.getD_eq_getElem?_getD, List.getElem?_append_right (by simp; omega), List.length_replicate]
      · rw [if_neg h2, if_neg (by omega)]
theorem iat_l0 (l : List Run) (hl : l.length < 9223372036854775808) : ∀ (r : List Run) (n : Nat) (i : Int), l.drop n = r → (∀ x ∈ r, 0 ≤ x.f1) → 0 ≤ i → i < 9223372036854775808 →
    Ev (fun k => rle_At.l0 k i l (l.length : Int) n) (atR r i) := by
  intro r
  induction r with
  | nil =>
    intro n i h _ _ _
    have := drop_ge h
    refine Ev.succ ?_
    simp only [rle_At.l0]
    refine Ev.neg (by omega) ?_
    exact Ev.now _
  | cons x r ih =>
    intro n i h hr h0 h1
    have hlt := drop_lt h
    have hx := hr x List.mem_cons_self
    refine Ev.succ ?_
    simp only [rle_At.l0, rdT_drop h, w64_add1 n (by omega), atR]
    refine Ev.pos (by omega) ?_
    refine Ev.pos (by omega) ?_
    refine Ev.pos (by omega) ?_
    by_cases c : i < x.f1
    · refine Ev.pos c ?_
      exact Ev.eq (Ev.now _) (by rw [if_pos c])
    · refine Ev.neg c ?_
      rw [if_neg c, w64 (i - x.f1) (by omega) (by omega)]
      exact ih (n + 1) _ (drop_next h) (fun y hy => hr y (List.mem_cons_of_mem _ hy)) (by omega) (by omega)
theorem rat_l0 (l : List Run) (hl : l.length < 9223372036854775808) : ∀ (r : List Run) (n : Nat) (i : Int), l.drop n = r → (∀ x ∈ r, 0 ≤ x.f1) → 0 ≤ i → i < 9223372036854775808 →
    Ev (fun k => laminaref07_At.l0 k l i n) (atR r i) := by
  intro r
  induction r with
  | nil =>
    intro n i h _ _ _
    have := drop_ge h
    refine Ev.succ ?_
    simp only [laminaref07_At.l0]
    refine Ev.neg (by omega) ?_
    exact Ev.now _
  | cons x r ih =>
    intro n i h hr h0 h1
    have hlt := drop_lt h
    have hx := hr x List.mem_cons_self
    refine Ev.succ ?_
    simp only [laminaref07_At.l0, rdT_drop h, w64_add1 n (by omega), atR]
    refine Ev.pos (by omega) ?_
    refine Ev.pos (by omega) ?_
    by_cases c : i < x.f1
    · refine Ev.pos c ?_
      exact Ev.eq (Ev.now _) (by rw [if_pos c])
    · refine Ev.neg c ?_
      rw [if_neg c, w64 (i - x.f1) (by omega) (by omega)]
      exact ih (n + 1) _ (drop_next h) (fun y hy => hr y (List.mem_cons_of_mem _ hy)) (by omega) (by omega)
def atI (l : List Run) (i : Int) : Int × Bool := if i < 0 then (0, false) else atR l i
theorem iat_ev (l : List Run) (hl : l.length < 9223372036854775808) (hr : ∀ x ∈ l, 0 ≤ x.f1) (i : Int) (hi : i < 9223372036854775808) : Ev (fun k => rle_At.f k l i) (atI l i) := by
  unfold rle_At.f atI
  by_cases h : i < 0
  · refine Ev.pos h ?_
    exact Ev.eq (Ev.now _) (by rw [if_pos h])
  · refine Ev.neg h ?_
    rw [if_neg h]
    exact iat_l0 l hl l 0 i rfl hr (by omega) hi
theorem rat_ev (l : List Run) (hl : l.length < 9223372036854775808) (hr : ∀ x ∈ l, 0 ≤ x.f1) (i : Int) (hi : i < 9223372036854775808) : Ev (fun k => laminaref07_At.f k l i) (atI l i) := by
  unfold laminaref07_At.f atI
  by_cases h : i < 0
  · refine Ev.pos h ?_
    exact Ev.eq (Ev.now _) (by rw [if_pos h])
  · refine Ev.neg h ?_
    rw [if_neg h]
    exact rat_l0 l hl l 0 i rfl hr (by omega) hi
/-- The elements of run number i. -/
theorem rexp_run : ∀ (l : List Run) (i j : Nat), i < l.length → tot (l.take i) ≤ j → j < tot (l.take (i + 1)) → (rexp l).getD j 0 = (l.getD i z77).f0 := by
  intro l
  induction l with
  | nil => intro i j h; simp at h
  | cons x r ih =>
    intro i j h h1 h2
    simp only [rexp]
    cases i with
    | zero =>
      simp only [Nat.zero_add, List.take_succ_cons, List.take_zero, tot, List.map_cons, List.map_nil, List.sum_cons, List.sum_nil, Nat.add_zero] at h2
      rw [List.getD_eq_getElem?_getD, List.getElem?_append_left (by simpa using h2)]
      simp [h2]
    | succ i =>
      simp only [List.take_succ_cons, tot, List.map_cons, List.sum_cons] at h1 h2
      have := ih i (j - x.f1.toNat) (by simpa using h) (by unfold tot; omega) (by unfold tot; omega)
      rw [List.getD_cons_succ, ← this, List.getD_eq_getElem?_getD, List.getD_eq_getElem?_getD, List.getElem?_append_right (by simp; omega), List.length_replicate]
theorem rexp_tot (l : List Run) : (rexp l).length = tot l := by
  induction l with
  | nil => rfl
  | cons x r ih => simp only [rexp, List.length_append, List.length_replicate, ih, tot, List.map_cons, List.sum_cons]

theorem awake_ev : Ev (fun k => laminalaw07_awake.f k) true := Ev.of laminalaw07_awake.mono (k := 40) (by decide +kernel)
theorem same_l0 (N : Int) (ws : List Int) (hl : ws.length < 1000000) : ∀ (d i : Nat), i + d = ws.length → Ev (fun k => laminalaw07_sameBits.l0 k (i : Int) N ws N ws) true := by
  intro d
  induction d with
  | zero =>
    intro i hi
    refine Ev.succ ?_
    simp only [laminalaw07_sameBits.l0]
    refine Ev.neg (by omega) ?_
    exact Ev.now _
  | succ d ih =>
    intro i hi
    refine Ev.succ ?_
    simp only [laminalaw07_sameBits.l0, w64_add1 i (by omega)]
    refine Ev.pos (by omega) ?_
    refine Ev.pos (by omega) ?_
    refine Ev.pos (by omega) ?_
    refine Ev.pos trivial ?_
    exact ih (i + 1) (by omega)
theorem same_ev (N : Int) (ws : List Int) (hl : ws.length < 1000000) : Ev (fun k => laminalaw07_sameBits.f k N ws N ws) true := by
  unfold laminalaw07_sameBits.f
  refine Ev.pos (show N = N from rfl) ?_
  rw [show ((ws.length : Int) != (ws.length : Int)) = false by simp]
  refine Ev.succ ?_
  simp only [laminalaw07_sameBits.j0]
  refine Ev.neg (by decide) ?_
  exact same_l0 N ws hl ws.length 0 (by omega)
theorem mat_l0 (op n : Int) (hop : op = 1 ∨ op = 3 ∨ op = 5) (vs : List Int) (hl : vs.length ≤ 100000) : ∀ (d i : Nat), i + d = vs.length →
    Ev (fun k => laminaref07_Matching.l0 k op n vs (i : Int) (vs.length : Int) (wof vs.length (fun j => decide (j < i) && kfn op n (vs.getD j 0)))) ((vs.length : Int), wof vs.length (fun j => kfn op n (vs.getD j 0))) := by
  intro d
  induction d with
  | zero =>
    intro i hi
    refine Ev.succ ?_
    simp only [laminaref07_Matching.l0]
    refine Ev.neg (by omega) ?_
    refine Ev.eq (Ev.now _) ?_
    congr 1
    exact wof_congr (fun j hj => by rw [decide_eq_true (show j < i by omega), Bool.true_and])
  | succ d ih =>
    intro i hi
    have ih2 := ih (i + 1) (by omega)
    have hs := r03set vs.length (wof vs.length (fun j => decide (j < i) && kfn op n (vs.getD j 0))) (wof_length _ _) (wof_wok _ _) (by omega) i (by omega) true
    have e1 : kfn op n (vs.getD i 0) = true → wof vs.length (fun j => if j = i then true else gb (wof vs.length (fun j => decide (j < i) && kfn op n (vs.getD j 0))) j) = wof vs.length (fun j => decide (j < i + 1) && kfn op n (vs.getD j 0)) := by
      intro h
      refine wof_congr (fun j hj => ?_)
      by_cases e : j = i
      · subst e; rw [if_pos rfl, decide_eq_true (show j < j + 1 by omega), Bool.true_and]; exact h.symm
      · rw [if_neg e, gb_wof, decide_eq_true hj, Bool.true_and]
        congr 1
        simp only [decide_eq_decide]; omega
    have e0 : kfn op n (vs.getD i 0) = false → wof vs.length (fun j => decide (j < i) && kfn op n (vs.getD j 0)) = wof vs.length (fun j => decide (j < i + 1) && kfn op n (vs.getD j 0)) := by
      intro h
      refine wof_congr (fun j hj => ?_)
      by_cases e : j = i
      · subst e; simp only [Nat.lt_irrefl, decide_false, Bool.false_and, h, Bool.and_false]
      · congr 1
        simp only [decide_eq_decide]; omega
    have yes : kfn op n (vs.getD i 0) = true → Ev (fun k => (laminaref03_Set.f k (vs.length : Int) (wof vs.length (fun j => decide (j < i) && kfn op n (vs.getD j 0))) (i : Int) true).bind fun b => laminaref07_Matching.l0 k op n vs ((i + 1 : Nat) : Int) b.1 b.2) ((vs.length : Int), wof vs.length (fun j => kfn op n (vs.getD j 0))) := by
      intro h
      refine Ev.bind hs ?_
      rw [e1 h]
      exact ih2
    have no : kfn op n (vs.getD i 0) = false → Ev (fun k => laminaref07_Matching.l0 k op n vs ((i + 1 : Nat) : Int) (vs.length : Int) (wof vs.length (fun j => decide (j < i) && kfn op n (vs.getD j 0)))) ((vs.length : Int), wof vs.length (fun j => kfn op n (vs.getD j 0))) := by
      intro h
      rw [e0 h]
      exact ih2
    refine Ev.succ ?_
    simp only [laminaref07_Matching.l0, w64_add1 i (by omega), rd_nat]
    refine Ev.pos (by omega) ?_
    rcases hop with rfl | rfl | rfl
    · refine Ev.pos rfl ?_
      refine Ev.pos (by omega) ?_
      by_cases c : vs.getD i 0 = n
      · refine Ev.pos c ?_
        exact yes (by unfold kfn; exact decide_eq_true (.inl ⟨rfl, c⟩))
      · refine Ev.neg c ?_
        refine Ev.neg (by decide) ?_
        refine Ev.neg (by decide) ?_
        exact no (by unfold kfn; exact decide_eq_false (by omega))
    · refine Ev.neg (by decide) ?_
      refine Ev.pos rfl ?_
      refine Ev.pos (by omega) ?_
      by_cases c : vs.getD i 0 < n
      · refine Ev.pos c ?_
        exact yes (by unfold kfn; exact decide_eq_true (.inr (.inl ⟨rfl, c⟩)))
      · refine Ev.neg c ?_
        refine Ev.neg (by decide) ?_
        exact no (by unfold kfn; exact decide_eq_false (by omega))
    · refine Ev.neg (by decide) ?_
      refine Ev.neg (by decide) ?_
      refine Ev.pos rfl ?_
      refine Ev.pos (by omega) ?_
      by_cases c : vs.getD i 0 > n
      · refine Ev.pos c ?_
        exact yes (by unfold kfn; exact decide_eq_true (.inr (.inr ⟨rfl, c⟩)))
      · refine Ev.neg c ?_
        exact no (by unfold kfn; exact decide_eq_false (by omega))
theorem RleAccess (l : List Run) (i op n : Int) (hl : l.length ≤ maxLen) (hw : ∀ y ∈ l, -9223372036854775808 ≤ y.f1 ∧ y.f1 ≤ 9223372036854775807) (hi : i < 9223372036854775808) :
    ∃ (k : Nat) (vb sb : Bool) (x : Int) (p : Bool) (f : Nat → Bool), laminalaw07_awake.f k = some true ∧ laminaref07_Valid.f k l = some vb ∧ (vb = true → laminalaw07_small.f k l = some sb) ∧
      (vb = true → sb = true → (op = 1 ∨ op = 3 ∨ op = 5) → rle_At.f k l i = some (x, p) ∧ laminaref07_At.f k l i = some (x, p) ∧ laminaref07_Matching.f k l op n = some ((tot l : Int), wof (tot l) f) ∧ laminalaw07_sameBits.f k (tot l : Int) (wof (tot l) f) (tot l : Int) (wof (tot l) f) = some true ∧
      (∀ x ∈ l, 0 ≤ x.f1) ∧ tot l ≤ 100000 ∧ l.length ≤ 100000 ∧ ∀ i, i < l.length → ∀ j, tot (l.take i) ≤ j → j < tot (l.take (i + 1)) → f j = kfn op n (l.getD i z77).f0) := by
  have hmm : maxLen = 9223372036854775807 := rfl
  have hl2 : l.length < 9223372036854775808 := by omega
  obtain ⟨sb, hsb⟩ := small_l0 l hl2 hw l 0 5000 rfl (by omega) (by omega)
  have hv := rval_ev l hl2 hw
  by_cases h : rvl none 65536 l = true ∧ (op = 1 ∨ op = 3 ∨ op = 5)
  · obtain ⟨hvt, hop⟩ := h
    obtain ⟨hx1, hx2⟩ := rvl_tot l none 65536 (by omega) hvt
    have hpos : ∀ x ∈ l, 0 ≤ x.f1 := fun x hx => by have := hx1 x hx; omega
    have hlen := rexp_len l hpos
    have ht : tot l ≤ 65536 := by rw [← rexp_tot]; omega
    have hll : l.length ≤ 65536 := by
      have h5 : ∀ r : List Run, (∀ x ∈ r, 1 ≤ x.f1) → (r.length : Int) ≤ (r.map (·.f1)).sum := by
        intro r
        induction r with
        | nil => intro _; simp
        | cons y r ih =>
          intro hr
          have h6 := hr y List.mem_cons_self
          have h7 := ih (fun x hx => hr x (List.mem_cons_of_mem _ hx))
          simp only [List.map_cons, List.sum_cons, List.length_cons]
          omega
      have := h5 l hx1
      omega
    have he := rexp_ev l hl2 hw
    rw [if_pos hvt] at he
    have hm : Ev (fun k => laminaref07_Matching.f k l op n) ((tot l : Int), wof (tot l) (fun j => kfn op n ((rexp l).getD j 0))) := by
      unfold laminaref07_Matching.f
      refine Ev.bind he ?_
      refine Ev.bind0 (r03new (rexp l).length (by rw [rexp_tot]; omega)) ?_
      have h8 := mat_l0 op n hop (rexp l) (by rw [rexp_tot]; omega) (rexp l).length 0 (by omega)
      rw [show wof (rexp l).length (fun j => decide (j < 0) && kfn op n ((rexp l).getD j 0)) = List.replicate (wc (rexp l).length) 0 from ?_] at h8
      · rw [← rexp_tot]; exact h8
      · symm
        refine wof_eq (by simp) (wok_zeros _) (fun i => ?_)
        rw [gb_zeros]; simp
    have hs := same_ev (tot l : Int) (wof (tot l) (fun j => kfn op n ((rexp l).getD j 0))) (by rw [wof_length]; unfold wc; omega)
    obtain ⟨k1, a1⟩ := awake_ev
    obtain ⟨k2, a2⟩ := hv
    obtain ⟨k3, a3⟩ := hsb
    obtain ⟨k4, a4⟩ := iat_ev l hl2 hpos i hi
    obtain ⟨k5, a5⟩ := rat_ev l hl2 hpos i hi
    obtain ⟨k6, a6⟩ := hm
    obtain ⟨k7, a7⟩ := hs
    refine ⟨k1 + k2 + k3 + k4 + k5 + k6 + k7, rvl none 65536 l, sb, (atI l i).1, (atI l i).2, _, a1 _ (by omega), a2 _ (by omega), fun _ => a3 _ (by omega), fun _ _ _ => ⟨a4 _ (by omega), a5 _ (by omega), a6 _ (by omega), a7 _ (by omega), hpos, by omega, by omega, fun i hi j h1 h2 => ?_⟩⟩
    rw [rexp_run l i j hi h1 h2]
  · obtain ⟨k1, a1⟩ := awake_ev
    obtain ⟨k2, a2⟩ := hv
    obtain ⟨k3, a3⟩ := hsb
    exact ⟨k1 + k2 + k3, rvl none 65536 l, sb, 0, false, fun _ => false, a1 _ (by omega), a2 _ (by omega), fun _ => a3 _ (by omega), fun h1 _ h3 => absurd ⟨h1, h3⟩ h⟩
theorem RleAccess_row (W : World) (A0 : Option Addr) (c0 : Nat) (l : List Run) (i op n : Int) (hr0 : Kd.C k77 W A0 l.length l) (hc0 : l.length ≤ c0) (ho : l.length ≤ maxLen ∧ ∀ y0 ∈ l, ok77 y0) (w1 : (Lit.int .i64 i).wf = true) (w2 : (Lit.int .i64 op).wf = true) (w3 : (Lit.int .i64 n).wf = true) :
    Calls Try.prog 4 #[.slice A0 l.length c0, .int .i64 i, .int .i64 op, .int .i64 n] W fun e w' => e = .returned (.bool true) ∧ Below W.heap.size W w' := by
  have hi := wf_i64 w1
  obtain ⟨k, vb, sb, x, p, f, hA, hV, hS, hX⟩ := RleAccess l i op n ho.1 (fun y hy => by have := wf_i64 (ho.2 y hy).2; omega) (by omega)
  exact law_calls k A0 c0 l i op n vb sb x p f W hr0 hc0 hA hV hS hX

end Go.Proofs.Yteamkjphdiajeaa.Pure
