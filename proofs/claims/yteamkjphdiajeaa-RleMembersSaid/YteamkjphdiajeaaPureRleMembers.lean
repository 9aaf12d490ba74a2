/- laminalaw07.RleMembers returns true for all its arguments (an element is in the set that Filter returns if and only if keep accepts the value that At returns). Conditions: none beyond the row's own. -/
import Derived.Test.YteamkjphdiajeaaStRleMembers
import Derived.Test.YteamkjphdiajeaaM01
import Derived.Test.YteamkjphdiajeaaM02
import Derived.Test.YteamkjphdiajeaaM03
import Derived.Test.YteamkjphdiajeaaM08
set_option linter.unusedVariables false
set_option linter.unusedSimpArgs false
namespace Go.Proofs.Yteamkjphdiajeaa.Pure
open Go Go.RowKit Go.Proofs.Yteamkjphdiajeaa.QRleMembers Go.Proofs.YteamkjphdiajeaaW.PrintWords Go.Proofs.YteamkjphdiajeaaW.PrintLast Go.Proofs.YteamkjphdiajeaaM

/-! ### runs -/
abbrev Run := S77
theorem rdT (l : List Run) (n : Nat) : rd_T77 l (n : Int) = l.getD n z77 := by simp [rd_T77]
theorem rdT_drop {l r : List Run} {i : Nat} {x : Run} (h : l.drop i = x :: r) : rd_T77 l (i : Int) = x := by
  rw [rdT, List.getD_eq_getElem?_getD, ← List.head?_drop, h]; rfl
theorem drop_lt {α : Type} {l r : List α} {i : Nat} {x : α} (h : l.drop i = x :: r) : i < l.length := by
  rcases Nat.lt_or_ge i l.length with h1 | h1
  · exact h1
  · rw [List.drop_of_length_le h1] at h; cases h
theorem drop_ge {α : Type} {l : List α} {i : Nat} (h : l.drop i = []) : l.length ≤ i := by
  rwa [List.drop_eq_nil_iff] at h
theorem drop_next {α : Type} {l r : List α} {i : Nat} {x : α} (h : l.drop i = x :: r) : l.drop (i + 1) = r := by
  rw [← List.drop_drop, h]; rfl
theorem drop_mem {α : Type} {l r : List α} {i : Nat} {x : α} (h : l.drop i = x :: r) : x ∈ l := List.mem_of_mem_drop (h ▸ List.mem_cons_self)
def prv (l : List Run) (i : Nat) : Option Int := if i = 0 then none else some (rd_T77 l ((i - 1 : Nat) : Int)).f0
def rvl : Option Int → Int → List Run → Bool
  | _, _, [] => true
  | p, left, x :: r => if 1 ≤ x.f1 ∧ x.f1 ≤ left ∧ p ≠ some x.f0 then rvl (some x.f0) (left - x.f1) r else false
theorem prv_next {l r : List Run} {i : Nat} {x : Run} (h : l.drop i = x :: r) : prv l (i + 1) = some x.f0 := by
  unfold prv
  rw [if_neg (by omega), show i + 1 - 1 = i by omega, rdT_drop h]
theorem val_l0 (l : List Run) (hl : l.length < 9223372036854775808) (hw : ∀ y ∈ l, -9223372036854775808 ≤ y.f1 ∧ y.f1 ≤ 9223372036854775807) : ∀ (r : List Run) (i : Nat) (tot : Int), l.drop i = r → 0 ≤ tot → tot ≤ 65536 →
    Ev (fun k => rle_Valid.l0 k l tot l (l.length : Int) i) (rvl (prv l i) (65536 - tot) r) := by
  intro r
  induction r with
  | nil =>
    intro i tot h h0 h1
    have := drop_ge h
    refine Ev.succ ?_
    simp only [rle_Valid.l0]
    refine Ev.neg (by omega) ?_
    exact Ev.now _
  | cons x r ih =>
    intro i tot h h0 h1
    have hlt := drop_lt h
    have hx := hw x (drop_mem h)
    have hi1 : 0 < i → wrap64 ((i : Int) - 1) = ((i - 1 : Nat) : Int) := fun hp => by rw [w64 _ (by omega) (by omega)]; omega
    refine Ev.succ ?_
    simp only [rle_Valid.l0, rdT_drop h, w64_add1 i (by omega), w64 (65536 - tot) (by omega) (by omega)]
    refine Ev.pos (by omega) ?_
    refine Ev.pos (by omega) ?_
    refine Ev.pos (by omega) ?_
    unfold rvl
    by_cases c1 : x.f1 < 1
    · refine Ev.pos c1 ?_
      exact Ev.eq (Ev.now _) (by rw [if_neg (by omega)])
    refine Ev.neg c1 ?_
    by_cases c2 : x.f1 > 65536 - tot
    · refine Ev.pos c2 ?_
      exact Ev.eq (Ev.now _) (by rw [if_neg (by omega)])
    refine Ev.neg c2 ?_
    have hnext : Ev (fun k => rle_Valid.l0 k l (wrap64 (tot + x.f1)) l (l.length : Int) ((i + 1 : Nat) : Int)) (rvl (some x.f0) (65536 - tot - x.f1) r) := by
      rw [w64 _ (by omega) (by omega)]
      have := ih (i + 1) (tot + x.f1) (drop_next h) (by omega) (by omega)
      rw [prv_next h, show 65536 - (tot + x.f1) = 65536 - tot - x.f1 by omega] at this
      exact this
    by_cases c3 : (i : Int) > 0
    · refine Ev.pos c3 ?_
      simp only [hi1 (by omega)]
      refine Ev.pos (by omega) ?_
      refine Ev.pos (by omega) ?_
      by_cases c4 : x.f0 = (rd_T77 l ((i - 1 : Nat) : Int)).f0
      · refine Ev.pos c4 ?_
        refine Ev.eq (Ev.now _) ?_
        rw [if_neg]
        rintro ⟨_, _, h3⟩
        exact h3 (by unfold prv; rw [if_neg (by omega), c4])
      · refine Ev.neg c4 ?_
        refine Ev.eq hnext ?_
        rw [if_pos]
        refine ⟨by omega, by omega, ?_⟩
        unfold prv
        rw [if_neg (by omega)]
        intro he
        injection he with he
        exact c4 he.symm
    · refine Ev.neg c3 ?_
      refine Ev.eq hnext ?_
      rw [if_pos]
      refine ⟨by omega, by omega, ?_⟩
      unfold prv
      rw [if_pos (by omega)]
      intro he; cases he
theorem val_ev (l : List Run) (hl : l.length < 9223372036854775808) (hw : ∀ y ∈ l, -9223372036854775808 ≤ y.f1 ∧ y.f1 ≤ 9223372036854775807) : Ev (fun k => rle_Valid.f k l) (rvl none 65536 l) := by
  have := val_l0 l hl hw l 0 0 rfl (by omega) (by omega)
  unfold rle_Valid.f
  simpa [prv] using this
theorem rvl_tot : ∀ (l : List Run) (p : Option Int) (left : Int), 0 ≤ left → rvl p left l = true → (∀ x ∈ l, 1 ≤ x.f1) ∧ (l.map (·.f1)).sum ≤ left := by
  intro l
  induction l with
  | nil => intro p left h0 _; exact ⟨fun x hx => by (cases hx), by simpa using h0⟩
  | cons x r ih =>
    intro p left h0 h
    unfold rvl at h
    split at h
    · rename_i hc
      obtain ⟨h1, h2⟩ := ih _ _ (by omega) h
      refine ⟨fun y hy => ?_, ?_⟩
      · rcases List.mem_cons.1 hy with rfl | hy
        · exact hc.1
        · exact h1 y hy
      · simp only [List.map_cons, List.sum_cons]; omega
    · cases h
theorem rvl_le : ∀ (l : List Run) (p : Option Int) (left : Int), 0 ≤ left → rvl p left l = true → ∀ x ∈ l, x.f1 ≤ left := by
  intro l
  induction l with
  | nil => intro p left h0 _ x hx; cases hx
  | cons x r ih =>
    intro p left h0 h y hy
    unfold rvl at h
    split at h
    · rename_i hc
      rcases List.mem_cons.1 hy with rfl | hy
      · exact hc.2.1
      · have := ih _ _ (by omega) h y hy
        omega
    · cases h
def rexp : List Run → List Int
  | [] => []
  | x :: r => List.replicate x.f1.toNat x.f0 ++ rexp r
theorem rexp_append (a b : List Run) : rexp (a ++ b) = rexp a ++ rexp b := by
  induction a with
  | nil => rfl
  | cons x a ih => simp [rexp, ih]
theorem rexp_len : ∀ (l : List Run), (∀ x ∈ l, 0 ≤ x.f1) → ((rexp l).length : Int) = (l.map (·.f1)).sum := by
  intro l
  induction l with
  | nil => intro _; rfl
  | cons x r ih =>
    intro h
    have := ih (fun y hy => h y (List.mem_cons_of_mem _ hy))
    have := h x List.mem_cons_self
    simp only [rexp, List.length_append, List.length_replicate, List.map_cons, List.sum_cons]
    omega
theorem exp_l1 (l : List Run) (n i c v cc : Int) (hc : c ≤ 65536) (R : List Int × Int) : ∀ (d j : Nat) (acc : List Int), (j : Int) + d = c → acc.length + d < 1000000 →
    Ev (fun k => rle_Expand.l0 k (acc ++ List.replicate d v) l n (wrap64 (i + 1))) R → Ev (fun k => rle_Expand.l1 k acc l n i c j v cc) R := by
  intro d
  induction d with
  | zero =>
    intro j acc hj ha h
    refine Ev.succ ?_
    simp only [rle_Expand.l1]
    refine Ev.neg (by omega) ?_
    simpa using h
  | succ d ih =>
    intro j acc hj ha h
    refine Ev.succ ?_
    simp only [rle_Expand.l1, w64_add1 j (by omega)]
    refine Ev.pos (by omega) ?_
    refine Ev.pos (by omega) ?_
    refine ih (j + 1) (acc ++ [v]) (by omega) (by simp; omega) ?_
    rw [List.append_assoc, show [v] ++ List.replicate d v = List.replicate (d + 1) v from (List.replicate_succ ..).symm]
    exact h
theorem exp_l0 (l : List Run) (hl : l.length < 9223372036854775808) : ∀ (r : List Run) (i : Nat) (acc : List Int), l.drop i = r → (∀ x ∈ r, 1 ≤ x.f1) → (acc.length : Int) + (r.map (·.f1)).sum ≤ 65536 →
    Ev (fun k => rle_Expand.l0 k acc l (l.length : Int) i) (acc ++ rexp r, 0) := by
  intro r
  induction r with
  | nil =>
    intro i acc h _ _
    have := drop_ge h
    refine Ev.succ ?_
    simp only [rle_Expand.l0]
    refine Ev.neg (by omega) ?_
    simp only [rexp, List.append_nil]
    exact Ev.now _
  | cons x r ih =>
    intro i acc h hc hs
    have hlt := drop_lt h
    have hx := hc x List.mem_cons_self
    have hr := rexp_len r (fun y hy => by have := hc y (List.mem_cons_of_mem _ hy); omega)
    simp only [List.map_cons, List.sum_cons] at hs
    refine Ev.succ ?_
    simp only [rle_Expand.l0, rdT_drop h]
    refine Ev.pos (by omega) ?_
    refine Ev.pos (by omega) ?_
    refine Ev.pos (by omega) ?_
    obtain ⟨m, hm⟩ := Int.eq_ofNat_of_zero_le (show 0 ≤ x.f1 by omega)
    refine exp_l1 l _ _ _ _ _ (by omega) _ m 0 acc (by omega) (by omega) ?_
    rw [w64_add1 i (by omega)]
    have := ih (i + 1) (acc ++ List.replicate m x.f0) (drop_next h) (fun y hy => hc y (List.mem_cons_of_mem _ hy)) (by simp; omega)
    simpa [rexp, hm] using this
theorem exp_ev (l : List Run) (hl : l.length < 9223372036854775808) (hw : ∀ y ∈ l, -9223372036854775808 ≤ y.f1 ∧ y.f1 ≤ 9223372036854775807) : Ev (fun k => rle_Expand.f k l) (if rvl none 65536 l = true then (rexp l, 0) else ([], 4)) := by
  unfold rle_Expand.f
  refine Ev.bind (val_ev l hl hw) ?_
  by_cases h : rvl none 65536 l = true
  · refine Ev.pos h ?_
    rw [if_pos h]
    obtain ⟨h1, h2⟩ := rvl_tot l none 65536 (by omega) h
    have := exp_l0 l hl l 0 [] rfl h1 (by simpa using h2)
    simpa using this
  · refine Ev.neg h ?_
    rw [if_neg h]
    exact Ev.now _

/-! ### making runs -/
def stp (acc : List Run) (x : Int) : List Run :=
  if 0 < acc.length ∧ (rd_T77 acc ((acc.length - 1 : Nat) : Int)).f0 = x then acc.set (acc.length - 1) ⟨(rd_T77 acc ((acc.length - 1 : Nat) : Int)).f0, (rd_T77 acc ((acc.length - 1 : Nat) : Int)).f1 + 1⟩ else acc ++ [⟨x, 1⟩]
def rrun : List Run → List Int → List Run
  | acc, [] => acc
  | acc, x :: r => rrun (stp acc x) r
def lastv : Option Int → List Run → Option Int
  | p, [] => p
  | _, x :: r => lastv (some x.f0) r
theorem rvl_app : ∀ (a b : List Run) (p : Option Int) (left : Int), rvl p left (a ++ b) = (rvl p left a && rvl (lastv p a) (left - (a.map (·.f1)).sum) b) := by
  intro a
  induction a with
  | nil => intro b p left; simp [rvl, lastv]
  | cons x a ih =>
    intro b p left
    simp only [List.cons_append, rvl]
    by_cases h : 1 ≤ x.f1 ∧ x.f1 ≤ left ∧ p ≠ some x.f0
    · rw [if_pos h, if_pos h, ih]
      simp only [lastv, List.map_cons, List.sum_cons]
      rw [show left - x.f1 - (a.map (·.f1)).sum = left - (x.f1 + (a.map (·.f1)).sum) by omega]
    · rw [if_neg h, if_neg h]; rfl
theorem lastv_app (a : List Run) (y : Run) : ∀ p, lastv p (a ++ [y]) = some y.f0 := by
  induction a with
  | nil => intro p; rfl
  | cons x a ih => intro p; exact ih _
theorem rd_last (pre : List Run) (y : Run) : rd_T77 (pre ++ [y]) (((pre ++ [y]).length - 1 : Nat) : Int) = y := by
  rw [rdT, List.getD_eq_getElem?_getD, List.length_append, List.length_singleton, Nat.add_sub_cancel, List.getElem?_append_right (Nat.le_refl _)]
  simp
theorem stp_snoc (pre : List Run) (y : Run) (x : Int) : stp (pre ++ [y]) x = if y.f0 = x then pre ++ [⟨y.f0, y.f1 + 1⟩] else pre ++ [y] ++ [⟨x, 1⟩] := by
  unfold stp
  rw [rd_last]
  by_cases h : y.f0 = x
  · rw [if_pos h, if_pos ⟨by simp, h⟩, List.length_append, List.length_singleton, Nat.add_sub_cancel, List.set_append_right _ _ (Nat.le_refl _)]
    simp
  · rw [if_neg h, if_neg (fun hc => h hc.2)]
def Made (acc : List Run) (done : List Int) : Prop := rvl none 65536 acc = true ∧ rexp acc = done ∧ (acc.map (·.f1)).sum = done.length
theorem snoc_of {α : Type} (l : List α) (h : l ≠ []) : ∃ pre y, l = pre ++ [y] := ⟨l.dropLast, l.getLast h, (List.dropLast_concat_getLast h).symm⟩
theorem Made.nil : Made [] [] := ⟨rfl, rfl, rfl⟩
theorem Made.step {acc : List Run} {done : List Int} (h : Made acc done) (x : Int) (hd : done.length < 65536) : Made (stp acc x) (done ++ [x]) := by
  obtain ⟨hv, he, hs⟩ := h
  by_cases hn : acc = []
  · subst hn
    have : done = [] := by rw [← he]; rfl
    subst this
    refine ⟨?_, ?_, ?_⟩
    · simp [stp, rvl]
    · simp [stp, rexp]
    · simp [stp]
  · obtain ⟨pre, y, rfl⟩ := snoc_of acc hn
    rw [rvl_app, Bool.and_eq_true] at hv
    obtain ⟨hv1, hv2⟩ := hv
    have hy : 1 ≤ y.f1 ∧ y.f1 ≤ 65536 - (pre.map (·.f1)).sum ∧ lastv none pre ≠ some y.f0 := by
      unfold rvl at hv2
      split at hv2
      · assumption
      · cases hv2
    have hs' : (pre.map (·.f1)).sum + y.f1 = done.length := by simpa using hs
    rw [stp_snoc]
    obtain ⟨m, hm⟩ := Int.eq_ofNat_of_zero_le (show 0 ≤ y.f1 by omega)
    by_cases hx : y.f0 = x
    · rw [if_pos hx]
      refine ⟨?_, ?_, ?_⟩
      · rw [rvl_app, hv1]
        simp only [rvl, Bool.true_and]
        rw [if_pos ⟨by omega, by omega, hy.2.2⟩]
      · rw [rexp_append] at he ⊢
        simp only [rexp, List.append_nil, hm, Int.toNat_natCast] at he ⊢
        rw [show ((m : Int) + 1).toNat = m + 1 by omega, List.replicate_succ', ← List.append_assoc, he, hx]
      · simp; omega
    · rw [if_neg hx]
      refine ⟨?_, ?_, ?_⟩
      · rw [rvl_app, rvl_app, hv1, hv2, lastv_app]
        simp only [rvl, Bool.true_and]
        rw [if_pos]
        refine ⟨by omega, ?_, fun e => hx (by injection e)⟩
        simp only [List.map_append, List.map_cons, List.map_nil, List.sum_append, List.sum_cons, List.sum_nil]
        omega
      · rw [rexp_append, he]; simp [rexp]
      · simp; omega
theorem Made.last {acc : List Run} {done vs r : List Int} (h : Made acc done) (hvs : vs = done ++ r) (hd : 0 < done.length) : ∃ pre y, acc = pre ++ [y] ∧ 1 ≤ y.f1 ∧ y.f1 ≤ 65536 ∧ rd vs ((done.length - 1 : Nat) : Int) = y.f0 := by
  obtain ⟨hv, he, hs⟩ := h
  have hn : acc ≠ [] := by
    rintro rfl
    rw [← he] at hd
    simp [rexp] at hd
  obtain ⟨pre, y, rfl⟩ := snoc_of acc hn
  obtain ⟨hc, hle⟩ := rvl_tot _ _ _ (by omega) hv
  have hy := hc y (by simp)
  have hp : 0 ≤ (pre.map (·.f1)).sum := by
    have : ∀ l : List Run, (∀ x ∈ l, 1 ≤ x.f1) → 0 ≤ (l.map (·.f1)).sum := by
      intro l
      induction l with
      | nil => intro _; simp
      | cons z l ih =>
        intro hz
        have := ih (fun q hq => hz q (List.mem_cons_of_mem _ hq))
        have := hz z List.mem_cons_self
        simp only [List.map_cons, List.sum_cons]; omega
    exact this pre (fun z hz => hc z (by simp [hz]))
  simp only [List.map_append, List.map_cons, List.map_nil, List.sum_append, List.sum_cons, List.sum_nil] at hle
  refine ⟨pre, y, rfl, hy, by omega, ?_⟩
  obtain ⟨m, hm⟩ := Int.eq_ofNat_of_zero_le (show 0 ≤ y.f1 by omega)
  rw [rexp_append] at he
  simp only [rexp, List.append_nil, hm, Int.toNat_natCast] at he
  have hl : done.length = (rexp pre).length + m := by rw [← he]; simp
  have hl2 : (rexp pre ++ List.replicate m y.f0).length = (rexp pre).length + m := by simp
  rw [rd_nat, hvs, List.getD_eq_getElem?_getD, List.getElem?_append_left (by omega), ← he, List.getElem?_append_right (by omega), List.getElem?_replicate, if_pos (by omega)]
  rfl
theorem runs_l0 (vs : List Int) (hl : vs.length ≤ 65536) : ∀ (r : List Int) (i : Nat) (acc : List Run), vs.drop i = r → i ≤ vs.length → Made acc (vs.take i) →
    Ev (fun k => rle_Runs.l0 k vs acc vs (vs.length : Int) i) (rrun acc r) ∧ Made (rrun acc r) vs := by
  intro r
  induction r with
  | nil =>
    intro i acc h hi hm
    have := drop_ge h
    refine ⟨?_, ?_⟩
    · refine Ev.succ ?_
      simp only [rle_Runs.l0]
      refine Ev.neg (by omega) ?_
      exact Ev.now _
    · rw [List.take_of_length_le this] at hm
      exact hm
  | cons x r ih =>
    intro i acc h hi hm
    have hlt := drop_lt h
    have htl : (vs.take i).length = i := by rw [List.length_take]; omega
    have hx : rd vs (i : Int) = x := by rw [rd_nat, List.getD_eq_getElem?_getD, ← List.head?_drop, h]; rfl
    have htake : vs.take (i + 1) = vs.take i ++ [x] := by
      rw [List.take_succ_eq_append_getElem hlt]
      have : vs[i] = x := by
        have h2 := List.drop_eq_getElem_cons hlt
        rw [h] at h2
        injection h2 with h2 _
        exact h2.symm
      rw [this]
    have hm' := hm.step x (by omega)
    rw [← htake] at hm'
    have hnext := ih (i + 1) (stp acc x) (drop_next h) (by omega) hm'
    refine ⟨?_, hnext.2⟩
    refine Ev.succ ?_
    simp only [rle_Runs.l0, hx, w64_add1 i (by omega)]
    refine Ev.pos (by omega) ?_
    refine Ev.pos (by omega) ?_
    refine Ev.pos (by omega) ?_
    have hlen : acc.length ≤ 65536 := by
      have h1 := (rvl_tot _ _ _ (by omega) hm.1)
      have h2 := rexp_len acc (fun y hy => by have := h1.1 y hy; omega)
      have : acc.length ≤ (rexp acc).length := by
        have : ∀ l : List Run, (∀ x ∈ l, 1 ≤ x.f1) → l.length ≤ (rexp l).length := by
          intro l
          induction l with
          | nil => intro _; simp
          | cons z l ih =>
            intro hz
            have := ih (fun q hq => hz q (List.mem_cons_of_mem _ hq))
            have := hz z List.mem_cons_self
            simp only [List.length_cons, rexp, List.length_append, List.length_replicate]; omega
        exact this acc h1.1
      omega
    by_cases c : (i : Int) > 0
    · refine Ev.pos c ?_
      simp only [w64_sub1 i (by omega) (by omega)]
      refine Ev.pos (by omega) ?_
      refine Ev.pos (by omega) ?_
      obtain ⟨pre, y, rfl, hy1, hy2, hlast⟩ := hm.last (List.take_append_drop i vs).symm (by omega)
      rw [htl] at hlast
      simp only [hlast, w64_sub1 (pre ++ [y]).length (by simp) (by omega), rd_last, w64 (y.f1 + 1) (by omega) (by omega), Int.toNat_natCast]
      have hst := stp_snoc pre y x
      by_cases c2 : x = y.f0
      · refine Ev.pos c2 ?_
        refine Ev.pos (by omega) ?_
        refine Ev.pos (by simp; omega) ?_
        rw [if_pos c2.symm] at hst
        rw [List.length_append, List.length_singleton, Nat.add_sub_cancel, List.set_append_right _ _ (Nat.le_refl _), Nat.sub_self, List.set_cons_zero, ← hst]
        exact hnext.1
      · refine Ev.neg c2 ?_
        refine Ev.pos (by omega) ?_
        rw [if_neg (fun e => c2 e.symm)] at hst
        rw [← hst]
        exact hnext.1
    · refine Ev.neg c ?_
      refine Ev.pos (by omega) ?_
      have h0 : i = 0 := by omega
      subst h0
      have ha : acc = [] := by
        rcases acc with _ | ⟨z, acc⟩
        · rfl
        · obtain ⟨hv, he, hs⟩ := hm
          have hz := (rvl_tot _ _ _ (by omega) hv).1 z List.mem_cons_self
          have := congrArg List.length he
          simp [rexp] at this
          omega
      subst ha
      exact hnext.1
theorem runs_ev (vs : List Int) (hl : vs.length ≤ 65536) : Ev (fun k => rle_Runs.f k vs) (rrun [] vs) ∧ Made (rrun [] vs) vs :=
  runs_l0 vs hl vs 0 [] rfl (by omega) (by simpa using Made.nil)

/-! ### blocks -/
theorem blk_at0 (w : World) (o : Obj) (g : Nat) (h : g = w.heap.size) : (w.alloc o).heap[g]? = some o := by subst h; exact blk_new w o

/-! ### Filter's closure -/
theorem infoU64 : (Try.prog.info? 78).map (fun i => (i.zero, i.size, i.bytes)) = some (some (.int .u64 0), 1, 8) := by kernel_rfl
theorem wof_len_le (n : Nat) (f : Nat → Bool) (h : n ≤ 1000000) : (wof n f).length ≤ 1000000 := by rw [wof_length]; unfold wc; omega
theorem or_bit (y : Int) (h0 : 0 ≤ y) (h1 : y < 18446744073709551616) (r : Nat) (hr : r < 64) : bits .or .u64 y (2 ^ r) = ((y.toNat ||| 2 ^ r : Nat) : Int) := by
  have h2 := or_nat y.toNat (2 ^ r) (by omega) (pow_lt64 r hr)
  rw [show ((y.toNat : Nat) : Int) = y by omega] at h2
  rw [← h2]
  congr 1
theorem wrap_pow (r : Nat) (hr : r < 64) : IntKind.u64.wrap ((2 : Int) ^ r) = 2 ^ r := by
  have h := pow_lt64 r hr
  have h2 : ((2 ^ r : Nat) : Int) = 2 ^ r := by simp
  have h3 : ∀ p : Nat, p < 2 ^ 64 → IntKind.u64.wrap (p : Int) = (p : Int) := fun p hp => wraps_u64 _ (by omega) (by omega)
  rw [← h2]
  exact h3 _ h
theorem sb_of (zs : List Int) (m q r : Nat) (y : Int) (hq : q = m / 64) (hr : r = m % 64) (hy : y = rdOf 0 zs (q : Int)) (hw : wok zs) : zs.set q (bits .or .u64 y (2 ^ r)) = sb zs m := by
  have h1 : y = zs.getD q 0 := by rw [hy]; simp [rdOf]
  have h2 := wok_get hw q
  rw [← h1] at h2
  unfold sb
  rw [or_bit y h2.1 h2.2 r (by omega), ← hq, ← hr, ← h1]
def K64 (bS : Nat) (w W : World) : Prop := ∀ (g : Nat) (cs : Array Value) (t : Nat), w.heap[g]? = some (.cells cs t (0, 0)) → t ≠ 78 → g ≠ bS → W.heap[g]? = some (.cells cs t (0, 0))
theorem K64.refl (bS : Nat) (w : World) : K64 bS w w := fun _ _ _ h _ _ => h
theorem K64.setS {bS : Nat} {w W : World} (h : K64 bS w W) (j : Nat) (u : Value) : K64 bS w (W.setCell ⟨bS, j, none⟩ u) := fun g cs t h1 h2 h3 => blk_far (h g cs t h1 h2 h3) h3 u
theorem K64.set {bS : Nat} {w W : World} (h : K64 bS w W) {base : Nat} {ok : Nat → Prop} {g : Nat} {n c : Nat} {xs : List Int} (hR : Kd.R (Kd.int .u64) 78 W base ok (.slice (some ⟨g, 0, none⟩) n c) xs) (j : Nat) (u : Value) : K64 bS w (W.setCell ⟨g, j, none⟩ u) := fun g' cs t h1 h2 h3 => by
  have h4 := h g' cs t h1 h2 h3
  have h5 := Kd.R_ne hR h4 (Ne.symm h2)
  exact blk_far h4 (fun e => h5 (by rw [e]; rfl)) u
theorem K64.grown {bS : Nat} {w W W1 : World} (h : K64 bS w W) {base : Nat} {ok : Nat → Prop} {v : Value} {xs : List Int} (hR : Kd.R (Kd.int .u64) 78 W base ok v xs) (hg : W.grownBy W1 v.ownBlock) : K64 bS w W1 := fun g' cs t h1 h2 h3 => by
  have h4 := h g' cs t h1 h2 h3
  exact blk_grown h4 hg (Kd.R_ne hR h4 (Ne.symm h2))
theorem K64.drew {bS : Nat} {w W : World} (h : K64 bS w W) : K64 bS w W.drew := h
theorem add_rel (base bS n j m c : Nat) (f : Nat → Bool) (W w : World) (A : Option Addr) (cap : Nat) (zs : List Int) (hm : m = n + j) (hj : j + 1 ≤ c) (hz : zs = wof (m + 1) f)
    (hS : W.heap[bS]? = some (.cells #[.int .i64 ((m : Int) + 1), .slice A zs.length cap] 39 (0, 0))) (hR : Kd.R (Kd.int .u64) 78 W base (fun k => k ≠ bS) (.slice A zs.length cap) zs) (hB : Below base w W) (hK : K64 bS w W) :
    ∃ (j_1 : Nat) (A : Option Addr) (cap : Nat), j_1 ≤ c ∧ Value.int .i64 ((j : Int) + 1) = .int .i64 (j_1 : Int) ∧
      W.heap[bS]? = some (.cells #[.int .i64 ((n + j_1 : Nat) : Int), .slice A (wof (n + j_1) f).length cap] 39 (0, 0)) ∧
      Aside0 (Kd.R (Kd.int .u64) 78 W base (fun k => k ≠ bS) (.slice A (wof (n + j_1) f).length cap) (wof (n + j_1) f)) ∧ Below base w W ∧ Aside0 (K64 bS w W) := by
  subst hz
  have e : n + (j + 1) = m + 1 := by omega
  refine ⟨j + 1, A, cap, hj, by simp, ?_, ⟨?_⟩, hB, ⟨hK⟩⟩
  · rw [e, show ((m + 1 : Nat) : Int) = (m : Int) + 1 by simp]; exact hS
  · rw [e]; exact hR
set_option maxHeartbeats 2000000 in
set_option maxRecDepth 100000 in
theorem add_calls (base bS n c : Nat) (on : Bool) (f : Nat → Bool) (hf : ∀ i, n ≤ i → i < n + c → f i = on) (A : Option Addr) (cap : Nat) (w : World)
    (hS : w.heap[bS]? = some (.cells #[.int .i64 (n : Int), .slice A (wof n f).length cap] 39 (0, 0)))
    (hR : Kd.R (Kd.int .u64) 78 w base (fun k => k ≠ bS) (.slice A (wof n f).length cap) (wof n f)) (hnc : n + c ≤ 1000000) (hb : base ≤ bS) :
    Calls Try.prog 49 #[.int .i64 (c : Int), .bool on, .pointer (some ⟨bS, 0, none⟩)] w fun e w' => e = .returned (.tuple #[]) ∧ ∃ (A' : Option Addr) (cap' : Nat),
      w'.heap[bS]? = some (.cells #[.int .i64 ((n + c : Nat) : Int), .slice A' (wof (n + c) f).length cap'] 39 (0, 0)) ∧
      Kd.R (Kd.int .u64) 78 w' base (fun k => k ≠ bS) (.slice A' (wof (n + c) f).length cap') (wof (n + c) f) ∧ Below base w w' ∧ K64 bS w w' := by
  have HF := Aside0.mk hf
  clear hf
  have hub := Try.underlying39
  go_enter Try.func49, Try.ntmps49
  go_wp2
  go_loopw [6] (fun v6 wr => ∃ (j : Nat) (A : Option Addr) (cap : Nat), j ≤ c ∧ v6 = .int .i64 (j : Int) ∧
      wr.heap[bS]? = some (.cells #[.int .i64 ((n + j : Nat) : Int), .slice A (wof (n + j) f).length cap] 39 (0, 0)) ∧
      Aside0 (Kd.R (Kd.int .u64) 78 wr base (fun k => k ≠ bS) (.slice A (wof (n + j) f).length cap) (wof (n + j) f)) ∧ Below base w wr ∧ Aside0 (K64 bS w wr)) (fun v6 _ => c - (intOf v6).toNat)
  case atStart => exact ⟨0, A, cap, Nat.zero_le _, rfl, hS, ⟨hR⟩, Below.refl _ _, ⟨K64.refl _ _⟩⟩
  case round =>
    obtain ⟨j, A, cap, hj, rfl, hS, HR, hB, HK⟩ := hrel
    by_cases hlt : j < c
    · obtain ⟨m, hm⟩ : ∃ m, m = n + j := ⟨_, rfl⟩
      rw [← hm] at hS HR
      have hm6 : m ≤ 1000000 := by omega
      have hwl := wof_len_le m f hm6
      obtain ⟨ys, hys⟩ : ∃ ys, ys = wof m f := ⟨_, rfl⟩
      rw [← hys] at hS HR hwl
      have HM := Aside0.mk hm
      have HY := Aside0.mk hys
      clear hm hys
      obtain ⟨r, hr⟩ : ∃ r : Nat, r = m % 64 := ⟨_, rfl⟩
      have er : (m : Int) % 64 = (r : Int) := by omega
      have c0 : wr.cell? ⟨bS, 0, none⟩ = some (.int .i64 (m : Int)) := by rw [blk_cell hS]; rfl
      have c1 : wr.cell? ⟨bS, 1, none⟩ = some (.slice A ys.length cap) := by rw [blk_cell hS]; rfl
      have f1 : wr.frozen? ⟨bS, 1, none⟩ = false := blk_frozen hS 1
      have f0 : wr.frozen? ⟨bS, 0, none⟩ = false := blk_frozen hS 0
      have HRR := Aside0.mk hr
      clear hr
      have hfm := HF.out m (by have := HM.out; omega) (by have := HM.out; omega)
      have HFM := Aside0.mk hfm
      clear hfm
      have hbw := blk_lt hS
      have hAb : some bS ≠ ((.slice A ys.length cap) : Value).ownBlock := fun e => (HR.out.1 bS e.symm) rfl
      by_cases hr0 : r = 0
      · subst hr0
        cases on
        · go_wp2_with (at_builtin; refine Kd.R_append (Kd.int .u64) (w0 := wr) base rfl _ _ 37 78 (.int .u64 0) 8 rfl Try.underlying37 infoU64 rfl (by decide) (by decide) (.slice A ys.length cap) ys 0 [.int .u64 0] (fun k => k ≠ bS) (fun _ => False) rfl rfl rfl (fun _ h => h.elim) (fun k hk => by omega) HR.out (Below.refl _ _) (by omega) (by omega) ?_; intro v1 w1 hR1 hb1 hg1 hat1; obtain ⟨vA, vc, rfl⟩ := Kd.R_slice hR1; have hS1 := blk_grown hS hg1 hAb; have d0 : w1.cell? ⟨bS, 0, none⟩ = some (.int .i64 (m : Int)) := (by rw [blk_cell hS1]; rfl); have d1 : w1.cell? ⟨bS, 1, none⟩ = some (.slice A ys.length cap) := (by rw [blk_cell hS1]; rfl); have e1 : w1.frozen? ⟨bS, 1, none⟩ = false := blk_frozen hS1 1; have e0 : w1.frozen? ⟨bS, 0, none⟩ = false := blk_frozen hS1 0)
          go_roundw
          case rel =>
            exact add_rel base bS n j m c f _ w vA vc _ HM.out (by omega) (by rw [wof_snoc, HFM.out, ← HY.out]; simp [← HRR.out]) (by have := blk_put (blk_put hS1 1 (.slice vA (ys ++ [0]).length vc) rfl) 0 (.int .i64 ((m : Int) + 1)) rfl; simpa using this) (Kd.R_far (p := ⟨bS, 0, none⟩) (Kd.R_far (p := ⟨bS, 1, none⟩) hR1 (fun k hk => hk) _) (fun k hk => hk) _) (((hB.trans hb1).setCell hb _).setCell hb _) (((HK.out.grown HR.out hg1).setS _ _).setS _ _)
          case measure => simp [intOf]; omega
        · go_wp2_with (at_builtin; refine Kd.R_append (Kd.int .u64) (w0 := wr) base rfl _ _ 37 78 (.int .u64 0) 8 rfl Try.underlying37 infoU64 rfl (by decide) (by decide) (.slice A ys.length cap) ys 0 [.int .u64 0] (fun k => k ≠ bS) (fun _ => False) rfl rfl rfl (fun _ h => h.elim) (fun k hk => by omega) HR.out (Below.refl _ _) (by omega) (by omega) ?_; intro v1 w1 hR1 hb1 hg1 hat1; obtain ⟨g, vc, rfl, hgb, _, _⟩ := Kd.R_form hR1 (by simp); have hS1 := blk_grown hS hg1 hAb; have d0 : w1.cell? ⟨bS, 0, none⟩ = some (.int .i64 (m : Int)) := (by rw [blk_cell hS1]; rfl); have d1 : w1.cell? ⟨bS, 1, none⟩ = some (.slice A ys.length cap) := (by rw [blk_cell hS1]; rfl); have e1 : w1.frozen? ⟨bS, 1, none⟩ = false := blk_frozen hS1 1; have e0 : w1.frozen? ⟨bS, 0, none⟩ = false := blk_frozen hS1 0; have hgn : g ≠ bS := hR1.1 g (by simp [Value.ownBlock]); obtain ⟨q, hq⟩ : ∃ q : Nat, q = m / 64 := ⟨_, rfl⟩; have eq : (m : Int) / 64 = (q : Int) := (by omega); have hql : q < (ys ++ [0]).length := (by have h1 := HY.out; have h2 := wof_length m f; rw [List.length_append, List.length_singleton, h1, h2]; unfold wc; omega); obtain ⟨hcy, hfy⟩ := Kd.R_cell (0 : Int) hR1 (q : Int) (by omega) (by omega); rw [Int.toNat_natCast] at hcy hfy; obtain ⟨y, hy⟩ : ∃ y : Int, y = rdOf 0 (ys ++ [0]) (q : Int) := ⟨_, rfl⟩; rw [← hy] at hcy; have HYV := Aside0.mk hy; have hq2 : (q : Int) < (ys.length : Int) + 1 := (by rw [List.length_append, List.length_singleton] at hql; omega); have ew : IntKind.i64.wrap (q : Int) = (q : Int) := IntWalk.i64_in _ (by omega); have HQ := Aside0.mk (And.intro hq hql); clear hy hq hql)
          go_region
          go_wp2
          go_roundw
          case rel =>
            have hR2 := (Kd.R_put (enc := Value.int .u64) (h1 := fun _ => rfl) (Kd.R_far (p := ⟨bS, 1, none⟩) hR1 (fun k hk => hk) (.slice (some ⟨g, 0, none⟩) (ys ++ [0]).length vc)) (q : Int) (bits .or .u64 y 1)).1
            rw [Int.toNat_natCast] at hR2
            have hzs : (ys ++ [0]).set q (bits .or .u64 y 1) = wof (m + 1) f := by
              have hm0 : m % 64 = 0 := HRR.out.symm
              rw [wof_snoc, HFM.out, if_pos rfl, if_pos hm0, ← HY.out]
              have := sb_of (ys ++ [0]) m q 0 y HQ.out.1 HRR.out HYV.out (wok_append0 (by rw [HY.out]; exact wof_wok m f))
              simpa using this
            exact add_rel base bS n j m c f _ w (some ⟨g, 0, none⟩) vc ((ys ++ [0]).set q (bits .or .u64 y 1)) HM.out (by omega) hzs (by rw [List.length_set]; have := blk_drew (blk_put (blk_far (blk_put hS1 1 (.slice (some ⟨g, 0, none⟩) (ys ++ [0]).length vc) rfl) (Ne.symm hgn) (.int .u64 (bits .or .u64 y 1)) (p := ⟨g, q, none⟩)) 0 (.int .i64 ((m : Int) + 1)) rfl); simpa using this) (by rw [List.length_set]; have : Kd.R (Kd.int .u64) 78 _ base (fun k => k ≠ bS) _ _ := Kd.R_drew (Kd.R_far (p := ⟨bS, 0, none⟩) hR2 (fun k hk => hk) (.int .i64 ((m : Int) + 1))); simpa using this) (below_drew ((((hB.trans hb1).setCell hb _).setCell hgb _).setCell hb _)) ((((HK.out.grown HR.out hg1).setS 1 _).set (Kd.R_far (p := ⟨bS, 1, none⟩) hR1 (fun k hk => hk) _) _ _).setS _ _).drew
          case measure => simp [intOf]; omega
      · have er0 : ¬ (r : Int) = 0 := by omega
        cases on
        · go_wp2
          go_roundw
          case rel =>
            exact add_rel base bS n j m c f _ w A cap _ HM.out (by omega) (by rw [wof_snoc, HFM.out, ← HY.out]; have := HRR.out; simp [show ¬ m % 64 = 0 by omega]) (by have := blk_put hS 0 (.int .i64 ((m : Int) + 1)) rfl; simpa using this) (Kd.R_far (p := ⟨bS, 0, none⟩) HR.out (fun k hk => hk) _) (hB.setCell hb _) (HK.out.setS _ _)
          case measure => simp [intOf]; omega
        · have hyl : 0 < ys.length := by have h1 := HY.out; have h2 := wof_length m f; have h3 := HRR.out; rw [h1, h2]; unfold wc; omega
          obtain ⟨g, vc, hv, hgb, _, _⟩ := Kd.R_form HR.out hyl
          obtain ⟨rfl, rfl⟩ : A = some ⟨g, 0, none⟩ ∧ cap = vc := by injection hv with e1 e2 e3; exact ⟨e1, e3⟩
          clear hv
          have hgn : g ≠ bS := HR.out.1 g (by simp [Value.ownBlock])
          obtain ⟨q, hq⟩ : ∃ q : Nat, q = m / 64 := ⟨_, rfl⟩
          have eq : (m : Int) / 64 = (q : Int) := by omega
          have hql : q < ys.length := by have h1 := HY.out; have h2 := wof_length m f; have h3 := HRR.out; rw [h1, h2]; unfold wc; omega
          obtain ⟨hcy, hfy⟩ := Kd.R_cell (0 : Int) HR.out (q : Int) (by omega) (by omega)
          rw [Int.toNat_natCast] at hcy hfy
          obtain ⟨y, hy⟩ : ∃ y : Int, y = rdOf 0 ys (q : Int) := ⟨_, rfl⟩
          rw [← hy] at hcy
          have hq2 : (q : Int) < (ys.length : Int) := by omega
          have ew : IntKind.i64.wrap (q : Int) = (q : Int) := IntWalk.i64_in _ (by omega)
          have ewr : IntKind.u64.wrap (r : Int) = (r : Int) := wraps_u64 _ (by omega) (by have := HRR.out; omega)
          have hr64 : r < 64 := by have := HRR.out; omega
          have hr64' : r ≤ 64 := by omega
          have HYV := Aside0.mk hy
          have HQ := Aside0.mk (And.intro hq hql)
          clear hy hq hql hyl
          go_wp2
          go_region
          go_wp2
          go_roundw
          case rel =>
            have hR2 := (Kd.R_put (enc := Value.int .u64) (h1 := fun _ => rfl) HR.out (q : Int) (bits .or .u64 y (IntKind.u64.wrap (2 ^ r)))).1
            rw [Int.toNat_natCast] at hR2
            have hzs : ys.set q (bits .or .u64 y (IntKind.u64.wrap (2 ^ r))) = wof (m + 1) f := by
              have hm0 : ¬ m % 64 = 0 := by have := HRR.out; omega
              rw [wof_snoc, HFM.out, if_pos rfl, if_neg hm0, ← HY.out, wrap_pow r hr64]
              exact sb_of ys m q r y HQ.out.1 HRR.out HYV.out (by rw [HY.out]; exact wof_wok m f)
            exact add_rel base bS n j m c f _ w (some ⟨g, 0, none⟩) cap (ys.set q (bits .or .u64 y (IntKind.u64.wrap (2 ^ r)))) HM.out (by omega) hzs (by rw [List.length_set]; have := blk_drew (blk_put (blk_far hS (Ne.symm hgn) (.int .u64 (bits .or .u64 y (IntKind.u64.wrap (2 ^ r)))) (p := ⟨g, q, none⟩)) 0 (.int .i64 ((m : Int) + 1)) rfl); simpa using this) (by rw [List.length_set]; have : Kd.R (Kd.int .u64) 78 _ base (fun k => k ≠ bS) _ _ := Kd.R_drew (Kd.R_far (p := ⟨bS, 0, none⟩) hR2 (fun k hk => hk) (.int .i64 ((m : Int) + 1))); simpa using this) (below_drew ((hB.setCell hgb _).setCell hb _)) ((HK.out.set HR.out _ _).setS _ _).drew
          case measure => simp [intOf]; omega
    · obtain rfl : j = c := by omega
      go_wp2
      go_end0
      exact ⟨rfl, A, cap, hS, HR.out, hB, HK.out⟩

/-! ### Filter -/
def tot (l : List Run) : Nat := (l.map fun x => x.f1.toNat).sum
/-- What the elements from number n on are. -/
def vals (l : List Run) : List Int := l.flatMap fun x => List.replicate x.f1.toNat x.f0
theorem tot_take (l : List Run) (i : Nat) (h : i < l.length) : tot (l.take (i + 1)) = tot (l.take i) + (l.getD i z77).f1.toNat := by
  unfold tot
  rw [List.take_succ_eq_append_getElem h]
  rw [List.map_append, List.sum_append]
  simp [List.getD, List.getElem?_eq_getElem h]
theorem tot_take_le (l : List Run) (i : Nat) : tot (l.take i) ≤ tot l := by
  have : tot l = tot (l.take i) + tot (l.drop i) := by
    unfold tot
    rw [← List.sum_append, ← List.map_append, List.take_append_drop]
  omega
set_option maxHeartbeats 2000000 in
set_option maxRecDepth 100000 in
theorem filter_calls (A0 : Option Addr) (c0 : Nat) (l : List Run) (w : World) (hc0 : l.length ≤ c0) (kf : Int → Bool) (hcnt : ∀ x ∈ l, 0 ≤ x.f1) (htot : tot l ≤ 100000) (p1 : Value) (Kp : Nat → World → Prop)
    (hk : ∀ (j : Nat) (v : Int) (W : World), j < l.length → Kp j W → w.heap.size ≤ W.heap.size → Calls Try.prog 29 #[.int .i64 v, p1] W fun e W' => e = .returned (.bool (kf v)) ∧ Kp (j + 1) W' ∧ W.heap.size ≤ W'.heap.size ∧ ∀ g, w.heap.size ≤ g → g < W.heap.size → W'.heap[g]? = W.heap[g]?)
    (hk2 : ∀ (j : Nat) (W W' : World), Kp j W → w.heap.size ≤ W.heap.size → Below w.heap.size W W' → Kp j W') (hk3 : ∀ (j : Nat) (W : World), Kp j W → Kd.C k77 W A0 l.length l) (h0 : Kp 0 w) (f : Nat → Bool)
    (hf : ∀ i, i < l.length → ∀ j, tot (l.take i) ≤ j → j < tot (l.take (i + 1)) → f j = kf (l.getD i z77).f0) :
    Calls Try.prog 25 #[.slice A0 l.length c0, .func (.func 29) #[] #[p1]] w fun e w' => ∃ v1_ : Value, e = .returned (.agg #[.int .i64 (tot l : Int), v1_]) ∧ Kd.R (Kd.int .u64) 78 w' w.heap.size (fun _ => True) v1_ (wof (tot l) f) ∧ Kp l.length w' := by
  have hub := Try.underlying39
  have hur := Try.underlying77
  have hmf : ∀ (fn : Fn) (first cap : Array Value) (w : World), (Instr.makeFunc fn first cap).run Try.prog w = .ok (.func fn first cap) w := fun _ _ _ _ => rfl
  have hmx := Kd.C_max (hk3 0 w h0)
  have HK := Aside0.mk hk
  have HK2 := Aside0.mk hk2
  have HK3 := Aside0.mk hk3
  have HF := Aside0.mk hf
  have HCN := Aside0.mk hcnt
  have H0 := Aside0.mk h0
  clear hk hk2 hk3 hf hcnt h0
  go_enter Try.func25, Try.ntmps25
  go_wp2
  go_loopw [12] (fun v12 wr => ∃ (i : Nat) (A : Option Addr) (cap : Nat), i ≤ l.length ∧ v12 = .int .i64 (i : Int) ∧
      wr.heap[w.heap.size]? = some (.cells #[.int .i64 0, .slice none 0 0] 39 (0, 0)) ∧ wr.heap[w.heap.size + 1]? = some (.cells #[.int .i64 (tot (l.take i) : Int), .slice A (wof (tot (l.take i)) f).length cap] 39 (0, 0)) ∧
      Aside0 (Kd.R (Kd.int .u64) 78 wr w.heap.size (fun k => k ≠ w.heap.size + 1) (.slice A (wof (tot (l.take i)) f).length cap) (wof (tot (l.take i)) f)) ∧ Aside0 (Kp i wr)) (fun v12 _ => l.length - (intOf v12).toNat)
  case atStart => exact ⟨0, none, 0, Nat.zero_le _, rfl, blk_alloc (blk_new _ _) _, by have := blk_at0 (w.alloc (.cells #[.int .i64 0, .slice none 0 0] 39 (0, 0))) (.cells #[.int .i64 0, .slice none 0 0] 39 (0, 0)) (w.heap.size + 1) (by simp); simpa [tot, wof, wofN, wc] using this, ⟨by have := Kd.R_nil (Kd.int .u64) 78 ((w.alloc (.cells #[.int .i64 0, .slice none 0 0] 39 (0, 0))).alloc (.cells #[.int .i64 0, .slice none 0 0] 39 (0, 0))) w.heap.size (fun k => k ≠ w.heap.size + 1); simpa [tot, wof, wofN, wc] using this⟩, ⟨HK2.out 0 w _ H0.out (Nat.le_refl _) (below_alloc (below_alloc (Below.refl _ _) _) _)⟩⟩
  case round =>
    obtain ⟨i, A, cap, hi, rfl, hT, hS, HR, HKP⟩ := hrel
    have hsz : w.heap.size + 1 < wr.heap.size := blk_lt hS
    by_cases hlt : i < l.length
    · obtain ⟨ad, rfl, hx0, hx1⟩ := at_T77 (HK3.out i wr HKP.out) (i : Int) (by omega) (by omega)
      obtain ⟨v, c, hx⟩ : ∃ (v : Int) (c : Nat), rd_T77 l (i : Int) = ⟨v, (c : Int)⟩ := by
        have h1 := HCN.out (rd_T77 l (i : Int)) (by rw [rdT, List.getD_eq_getElem?_getD, List.getElem?_eq_getElem hlt]; exact List.getElem_mem hlt)
        have he : ∀ r : Run, 0 ≤ r.f1 → r = ⟨r.f0, (r.f1.toNat : Int)⟩ := fun r h => by
          cases r with
          | mk a b => simp only at h ⊢; rw [Int.toNat_of_nonneg h]
        exact ⟨_, _, he _ h1⟩
      rw [hx, Int.toNat_natCast] at hx0 hx1
      simp only at hx0 hx1
      have hgd : l.getD i z77 = ⟨v, (c : Int)⟩ := by rw [← hx, rdT]
      have htt := tot_take l i hlt
      rw [hgd] at htt
      simp only [Int.toNat_natCast] at htt
      have hle := tot_take_le l (i + 1)
      have hfi := HF.out i hlt
      rw [hgd, htt] at hfi
      simp only at hfi
      have HFI := Aside0.mk hfi
      have HTT := Aside0.mk htt
      clear hx hgd hfi htt
      have hlt' : (i : Int) < (l.length : Int) := by omega
      obtain ⟨n, hn⟩ : ∃ n, n = tot (l.take i) := ⟨_, rfl⟩
      rw [← hn] at hS HR
      have hfi := HFI.out
      rw [← hn] at hfi
      have HFN := Aside0.mk hfi
      clear hfi HFI
      have HN := Aside0.mk hn
      have hnc : n + c ≤ 100000 := by have := HTT.out; omega
      clear hn hle
      go_wp2
      obtain ⟨w2, hw2⟩ : ∃ w2, w2 = wr.alloc (.cells #[.int .i64 v, .int .i64 (c : Int)] 77 (0, 0)) := ⟨_, rfl⟩
      rw [← hw2]
      have k0 : w2.heap[w.heap.size]? = some (.cells #[.int .i64 0, .slice none 0 0] 39 (0, 0)) := by rw [hw2]; exact blk_alloc hT _
      have k1 : w2.heap[w.heap.size + 1]? = some (.cells #[.int .i64 (n : Int), .slice A (wof n f).length cap] 39 (0, 0)) := by rw [hw2]; exact blk_alloc hS _
      have kx : w2.heap[wr.heap.size]? = some (.cells #[.int .i64 v, .int .i64 (c : Int)] 77 (0, 0)) := by rw [hw2]; exact blk_new _ _
      have hs2 : wr.heap.size < w2.heap.size := blk_lt kx
      have KP2 : Aside0 (Kp i w2) := ⟨by rw [hw2]; exact HK2.out i wr _ HKP.out (by omega) (below_alloc (Below.refl _ _) _ |>.mono (by omega))⟩
      have HR2 : Aside0 (Kd.R (Kd.int .u64) 78 w2 w.heap.size (fun k => k ≠ w.heap.size + 1) (.slice A (wof n f).length cap) (wof n f)) := ⟨by rw [hw2]; exact Kd.R_alloc HR.out _⟩
      have x0 : w2.cell? ⟨wr.heap.size, 0, none⟩ = some (.int .i64 v) := by rw [blk_cell kx]; rfl
      have x1 : w2.cell? ⟨wr.heap.size, 1, none⟩ = some (.int .i64 (c : Int)) := by rw [blk_cell kx]; rfl
      clear hw2 hT hS HR HKP hx0 hx1
      go_region_held3 (fun w' => w'.cell? ⟨wr.heap.size, 0, none⟩ = some (.int .i64 v) ∧ w'.cell? ⟨wr.heap.size, 1, none⟩ = some (.int .i64 (c : Int))) (first | go_keep | exact ⟨by assumption, by assumption⟩)
        ((first
          | (go_at_call 29; refine (HK.out i v _ hlt (by first | exact HK2.out i w2 _ KP2.out (by omega) (below_drew (Below.refl _ _)) | exact HK2.out i w2 _ KP2.out (by omega) (pw_below_drewN (Below.refl _ _) _)) (by first | omega | (simp; omega))).mono ?_; rintro e w3 ⟨rfl, K3, hs3, hg3⟩; have KP3 := Aside0.mk K3; clear K3; have hs3' : w2.heap.size ≤ w3.heap.size := hs3; have k03 := (hg3 w.heap.size (Nat.le_refl _) (blk_lt k0)).trans k0; have k13 := (hg3 (w.heap.size + 1) (by omega) (blk_lt k1)).trans k1; have kx3 := (hg3 wr.heap.size (by omega) (blk_lt kx)).trans kx; have y0 : w3.cell? ⟨wr.heap.size, 0, none⟩ = some (.int .i64 v) := (by rw [blk_cell kx3]; rfl); have y1 : w3.cell? ⟨wr.heap.size, 1, none⟩ = some (.int .i64 (c : Int)) := (by rw [blk_cell kx3]; rfl); have HR3 : Aside0 (Kd.R (Kd.int .u64) 78 w3 w.heap.size (fun k => k ≠ w.heap.size + 1) (.slice A (wof n f).length cap) (wof n f)) := (⟨Kd.R_mono (Kd.R_step (Kd.R_bound HR2.out) (fun k hk hlt => hg3 k hk.2.1 hlt)) (fun _ hk => hk.1)⟩))
          | (go_at_call 49; refine (add_calls w.heap.size (w.heap.size + 1) n c (kf v) f HFN.out A cap _ k13 HR3.out (by omega) (by omega)).mono ?_; rintro e w4 ⟨rfl, A4, cap4, q1, q2, q3, q4⟩; have k04 := q4 _ _ _ k03 (by decide) (by omega); have kx4 := q4 _ _ _ kx3 (by decide) (by omega); have z0 : w4.cell? ⟨wr.heap.size, 0, none⟩ = some (.int .i64 v) := (by rw [blk_cell kx4]; rfl); have z1 : w4.cell? ⟨wr.heap.size, 1, none⟩ = some (.int .i64 (c : Int)) := (by rw [blk_cell kx4]; rfl); have HR4 := Aside0.mk q2; have KP4 : Aside0 (Kp (i + 1) w4) := (⟨HK2.out (i + 1) w3 w4 KP3.out (by omega) q3⟩); clear q2 q4)))
      clear x0 x1
      go_wp2
      go_roundw
      case rel =>
        have e1 : tot (l.take (i + 1)) = n + c := by rw [HTT.out, HN.out]
        refine ⟨i + 1, A4, cap4, by omega, by simp, k04, ?_, ⟨?_⟩, KP4⟩
        · rw [e1]; exact q1
        · rw [e1]; exact HR4.out
      case measure => simp [intOf]; omega
    · have hil : i = l.length := by omega
      subst hil
      rw [List.take_length] at hS HR
      have u0 : wr.cell? ⟨w.heap.size + 1, 0, none⟩ = some (.int .i64 (tot l : Int)) := by rw [blk_cell hS]; rfl
      have u1 : wr.cell? ⟨w.heap.size + 1, 1, none⟩ = some (.slice A (wof (tot l) f).length cap) := by rw [blk_cell hS]; rfl
      have v0 : wr.cell? ⟨w.heap.size, 0, none⟩ = some (.int .i64 0) := by rw [blk_cell hT]; rfl
      have v1 : wr.cell? ⟨w.heap.size, 1, none⟩ = some (.slice none 0 0) := by rw [blk_cell hT]; rfl
      have f0 : wr.frozen? ⟨w.heap.size, 0, none⟩ = false := blk_frozen hT 0
      have f1 : wr.frozen? ⟨w.heap.size, 1, none⟩ = false := blk_frozen hT 1
      go_wp2
      refine bodyPost_ret (results_cell_row rfl _ _ w.heap.size 39 #[.int .i64 (tot l : Int), .slice A (wof (tot l) f).length cap] (0, 0) _ rfl (by have := blk_put (blk_put hT 0 (.int .i64 (tot l : Int)) rfl) 1 (.slice A (wof (tot l) f).length cap) rfl; exact this) Try.underlying39 rfl (by kernel_rfl)) rfl ?_
      refine ⟨_, rfl, ?_, HK2.out l.length wr _ HKP.out (by omega) (((Below.refl w.heap.size wr).setCell (p := ⟨w.heap.size, 0, none⟩) (Nat.le_refl _) _).setCell (p := ⟨w.heap.size, 1, none⟩) (Nat.le_refl _) _)⟩
      exact Kd.R_mono (Kd.R_far (p := ⟨w.heap.size, 1, none⟩) (Kd.R_far (p := ⟨w.heap.size, 0, none⟩) (Kd.R_types HR.out hT (by decide)) (fun k hk => hk.2) _) (fun k hk => hk.2) _) (fun _ _ => trivial)

/-! ### the law's closure: it turns nothing -/
set_option maxHeartbeats 2000000 in
set_option maxRecDepth 100000 in
theorem keepm_calls (bN : Nat) (n v : Int) (W : World) (hN : W.heap[bN]? = some (.cells #[.int .i64 n] 2 (0, 0))) :
    Calls Try.prog 29 #[.int .i64 v, .pointer (some ⟨bN, 0, none⟩)] W fun e W' => e = .returned (.bool (decide (v < n))) ∧ ∃ m, W' = W.drewN m := by
  have cN : W.cell? ⟨bN, 0, none⟩ = some (.int .i64 n) := by rw [blk_cell hN]; rfl
  by_cases e : v < n
  · have e1 : decide (v < n) = true := decide_eq_true e
    go_enter Try.func29, Try.ntmps29
    go_wp2
    go_ret
    exact ⟨by first | rfl | (rw [e1]; rfl), 0, rfl⟩
  · have e1 : decide (v < n) = false := decide_eq_false e
    go_enter Try.func29, Try.ntmps29
    go_wp2
    go_ret
    exact ⟨by first | rfl | (rw [e1]; rfl), 0, rfl⟩
theorem heapRun : Kd.Heap k77 := Kd.heap_iso _ (Kd.heap_pair (Kd.heap_int .i64) (Kd.heap_int .i64))
set_option maxHeartbeats 1000000 in
set_option maxRecDepth 100000 in
theorem law_calls (k : Nat) (A0 : Option Addr) (c0 : Nat) (vs : List Int) (n : Int) (l : List Run) (f : Nat → Bool) (xz : Int) (w : World) (hr0 : Kd.C (Kd.int .i64) w A0 vs.length vs) (hc0 : vs.length ≤ c0)
    (hA : laminalaw07_awake.f k = some true)
    (hX : ¬ (2000 : Int) < (vs.length : Int) → rle_Runs.f k vs = some l ∧ (∀ x ∈ l, 0 ≤ x.f1) ∧ tot l = vs.length ∧ l.length ≤ 100000 ∧ (∀ i, i < l.length → ∀ j, tot (l.take i) ≤ j → j < tot (l.take (i + 1)) → f j = decide ((l.getD i z77).f0 < n)) ∧
      laminaref03_Valid.f (vs.length : Int) (wof vs.length f) = some true ∧ (∀ i : Nat, i < vs.length → rle_At.f k l (i : Int) = some (vs.getD i 0, true) ∧ laminaref03_Contains.f (vs.length : Int) (wof vs.length f) (i : Int) = some (decide (vs.getD i 0 < n))) ∧ rle_At.f k l (vs.length : Int) = some (xz, false)) :
    Calls Try.prog 5 #[.slice A0 vs.length c0, .int .i64 n] w fun e w' => e = .returned (.bool true) ∧ Below w.heap.size w w' := by
  have hmx := Kd.C_max hr0
  have HR := Aside0.mk hr0
  have HX := Aside0.mk hX
  have HAW := Aside0.mk hA
  clear hr0 hA hX
  have hub := Try.underlying39
  have hmf : ∀ (fn : Fn) (first cap : Array Value) (w : World), (Instr.makeFunc fn first cap).run Try.prog w = .ok (.func fn first cap) w := fun _ _ _ _ => rfl
  by_cases hlen : (2000 : Int) < (vs.length : Int)
  · go_enter Try.func5, Try.ntmps5
    go_wp2_with (go_at_call 15; refine (laminalaw07_awake.calls k true _ HAW.out).mono ?_; rintro e w9 ⟨rfl, hB9⟩)
    go_ret
    exact ⟨rfl, below_then (below_alloc (Below.refl _ _) _) (by simp) hB9⟩
  · obtain ⟨hRu, hcnt, htot, hll, hff, hVa, hAt, hAz⟩ := HX.out hlen
    have HRU := Aside0.mk hRu
    have HCN := Aside0.mk hcnt
    have HTO := Aside0.mk htot
    have HFF := Aside0.mk hff
    have HVA := Aside0.mk hVa
    have HAT := Aside0.mk hAt
    have HAZ := Aside0.mk hAz
    clear hRu hcnt hff hVa hAt hAz HX
    go_enter Try.func5, Try.ntmps5
    go_wp2_with (first
      | (go_at_call 16; go_loud (refine (rle_Runs.calls k _ _ vs l _ (Kd.C_alloc HR.out _) hc0 HRU.out).mono ?_; rintro e w1 ⟨v1_, rfl, hR1, hB1⟩; obtain ⟨A1, c1, rfl⟩ := Kd.R_slice hR1; have b0 := blk_below (blk_new w (.cells #[.int .i64 n] 2 (0, 0))) hB1; have B1 := Aside0.mk (below_then (below_alloc (Below.refl _ _) (.cells #[.int .i64 n] 2 (0, 0))) (by simp) hB1); have R1 := Aside0.mk hR1; have BN := Aside0.mk b0; have CL := Aside0.mk (Kd.R_reads' hR1); clear hR1 hB1 b0))
      | (go_at_call 25; go_loud (refine (filter_calls _ _ l w1 CL.out.2.1 (fun v => decide (v < n)) HCN.out (by have := HTO.out; omega) _ (fun _ W => Below w1.heap.size w1 W) ?k1 ?k2 ?k3 ?k4 f HFF.out).mono ?_; (case k1 => intro j v W hj hW hs; refine (keepm_calls w.heap.size n v W (blk_below BN.out hW)).mono ?_; rintro e W' ⟨rfl, m, rfl⟩; exact ⟨rfl, pw_below_drewN hW _, Nat.le_refl _, fun _ _ _ => rfl⟩); (case k2 => exact fun j W W' h hs hb => h.trans hb); (case k3 => exact fun j W h => Kd.C_below CL.out.2.2 h); (case k4 => exact Below.refl _ _); rintro e w2 ⟨v2_, rfl, hR2, hB2⟩; rw [htot] at hR2 ⊢; obtain ⟨A2, c2, rfl⟩ := Kd.R_slice hR2; have R2 := Aside0.mk hR2; have B2 := Aside0.mk hB2; clear hR2 hB2))
      | (go_at_call 30; go_loud (refine (laminaref03_Valid.calls (vs.length : Int) A2 c2 (wof vs.length f) true (w2.alloc (.cells #[.int .i64 (vs.length : Int), .slice A2 (wof vs.length f).length c2] 39 (0, 0))) (Kd.R_reads' (Kd.R_alloc R2.out (.cells #[.int .i64 (vs.length : Int), .slice A2 (wof vs.length f).length c2] 39 (0, 0)))).2.2 (Kd.R_reads' (Kd.R_alloc R2.out (.cells #[.int .i64 (vs.length : Int), .slice A2 (wof vs.length f).length c2] 39 (0, 0)))).2.1 HVA.out).mono ?_; rintro e w4 ⟨rfl, hB4⟩; have B12 := below_then B1.out B1.out.size B2.out; have B4 := Aside0.mk (below_then (below_alloc B12 (.cells #[.int .i64 (vs.length : Int), .slice A2 (wof vs.length f).length c2] 39 (0, 0))) (by have := B12.size; simp; omega) hB4); have BX := Aside0.mk (blk_below (blk_new w2 (.cells #[.int .i64 (vs.length : Int), .slice A2 (wof vs.length f).length c2] 39 (0, 0))) hB4); have BM := Aside0.mk (blk_below (blk_alloc (blk_below BN.out B2.out) (.cells #[.int .i64 (vs.length : Int), .slice A2 (wof vs.length f).length c2] 39 (0, 0))) hB4); have C1 := Aside0.mk (Kd.C_below (Kd.C_alloc (Kd.C_below CL.out.2.2 B2.out) (.cells #[.int .i64 (vs.length : Int), .slice A2 (wof vs.length f).length c2] 39 (0, 0))) hB4); have C2 := Aside0.mk (Kd.R_reads' (Kd.R_below (Kd.R_alloc R2.out (.cells #[.int .i64 (vs.length : Int), .slice A2 (wof vs.length f).length c2] 39 (0, 0))) hB4)); have C3 := Aside0.mk (Kd.C_below HR.out B4.out); have x4 : w4.cell? ⟨w2.heap.size, 0, none⟩ = some (.int .i64 (vs.length : Int)) := (by rw [blk_cell BX.out]; rfl); clear hB4 B12)))
    have B4s := B4.out.size
    clear x4
    go_loopw [7] (fun v7 wr => ∃ i : Nat, i ≤ vs.length ∧ v7 = .int .i64 (i : Int) ∧ Aside0 (Below w4.heap.size w4 wr)) (fun v7 _ => vs.length - (intOf v7).toNat)
    case atStart => exact ⟨0, Nat.zero_le _, rfl, ⟨Below.refl _ _⟩⟩
    case round =>
      obtain ⟨i, hi, rfl, HBr⟩ := hrel
      by_cases hlt : i < vs.length
      · obtain ⟨a1, a2⟩ := HAT.out i hlt
        have HA1 := Aside0.mk a1
        have HA2 := Aside0.mk a2
        clear a1 a2
        have hlt' : (i : Int) < (vs.length : Int) := by omega
        have hi0 : (0 : Int) ≤ (i : Int) := by omega
        obtain ⟨ad, hAd, hcx⟩ := Kd.at_int C3.out (i : Int) (by omega) (by omega)
        subst hAd
        rw [Int.toNat_natCast, rd_nat] at hcx
        obtain ⟨v, hv⟩ : ∃ v, v = vs.getD i 0 := ⟨_, rfl⟩
        rw [← hv] at hcx
        have hA1 := HA1.out
        have hA2 := HA2.out
        rw [← hv] at hA1 hA2
        have HA1 := Aside0.mk hA1
        have HA2 := Aside0.mk hA2
        clear hv hA1 hA2
        have vv : (v != v) = false := by simp
        have q1 : w4.cell? ⟨w2.heap.size, 0, none⟩ = some (.int .i64 (vs.length : Int)) := by rw [blk_cell BX.out]; rfl
        have q2 : w4.cell? ⟨w2.heap.size, 1, none⟩ = some (.slice A2 (wof vs.length f).length c2) := by rw [blk_cell BX.out]; rfl
        have q3 : w4.cell? ⟨w.heap.size, 0, none⟩ = some (.int .i64 n) := by rw [blk_cell BM.out]; rfl
        by_cases hvn : v < n
        · have dv : decide (v < n) = true := decide_eq_true hvn
          rw [dv] at HA2
          clear dv
          go_wp2_with (go_at_call 23; go_loud (refine (rle_At.calls k _ _ l _ _ _ _ (Kd.C_below C1.out HBr.out) CL.out.2.1 HA1.out).mono ?_; rintro e w5 ⟨rfl, hB5⟩; have B5 := Aside0.mk (below_then HBr.out HBr.out.size hB5); have r0 := (B5.out.cell (World.block_lt_of_cell? _ _ hcx)).trans hcx; have r1 := (B5.out.cell (World.block_lt_of_cell? _ _ q1)).trans q1; have r2 := (B5.out.cell (World.block_lt_of_cell? _ _ q2)).trans q2; have r3 := (B5.out.cell (World.block_lt_of_cell? _ _ q3)).trans q3; clear hB5))
          go_region_held3 (fun w' => w'.cell? (ad.add i) = some (.int .i64 v) ∧ w'.cell? ⟨w2.heap.size, 0, none⟩ = some (.int .i64 (vs.length : Int)) ∧ w'.cell? ⟨w2.heap.size, 1, none⟩ = some (.slice A2 (wof vs.length f).length c2) ∧ w'.cell? ⟨w.heap.size, 0, none⟩ = some (.int .i64 n)) (first | go_keep | exact ⟨by assumption, by assumption, by assumption, by assumption⟩)
            ((first | (go_at_call 31; go_loud (refine (laminaref03_Contains.calls _ _ _ _ _ _ _ (by first | exact Kd.C_below C2.out.2.2 B5.out | exact Kd.C_drew (Kd.C_below C2.out.2.2 B5.out) | exact Kd.C_drewN (Kd.C_below C2.out.2.2 B5.out) _) C2.out.2.1 HA2.out).mono ?_; rintro e w6 ⟨rfl, hB6_⟩; have hB6 : Below w5.heap.size w5 w6 := ⟨hB6_.os, hB6_.tape, hB6_.output, hB6_.size, hB6_.block⟩; clear hB6_; have s0 := (hB6.cell (World.block_lt_of_cell? _ _ r0)).trans r0; have s1 := (hB6.cell (World.block_lt_of_cell? _ _ r1)).trans r1; have s2 := (hB6.cell (World.block_lt_of_cell? _ _ r2)).trans r2; have s3 := (hB6.cell (World.block_lt_of_cell? _ _ r3)).trans r3; have B6 := Aside0.mk (below_then B5.out B5.out.size hB6); clear hB6))))
          go_wp2
          go_roundw
          case rel => exact ⟨i + 1, by omega, by go_num, ⟨B6.out⟩⟩
          case measure => simp [intOf]; omega
        · have dv : decide (v < n) = false := decide_eq_false hvn
          rw [dv] at HA2
          clear dv
          go_wp2_with (go_at_call 23; go_loud (refine (rle_At.calls k _ _ l _ _ _ _ (Kd.C_below C1.out HBr.out) CL.out.2.1 HA1.out).mono ?_; rintro e w5 ⟨rfl, hB5⟩; have B5 := Aside0.mk (below_then HBr.out HBr.out.size hB5); have r0 := (B5.out.cell (World.block_lt_of_cell? _ _ hcx)).trans hcx; have r1 := (B5.out.cell (World.block_lt_of_cell? _ _ q1)).trans q1; have r2 := (B5.out.cell (World.block_lt_of_cell? _ _ q2)).trans q2; have r3 := (B5.out.cell (World.block_lt_of_cell? _ _ q3)).trans q3; clear hB5))
          go_region_held3 (fun w' => w'.cell? (ad.add i) = some (.int .i64 v) ∧ w'.cell? ⟨w2.heap.size, 0, none⟩ = some (.int .i64 (vs.length : Int)) ∧ w'.cell? ⟨w2.heap.size, 1, none⟩ = some (.slice A2 (wof vs.length f).length c2) ∧ w'.cell? ⟨w.heap.size, 0, none⟩ = some (.int .i64 n)) (first | go_keep | exact ⟨by assumption, by assumption, by assumption, by assumption⟩)
            ((first | (go_at_call 31; go_loud (refine (laminaref03_Contains.calls _ _ _ _ _ _ _ (by first | exact Kd.C_below C2.out.2.2 B5.out | exact Kd.C_drew (Kd.C_below C2.out.2.2 B5.out) | exact Kd.C_drewN (Kd.C_below C2.out.2.2 B5.out) _) C2.out.2.1 HA2.out).mono ?_; rintro e w6 ⟨rfl, hB6_⟩; have hB6 : Below w5.heap.size w5 w6 := ⟨hB6_.os, hB6_.tape, hB6_.output, hB6_.size, hB6_.block⟩; clear hB6_; have s0 := (hB6.cell (World.block_lt_of_cell? _ _ r0)).trans r0; have s1 := (hB6.cell (World.block_lt_of_cell? _ _ r1)).trans r1; have s2 := (hB6.cell (World.block_lt_of_cell? _ _ r2)).trans r2; have s3 := (hB6.cell (World.block_lt_of_cell? _ _ r3)).trans r3; have B6 := Aside0.mk (below_then B5.out B5.out.size hB6); clear hB6))))
          go_wp2
          go_roundw
          case rel => exact ⟨i + 1, by omega, by go_num, ⟨B6.out⟩⟩
          case measure => simp [intOf]; omega
      · obtain rfl : i = vs.length := by omega
        go_wp2_with (first
          | (go_at_call 23; go_loud (refine (rle_At.calls k _ _ l _ _ _ _ (Kd.C_below C1.out HBr.out) CL.out.2.1 HAZ.out).mono ?_; rintro e w5 ⟨rfl, hB5⟩))
          | (go_at_call 15; go_loud (refine (laminalaw07_awake.calls k true _ HAW.out).mono ?_; rintro e w9 ⟨rfl, hB9⟩)))
        go_ret
        have B5 := below_then (B4.out.trans (HBr.out.mono B4s)) (B4.out.trans (HBr.out.mono B4s)).size hB5
        exact ⟨rfl, below_then B5 B5.size hB9⟩

/-! ### the reference's bitset functions -/
theorem tdiv64 (i : Nat) (h : i < 9223372036854775808) : wrap64 (Int.tdiv (i : Int) 64) = ((i / 64 : Nat) : Int) := by
  rw [Int.tdiv_eq_ediv_of_nonneg (by omega), w64 _ (by omega) (by omega)]; omega
theorem tmod64 (i : Nat) : Int.tmod (i : Int) 64 = ((i % 64 : Nat) : Int) := by
  rw [Int.tmod_eq_emod_of_nonneg (by omega)]; omega
theorem utmod64 (i : Nat) : IntKind.u64.wrap (Int.tmod (i : Int) 64) = ((i % 64 : Nat) : Int) := by
  rw [tmod64]; exact wraps_u64 _ (by omega) (by omega)
theorem pow_cast0 (t : Nat) : ((2 ^ t : Nat) : Int) = 2 ^ t := by simp
theorem shl1 (r : Nat) (hr : r < 64) : shl .u64 1 (r : Int) = ((2 ^ r : Nat) : Int) := by
  have h := pow_lt64 r hr
  have h3 : ∀ p : Nat, p < 2 ^ 64 → IntKind.u64.wrap (p : Int) = (p : Int) := fun p hp => wraps_u64 _ (by omega) (by omega)
  unfold shl
  rw [show min ((r : Int).toNat) IntKind.u64.bits = r by simp [IntKind.bits]; omega, Int.one_mul, ← pow_cast0]
  exact h3 _ h
theorem bit_one (y : Int) (h0 : 0 ≤ y) (h1 : y < 18446744073709551616) (r : Nat) (hr : r < 64) : (Go.bits .and .u64 (shr .u64 y (r : Int)) 1 == 1) = y.toNat.testBit r := by
  obtain ⟨m, rfl⟩ := Int.eq_ofNat_of_zero_le h0
  unfold shr
  rw [show min ((r : Int).toNat) IntKind.u64.bits = r by simp [IntKind.bits]; omega, ← pow_cast0, ← Int.natCast_ediv, Int.toNat_natCast, Nat.testBit_eq_decide_div_mod_eq]
  have hqm := Nat.div_le_self m (2 ^ r)
  generalize m / 2 ^ r = q at hqm ⊢
  rw [and_one _ (by omega) (by omega)]
  by_cases hq : q % 2 = 1
  · rw [decide_eq_true hq]; simp; omega
  · rw [decide_eq_false hq]; simp; omega
theorem or_shl (ws : List Int) (hw : wok ws) (i : Nat) : Go.bits .or .u64 (ws.getD (i / 64) 0) (shl .u64 1 (((i % 64 : Nat)) : Int)) = (((ws.getD (i / 64) 0).toNat ||| 2 ^ (i % 64) : Nat) : Int) := by
  have h := wok_get hw (i / 64)
  rw [shl1 _ (Nat.mod_lt _ (by decide))]
  obtain ⟨m, hm⟩ := Int.eq_ofNat_of_zero_le h.1
  rw [hm] at h ⊢
  rw [Int.toNat_natCast]
  exact or_nat m _ (by omega) (pow_lt64 _ (Nat.mod_lt _ (by decide)))
theorem r03con (n i : Nat) (ws : List Int) (hl : ws.length = wc n) (hw : wok ws) (hn : n < 9223372036854775808) : laminaref03_Contains.f (n : Int) ws (i : Int) = some (decide (i < n) && gb ws i) := by
  unfold laminaref03_Contains.f
  rw [if_pos (by omega)]
  by_cases h : i < n
  · have hq : i / 64 < ws.length := by rw [hl]; unfold wc; omega
    rw [if_pos (by omega), tdiv64 i (by omega), utmod64, if_pos (by omega), if_pos (by omega), if_pos (by omega), rd_nat]
    have h2 := wok_get hw (i / 64)
    rw [bit_one _ h2.1 h2.2 _ (Nat.mod_lt _ (by decide)), decide_eq_true h]
    simp [gb]
  · rw [if_neg (by omega), decide_eq_false h]; rfl
theorem r03con_neg (n : Int) (i : Int) (ws : List Int) (hi : i < 0) : laminaref03_Contains.f n ws i = some false := by
  unfold laminaref03_Contains.f
  rw [if_neg (by omega)]

/-! ### valid sets -/
def vset (a : Int) (ws : List Int) : Prop := 0 ≤ a ∧ a ≤ 1048576 ∧ ws.length = wc a.toNat ∧ ∀ j, a.toNat ≤ j → gb ws j = false
theorem last_word {ws : List Int} (hw : wok ws) {n : Nat} (hl : ws.length = wc n) (hn : n % 64 ≠ 0) :
    ((ws.getD (n / 64) 0).toNat / 2 ^ (n % 64) = 0) ↔ ∀ j, n ≤ j → gb ws j = false := by
  have hlt : n / 64 < ws.length := by rw [hl]; unfold wc; omega
  have hp := Nat.two_pow_pos (n % 64)
  constructor
  · intro h j hj
    by_cases hq : j / 64 = n / 64
    · unfold gb
      rw [hq]
      have h1 : (ws.getD (n / 64) 0).toNat < 2 ^ (n % 64) := by
        rcases Nat.div_eq_zero_iff.1 h with h2 | h2
        · omega
        · exact h2
      exact Nat.testBit_lt_two_pow (Nat.lt_of_lt_of_le h1 (Nat.pow_le_pow_right (by decide) (by omega)))
    · exact gb_out (by rw [hl]; unfold wc; omega)
  · intro h
    refine Nat.div_eq_of_lt (Nat.lt_pow_two_of_testBit _ (fun i hi => ?_))
    by_cases h64 : i < 64
    · have := h (64 * (n / 64) + i) (by omega)
      unfold gb at this
      rw [show (64 * (n / 64) + i) / 64 = n / 64 by omega, show (64 * (n / 64) + i) % 64 = i by omega] at this
      exact this
    · have h2 := wok_get hw (n / 64)
      have hp2 : 2 ^ 64 ≤ 2 ^ i := Nat.pow_le_pow_right (by decide) (by omega)
      exact Nat.testBit_lt_two_pow (by omega)
theorem vset_iff {n : Nat} {ws : List Int} : vset (n : Int) ws ↔ n ≤ 1048576 ∧ ws.length = wc n ∧ ∀ j, n ≤ j → gb ws j = false := by
  unfold vset
  rw [Int.toNat_natCast]
  constructor
  · rintro ⟨_, h2, h3, h4⟩; exact ⟨by omega, h3, h4⟩
  · rintro ⟨h2, h3, h4⟩; exact ⟨by omega, by omega, h3, h4⟩
theorem vset_wof (n : Nat) (f : Nat → Bool) (hn : n ≤ 1048576) : vset (n : Int) (wof n f) :=
  vset_iff.2 ⟨hn, wof_length n f, fun j hj => by rw [gb_wof, decide_eq_false (by omega), Bool.false_and]⟩
theorem vset_eq {n : Nat} {ws : List Int} (hw : wok ws) (h : vset (n : Int) ws) : ws = wof n (gb ws) := by
  obtain ⟨_, h2, h3⟩ := vset_iff.1 h
  refine wof_eq h2 hw (fun i => ?_)
  by_cases hi : i < n
  · rw [decide_eq_true hi, Bool.true_and]
  · rw [decide_eq_false hi, Bool.false_and, h3 i (by omega)]
theorem r03val (a : Int) (ws : List Int) (hw : wok ws) (hl : ws.length < 4611686018427387904) : ∃ b, laminaref03_Valid.f a ws = some b ∧ (b = true ↔ vset a ws) := by
  unfold laminaref03_Valid.f
  by_cases h1 : a < 0
  · exact ⟨false, by rw [if_pos h1], by simp [vset]; omega⟩
  by_cases h2 : a > 1048576
  · exact ⟨false, by rw [if_neg h1, if_pos h2], by simp [vset]; omega⟩
  obtain ⟨n, rfl⟩ := Int.eq_ofNat_of_zero_le (show 0 ≤ a by omega)
  rw [if_neg h1, if_neg h2, w64 ((n : Int) + 63) (by omega) (by omega), show (n : Int) + 63 = ((n + 63 : Nat) : Int) by omega, tdiv64 _ (by omega), tmod64]
  have hwc : (n + 63) / 64 = wc n := rfl
  by_cases h3 : ws.length = wc n
  · rw [if_pos (by omega)]
    by_cases h4 : n % 64 = 0
    · refine ⟨true, by rw [if_pos (by omega)], iff_of_true rfl (vset_iff.2 ⟨by omega, h3, fun j hj => gb_out (by rw [h3]; unfold wc; omega)⟩)⟩
    · have e : wrap64 ((ws.length : Int) - 1) = ((n / 64 : Nat) : Int) := by
        rw [w64 _ (by omega) (by omega), h3]; unfold wc; omega
      have hq : n / 64 < ws.length := by rw [h3]; unfold wc; omega
      rw [if_neg (by omega), e, if_pos (by omega), if_pos (by omega), wraps_u64 ((n % 64 : Nat) : Int) (by omega) (by omega), if_pos (by omega), rd_nat]
      refine ⟨_, rfl, ?_⟩
      have hg := wok_get hw (n / 64)
      have hlw := last_word hw h3 h4
      obtain ⟨m, hm⟩ := Int.eq_ofNat_of_zero_le hg.1
      rw [hm] at hlw ⊢
      rw [Int.toNat_natCast] at hlw
      unfold shr
      rw [show min (((n % 64 : Nat) : Int).toNat) IntKind.u64.bits = n % 64 by simp [IntKind.bits]; omega, ← pow_cast0, ← Int.natCast_ediv]
      rw [vset_iff]
      generalize m / 2 ^ (n % 64) = q at hlw ⊢
      constructor
      · intro h; exact ⟨by omega, h3, hlw.1 (by simpa using h)⟩
      · rintro ⟨_, _, h⟩; have := hlw.2 h; simpa using this
  · refine ⟨false, by rw [if_neg (by omega)], ?_⟩
    rw [vset_iff]
    exact iff_of_false (by simp) (fun h => h3 h.2.1)

/-! ### one element -/
def atR : List Run → Int → Int × Bool
  | [], _ => (0, false)
  | x :: r, i => if i < x.f1 then (x.f0, true) else atR r (i - x.f1)
theorem atR_get : ∀ (l : List Run) (i : Nat), (∀ x ∈ l, 0 ≤ x.f1) → atR l (i : Int) = if i < (rexp l).length then ((rexp l).getD i 0, true) else (0, false) := by
  intro l
  induction l with
  | nil => intro i _; simp [atR, rexp]
  | cons x r ih =>
    intro i h
    have hx := h x List.mem_cons_self
    obtain ⟨c, hc⟩ := Int.eq_ofNat_of_zero_le hx
    simp only [atR, rexp, List.length_append, List.length_replicate, hc, Int.toNat_natCast]
    by_cases hi : i < c
    · rw [if_pos (by omega), if_pos (by omega), List.getD_eq_getElem?_getD, List.getElem?_append_left (by simpa using hi)]
      simp [hi]
    · rw [if_neg (by omega), show (i : Int) - c = ((i - c : Nat) : Int) by omega, ih (i - c) (fun y hy => h y (List.mem_cons_of_mem _ hy))]
      by_cases h2 : i - c < (rexp r).length
      · rw [if_pos h2, if_pos (by omega), List.getD_eq_getElem?_getD, List.getD_eq_getElem?_getD, List.getElem?_append_right (by simp; omega), List.length_replicate]
      · rw [if_neg h2, if_neg (by omega)]
theorem iat_l0 (l : List Run) (hl : l.length < 9223372036854775808) : ∀ (r : List Run) (n : Nat) (i : Int), l.drop n = r → (∀ x ∈ r, 0 ≤ x.f1) → 0 ≤ i → i < 9223372036854775808 →
    Ev (fun k => rle_At.l0 k i l (l.length : Int) n) (atR r i) := by
  intro r
  induction r with
  | nil =>
    intro n i h _ _ _
    have := drop_ge h
    refine Ev.succ ?_
    simp only [rle_At.l0]
    refine Ev.neg (by omega) ?_
    exact Ev.now _
  | cons x r ih =>
    intro n i h hr h0 h1
    have hlt := drop_lt h
    have hx := hr x List.mem_cons_self
    refine Ev.succ ?_
    simp only [rle_At.l0, rdT_drop h, w64_add1 n (by omega), atR]
    refine Ev.pos (by omega) ?_
    refine Ev.pos (by omega) ?_
    refine Ev.pos (by omega) ?_
    by_cases c : i < x.f1
    · refine Ev.pos c ?_
      exact Ev.eq (Ev.now _) (by rw [if_pos c])
    · refine Ev.neg c ?_
      rw [if_neg c, w64 (i - x.f1) (by omega) (by omega)]
      exact ih (n + 1) _ (drop_next h) (fun y hy => hr y (List.mem_cons_of_mem _ hy)) (by omega) (by omega)
def atI (l : List Run) (i : Int) : Int × Bool := if i < 0 then (0, false) else atR l i
theorem iat_ev (l : List Run) (hl : l.length < 9223372036854775808) (hr : ∀ x ∈ l, 0 ≤ x.f1) (i : Int) (hi : i < 9223372036854775808) : Ev (fun k => rle_At.f k l i) (atI l i) := by
  unfold rle_At.f atI
  by_cases h : i < 0
  · refine Ev.pos h ?_
    exact Ev.eq (Ev.now _) (by rw [if_pos h])
  · refine Ev.neg h ?_
    rw [if_neg h]
    exact iat_l0 l hl l 0 i rfl hr (by omega) hi
/-- The elements of run number i. -/
theorem rexp_run : ∀ (l : List Run) (i j : Nat), i < l.length → tot (l.take i) ≤ j → j < tot (l.take (i + 1)) → (rexp l).getD j 0 = (l.getD i z77).f0 := by
  intro l
  induction l with
  | nil => intro i j h; simp at h
  | cons x r ih =>
    intro i j h h1 h2
    simp only [rexp]
    cases i with
    | zero =>
      simp only [Nat.zero_add, List.take_succ_cons, List.take_zero, tot, List.map_cons, List.map_nil, List.sum_cons, List.sum_nil, Nat.add_zero] at h2
      rw [List.getD_eq_getElem?_getD, List.getElem?_append_left (by simpa using h2)]
      simp [h2]
    | succ i =>
      simp only [List.take_succ_cons, tot, List.map_cons, List.sum_cons] at h1 h2
      have := ih i (j - x.f1.toNat) (by simpa using h) (by unfold tot; omega) (by unfold tot; omega)
      rw [List.getD_cons_succ, ← this, List.getD_eq_getElem?_getD, List.getD_eq_getElem?_getD, List.getElem?_append_right (by simp; omega), List.length_replicate]
theorem rexp_tot (l : List Run) : (rexp l).length = tot l := by
  induction l with
  | nil => rfl
  | cons x r ih => simp only [rexp, List.length_append, List.length_replicate, ih, tot, List.map_cons, List.sum_cons]

theorem awake_ev : Ev (fun k => laminalaw07_awake.f k) true := Ev.of laminalaw07_awake.mono (k := 40) (by decide +kernel)
theorem ev_all {g : Nat → Nat → Option (Int × Bool)} {r : Nat → Int × Bool} : ∀ (n : Nat), (∀ i, i < n → Ev (fun k => g k i) (r i)) → ∃ K, ∀ k, K ≤ k → ∀ i, i < n → g k i = some (r i) := by
  intro n
  induction n with
  | zero => intro _; exact ⟨0, fun k _ i h => by omega⟩
  | succ n ih =>
    intro h
    obtain ⟨K1, h1⟩ := ih (fun i hi => h i (by omega))
    obtain ⟨K2, h2⟩ := h n (by omega)
    refine ⟨max K1 K2, fun k hk i hi => ?_⟩
    by_cases e : i = n
    · subst e; exact h2 k (Nat.le_trans (Nat.le_max_right _ _) hk)
    · exact h1 k (Nat.le_trans (Nat.le_max_left _ _) hk) i (by omega)
theorem RleMembers (vs : List Int) (n : Int) : ∃ (k : Nat) (l : List Run) (f : Nat → Bool) (xz : Int), laminalaw07_awake.f k = some true ∧ (¬ (2000 : Int) < (vs.length : Int) → rle_Runs.f k vs = some l ∧ (∀ x ∈ l, 0 ≤ x.f1) ∧ tot l = vs.length ∧ l.length ≤ 100000 ∧ (∀ i, i < l.length → ∀ j, tot (l.take i) ≤ j → j < tot (l.take (i + 1)) → f j = decide ((l.getD i z77).f0 < n)) ∧
      laminaref03_Valid.f (vs.length : Int) (wof vs.length f) = some true ∧ (∀ i : Nat, i < vs.length → rle_At.f k l (i : Int) = some (vs.getD i 0, true) ∧ laminaref03_Contains.f (vs.length : Int) (wof vs.length f) (i : Int) = some (decide (vs.getD i 0 < n))) ∧ rle_At.f k l (vs.length : Int) = some (xz, false)) := by
  obtain ⟨k1, a1⟩ := awake_ev
  by_cases hlen : (2000 : Int) < (vs.length : Int)
  · exact ⟨k1, [], fun _ => false, 0, a1 _ (by omega), fun h => absurd hlen h⟩
  · obtain ⟨hr, hm1, hm2, hm3⟩ := runs_ev vs (by omega)
    obtain ⟨l, hl⟩ : ∃ l, l = rrun [] vs := ⟨_, rfl⟩
    rw [← hl] at hr hm1 hm2 hm3
    obtain ⟨hx1, hx2⟩ := rvl_tot l none 65536 (by omega) hm1
    have hpos : ∀ x ∈ l, 0 ≤ x.f1 := fun x hx => by have := hx1 x hx; omega
    have ht : tot l = vs.length := by rw [← rexp_tot, hm2]
    have hll : l.length ≤ 65536 := by
      have h5 : ∀ r : List Run, (∀ x ∈ r, 1 ≤ x.f1) → (r.length : Int) ≤ (r.map (·.f1)).sum := by
        intro r
        induction r with
        | nil => intro _; simp
        | cons y r ih =>
          intro hr
          have h6 := hr y List.mem_cons_self
          have h7 := ih (fun x hx => hr x (List.mem_cons_of_mem _ hx))
          simp only [List.map_cons, List.sum_cons, List.length_cons]
          omega
      have := h5 l hx1
      omega
    obtain ⟨k2, a2⟩ := hr
    have hat : ∀ i : Nat, i ≤ vs.length → Ev (fun k => rle_At.f k l (i : Int)) (if i < vs.length then (vs.getD i 0, true) else (0, false)) := by
      intro i hi
      have h := iat_ev l (by omega) hpos (i : Int) (by omega)
      unfold atI at h
      rw [if_neg (by omega), atR_get l i hpos, hm2] at h
      exact h
    obtain ⟨k3, a3⟩ := ev_all (g := fun k i => rle_At.f k l (i : Int)) (r := fun i => if i < vs.length then (vs.getD i 0, true) else (0, false)) (vs.length + 1) (fun i hi => hat i (by omega))
    obtain ⟨b, hb, hbv⟩ := r03val (vs.length : Int) (wof vs.length (fun j => decide (vs.getD j 0 < n))) (wof_wok _ _) (by rw [wof_length]; unfold wc; omega)
    rw [hbv.2 (vset_wof _ _ (by omega))] at hb
    refine ⟨k1 + k2 + k3, l, fun j => decide (vs.getD j 0 < n), 0, a1 _ (by omega), fun _ => ⟨a2 _ (by omega), hpos, ht, by omega, fun i hi j h1 h2 => ?_, hb, fun i hi => ⟨?_, ?_⟩, ?_⟩⟩
    · have := rexp_run l i j hi h1 h2
      rw [hm2] at this
      simp only
      rw [this]
    · have := a3 (k1 + k2 + k3) (by omega) i (by omega)
      simp only [if_pos hi] at this
      exact this
    · rw [r03con vs.length i _ (wof_length _ _) (wof_wok _ _) (by omega), gb_wof, decide_eq_true hi, Bool.true_and, Bool.true_and]
    · have := a3 (k1 + k2 + k3) (by omega) vs.length (by omega)
      simp only [if_neg (Nat.lt_irrefl _)] at this
      exact this
theorem RleMembers_row (W : World) (A0 : Option Addr) (c0 : Nat) (vs : List Int) (n : Int) (hr0 : Kd.C (Kd.int .i64) W A0 vs.length vs) (hc0 : vs.length ≤ c0) (ho : vs.length ≤ maxLen ∧ ∀ y0 ∈ vs, (Lit.int .i64 y0).wf = true) (hy : vs.length * 8 ≤ 140737488351232) (w1 : (Lit.int .i64 n).wf = true) :
    Calls Try.prog 5 #[.slice A0 vs.length c0, .int .i64 n] W fun e w' => e = .returned (.bool true) ∧ Below W.heap.size W w' := by
  obtain ⟨k, l, f, xz, hA, hX⟩ := RleMembers vs n
  exact law_calls k A0 c0 vs n l f xz W hr0 hc0 hA hX

end Go.Proofs.Yteamkjphdiajeaa.Pure
