/- laminalaw07.RleEncodes returns true for all its arguments of bulk at most 1048576 (Encode returns the reference's bytes for valid runs, and Decode the runs and the offset after them, wherever they stand). Conditions: the statement's own bound on the bulk. -/
import Derived.Test.YteamkjphdiajeaaStRleEncodes
import Derived.Test.YteamkjphdiajeaaM01
import Derived.Test.YteamkjphdiajeaaM02
import Derived.Test.YteamkjphdiajeaaM03
import Derived.Test.YteamkjphdiajeaaM05
set_option linter.unusedVariables false
set_option linter.unusedSimpArgs false
namespace Go.Proofs.Yteamkjphdiajeaa.Pure
open Go Go.RowKit Go.Proofs.Yteamkjphdiajeaa.QRleEncodes Go.Proofs.YteamkjphdiajeaaW.PrintWords Go.Proofs.YteamkjphdiajeaaW.PrintLast Go.Proofs.YteamkjphdiajeaaM

/-! ### varint.Decode and the reference's -/
theorem pow_shl (i : Nat) (hi : i ≤ 9) (c : Int) (h0 : 0 ≤ c) (h1 : c * 128 ^ i < 18446744073709551616) : shl .u64 c (7 * (i : Int)) = c * 128 ^ i := by
  have e : min (7 * (i : Int)).toNat 64 = 7 * i := by omega
  have e2 : (2 : Int) ^ (7 * i) = 128 ^ i := by rw [Int.pow_mul]; rfl
  unfold shl
  rw [show IntKind.u64.bits = 64 from rfl, e, e2]
  exact wrap_u64_of _ (Int.mul_nonneg h0 (Int.pow_nonneg (by decide))) h1
theorem dec_j2 (b : List Int) (hlen : b.length < 4611686018427387904) (o i acc c : Nat) (hi : i ≤ 9) (ho : o + i < b.length) (hc : c < 256) (hacc : acc < 128 ^ i) (f : Nat) (hf : i + f = 9)
    (h9 : ¬ (i = 9 ∧ 1 < c))
    (ih : i < 9 → acc + c % 128 * 128 ^ i < 128 ^ (i + 1) → Ev (fun k => varint_Decode.l0 k b o ((acc + c % 128 * 128 ^ i : Nat) : Int) ((i + 1 : Nat) : Int)) (vd b o f (i + 1) (acc + c % 128 * 128 ^ i))) :
    Ev (fun k => varint_Decode.j2 k b o acc i c i false)
      (if i = 9 ∧ 1 < c ∨ 0 < i ∧ c = 0 then (0, 0, 4) else if c < 128 then (((acc + c * 128 ^ i : Nat) : Int), ((o + i + 1 : Nat) : Int), 0) else vd b o f (i + 1) (acc + c % 128 * 128 ^ i)) := by
  have hp : 0 < 128 ^ i := Nat.pow_pos (by decide)
  have hple : 128 ^ i ≤ 128 ^ 9 := Nat.pow_le_pow_right (by decide) hi
  have h9v : (128 : Nat) ^ 9 = 9223372036854775808 := by decide
  have hm : c % 128 * 128 ^ i < 18446744073709551616 := by
    by_cases e : i = 9
    · subst e
      have : c ≤ 1 := by omega
      have : c % 128 ≤ 1 := by omega
      have := Nat.mul_le_mul_right (128 ^ 9) this
      omega
    · have h8 : 128 ^ i ≤ 128 ^ 8 := Nat.pow_le_pow_right (by decide) (by omega)
      have : (128 : Nat) ^ 8 = 72057594037927936 := by decide
      have : c % 128 * 128 ^ i ≤ 127 * 72057594037927936 := Nat.mul_le_mul (by omega) (by omega)
      omega
  have hlow : c % 128 * 128 ^ i + 128 ^ i ≤ 128 ^ (i + 1) := by
    rw [pow128, ← Nat.succ_mul]
    exact Nat.mul_le_mul_right _ (by omega)
  have hs : shl .u64 (IntKind.u64.wrap (Go.bits .and .u8 c 127)) (wrap64 (7 * (i : Int))) = ((c % 128 * 128 ^ i : Nat) : Int) := by
    rw [and_127 _ (by omega) (by omega), w64 _ (by omega) (by omega), wrap_u64_of _ (by omega) (by omega), pow_shl i hi _ (by omega)]
    · push_cast; rfl
    · have : ((c % 128 * 128 ^ i : Nat) : Int) < 18446744073709551616 := by omega
      push_cast at this
      exact this
  have hor : Go.bits .or .u64 acc ((c % 128 * 128 ^ i : Nat) : Int) = ((acc + c % 128 * 128 ^ i : Nat) : Int) := by
    rw [or_add (7 * i) _ _ (by omega) ?_ (by omega) (by omega) (by omega) ?_]
    · push_cast; rfl
    · have e2 : (2 : Int) ^ (7 * i) = ((128 ^ i : Nat) : Int) := by rw [Int.pow_mul]; simp
      rw [e2]; omega
    · have e2 : (2 : Int) ^ (7 * i) = ((128 ^ i : Nat) : Int) := by rw [Int.pow_mul]; simp
      rw [e2]
      push_cast
      exact Int.mul_emod_left _ _
  refine Ev.succ ?_
  simp only [varint_Decode.j2, hs, hor, w64_add1 i (by omega), w64_add_1 o i (by omega)]
  clear hs hor
  refine Ev.neg (by decide) ?_
  refine Ev.pos (by rw [w64 _ (by omega) (by omega)]; omega) ?_
  by_cases h2 : c < 128
  · refine Ev.neg (by omega) ?_
    have hcm : c % 128 = c := Nat.mod_eq_of_lt h2
    by_cases h0 : c = 0
    · refine Ev.pos (by omega) ?_
      by_cases hi0 : 0 < i
      · refine Ev.pos (by omega) ?_
        exact Ev.eq (Ev.now _) (by rw [if_pos (Or.inr ⟨hi0, h0⟩)])
      · refine Ev.neg (by omega) ?_
        exact Ev.eq (Ev.now _) (by rw [if_neg (by omega), if_pos h2, hcm])
    · refine Ev.neg (by omega) ?_
      exact Ev.eq (Ev.now _) (by rw [if_neg (by omega), if_pos h2, hcm])
  · refine Ev.pos (by omega) ?_
    exact Ev.eq (ih (by omega) (by omega)) (by rw [if_neg (by omega), if_neg h2])
theorem dec_l0 (b : List Int) (hb : ∀ x ∈ b, 0 ≤ x ∧ x < 256) (hlen : b.length < 4611686018427387904) (o : Nat) (ho : o ≤ b.length) :
    ∀ (f i acc : Nat), i + f = 10 → acc < 128 ^ i → Ev (fun k => varint_Decode.l0 k b o acc i) (vd b o f i acc) := by
  intro f
  induction f with
  | zero =>
    intro i acc hi ha
    refine Ev.succ ?_
    simp only [varint_Decode.l0]
    refine Ev.neg (by omega) ?_
    exact Ev.now _
  | succ f ih =>
    intro i acc hi ha
    refine Ev.succ ?_
    simp only [varint_Decode.l0, w64_add o i (by omega), rd_nat]
    refine Ev.pos (by omega) ?_
    unfold vd
    by_cases hl : b.length ≤ o + i
    · refine Ev.pos (by omega) ?_
      exact Ev.eq (Ev.now _) (by rw [if_pos hl])
    refine Ev.neg (by omega) ?_
    refine Ev.pos (by omega) ?_
    refine Ev.pos (by omega) ?_
    rw [if_neg hl]
    have hr := getD_range hb (i := o + i) (by omega)
    obtain ⟨c, hc⟩ := Int.eq_ofNat_of_zero_le hr.1
    simp only [hc, Int.toNat_natCast]
    rw [hc] at hr
    have hstep : ¬ (i = 9 ∧ 1 < c) → Ev (fun k => varint_Decode.j2 k b o acc i c i false) (if i = 9 ∧ 1 < c ∨ 0 < i ∧ c = 0 then (0, 0, 4) else if c < 128 then (((acc + c * 128 ^ i : Nat) : Int), ((o + i + 1 : Nat) : Int), 0) else vd b o f (i + 1) (acc + c % 128 * 128 ^ i)) := fun h =>
      dec_j2 b hlen o i acc c (by omega) (by omega) (by omega) ha f (by omega) h (fun h1 h2 => ih (i + 1) _ (by omega) h2)
    by_cases h9 : i = 9
    · refine Ev.pos (by omega) ?_
      by_cases h1 : 1 < c
      · have : decide ((c : Int) > 1) = true := by simp; omega
        rw [this, if_pos (Or.inl ⟨h9, h1⟩)]
        refine Ev.succ ?_
        simp only [varint_Decode.j2]
        refine Ev.pos (by decide) ?_
        exact Ev.now _
      · have : decide ((c : Int) > 1) = false := by simp; omega
        rw [this]
        exact hstep (by omega)
    · refine Ev.neg (by omega) ?_
      exact hstep (by omega)
theorem dec_ev (b : List Int) (hb : ∀ x ∈ b, 0 ≤ x ∧ x < 256) (hlen : b.length < 4611686018427387904) (o : Int) : Ev (fun k => varint_Decode.f k b o) (vdec b o) := by
  unfold varint_Decode.f vdec
  by_cases h0 : o < 0
  · refine Ev.pos h0 ?_
    rw [if_pos (Or.inl h0)]
    refine Ev.succ ?_
    simp only [varint_Decode.j0]
    refine Ev.pos (by decide) ?_
    exact Ev.now _
  refine Ev.neg h0 ?_
  refine Ev.succ ?_
  simp only [varint_Decode.j0]
  by_cases h1 : (b.length : Int) < o
  · refine Ev.pos (by simpa using h1) ?_
    exact Ev.eq (Ev.now _) (by rw [if_pos (Or.inr h1)])
  · refine Ev.neg (by simpa using h1) ?_
    obtain ⟨n, rfl⟩ := Int.eq_ofNat_of_zero_le (show 0 ≤ o by omega)
    rw [if_neg (by omega), Int.toNat_natCast]
    exact dec_l0 b hb hlen n (by omega) 10 0 0 rfl (by decide)

/-! ### zigzag -/
theorem zig_f (x : Int) (h0 : -9223372036854775808 ≤ x) (h1 : x < 9223372036854775808) : varint_ZigZag.f x = some (zig x) := by
  unfold varint_ZigZag.f; rw [zig_bits x h0 h1]
theorem unzig_f (u : Int) (h0 : 0 ≤ u) (h1 : u < 18446744073709551616) : varint_UnZigZag.f u = some (unzig u) := by
  have h := unzig_bits u h0 h1
  simp only [IntKind.wrap_i64] at h
  unfold varint_UnZigZag.f wrap64
  rw [h]

theorem rzig_f (x : Int) (h0 : -9223372036854775808 ≤ x) (h1 : x < 9223372036854775808) : laminaref01_ZigZag.f x = some (zig x) := by
  unfold laminaref01_ZigZag.f zig
  by_cases h : 0 ≤ x
  · have e : IntKind.u64.wrap (2 * IntKind.u64.wrap x) = 2 * x := by rw [wrap_u64, wrap_u64]; omega
    rw [if_pos (by omega), if_pos h, e]
  · have e : IntKind.u64.wrap (IntKind.u64.wrap (2 * IntKind.u64.wrap (wrap64 (-wrap64 (x + 1)))) + 1) = -2 * x - 1 := by
      rw [w64 (x + 1) (by omega) (by omega), w64 _ (by omega) (by omega), wrap_u64, wrap_u64, wrap_u64]; omega
    rw [if_neg (by omega), if_neg h, e]

/-! ### runs -/
abbrev Run := S77
theorem rdT (l : List Run) (n : Nat) : rd_T77 l (n : Int) = l.getD n z77 := by simp [rd_T77]
theorem rdT_drop {l r : List Run} {i : Nat} {x : Run} (h : l.drop i = x :: r) : rd_T77 l (i : Int) = x := by
  rw [rdT, List.getD_eq_getElem?_getD, ← List.head?_drop, h]; rfl
theorem drop_lt {α : Type} {l r : List α} {i : Nat} {x : α} (h : l.drop i = x :: r) : i < l.length := by
  rcases Nat.lt_or_ge i l.length with h1 | h1
  · exact h1
  · rw [List.drop_of_length_le h1] at h; cases h
theorem drop_ge {α : Type} {l : List α} {i : Nat} (h : l.drop i = []) : l.length ≤ i := by
  rwa [List.drop_eq_nil_iff] at h
theorem drop_next {α : Type} {l r : List α} {i : Nat} {x : α} (h : l.drop i = x :: r) : l.drop (i + 1) = r := by
  rw [← List.drop_drop, h]; rfl
theorem drop_mem {α : Type} {l r : List α} {i : Nat} {x : α} (h : l.drop i = x :: r) : x ∈ l := List.mem_of_mem_drop (h ▸ List.mem_cons_self)
def prv (l : List Run) (i : Nat) : Option Int := if i = 0 then none else some (rd_T77 l ((i - 1 : Nat) : Int)).f0
def rvl : Option Int → Int → List Run → Bool
  | _, _, [] => true
  | p, left, x :: r => if 1 ≤ x.f1 ∧ x.f1 ≤ left ∧ p ≠ some x.f0 then rvl (some x.f0) (left - x.f1) r else false
theorem prv_next {l r : List Run} {i : Nat} {x : Run} (h : l.drop i = x :: r) : prv l (i + 1) = some x.f0 := by
  unfold prv
  rw [if_neg (by omega), show i + 1 - 1 = i by omega, rdT_drop h]
theorem val_l0 (l : List Run) (hl : l.length < 9223372036854775808) (hw : ∀ y ∈ l, -9223372036854775808 ≤ y.f1 ∧ y.f1 ≤ 9223372036854775807) : ∀ (r : List Run) (i : Nat) (tot : Int), l.drop i = r → 0 ≤ tot → tot ≤ 65536 →
    Ev (fun k => rle_Valid.l0 k l tot l (l.length : Int) i) (rvl (prv l i) (65536 - tot) r) := by
  intro r
  induction r with
  | nil =>
    intro i tot h h0 h1
    have := drop_ge h
    refine Ev.succ ?_
    simp only [rle_Valid.l0]
    refine Ev.neg (by omega) ?_
    exact Ev.now _
  | cons x r ih =>
    intro i tot h h0 h1
    have hlt := drop_lt h
    have hx := hw x (drop_mem h)
    have hi1 : 0 < i → wrap64 ((i : Int) - 1) = ((i - 1 : Nat) : Int) := fun hp => by rw [w64 _ (by omega) (by omega)]; omega
    refine Ev.succ ?_
    simp only [rle_Valid.l0, rdT_drop h, w64_add1 i (by omega), w64 (65536 - tot) (by omega) (by omega)]
    refine Ev.pos (by omega) ?_
    refine Ev.pos (by omega) ?_
    refine Ev.pos (by omega) ?_
    unfold rvl
    by_cases c1 : x.f1 < 1
    · refine Ev.pos c1 ?_
      exact Ev.eq (Ev.now _) (by rw [if_neg (by omega)])
    refine Ev.neg c1 ?_
    by_cases c2 : x.f1 > 65536 - tot
    · refine Ev.pos c2 ?_
      exact Ev.eq (Ev.now _) (by rw [if_neg (by omega)])
    refine Ev.neg c2 ?_
    have hnext : Ev (fun k => rle_Valid.l0 k l (wrap64 (tot + x.f1)) l (l.length : Int) ((i + 1 : Nat) : Int)) (rvl (some x.f0) (65536 - tot - x.f1) r) := by
      rw [w64 _ (by omega) (by omega)]
      have := ih (i + 1) (tot + x.f1) (drop_next h) (by omega) (by omega)
      rw [prv_next h, show 65536 - (tot + x.f1) = 65536 - tot - x.f1 by omega] at this
      exact this
    by_cases c3 : (i : Int) > 0
    · refine Ev.pos c3 ?_
      simp only [hi1 (by omega)]
      refine Ev.pos (by omega) ?_
      refine Ev.pos (by omega) ?_
      by_cases c4 : x.f0 = (rd_T77 l ((i - 1 : Nat) : Int)).f0
      · refine Ev.pos c4 ?_
        refine Ev.eq (Ev.now _) ?_
        rw [if_neg]
        rintro ⟨_, _, h3⟩
        exact h3 (by unfold prv; rw [if_neg (by omega), c4])
      · refine Ev.neg c4 ?_
        refine Ev.eq hnext ?_
        rw [if_pos]
        refine ⟨by omega, by omega, ?_⟩
        unfold prv
        rw [if_neg (by omega)]
        intro he
        injection he with he
        exact c4 he.symm
    · refine Ev.neg c3 ?_
      refine Ev.eq hnext ?_
      rw [if_pos]
      refine ⟨by omega, by omega, ?_⟩
      unfold prv
      rw [if_pos (by omega)]
      intro he; cases he
theorem val_ev (l : List Run) (hl : l.length < 9223372036854775808) (hw : ∀ y ∈ l, -9223372036854775808 ≤ y.f1 ∧ y.f1 ≤ 9223372036854775807) : Ev (fun k => rle_Valid.f k l) (rvl none 65536 l) := by
  have := val_l0 l hl hw l 0 0 rfl (by omega) (by omega)
  unfold rle_Valid.f
  simpa [prv] using this
theorem rvl_tot : ∀ (l : List Run) (p : Option Int) (left : Int), 0 ≤ left → rvl p left l = true → (∀ x ∈ l, 1 ≤ x.f1) ∧ (l.map (·.f1)).sum ≤ left := by
  intro l
  induction l with
  | nil => intro p left h0 _; exact ⟨fun x hx => by (cases hx), by simpa using h0⟩
  | cons x r ih =>
    intro p left h0 h
    unfold rvl at h
    split at h
    · rename_i hc
      obtain ⟨h1, h2⟩ := ih _ _ (by omega) h
      refine ⟨fun y hy => ?_, ?_⟩
      · rcases List.mem_cons.1 hy with rfl | hy
        · exact hc.1
        · exact h1 y hy
      · simp only [List.map_cons, List.sum_cons]; omega
    · cases h
theorem rvl_le : ∀ (l : List Run) (p : Option Int) (left : Int), 0 ≤ left → rvl p left l = true → ∀ x ∈ l, x.f1 ≤ left := by
  intro l
  induction l with
  | nil => intro p left h0 _ x hx; cases hx
  | cons x r ih =>
    intro p left h0 h y hy
    unfold rvl at h
    split at h
    · rename_i hc
      rcases List.mem_cons.1 hy with rfl | hy
      · exact hc.2.1
      · have := ih _ _ (by omega) h y hy
        omega
    · cases h
def rexp : List Run → List Int
  | [] => []
  | x :: r => List.replicate x.f1.toNat x.f0 ++ rexp r
theorem rexp_append (a b : List Run) : rexp (a ++ b) = rexp a ++ rexp b := by
  induction a with
  | nil => rfl
  | cons x a ih => simp [rexp, ih]
theorem rexp_len : ∀ (l : List Run), (∀ x ∈ l, 0 ≤ x.f1) → ((rexp l).length : Int) = (l.map (·.f1)).sum := by
  intro l
  induction l with
  | nil => intro _; rfl
  | cons x r ih =>
    intro h
    have := ih (fun y hy => h y (List.mem_cons_of_mem _ hy))
    have := h x List.mem_cons_self
    simp only [rexp, List.length_append, List.length_replicate, List.map_cons, List.sum_cons]
    omega
theorem exp_l1 (l : List Run) (n i c v cc : Int) (hc : c ≤ 65536) (R : List Int × Int) : ∀ (d j : Nat) (acc : List Int), (j : Int) + d = c → acc.length + d < 1000000 →
    Ev (fun k => rle_Expand.l0 k (acc ++ List.replicate d v) l n (wrap64 (i + 1))) R → Ev (fun k => rle_Expand.l1 k acc l n i c j v cc) R := by
  intro d
  induction d with
  | zero =>
    intro j acc hj ha h
    refine Ev.succ ?_
    simp only [rle_Expand.l1]
    refine Ev.neg (by omega) ?_
    simpa using h
  | succ d ih =>
    intro j acc hj ha h
    refine Ev.succ ?_
    simp only [rle_Expand.l1, w64_add1 j (by omega)]
    refine Ev.pos (by omega) ?_
    refine Ev.pos (by omega) ?_
    refine ih (j + 1) (acc ++ [v]) (by omega) (by simp; omega) ?_
    rw [List.append_assoc, show [v] ++ List.replicate d v = List.replicate (d + 1) v from (List.replicate_succ ..).symm]
    exact h
theorem exp_l0 (l : List Run) (hl : l.length < 9223372036854775808) : ∀ (r : List Run) (i : Nat) (acc : List Int), l.drop i = r → (∀ x ∈ r, 1 ≤ x.f1) → (acc.length : Int) + (r.map (·.f1)).sum ≤ 65536 →
    Ev (fun k => rle_Expand.l0 k acc l (l.length : Int) i) (acc ++ rexp r, 0) := by
  intro r
  induction r with
  | nil =>
    intro i acc h _ _
    have := drop_ge h
    refine Ev.succ ?_
    simp only [rle_Expand.l0]
    refine Ev.neg (by omega) ?_
    simp only [rexp, List.append_nil]
    exact Ev.now _
  | cons x r ih =>
    intro i acc h hc hs
    have hlt := drop_lt h
    have hx := hc x List.mem_cons_self
    have hr := rexp_len r (fun y hy => by have := hc y (List.mem_cons_of_mem _ hy); omega)
    simp only [List.map_cons, List.sum_cons] at hs
    refine Ev.succ ?_
    simp only [rle_Expand.l0, rdT_drop h]
    refine Ev.pos (by omega) ?_
    refine Ev.pos (by omega) ?_
    refine Ev.pos (by omega) ?_
    obtain ⟨m, hm⟩ := Int.eq_ofNat_of_zero_le (show 0 ≤ x.f1 by omega)
    refine exp_l1 l _ _ _ _ _ (by omega) _ m 0 acc (by omega) (by omega) ?_
    rw [w64_add1 i (by omega)]
    have := ih (i + 1) (acc ++ List.replicate m x.f0) (drop_next h) (fun y hy => hc y (List.mem_cons_of_mem _ hy)) (by simp; omega)
    simpa [rexp, hm] using this
theorem exp_ev (l : List Run) (hl : l.length < 9223372036854775808) (hw : ∀ y ∈ l, -9223372036854775808 ≤ y.f1 ∧ y.f1 ≤ 9223372036854775807) : Ev (fun k => rle_Expand.f k l) (if rvl none 65536 l = true then (rexp l, 0) else ([], 4)) := by
  unfold rle_Expand.f
  refine Ev.bind (val_ev l hl hw) ?_
  by_cases h : rvl none 65536 l = true
  · refine Ev.pos h ?_
    rw [if_pos h]
    obtain ⟨h1, h2⟩ := rvl_tot l none 65536 (by omega) h
    have := exp_l0 l hl l 0 [] rfl h1 (by simpa using h2)
    simpa using this
  · refine Ev.neg h ?_
    rw [if_neg h]
    exact Ev.now _

/-! ### the reference's runs -/
theorem rval_l0 (l : List Run) (hl : l.length < 9223372036854775808) (hw : ∀ y ∈ l, -9223372036854775808 ≤ y.f1 ∧ y.f1 ≤ 9223372036854775807) : ∀ (r : List Run) (i : Nat) (left : Int), l.drop i = r → 0 ≤ left → left ≤ 65536 →
    Ev (fun k => laminaref07_Valid.l0 k l left i) (rvl (prv l i) left r) := by
  intro r
  induction r with
  | nil =>
    intro i tot h h0 h1
    have := drop_ge h
    refine Ev.succ ?_
    simp only [laminaref07_Valid.l0]
    refine Ev.neg (by omega) ?_
    exact Ev.now _
  | cons x r ih =>
    intro i tot h h0 h1
    have hlt := drop_lt h
    have hx := hw x (drop_mem h)
    have hi1 : 0 < i → wrap64 ((i : Int) - 1) = ((i - 1 : Nat) : Int) := fun hp => by rw [w64 _ (by omega) (by omega)]; omega
    refine Ev.succ ?_
    simp only [laminaref07_Valid.l0, rdT_drop h, w64_add1 i (by omega)]
    refine Ev.pos (by omega) ?_
    refine Ev.pos (by omega) ?_
    unfold rvl
    by_cases c1 : x.f1 < 1
    · refine Ev.pos c1 ?_
      exact Ev.eq (Ev.now _) (by rw [if_neg (by omega)])
    refine Ev.neg c1 ?_
    by_cases c2 : x.f1 > tot
    · refine Ev.pos c2 ?_
      exact Ev.eq (Ev.now _) (by rw [if_neg (by omega)])
    refine Ev.neg c2 ?_
    have hnext : Ev (fun k => laminaref07_Valid.l0 k l (wrap64 (tot - x.f1)) ((i + 1 : Nat) : Int)) (rvl (some x.f0) (tot - x.f1) r) := by
      rw [w64 _ (by omega) (by omega)]
      have := ih (i + 1) (tot - x.f1) (drop_next h) (by omega) (by omega)
      rw [prv_next h] at this
      exact this
    by_cases c3 : (i : Int) > 0
    · refine Ev.pos c3 ?_
      simp only [hi1 (by omega)]
      refine Ev.pos (by omega) ?_
      refine Ev.pos (by omega) ?_
      by_cases c4 : x.f0 = (rd_T77 l ((i - 1 : Nat) : Int)).f0
      · refine Ev.pos c4 ?_
        refine Ev.eq (Ev.now _) ?_
        rw [if_neg]
        rintro ⟨_, _, h3⟩
        exact h3 (by unfold prv; rw [if_neg (by omega), c4])
      · refine Ev.neg c4 ?_
        refine Ev.eq hnext ?_
        rw [if_pos]
        refine ⟨by omega, by omega, ?_⟩
        unfold prv
        rw [if_neg (by omega)]
        intro he
        injection he with he
        exact c4 he.symm
    · refine Ev.neg c3 ?_
      refine Ev.eq hnext ?_
      rw [if_pos]
      refine ⟨by omega, by omega, ?_⟩
      unfold prv
      rw [if_pos (by omega)]
      intro he; cases he
theorem rval_ev (l : List Run) (hl : l.length < 9223372036854775808) (hw : ∀ y ∈ l, -9223372036854775808 ≤ y.f1 ∧ y.f1 ≤ 9223372036854775807) : Ev (fun k => laminaref07_Valid.f k l) (rvl none 65536 l) := by
  have := rval_l0 l hl hw l 0 65536 rfl (by omega) (by omega)
  unfold laminaref07_Valid.f
  simpa [prv] using this

theorem requal_l0 (l : List Run) (hl : l.length < 9223372036854775808) : ∀ (r : List Run) (i : Nat), l.drop i = r → Ev (fun k => laminaref07_Equal.l0 k l l i) true := by
  intro r
  induction r with
  | nil =>
    intro i h
    have := drop_ge h
    refine Ev.succ ?_
    simp only [laminaref07_Equal.l0]
    refine Ev.neg (by omega) ?_
    exact Ev.now _
  | cons x r ih =>
    intro i h
    have hlt := drop_lt h
    refine Ev.succ ?_
    simp only [laminaref07_Equal.l0, rdT_drop h, w64_add1 i (by omega)]
    refine Ev.pos (by omega) ?_
    refine Ev.pos (by omega) ?_
    refine Ev.pos (by omega) ?_
    refine Ev.neg (by simp) ?_
    exact ih (i + 1) (drop_next h)
theorem requal_ev (l : List Run) (hl : l.length < 9223372036854775808) : Ev (fun k => laminaref07_Equal.f k l l) true := by
  unfold laminaref07_Equal.f
  refine Ev.pos rfl ?_
  exact requal_l0 l hl l 0 rfl

/-! ### varint.Encode -/
theorem enc_l0 : ∀ (f n : Nat) (acc : List Int), n < 128 ^ (f + 1) → acc.length + f < 1000 → Ev (fun k => varint_Encode.l0 k (n : Int) acc) (acc ++ venc n) := by
  intro f
  induction f with
  | zero =>
    intro n acc hn ha
    have h : n < 128 := by simpa using hn
    refine Ev.succ ?_
    simp only [varint_Encode.l0]
    refine Ev.neg (by omega) ?_
    refine Ev.pos (by omega) ?_
    exact Ev.eq (Ev.now _) (by rw [venc_lt h, show (n : Int) % 256 = n by omega])
  | succ f ih =>
    intro n acc hn ha
    have hn2 : n / 128 < 128 ^ (f + 1) := by
      rw [Nat.div_lt_iff_lt_mul (by decide), ← Nat.pow_succ]; exact hn
    clear hn
    refine Ev.succ ?_
    simp only [varint_Encode.l0]
    by_cases h : n < 128
    · refine Ev.neg (by omega) ?_
      refine Ev.pos (by omega) ?_
      exact Ev.eq (Ev.now _) (by rw [venc_lt h, show (n : Int) % 256 = n by omega])
    · refine Ev.pos (by omega) ?_
      refine Ev.pos (by omega) ?_
      have e : bits .or .u8 ((n : Int) % 256) 128 = ((128 + n % 128 : Nat) : Int) := by
        rw [or_128 _ (by omega) (by omega)]; omega
      have e2 : (n : Int) / 128 = ((n / 128 : Nat) : Int) := by omega
      rw [e, e2]
      have := ih (n / 128) (acc ++ [((128 + n % 128 : Nat) : Int)]) hn2 (by simp; omega)
      rw [venc_ge h]
      simpa using this
theorem enc_ev (n : Nat) (h : n < 18446744073709551616) : Ev (fun k => varint_Encode.f k (n : Int)) (venc n) := by
  have hp : (128 : Nat) ^ (9 + 1) = 1180591620717411303424 := by decide
  have := enc_l0 9 n [] (by omega) (by decide)
  unfold varint_Encode.f
  simpa using this

/-! ### the reference's Encode and Concat -/
theorem renc_l0 : ∀ (f n : Nat) (acc : List Int), n < 128 ^ (f + 1) → n < 18446744073709551616 → acc.length + f < 1000 → Ev (fun k => laminaref01_Encode.l0 k (n : Int) acc) (acc ++ venc n) := by
  intro f
  induction f with
  | zero =>
    intro n acc hn hn6 ha
    have h : n < 128 := by simpa using hn
    refine Ev.succ ?_
    simp only [laminaref01_Encode.l0]
    refine Ev.neg (by omega) ?_
    refine Ev.pos (by omega) ?_
    exact Ev.eq (Ev.now _) (by rw [venc_lt h, show (n : Int) % 256 = n by omega])
  | succ f ih =>
    intro n acc hn hn6 ha
    have hn2 : n / 128 < 128 ^ (f + 1) := by
      rw [Nat.div_lt_iff_lt_mul (by decide), ← Nat.pow_succ]; exact hn
    clear hn
    refine Ev.succ ?_
    simp only [laminaref01_Encode.l0, Int.tdiv_eq_ediv_of_nonneg (show (0 : Int) ≤ n by omega), Int.tmod_eq_emod_of_nonneg (show (0 : Int) ≤ n by omega)]
    by_cases h : n < 128
    · refine Ev.neg (by omega) ?_
      refine Ev.pos (by omega) ?_
      exact Ev.eq (Ev.now _) (by rw [venc_lt h, show (n : Int) % 256 = n by omega])
    · refine Ev.pos (by omega) ?_
      refine Ev.pos (by omega) ?_
      have e : IntKind.u64.wrap (128 + (n : Int) % 128) % 256 = ((128 + n % 128 : Nat) : Int) := by
        rw [wrap_u64_of _ (by omega) (by omega)]; omega
      have e2 : IntKind.u64.wrap ((n : Int) / 128) = ((n / 128 : Nat) : Int) := by rw [wrap_u64_of _ (by omega) (by omega)]; omega
      rw [e, e2]
      have := ih (n / 128) (acc ++ [((128 + n % 128 : Nat) : Int)]) hn2 (by omega) (by simp; omega)
      rw [venc_ge h]
      simpa using this
theorem renc_ev (n : Nat) (h : n < 18446744073709551616) : Ev (fun k => laminaref01_Encode.f k (n : Int)) (venc n) := by
  have hp : (128 : Nat) ^ (9 + 1) = 1180591620717411303424 := by decide
  have := renc_l0 9 n [] (by omega) h (by decide)
  unfold laminaref01_Encode.f
  simpa using this

theorem drop_getD (x : List Int) (j : Nat) (h : j < x.length) : x.drop j = x.getD j 0 :: x.drop (j + 1) := by
  rw [List.drop_eq_getElem_cons h, List.getD_eq_getElem?_getD, List.getElem?_eq_getElem h]
  rfl
theorem rcat_l1 (l : List (List Int)) (i : Nat) (hi : i < l.length) (hx : (l.getD i []).length < 1000000000) (R : List Int) : ∀ (d j : Nat) (acc : List Int), j + d = (l.getD i []).length → acc.length + d < 1000000000 →
    Ev (fun k => laminaref01_Concat.l0 k l (acc ++ (l.getD i []).drop j) (wrap64 ((i : Int) + 1))) R → Ev (fun k => laminaref01_Concat.l1 k l acc i j) R := by
  have hrd : rd_L3 l (i : Int) = l.getD i [] := by simp [rd_L3]
  intro d
  induction d with
  | zero =>
    intro j acc hj ha h
    refine Ev.succ ?_
    simp only [laminaref01_Concat.l1, hrd]
    refine Ev.pos (by omega) ?_
    refine Ev.pos (by omega) ?_
    refine Ev.neg (by omega) ?_
    rw [List.drop_of_length_le (by omega), List.append_nil] at h
    exact h
  | succ d ih =>
    intro j acc hj ha h
    refine Ev.succ ?_
    simp only [laminaref01_Concat.l1, hrd, w64_add1 j (by omega), rd_nat]
    refine Ev.pos (by omega) ?_
    refine Ev.pos (by omega) ?_
    refine Ev.pos (by omega) ?_
    refine Ev.pos (by omega) ?_
    refine Ev.pos (by omega) ?_
    refine ih (j + 1) _ (by omega) (by simp; omega) ?_
    have e : (l.getD i []).drop j = (l.getD i []).getD j 0 :: (l.getD i []).drop (j + 1) := drop_getD _ j (by omega)
    rw [List.append_assoc, List.singleton_append, ← e]
    exact h
theorem rcat_l0 (l : List (List Int)) (hl : l.length < 1000000000) (hx : ∀ x ∈ l, x.length < 1000000000) : ∀ (r : List (List Int)) (i : Nat) (acc : List Int), l.drop i = r → acc.length + r.flatten.length < 1000000000 →
    Ev (fun k => laminaref01_Concat.l0 k l acc i) (acc ++ r.flatten) := by
  intro r
  induction r with
  | nil =>
    intro i acc h ha
    have := drop_ge h
    refine Ev.succ ?_
    simp only [laminaref01_Concat.l0]
    refine Ev.neg (by omega) ?_
    exact Ev.eq (Ev.now _) (by simp)
  | cons x r ih =>
    intro i acc h ha
    have hlt := drop_lt h
    have hx1 := hx x (drop_mem h)
    have hg : l.getD i [] = x := by rw [List.getD_eq_getElem?_getD, ← List.head?_drop, h]; rfl
    simp only [List.flatten_cons, List.length_append] at ha
    refine Ev.succ ?_
    simp only [laminaref01_Concat.l0]
    refine Ev.pos (by omega) ?_
    refine rcat_l1 l i hlt (by rw [hg]; exact hx1) _ x.length 0 acc (by rw [hg]; omega) (by omega) ?_
    rw [w64_add1 i (by omega), hg, List.drop_zero]
    have := ih (i + 1) (acc ++ x) (drop_next h) (by rw [List.length_append]; omega)
    simpa using this
theorem rcat_ev (l : List (List Int)) (hl : l.length < 1000000000) (hx : ∀ x ∈ l, x.length < 1000000000) (hf : l.flatten.length < 1000000000) : Ev (fun k => laminaref01_Concat.f k l) l.flatten := by
  unfold laminaref01_Concat.f
  have := rcat_l0 l hl hx l 0 [] rfl (by simpa using hf)
  simpa using this

/-! ### rle.Encode -/
theorem w64_range (x : Int) : -9223372036854775808 ≤ wrap64 x ∧ wrap64 x < 9223372036854775808 := by
  unfold wrap64; omega
theorem w64_back (p u : Int) (hp : -9223372036854775808 ≤ p ∧ p < 9223372036854775808) (hu : -9223372036854775808 ≤ u ∧ u < 9223372036854775808) : wrap64 (wrap64 (p + u) - p) = u := by
  unfold wrap64; omega
theorem w64_ne (p u : Int) (hp : -9223372036854775808 ≤ p ∧ p < 9223372036854775808) (hu : -9223372036854775808 ≤ u ∧ u < 9223372036854775808) (h : u ≠ 0) : p ≠ wrap64 (p + u) := by
  unfold wrap64; omega
def renc : Int → List Run → List Int
  | _, [] => []
  | p, x :: r => venc (zig (wrap64 (x.f0 - p))).toNat ++ (venc x.f1.toNat ++ renc x.f0 r)
theorem rlee_l0 (l : List Run) (hl : l.length ≤ 65536) (hw : ∀ y ∈ l, 0 ≤ y.f1 ∧ y.f1 < 18446744073709551616) : ∀ (r : List Run) (i : Nat) (acc : List Int) (p : Int), l.drop i = r → acc.length ≤ 10 + 20 * i →
    Ev (fun k => rle_Encode.l0 k acc p l (l.length : Int) i) (acc ++ renc p r) := by
  intro r
  induction r with
  | nil =>
    intro i acc p h ha
    have := drop_ge h
    refine Ev.succ ?_
    simp only [rle_Encode.l0]
    refine Ev.neg (by omega) ?_
    exact Ev.eq (Ev.now _) (by simp [renc])
  | cons x r ih =>
    intro i acc p h ha
    have hlt := drop_lt h
    have hx := hw x (drop_mem h)
    have hq := w64_range (x.f0 - p)
    obtain ⟨z, hz⟩ := Int.eq_ofNat_of_zero_le (zig_range _ hq.1 hq.2).1
    have hz2 := (zig_range _ hq.1 hq.2).2
    obtain ⟨c, hc⟩ := Int.eq_ofNat_of_zero_le hx.1
    rw [hz] at hz2
    have l1 := venc_len10 z (by omega)
    have l2 := venc_len10 c (by omega)
    refine Ev.succ ?_
    simp only [rle_Encode.l0, rdT_drop h, w64_add1 i (by omega), wrap_u64_of x.f1 hx.1 hx.2]
    refine Ev.pos (by omega) ?_
    refine Ev.pos (by omega) ?_
    refine Ev.pos (by omega) ?_
    refine Ev.bind0 (zig_f _ hq.1 hq.2) ?_
    rw [hz, hc]
    refine Ev.bind (enc_ev z (by omega)) ?_
    refine Ev.pos (by omega) ?_
    refine Ev.bind0 rfl ?_
    refine Ev.bind (enc_ev c (by omega)) ?_
    refine Ev.pos (by simp; omega) ?_
    have := ih (i + 1) ((acc ++ venc z) ++ venc c) x.f0 (drop_next h) (by simp; omega)
    refine Ev.eq this ?_
    simp [renc, hz, hc]
theorem rlee_ev (l : List Run) (hl : l.length ≤ 65536) (hw : ∀ y ∈ l, 0 ≤ y.f1 ∧ y.f1 < 18446744073709551616) : Ev (fun k => rle_Encode.f k l) (venc l.length ++ renc 0 l) := by
  unfold rle_Encode.f
  rw [wrap_u64_of (l.length : Int) (by omega) (by omega)]
  refine Ev.bind (enc_ev l.length (by omega)) ?_
  have := venc_len10 l.length (by omega)
  exact rlee_l0 l hl hw l 0 _ 0 rfl (by omega)

/-! ### the reference's Encode of runs -/
def rparts : Int → List Run → List (List Int)
  | _, [] => []
  | p, x :: r => venc (zig (wrap64 (x.f0 - p))).toNat :: venc x.f1.toNat :: rparts x.f0 r
theorem rparts_flat : ∀ (r : List Run) (p : Int), (rparts p r).flatten = renc p r := by
  intro r
  induction r with
  | nil => intro p; rfl
  | cons x r ih => intro p; simp [rparts, renc, ih]
theorem rparts_len : ∀ (r : List Run) (p : Int), (rparts p r).length = 2 * r.length := by
  intro r
  induction r with
  | nil => intro p; rfl
  | cons x r ih => intro p; simp [rparts, ih]; omega
theorem rparts_le : ∀ (r : List Run) (p : Int), (∀ y ∈ r, 0 ≤ y.f1 ∧ y.f1 < 18446744073709551616) → ∀ x ∈ rparts p r, x.length ≤ 10 := by
  intro r
  induction r with
  | nil => intro p _ x hx; cases hx
  | cons y r ih =>
    intro p hw x hx
    have hq := w64_range (y.f0 - p)
    have hz := zig_range _ hq.1 hq.2
    have hy := hw y List.mem_cons_self
    simp only [rparts, List.mem_cons] at hx
    rcases hx with rfl | rfl | hx
    · exact venc_len10 _ (by omega)
    · exact venc_len10 _ (by omega)
    · exact ih _ (fun q hq => hw q (List.mem_cons_of_mem _ hq)) x hx
theorem flat_le : ∀ (l : List (List Int)), (∀ x ∈ l, x.length ≤ 10) → l.flatten.length ≤ 10 * l.length := by
  intro l
  induction l with
  | nil => intro _; simp
  | cons x l ih =>
    intro h
    have := ih (fun q hq => h q (List.mem_cons_of_mem _ hq))
    have := h x List.mem_cons_self
    simp only [List.flatten_cons, List.length_append, List.length_cons]; omega
theorem rrlee_l0 (l : List Run) (hl : l.length ≤ 65536) (hw : ∀ y ∈ l, 0 ≤ y.f1 ∧ y.f1 < 18446744073709551616) : ∀ (r : List Run) (i : Nat) (parts : List (List Int)) (p : Int), l.drop i = r → i ≤ l.length → parts.length ≤ 1 + 2 * i → (∀ x ∈ parts, x.length ≤ 10) →
    Ev (fun k => laminaref07_Encode.l0 k l parts p i) ((parts ++ rparts p r).flatten) := by
  intro r
  induction r with
  | nil =>
    intro i parts p h hi ha hp
    have := drop_ge h
    refine Ev.succ ?_
    simp only [laminaref07_Encode.l0]
    refine Ev.neg (by omega) ?_
    rw [rparts, List.append_nil]
    have hf := flat_le parts hp
    exact Ev.bind (rcat_ev parts (by omega) (fun x hx => by have := hp x hx; omega) (by omega)) (Ev.now _)
  | cons x r ih =>
    intro i parts p h hi ha hp
    have hlt := drop_lt h
    have hx := hw x (drop_mem h)
    have hq := w64_range (x.f0 - p)
    obtain ⟨z, hz⟩ := Int.eq_ofNat_of_zero_le (zig_range _ hq.1 hq.2).1
    have hz2 := (zig_range _ hq.1 hq.2).2
    obtain ⟨c, hc⟩ := Int.eq_ofNat_of_zero_le hx.1
    rw [hz] at hz2
    have l1 := venc_len10 z (by omega)
    have l2 := venc_len10 c (by omega)
    refine Ev.succ ?_
    simp only [laminaref07_Encode.l0, rdT_drop h, w64_add1 i (by omega), wrap_u64_of x.f1 hx.1 hx.2]
    refine Ev.pos (by omega) ?_
    refine Ev.pos (by omega) ?_
    refine Ev.bind0 (rzig_f _ hq.1 hq.2) ?_
    rw [hz, hc]
    refine Ev.bind (renc_ev z (by omega)) ?_
    refine Ev.pos (by omega) ?_
    refine Ev.bind0 rfl ?_
    refine Ev.bind (renc_ev c (by omega)) ?_
    refine Ev.pos (by simp; omega) ?_
    have := ih (i + 1) ((parts ++ [venc z]) ++ [venc c]) x.f0 (drop_next h) (by omega) (by simp; omega) (fun q hq => by
      simp only [List.mem_append, List.mem_singleton] at hq
      rcases hq with (hq | rfl) | rfl
      · exact hp q hq
      · exact l1
      · exact l2)
    refine Ev.eq this ?_
    simp [rparts, hz, hc]
theorem rrlee_ev (l : List Run) (hl : l.length ≤ 65536) (hw : ∀ y ∈ l, 0 ≤ y.f1 ∧ y.f1 < 18446744073709551616) : Ev (fun k => laminaref07_Encode.f k l) (venc l.length ++ renc 0 l) := by
  unfold laminaref07_Encode.f
  rw [wrap_u64_of (l.length : Int) (by omega) (by omega)]
  refine Ev.bind (renc_ev l.length (by omega)) ?_
  have h10 := venc_len10 l.length (by omega)
  refine Ev.eq (rrlee_l0 l hl hw l 0 [venc l.length] 0 rfl (by omega) (by simp) (fun x hx => by simp at hx; subst hx; exact h10)) ?_
  simp [rparts_flat]

/-! ### Decode of runs -/
theorem vdec_ok (b : List Int) (hb : ∀ x ∈ b, 0 ≤ x ∧ x < 256) (o : Int) (h : (vdec b o).2.2 = 0) :
    ∃ n m : Nat, o = m ∧ (vdec b o).1 = n ∧ n < 18446744073709551616 ∧ (vdec b o).2.1 = ((m + (venc n).length : Nat) : Int) ∧ m + (venc n).length ≤ b.length ∧ (b.drop m).take (venc n).length = venc n := by
  by_cases c : o < 0 ∨ (b.length : Int) < o
  · simp [vdec, c] at h
  · have hv : vdec b o = vd b o.toNat 10 0 0 := by simp [vdec, c]
    obtain ⟨v, t, e⟩ : ∃ v t, vd b o.toNat 10 0 0 = (v, t, 0) := ⟨(vdec b o).1, (vdec b o).2.1, by rw [← hv]; rw [← h]⟩
    obtain ⟨n, h1, h2, _, h3, h4, h5⟩ := vd_ok o.toNat b hb 10 0 0 v t rfl e
    refine ⟨n, o.toNat, by omega, ?_, by simpa using h2, ?_, by simpa using h4, by simpa using h5⟩
    · rw [hv, e]; simpa using h1
    · rw [hv, e]; simpa using h3
def rdc (b : List Int) : Nat → Int → List Run → Int → Int → List Run × Int × Int
  | 0, t, acc, _, _ => (acc, t, 0)
  | f + 1, t, acc, p, tot =>
    if (vdec b t).2.2 = 0 then
      if (vdec b t).1 = 0 ∧ acc ≠ [] then ([], 0, 4)
      else if (vdec b (vdec b t).2.1).2.2 = 0 then
        if (vdec b (vdec b t).2.1).1 < 1 then ([], 0, 6)
        else if (vdec b (vdec b t).2.1).1 > 65536 - tot then ([], 0, 6)
        else rdc b f (vdec b (vdec b t).2.1).2.1 (acc ++ [⟨wrap64 (p + unzig (vdec b t).1), (vdec b (vdec b t).2.1).1⟩]) (wrap64 (p + unzig (vdec b t).1)) (tot + (vdec b (vdec b t).2.1).1)
      else ([], 0, (vdec b (vdec b t).2.1).2.2)
    else ([], 0, (vdec b t).2.2)
theorem rdc_len (b : List Int) : ∀ f t acc p tot, (rdc b f t acc p tot).1.length ≤ acc.length + f := by
  intro f
  induction f with
  | zero => intro t acc p tot; simp [rdc]
  | succ f ih =>
    intro t acc p tot
    unfold rdc
    have := ih (vdec b (vdec b t).2.1).2.1 (acc ++ [⟨wrap64 (p + unzig (vdec b t).1), (vdec b (vdec b t).2.1).1⟩]) (wrap64 (p + unzig (vdec b t).1)) (tot + (vdec b (vdec b t).2.1).1)
    rw [List.length_append, List.length_singleton] at this
    repeat' split
    all_goals first | omega | simp
theorem cut_eq (b : List Int) (m t : Nat) (x : List Int) (hx : (b.drop m).take x.length = x) (h : m + x.length ≤ t) : (b.take t).drop m = x ++ (b.take t).drop (m + x.length) := by
  have e : ((b.take t).drop m).take x.length = x := by
    rw [List.drop_take, List.take_take, Nat.min_eq_left (by omega), hx]
  have e2 := (List.take_append_drop x.length ((b.take t).drop m)).symm
  rw [e, List.drop_drop] at e2
  exact e2
theorem rdc_ok (b : List Int) (hb : ∀ x ∈ b, 0 ≤ x ∧ x < 256) : ∀ (f : Nat) (t : Int) (acc : List Run) (p tot : Int) (l : List Run) (t' : Int) (pp : Option Int),
    rdc b f t acc p tot = (l, t', 0) → (-9223372036854775808 ≤ p ∧ p < 9223372036854775808) → 0 ≤ t → t ≤ b.length → (acc = [] → pp = none) → (acc ≠ [] → pp = some p) →
    ∃ r, l = acc ++ r ∧ r.length = f ∧ t ≤ t' ∧ t' ≤ b.length ∧ (b.take t'.toNat).drop t.toNat = renc p r ∧ rvl pp (65536 - tot) r = true := by
  intro f
  induction f with
  | zero =>
    intro t acc p tot l t' pp h hp h0 h1 _ _
    simp only [rdc, Prod.mk.injEq] at h
    obtain ⟨rfl, rfl, _⟩ := h
    exact ⟨[], by simp, rfl, by omega, h1, by simp [renc], rfl⟩
  | succ f ih =>
    intro t acc p tot l t' pp h hp h0 h1 hn hs
    unfold rdc at h
    by_cases c0 : (vdec b t).2.2 = 0
    rotate_left
    · rw [if_neg c0] at h
      simp only [Prod.mk.injEq] at h
      exact absurd h.2.2 c0
    rw [if_pos c0] at h
    obtain ⟨n, m, rfl, e1, hn64, e2, hle, htk⟩ := vdec_ok b hb t c0
    rw [e1, e2] at h
    by_cases c1 : (n : Int) = 0 ∧ acc ≠ []
    · rw [if_pos c1] at h; simp at h
    rw [if_neg c1] at h
    by_cases c2 : (vdec b ((m + (venc n).length : Nat) : Int)).2.2 = 0
    rotate_left
    · rw [if_neg c2] at h
      simp only [Prod.mk.injEq] at h
      exact absurd h.2.2 c2
    rw [if_pos c2] at h
    obtain ⟨c, m2, em, g1, hc64, g2, gle, gtk⟩ := vdec_ok b hb _ c2
    have em' : m2 = m + (venc n).length := by omega
    subst em'
    rw [g1, g2] at h
    by_cases c3 : (c : Int) < 1
    · rw [if_pos c3] at h; simp at h
    rw [if_neg c3] at h
    by_cases c4 : (c : Int) > 65536 - tot
    · rw [if_pos c4] at h; simp at h
    rw [if_neg c4] at h
    have hu := unzig_range (n : Int) (by omega) (by omega)
    have hq := w64_range (p + unzig n)
    obtain ⟨r, hr1, hr2, hr3, hr4, hr5, hr6⟩ := ih _ _ _ _ l t' (some (wrap64 (p + unzig n))) h hq (by omega) (by omega) (fun e => by simp at e) (fun _ => rfl)
    have hk1 := cut_eq b m t'.toNat (venc n) htk (by omega)
    have hk2 := cut_eq b (m + (venc n).length) t'.toNat (venc c) gtk (by omega)
    refine ⟨⟨wrap64 (p + unzig n), c⟩ :: r, by rw [hr1]; simp, by simp [hr2], by omega, hr4, ?_, ?_⟩
    · simp only [Int.toNat_natCast] at hr5 ⊢
      rw [hk1, hk2, hr5]
      simp only [renc, w64_back p _ hp hu, zig_unzig (n : Int) (by omega), Int.toNat_natCast]
    · unfold rvl
      rw [if_pos, ← hr6]
      · congr 1
        simp only; omega
      · refine ⟨by simp only; omega, by simp only; omega, ?_⟩
        by_cases ha : acc = []
        · rw [hn ha]; intro e; cases e
        · rw [hs ha]
          intro e
          injection e with e
          refine w64_ne p _ hp hu ?_ e
          intro e0
          apply c1
          refine ⟨?_, ha⟩
          have := zig_unzig (n : Int) (by omega)
          rw [e0] at this
          rw [← this]; rfl
theorem rld_l0 (b : List Int) (hb : ∀ x ∈ b, 0 ≤ x ∧ x < 256) (hlen : b.length < 4611686018427387904) (N : Nat) (hN : N ≤ 65536) : ∀ (f i : Nat) (t : Int) (acc : List Run) (p tot : Int), i + f = N → acc.length = i → 0 ≤ tot → tot ≤ 65536 →
    Ev (fun k => rle_Decode.l0 k b t 0 acc p tot (N : Int) i) (rdc b f t acc p tot) := by
  intro f
  induction f with
  | zero =>
    intro i t acc p tot hi ha h0 h1
    refine Ev.succ ?_
    simp only [rle_Decode.l0]
    refine Ev.neg (by omega) ?_
    refine Ev.pos (by simp) ?_
    exact Ev.now _
  | succ f ih =>
    intro i t acc p tot hi ha h0 h1
    refine Ev.succ ?_
    simp only [rle_Decode.l0]
    refine Ev.pos (by omega) ?_
    refine Ev.bind (dec_ev b hb hlen t) ?_
    unfold rdc
    by_cases c0 : (vdec b t).2.2 = 0
    rotate_left
    · refine Ev.neg c0 ?_
      exact Ev.eq (Ev.now _) (by rw [if_neg c0])
    obtain ⟨n, m, _, e1, hn64, e2, hle, htk⟩ := vdec_ok b hb t c0
    refine Ev.pos c0 ?_
    rw [if_pos c0, e1]
    generalize (vdec b t).2.1 = t1
    by_cases c1 : (n : Int) = 0 ∧ acc ≠ []
    · refine Ev.pos c1.1 ?_
      have hpos : 0 < acc.length := List.length_pos_iff.2 c1.2
      rw [if_pos c1, show decide ((i : Int) > 0) = true by simp; omega]
      refine Ev.succ ?_
      simp only [rle_Decode.j1]
      refine Ev.pos (by decide) ?_
      exact Ev.now _
    rw [if_neg c1]
    have key : Ev (fun k => rle_Decode.j1 k b t1 acc p tot n (N : Int) i false)
        (if (vdec b t1).2.2 = 0 then
          if (vdec b t1).1 < 1 then ([], 0, 6)
          else if (vdec b t1).1 > 65536 - tot then ([], 0, 6)
          else rdc b f (vdec b t1).2.1 (acc ++ [⟨wrap64 (p + unzig n), (vdec b t1).1⟩]) (wrap64 (p + unzig n)) (tot + (vdec b t1).1)
        else ([], 0, (vdec b t1).2.2)) := by
      refine Ev.succ ?_
      simp only [rle_Decode.j1, wrap_u64_of (65536 - tot) (by omega) (by omega)]
      refine Ev.neg (by decide) ?_
      refine Ev.bind (dec_ev b hb hlen t1) ?_
      by_cases c2 : (vdec b t1).2.2 = 0
      rotate_left
      · refine Ev.neg c2 ?_
        exact Ev.eq (Ev.now _) (by rw [if_neg c2])
      obtain ⟨c, m2, _, g1, hc64, g2, gle, gtk⟩ := vdec_ok b hb t1 c2
      refine Ev.pos c2 ?_
      rw [if_pos c2, g1, c2]
      generalize (vdec b t1).2.1 = t2
      by_cases c3 : (c : Int) < 1
      · refine Ev.pos c3 ?_
        exact Ev.eq (Ev.now _) (by rw [if_pos c3])
      refine Ev.neg c3 ?_
      rw [if_neg c3]
      by_cases c4 : (c : Int) > 65536 - tot
      · refine Ev.pos c4 ?_
        exact Ev.eq (Ev.now _) (by rw [if_pos c4])
      refine Ev.neg c4 ?_
      rw [if_neg c4]
      refine Ev.bind0 (unzig_f n (by omega) (by omega)) ?_
      refine Ev.pos (by omega) ?_
      rw [w64 (c : Int) (by omega) (by omega), wrap_u64_of (tot + c) (by omega) (by omega), w64_add1 i (by omega)]
      exact ih (i + 1) t2 _ _ _ (by omega) (by simp [ha]) (by omega) (by omega)
    by_cases c2 : (n : Int) = 0
    · refine Ev.pos c2 ?_
      have ha0 : acc = [] := Decidable.byContradiction fun e => c1 ⟨c2, e⟩
      subst ha0
      rw [show decide ((i : Int) > 0) = false by simp at ha ⊢; omega]
      exact key
    · refine Ev.neg c2 ?_
      exact key
def rdec (b : List Int) (o : Int) : List Run × Int × Int :=
  if (vdec b o).2.2 = 0 then if (vdec b o).1 > 65536 then ([], 0, 6) else rdc b (vdec b o).1.toNat (vdec b o).2.1 [] 0 0 else ([], 0, (vdec b o).2.2)
theorem rld_ev (b : List Int) (hb : ∀ x ∈ b, 0 ≤ x ∧ x < 256) (hlen : b.length < 4611686018427387904) (o : Int) : Ev (fun k => rle_Decode.f k b o) (rdec b o) := by
  unfold rle_Decode.f rdec
  refine Ev.bind (dec_ev b hb hlen o) ?_
  by_cases c0 : (vdec b o).2.2 = 0
  rotate_left
  · refine Ev.neg c0 ?_
    exact Ev.eq (Ev.now _) (by rw [if_neg c0])
  obtain ⟨n, m, _, e1, hn64, e2, hle, htk⟩ := vdec_ok b hb o c0
  refine Ev.pos c0 ?_
  rw [if_pos c0, e1, c0]
  generalize (vdec b o).2.1 = t1
  by_cases c1 : (n : Int) > 65536
  · refine Ev.pos c1 ?_
    exact Ev.eq (Ev.now _) (by rw [if_pos c1])
  refine Ev.neg c1 ?_
  rw [if_neg c1, w64 (n : Int) (by omega) (by omega), Int.toNat_natCast]
  exact rld_l0 b hb hlen n (by omega) n 0 t1 [] 0 0 (by omega) rfl (by omega) (by omega)

theorem awake_ev : Ev (fun k => laminalaw07_awake.f k) true := Ev.of laminalaw07_awake.mono (k := 40) (by decide +kernel)
theorem vdec_at (pre post : List Int) (n : Nat) (hn : n < 18446744073709551616) : vdec (pre ++ (venc n ++ post)) (pre.length : Int) = ((n : Int), ((pre.length + (venc n).length : Nat) : Int), 0) := by
  have h := vd_venc pre.length (pre ++ (venc n ++ post)) post 10 0 0 n pre rfl (by decide) (by simpa using hn) (fun h => absurd h (by decide)) rfl (by omega)
  unfold vdec
  rw [if_neg (by simp only [List.length_append]; omega), Int.toNat_natCast, h]
  simp
theorem w64_fwd (p x : Int) (hp : -9223372036854775808 ≤ p ∧ p < 9223372036854775808) (hx : -9223372036854775808 ≤ x ∧ x < 9223372036854775808) : wrap64 (p + wrap64 (x - p)) = x := by
  unfold wrap64; omega
theorem w64_zero (p x : Int) (hp : -9223372036854775808 ≤ p ∧ p < 9223372036854775808) (hx : -9223372036854775808 ≤ x ∧ x < 9223372036854775808) (h : wrap64 (x - p) = 0) : p = x := by
  unfold wrap64 at h; omega
theorem zig_zero (x : Int) (h : zig x = 0) : x = 0 := by
  unfold zig at h; split at h <;> omega
theorem rdc_enc : ∀ (r : List Run) (pre post : List Int) (acc : List Run) (p tot : Int) (pp : Option Int), rvl pp (65536 - tot) r = true → (acc ≠ [] → pp = some p) → (-9223372036854775808 ≤ p ∧ p < 9223372036854775808) → (∀ y ∈ r, -9223372036854775808 ≤ y.f0 ∧ y.f0 < 9223372036854775808) → 0 ≤ tot →
    rdc (pre ++ (renc p r ++ post)) r.length pre.length acc p tot = (acc ++ r, ((pre.length + (renc p r).length : Nat) : Int), 0) := by
  intro r
  induction r with
  | nil =>
    intro pre post acc p tot pp _ _ _ _ _
    simp [rdc, renc]
  | cons x r ih =>
    intro pre post acc p tot pp hv hpp hp hw h0
    have hx := hw x List.mem_cons_self
    have hq := w64_range (x.f0 - p)
    obtain ⟨z, hz⟩ := Int.eq_ofNat_of_zero_le (zig_range _ hq.1 hq.2).1
    have hz2 := (zig_range _ hq.1 hq.2).2
    rw [hz] at hz2
    have hun : unzig (z : Int) = wrap64 (x.f0 - p) := by rw [← hz, unzig_zig]
    unfold rvl at hv
    split at hv
    · rename_i hcond
      obtain ⟨c1, c2, c3⟩ := hcond
      obtain ⟨c, hc⟩ := Int.eq_ofNat_of_zero_le (show 0 ≤ x.f1 by omega)
      have e1 : pre ++ (renc p (x :: r) ++ post) = pre ++ (venc z ++ (venc c ++ (renc x.f0 r ++ post))) := by
        simp [renc, hz, hc]
      have e2 : pre ++ (venc z ++ (venc c ++ (renc x.f0 r ++ post))) = (pre ++ venc z) ++ (venc c ++ (renc x.f0 r ++ post)) := by simp
      have e3 : pre ++ (venc z ++ (venc c ++ (renc x.f0 r ++ post))) = ((pre ++ venc z) ++ venc c) ++ (renc x.f0 r ++ post) := by simp
      have d1 := vdec_at pre (venc c ++ (renc x.f0 r ++ post)) z (by omega)
      have d2 := vdec_at (pre ++ venc z) (renc x.f0 r ++ post) c (by omega)
      rw [← e2, List.length_append] at d2
      have hr := ih ((pre ++ venc z) ++ venc c) post (acc ++ [⟨x.f0, c⟩]) x.f0 (tot + c) (some x.f0) (by rw [← hv, hc]; congr 1; omega) (fun _ => rfl) hx (fun y hy => hw y (List.mem_cons_of_mem _ hy)) (by omega)
      rw [← e3, List.length_append, List.length_append] at hr
      rw [e1, List.length_cons]
      unfold rdc
      rw [d1]
      simp only
      rw [d2]
      simp only
      rw [if_pos trivial, if_neg, if_pos trivial, if_neg (by omega), if_neg (by omega), hun, w64_fwd p x.f0 hp hx, hr]
      · simp [renc, hz, hc]
        refine ⟨?_, by omega⟩
        rw [← hc]
      · rintro ⟨q1, q2⟩
        apply c3
        rw [hpp q2]
        congr 1
        refine w64_zero p x.f0 hp hx ?_
        apply zig_zero
        rw [hz]; exact q1
    · cases hv
theorem RleEncodes : laminalaw07_RleEncodes.Pure := by
  intro l b1 b2 ⟨hll, hlw⟩ ⟨h1l, h1w⟩ h18 ⟨h2l, h2w⟩ h28 hk
  have hmx : maxLen = 9223372036854775807 := rfl
  rw [hmx] at hll
  have hw0 : ∀ y ∈ l, -9223372036854775808 ≤ y.f0 ∧ y.f0 < 9223372036854775808 := fun y hy => wf_i64 (hlw y hy).1
  have hw : ∀ y ∈ l, -9223372036854775808 ≤ y.f1 ∧ y.f1 ≤ 9223372036854775807 := fun y hy => by have := wf_i64 (hlw y hy).2; omega
  refine Ev.rounds (g := fun k => laminalaw07_RleEncodes.f k l b1 b2) ?_
  unfold laminalaw07_RleEncodes.f
  refine Ev.bind (rval_ev l (by omega) hw) ?_
  by_cases hv : rvl none 65536 l = true
  rotate_left
  · refine Ev.neg hv ?_
    exact Ev.bind awake_ev (Ev.now _)
  refine Ev.pos hv ?_
  have ht := (rvl_tot _ _ _ (by omega) hv)
  have ht2 := rvl_le _ _ _ (by omega) hv
  have hlen : l.length ≤ 65536 := by
    have : ∀ r : List Run, (∀ x ∈ r, 1 ≤ x.f1) → (r.length : Int) ≤ (r.map (·.f1)).sum := by
      intro r
      induction r with
      | nil => intro _; simp
      | cons x r ih =>
        intro h
        have := ih (fun q hq => h q (List.mem_cons_of_mem _ hq))
        have := h x List.mem_cons_self
        simp only [List.length_cons, List.map_cons, List.sum_cons]; omega
    have := this l ht.1
    omega
  have hwn : ∀ y ∈ l, 0 ≤ y.f1 ∧ y.f1 < 18446744073709551616 := fun y hy => ⟨by have := ht.1 y hy; omega, by have := ht2 y hy; omega⟩
  refine Ev.bind (rlee_ev l hlen hwn) ?_
  refine Ev.bind (rrlee_ev l hlen hwn) ?_
  refine Ev.pos rfl ?_
  have hB : (venc l.length ++ renc 0 l).length ≤ 10 + 20 * 65536 := by
    have h1 := venc_len10 l.length (by omega)
    have h2 := flat_le (rparts 0 l) (rparts_le l 0 hwn)
    rw [rparts_flat, rparts_len] at h2
    rw [List.length_append]; omega
  have hBr : ∀ x ∈ venc l.length ++ renc 0 l, 0 ≤ x ∧ x < 256 := by
    have : ∀ (r : List Run) (p : Int), ∀ x ∈ renc p r, 0 ≤ x ∧ x < 256 := by
      intro r
      induction r with
      | nil => intro p x hx; cases hx
      | cons y r ih =>
        intro p x hx
        simp only [renc, List.mem_append] at hx
        rcases hx with hx | hx | hx
        · exact venc_range _ x hx
        · exact venc_range _ x hx
        · exact ih _ x hx
    intro x hx
    rcases List.mem_append.1 hx with hx | hx
    · exact venc_range _ x hx
    · exact this _ _ x hx
  have hD := rdc_enc l (b1 ++ venc l.length) b2 [] 0 0 none hv (fun e => absurd rfl e) (by omega) hw0 (by omega)
  have hV := vdec_at b1 (renc 0 l ++ b2) l.length (by omega)
  generalize hE : venc l.length ++ renc 0 l = E at hB hBr ⊢
  have hEl : E.length = (venc l.length).length + (renc 0 l).length := by rw [← hE, List.length_append]
  refine Ev.pos (by simp; omega) ?_
  refine Ev.bind0 rfl ?_
  refine Ev.pos (by simp; omega) ?_
  refine Ev.bind0 rfl ?_
  refine Ev.pos (by simp; omega) ?_
  have eA : ([] ++ b1 ++ E) ++ b2 = b1 ++ (venc l.length ++ (renc 0 l ++ b2)) := by rw [← hE]; simp
  have eA2 : b1 ++ (venc l.length ++ (renc 0 l ++ b2)) = (b1 ++ venc l.length) ++ (renc 0 l ++ b2) := by simp
  have hR : rdec (([] ++ b1 ++ E) ++ b2) (b1.length : Int) = (l, ((b1.length + E.length : Nat) : Int), 0) := by
    rw [eA]
    unfold rdec
    rw [hV]
    simp only
    rw [if_pos trivial, if_neg (by omega), Int.toNat_natCast, eA2, ← List.length_append, hD, List.nil_append, List.length_append, hEl, Nat.add_assoc]
  have hbb : ∀ x ∈ ([] ++ b1 ++ E) ++ b2, 0 ≤ x ∧ x < 256 := by
    intro x hx
    simp only [List.nil_append, List.mem_append] at hx
    rcases hx with (hx | hx) | hx
    · exact wf_u8 (h1w x hx)
    · exact hBr x hx
    · exact wf_u8 (h2w x hx)
  refine Ev.bind (Ev.eq (rld_ev _ hbb (by simp; omega) _) hR) ?_
  refine Ev.pos rfl ?_
  refine Ev.pos (by rw [w64_add b1.length E.length (by omega)]) ?_
  refine Ev.bind (requal_ev l (by omega)) ?_
  refine Ev.pos rfl ?_
  exact Ev.bind awake_ev (Ev.now _)

end Go.Proofs.Yteamkjphdiajeaa.Pure
