/- laminalaw11.FrontcodeAt returns true for all its arguments (At returns the reference's string and error). Conditions: none beyond the row's own. -/
import Derived.Test.YteamkjphdiajeaaQFrontcodeAtx4
import Derived.Test.YteamkjphdiajeaaM01
import Derived.Test.YteamkjphdiajeaaM02
import Derived.Test.YteamkjphdiajeaaM03
set_option linter.unusedVariables false
set_option linter.unusedSimpArgs false
namespace Go.Proofs.Yteamkjphdiajeaa.Pure
open Go Go.RowKit Go.Proofs.Yteamkjphdiajeaa.QFrontcodeAt Go.Proofs.YteamkjphdiajeaaW.PrintWords Go.Proofs.YteamkjphdiajeaaW.PrintLast Go.Proofs.YteamkjphdiajeaaM

/-! ### varint.Decode and the reference's -/
theorem pow_shl (i : Nat) (hi : i ≤ 9) (c : Int) (h0 : 0 ≤ c) (h1 : c * 128 ^ i < 18446744073709551616) : shl .u64 c (7 * (i : Int)) = c * 128 ^ i := by
  have e : min (7 * (i : Int)).toNat 64 = 7 * i := by omega
  have e2 : (2 : Int) ^ (7 * i) = 128 ^ i := by rw [Int.pow_mul]; rfl
  unfold shl
  rw [show IntKind.u64.bits = 64 from rfl, e, e2]
  exact wrap_u64_of _ (Int.mul_nonneg h0 (Int.pow_nonneg (by decide))) h1
theorem dec_j2 (b : List Int) (hlen : b.length < 4611686018427387904) (o i acc c : Nat) (hi : i ≤ 9) (ho : o + i < b.length) (hc : c < 256) (hacc : acc < 128 ^ i) (f : Nat) (hf : i + f = 9)
    (h9 : ¬ (i = 9 ∧ 1 < c))
    (ih : i < 9 → acc + c % 128 * 128 ^ i < 128 ^ (i + 1) → Ev (fun k => varint_Decode.l0 k b o ((acc + c % 128 * 128 ^ i : Nat) : Int) ((i + 1 : Nat) : Int)) (vd b o f (i + 1) (acc + c % 128 * 128 ^ i))) :
    Ev (fun k => varint_Decode.j2 k b o acc i c i false)
      (if i = 9 ∧ 1 < c ∨ 0 < i ∧ c = 0 then (0, 0, 4) else if c < 128 then (((acc + c * 128 ^ i : Nat) : Int), ((o + i + 1 : Nat) : Int), 0) else vd b o f (i + 1) (acc + c % 128 * 128 ^ i)) := by
  have hp : 0 < 128 ^ i := Nat.pow_pos (by decide)
  have hple : 128 ^ i ≤ 128 ^ 9 := Nat.pow_le_pow_right (by decide) hi
  have h9v : (128 : Nat) ^ 9 = 9223372036854775808 := by decide
  have hm : c % 128 * 128 ^ i < 18446744073709551616 := by
    by_cases e : i = 9
    · subst e
      have : c ≤ 1 := by omega
      have : c % 128 ≤ 1 := by omega
      have := Nat.mul_le_mul_right (128 ^ 9) this
      omega
    · have h8 : 128 ^ i ≤ 128 ^ 8 := Nat.pow_le_pow_right (by decide) (by omega)
      have : (128 : Nat) ^ 8 = 72057594037927936 := by decide
      have : c % 128 * 128 ^ i ≤ 127 * 72057594037927936 := Nat.mul_le_mul (by omega) (by omega)
      omega
  have hlow : c % 128 * 128 ^ i + 128 ^ i ≤ 128 ^ (i + 1) := by
    rw [pow128, ← Nat.succ_mul]
    exact Nat.mul_le_mul_right _ (by omega)
  have hs : shl .u64 (IntKind.u64.wrap (Go.bits .and .u8 c 127)) (wrap64 (7 * (i : Int))) = ((c % 128 * 128 ^ i : Nat) : Int) := by
    rw [and_127 _ (by omega) (by omega), w64 _ (by omega) (by omega), wrap_u64_of _ (by omega) (by omega), pow_shl i hi _ (by omega)]
    · push_cast; rfl
    · have : ((c % 128 * 128 ^ i : Nat) : Int) < 18446744073709551616 := by omega
      push_cast at this
      exact this
  have hor : Go.bits .or .u64 acc ((c % 128 * 128 ^ i : Nat) : Int) = ((acc + c % 128 * 128 ^ i : Nat) : Int) := by
    rw [or_add (7 * i) _ _ (by omega) ?_ (by omega) (by omega) (by omega) ?_]
    · push_cast; rfl
    · have e2 : (2 : Int) ^ (7 * i) = ((128 ^ i : Nat) : Int) := by rw [Int.pow_mul]; simp
      rw [e2]; omega
    · have e2 : (2 : Int) ^ (7 * i) = ((128 ^ i : Nat) : Int) := by rw [Int.pow_mul]; simp
      rw [e2]
      push_cast
      exact Int.mul_emod_left _ _
  refine Ev.succ ?_
  simp only [varint_Decode.j2, hs, hor, w64_add1 i (by omega), w64_add_1 o i (by omega)]
  clear hs hor
  refine Ev.neg (by decide) ?_
  refine Ev.pos (by rw [w64 _ (by omega) (by omega)]; omega) ?_
  by_cases h2 : c < 128
  · refine Ev.neg (by omega) ?_
    have hcm : c % 128 = c := Nat.mod_eq_of_lt h2
    by_cases h0 : c = 0
    · refine Ev.pos (by omega) ?_
      by_cases hi0 : 0 < i
      · refine Ev.pos (by omega) ?_
        exact Ev.eq (Ev.now _) (by rw [if_pos (Or.inr ⟨hi0, h0⟩)])
      · refine Ev.neg (by omega) ?_
        exact Ev.eq (Ev.now _) (by rw [if_neg (by omega), if_pos h2, hcm])
    · refine Ev.neg (by omega) ?_
      exact Ev.eq (Ev.now _) (by rw [if_neg (by omega), if_pos h2, hcm])
  · refine Ev.pos (by omega) ?_
    exact Ev.eq (ih (by omega) (by omega)) (by rw [if_neg (by omega), if_neg h2])
theorem dec_l0 (b : List Int) (hb : ∀ x ∈ b, 0 ≤ x ∧ x < 256) (hlen : b.length < 4611686018427387904) (o : Nat) (ho : o ≤ b.length) :
    ∀ (f i acc : Nat), i + f = 10 → acc < 128 ^ i → Ev (fun k => varint_Decode.l0 k b o acc i) (vd b o f i acc) := by
  intro f
  induction f with
  | zero =>
    intro i acc hi ha
    refine Ev.succ ?_
    simp only [varint_Decode.l0]
    refine Ev.neg (by omega) ?_
    exact Ev.now _
  | succ f ih =>
    intro i acc hi ha
    refine Ev.succ ?_
    simp only [varint_Decode.l0, w64_add o i (by omega), rd_nat]
    refine Ev.pos (by omega) ?_
    unfold vd
    by_cases hl : b.length ≤ o + i
    · refine Ev.pos (by omega) ?_
      exact Ev.eq (Ev.now _) (by rw [if_pos hl])
    refine Ev.neg (by omega) ?_
    refine Ev.pos (by omega) ?_
    refine Ev.pos (by omega) ?_
    rw [if_neg hl]
    have hr := getD_range hb (i := o + i) (by omega)
    obtain ⟨c, hc⟩ := Int.eq_ofNat_of_zero_le hr.1
    simp only [hc, Int.toNat_natCast]
    rw [hc] at hr
    have hstep : ¬ (i = 9 ∧ 1 < c) → Ev (fun k => varint_Decode.j2 k b o acc i c i false) (if i = 9 ∧ 1 < c ∨ 0 < i ∧ c = 0 then (0, 0, 4) else if c < 128 then (((acc + c * 128 ^ i : Nat) : Int), ((o + i + 1 : Nat) : Int), 0) else vd b o f (i + 1) (acc + c % 128 * 128 ^ i)) := fun h =>
      dec_j2 b hlen o i acc c (by omega) (by omega) (by omega) ha f (by omega) h (fun h1 h2 => ih (i + 1) _ (by omega) h2)
    by_cases h9 : i = 9
    · refine Ev.pos (by omega) ?_
      by_cases h1 : 1 < c
      · have : decide ((c : Int) > 1) = true := by simp; omega
        rw [this, if_pos (Or.inl ⟨h9, h1⟩)]
        refine Ev.succ ?_
        simp only [varint_Decode.j2]
        refine Ev.pos (by decide) ?_
        exact Ev.now _
      · have : decide ((c : Int) > 1) = false := by simp; omega
        rw [this]
        exact hstep (by omega)
    · refine Ev.neg (by omega) ?_
      exact hstep (by omega)
theorem dec_ev (b : List Int) (hb : ∀ x ∈ b, 0 ≤ x ∧ x < 256) (hlen : b.length < 4611686018427387904) (o : Int) : Ev (fun k => varint_Decode.f k b o) (vdec b o) := by
  unfold varint_Decode.f vdec
  by_cases h0 : o < 0
  · refine Ev.pos h0 ?_
    rw [if_pos (Or.inl h0)]
    refine Ev.succ ?_
    simp only [varint_Decode.j0]
    refine Ev.pos (by decide) ?_
    exact Ev.now _
  refine Ev.neg h0 ?_
  refine Ev.succ ?_
  simp only [varint_Decode.j0]
  by_cases h1 : (b.length : Int) < o
  · refine Ev.pos (by simpa using h1) ?_
    exact Ev.eq (Ev.now _) (by rw [if_pos (Or.inr h1)])
  · refine Ev.neg (by simpa using h1) ?_
    obtain ⟨n, rfl⟩ := Int.eq_ofNat_of_zero_le (show 0 ≤ o by omega)
    rw [if_neg (by omega), Int.toNat_natCast]
    exact dec_l0 b hb hlen n (by omega) 10 0 0 rfl (by decide)

theorem rdec_j2 (b : List Int) (hlen : b.length < 4611686018427387904) (o i acc c : Nat) (hi : i ≤ 9) (ho : o + i < b.length) (hc : c < 256) (hacc : acc < 128 ^ i) (f : Nat) (hf : i + f = 9)
    (h9 : ¬ (i = 9 ∧ 1 < c)) (h0 : ¬ (0 < i ∧ c = 0))
    (ih : i < 9 → acc + c % 128 * 128 ^ i < 128 ^ (i + 1) → Ev (fun k => laminaref01_Decode.l0 k b o ((acc + c % 128 * 128 ^ i : Nat) : Int) ((128 ^ (i + 1) : Nat) : Int) ((i + 1 : Nat) : Int)) (vd b o f (i + 1) (acc + c % 128 * 128 ^ i))) :
    Ev (fun k => laminaref01_Decode.j2 k b o acc ((128 ^ i : Nat) : Int) i c false)
      (if i = 9 ∧ 1 < c ∨ 0 < i ∧ c = 0 then (0, 0, 4) else if c < 128 then (((acc + c * 128 ^ i : Nat) : Int), ((o + i + 1 : Nat) : Int), 0) else vd b o f (i + 1) (acc + c % 128 * 128 ^ i)) := by
  have hp : 0 < 128 ^ i := Nat.pow_pos (by decide)
  have hple : 128 ^ i ≤ 128 ^ 9 := Nat.pow_le_pow_right (by decide) hi
  have h9v : (128 : Nat) ^ 9 = 9223372036854775808 := by decide
  have hm : acc + c % 128 * 128 ^ i < 18446744073709551616 := by
    by_cases e : i = 9
    · subst e
      have : c % 128 ≤ 1 := by omega
      have := Nat.mul_le_mul_right (128 ^ 9) this
      omega
    · have h8 : 128 ^ i ≤ 128 ^ 8 := Nat.pow_le_pow_right (by decide) (by omega)
      have : (128 : Nat) ^ 8 = 72057594037927936 := by decide
      have : c % 128 * 128 ^ i ≤ 127 * 72057594037927936 := Nat.mul_le_mul (by omega) (by omega)
      omega
  have hlow : c % 128 * 128 ^ i + 128 ^ i ≤ 128 ^ (i + 1) := by
    rw [pow128, ← Nat.succ_mul]
    exact Nat.mul_le_mul_right _ (by omega)
  have ht : Int.tmod (c : Int) 128 = ((c % 128 : Nat) : Int) := by rw [Int.tmod_eq_emod_of_nonneg (by omega)]; rfl
  have hs : IntKind.u64.wrap ((acc : Int) + IntKind.u64.wrap (IntKind.u64.wrap (Int.tmod (c : Int) 128) * ((128 ^ i : Nat) : Int))) = ((acc + c % 128 * 128 ^ i : Nat) : Int) := by
    rw [ht, wrap_u64_of ((c % 128 : Nat) : Int) (by omega) (by omega)]
    have e : ((c % 128 : Nat) : Int) * ((128 ^ i : Nat) : Int) = ((c % 128 * 128 ^ i : Nat) : Int) := by push_cast; rfl
    rw [e, wrap_u64_of ((c % 128 * 128 ^ i : Nat) : Int) (by omega) (by omega), wrap_u64_of _ (by omega) (by omega)]
    push_cast; rfl
  refine Ev.succ ?_
  simp only [laminaref01_Decode.j2, hs, w64_add1 i (by omega), w64_add_1 o i (by omega)]
  clear hs
  refine Ev.neg (by decide) ?_
  by_cases h2 : c < 128
  · refine Ev.pos (by omega) ?_
    exact Ev.eq (Ev.now _) (by rw [if_neg (by omega), if_pos h2, Nat.mod_eq_of_lt h2])
  · refine Ev.neg (by omega) ?_
    have hu : IntKind.u64.wrap (((128 ^ i : Nat) : Int) * 128) = ((128 ^ (i + 1) : Nat) : Int) := by
      have hle : 128 ^ (i + 1) ≤ 128 ^ 9 := Nat.pow_le_pow_right (by decide) (by omega)
      rw [wrap_u64_of _ (by omega) (by rw [pow128] at hle; omega), pow128]
      push_cast
      omega
    rw [hu]
    exact Ev.eq (ih (by omega) (by omega)) (by rw [if_neg (by omega), if_neg h2])
theorem rdec_l0 (b : List Int) (hb : ∀ x ∈ b, 0 ≤ x ∧ x < 256) (hlen : b.length < 4611686018427387904) (o : Nat) (ho : o ≤ b.length) :
    ∀ (f i acc : Nat), i + f = 10 → 1 ≤ f → acc < 128 ^ i → Ev (fun k => laminaref01_Decode.l0 k b o acc ((128 ^ i : Nat) : Int) i) (vd b o f i acc) := by
  intro f
  induction f with
  | zero => intro i acc hi h1; omega
  | succ f ih =>
    intro i acc hi _ ha
    refine Ev.succ ?_
    simp only [laminaref01_Decode.l0, w64_add o i (by omega), rd_nat]
    unfold vd
    by_cases hl : b.length ≤ o + i
    · refine Ev.pos (by omega) ?_
      exact Ev.eq (Ev.now _) (by rw [if_pos hl])
    refine Ev.neg (by omega) ?_
    refine Ev.pos (by omega) ?_
    refine Ev.pos (by omega) ?_
    rw [if_neg hl]
    have hr := getD_range hb (i := o + i) (by omega)
    obtain ⟨c, hc⟩ := Int.eq_ofNat_of_zero_le hr.1
    simp only [hc, Int.toNat_natCast]
    rw [hc] at hr
    have bad : (i = 9 ∧ 1 < c ∨ 0 < i ∧ c = 0) → Ev (fun k => laminaref01_Decode.j2 k b o acc ((128 ^ i : Nat) : Int) i c true) (if i = 9 ∧ 1 < c ∨ 0 < i ∧ c = 0 then (0, 0, 4) else if c < 128 then (((acc + c * 128 ^ i : Nat) : Int), ((o + i + 1 : Nat) : Int), 0) else vd b o f (i + 1) (acc + c % 128 * 128 ^ i)) := fun h => by
      rw [if_pos h]
      refine Ev.succ ?_
      simp only [laminaref01_Decode.j2]
      refine Ev.pos (by decide) ?_
      exact Ev.now _
    have good : ¬ (i = 9 ∧ 1 < c) → ¬ (0 < i ∧ c = 0) → Ev (fun k => laminaref01_Decode.j2 k b o acc ((128 ^ i : Nat) : Int) i c false) (if i = 9 ∧ 1 < c ∨ 0 < i ∧ c = 0 then (0, 0, 4) else if c < 128 then (((acc + c * 128 ^ i : Nat) : Int), ((o + i + 1 : Nat) : Int), 0) else vd b o f (i + 1) (acc + c % 128 * 128 ^ i)) := fun h h' =>
      rdec_j2 b hlen o i acc c (by omega) (by omega) (by omega) ha f (by omega) h h' (fun h1 h2 => ih (i + 1) _ (by omega) (by omega) h2)
    have zero : ((c : Int) == 0) = decide (c = 0) := by
      rw [Bool.eq_iff_iff, beq_iff_eq, decide_eq_true_iff]; omega
    by_cases h9 : i = 9
    · refine Ev.pos (by omega) ?_
      by_cases h1 : 1 < c
      · exact Ev.pos (by omega) (bad (by omega))
      · refine Ev.neg (by omega) ?_
        refine Ev.pos (by omega) ?_
        rw [zero]
        by_cases h0 : c = 0
        · rw [decide_eq_true h0]; exact bad (by omega)
        · rw [decide_eq_false h0]; exact good (by omega) (by omega)
    · refine Ev.neg (by omega) ?_
      by_cases hi0 : 0 < i
      · refine Ev.pos (by omega) ?_
        rw [zero]
        by_cases h0 : c = 0
        · rw [decide_eq_true h0]; exact bad (by omega)
        · rw [decide_eq_false h0]; exact good (by omega) (by omega)
      · exact Ev.neg (by omega) (good (by omega) (by omega))
theorem rdec_ev (b : List Int) (hb : ∀ x ∈ b, 0 ≤ x ∧ x < 256) (hlen : b.length < 4611686018427387904) (o : Int) : Ev (fun k => laminaref01_Decode.f k b o) (vdec b o) := by
  unfold laminaref01_Decode.f vdec
  by_cases h0 : o < 0
  · refine Ev.pos h0 ?_
    rw [if_pos (Or.inl h0)]
    refine Ev.succ ?_
    simp only [laminaref01_Decode.j0]
    refine Ev.pos (by decide) ?_
    exact Ev.now _
  refine Ev.neg h0 ?_
  refine Ev.succ ?_
  simp only [laminaref01_Decode.j0]
  by_cases h1 : (b.length : Int) < o
  · refine Ev.pos (by simpa using h1) ?_
    exact Ev.eq (Ev.now _) (by rw [if_pos (Or.inr h1)])
  · refine Ev.neg (by simpa using h1) ?_
    obtain ⟨n, rfl⟩ := Int.eq_ofNat_of_zero_le (show 0 ≤ o by omega)
    rw [if_neg (by omega), Int.toNat_natCast]
    exact rdec_l0 b hb hlen n (by omega) 10 0 0 rfl (by decide) (by decide)

/-! ### common prefixes -/
def cp : List Int → List Int → Nat
  | x :: a, y :: b => if x = y then cp a b + 1 else 0
  | _, _ => 0
theorem cp_nil (b : List Int) : cp [] b = 0 := rfl
theorem cp_nil2 (a : List Int) : cp a [] = 0 := by cases a <;> rfl
theorem cp_le : ∀ (a b : List Int), cp a b ≤ a.length ∧ cp a b ≤ b.length := by
  intro a
  induction a with
  | nil => intro b; simp [cp]
  | cons x a ih =>
    intro b
    cases b with
    | nil => simp [cp]
    | cons y b =>
      have := ih b
      simp only [cp]
      split <;> simp <;> omega
theorem cp_take : ∀ (a r : List Int) (k : Nat), k ≤ a.length → k ≤ cp a (a.take k ++ r) := by
  intro a
  induction a with
  | nil => intro r k h; simp at h; omega
  | cons x a ih =>
    intro r k h
    cases k with
    | zero => exact Nat.zero_le _
    | succ k =>
      have := ih r k (by simpa using h)
      simp only [List.take_succ_cons, List.cons_append, cp, if_true]
      omega
theorem bt_nat (s : ByteArray) (i : Nat) : bt s (i : Int) = (bytesOf s).getD i 0 := by rw [← rd_bytesOf, rd_nat]
theorem drop_at {l : List Int} {i : Nat} (h : i < l.length) : l.drop i = l.getD i 0 :: l.drop (i + 1) := by
  rw [List.drop_eq_getElem_cons h]; simp [List.getD_eq_getElem?_getD, List.getElem?_eq_getElem h]
theorem tm16 (i : Nat) : Int.tmod (i : Int) 16 = ((i % 16 : Nat) : Int) := by rw [Int.tmod_eq_emod_of_nonneg (by omega)]; omega

theorem icp_l0 (a b : ByteArray) (ha : a.size ≤ 4000000000) : ∀ (d i : Nat), i + d = a.size → Ev (fun k => frontcode_CommonPrefix.l0 k a b (i : Int)) ((i + cp ((bytesOf a).drop i) ((bytesOf b).drop i) : Nat) : Int) := by
  have hA := bytesOf_length a
  have hB := bytesOf_length b
  intro d
  induction d with
  | zero =>
    intro i h
    rw [List.drop_of_length_le (show (bytesOf a).length ≤ i by omega), cp_nil]
    refine Ev.succ ?_
    simp only [frontcode_CommonPrefix.l0]
    refine Ev.neg (by omega) ?_
    exact Ev.now _
  | succ d ih =>
    intro i h
    rw [drop_at (show i < (bytesOf a).length by omega)]
    refine Ev.succ ?_
    simp only [frontcode_CommonPrefix.l0, w64_add1 i (by omega), bt_nat]
    refine Ev.pos (by omega) ?_
    by_cases h1 : i < b.size
    · rw [drop_at (show i < (bytesOf b).length by omega)]
      refine Ev.pos (by omega) ?_
      refine Ev.pos (by omega) ?_
      by_cases h2 : (bytesOf a).getD i 0 = (bytesOf b).getD i 0
      · refine Ev.pos h2 ?_
        refine Ev.eq (ih (i + 1) (by omega)) ?_
        simp only [cp, h2, if_true]
        congr 1; omega
      · refine Ev.neg h2 ?_
        simp only [cp]
        rw [if_neg h2]
        exact Ev.now _
    · refine Ev.neg (by omega) ?_
      rw [List.drop_of_length_le (show (bytesOf b).length ≤ i by omega), cp_nil2]
      exact Ev.now _
theorem icp_ev (a b : ByteArray) (ha : a.size ≤ 4000000000) : Ev (fun k => frontcode_CommonPrefix.f k a b) ((cp (bytesOf a) (bytesOf b) : Nat) : Int) := by
  have := icp_l0 a b ha a.size 0 (by omega)
  unfold frontcode_CommonPrefix.f
  simpa using this

theorem rcp_l0 (a b : ByteArray) (ha : a.size ≤ 4000000000) : ∀ (d i : Nat), i + d = a.size → Ev (fun k => laminaref11_CommonPrefix.l0 k a b (i : Int)) ((i + cp ((bytesOf a).drop i) ((bytesOf b).drop i) : Nat) : Int) := by
  have hA := bytesOf_length a
  have hB := bytesOf_length b
  intro d
  induction d with
  | zero =>
    intro i h
    rw [List.drop_of_length_le (show (bytesOf a).length ≤ i by omega), cp_nil]
    refine Ev.succ ?_
    simp only [laminaref11_CommonPrefix.l0]
    refine Ev.neg (by omega) ?_
    exact Ev.now _
  | succ d ih =>
    intro i h
    rw [drop_at (show i < (bytesOf a).length by omega)]
    refine Ev.succ ?_
    simp only [laminaref11_CommonPrefix.l0, w64_add1 i (by omega), bt_nat]
    refine Ev.pos (by omega) ?_
    by_cases h1 : i < b.size
    · rw [drop_at (show i < (bytesOf b).length by omega)]
      refine Ev.pos (by omega) ?_
      refine Ev.pos (by omega) ?_
      by_cases h2 : (bytesOf a).getD i 0 = (bytesOf b).getD i 0
      · refine Ev.pos h2 ?_
        refine Ev.eq (ih (i + 1) (by omega)) ?_
        simp only [cp, h2, if_true]
        congr 1; omega
      · refine Ev.neg h2 ?_
        simp only [cp]
        rw [if_neg h2]
        exact Ev.now _
    · refine Ev.neg (by omega) ?_
      rw [List.drop_of_length_le (show (bytesOf b).length ≤ i by omega), cp_nil2]
      exact Ev.now _
theorem rcp_ev (a b : ByteArray) (ha : a.size ≤ 4000000000) : Ev (fun k => laminaref11_CommonPrefix.f k a b) ((cp (bytesOf a) (bytesOf b) : Nat) : Int) := by
  have := rcp_l0 a b ha a.size 0 (by omega)
  unfold laminaref11_CommonPrefix.f
  simpa using this

/-! ### one string -/
theorem vdec_ok {b : List Int} (hb : ∀ x ∈ b, 0 ≤ x ∧ x < 256) {o v t : Int} (h : vdec b o = (v, t, 0)) : ∃ n : Nat, v = (n : Int) ∧ n < 18446744073709551616 ∧ 0 ≤ o ∧ t = o + ((venc n).length : Int) ∧ t ≤ (b.length : Int) ∧ (b.drop o.toNat).take (venc n).length = venc n := by
  unfold vdec at h
  split at h
  · cases h
  · rename_i ho
    obtain ⟨n, h1, h2, _, h3, h4, h5⟩ := vd_ok o.toNat b hb 10 0 0 v t rfl h
    refine ⟨n, by simpa using h1, by simpa using h2, by omega, by omega, by omega, by simpa using h5⟩
def txt (b : List Int) (s : ByteArray) (k m at_ : Int) : ByteArray := strOfNums ((bytesOf s).take k.toNat ++ (b.drop at_.toNat).take m.toNat)
def nx (b : List Int) (o : Int) (i : Nat) (s : ByteArray) : ByteArray × Int × Int :=
  let d1 := vdec b o
  if d1.2.2 = 0 then
    (if d1.1 > (s.size : Int) ∨ (i % 16 = 0 ∧ d1.1 > 0) then (⟨#[]⟩, 0, 4) else
      let d2 := vdec b d1.2.1
      if d2.2.2 = 0 then
        (if d2.1 > (b.length : Int) - d2.2.1 then (⟨#[]⟩, 0, 2) else
          if i % 16 = 0 then (txt b s d1.1 d2.1 d2.2.1, d2.2.1 + d2.1, 0) else
            if (cp (bytesOf s) (bytesOf (txt b s d1.1 d2.1 d2.2.1)) : Int) > d1.1 then (⟨#[]⟩, 0, 4) else (txt b s d1.1 d2.1 d2.2.1, d2.2.1 + d2.1, 0))
      else (⟨#[]⟩, 0, d2.2.2))
  else (⟨#[]⟩, 0, d1.2.2)
theorem vdec_rng {b : List Int} (hb : ∀ x ∈ b, 0 ≤ x ∧ x < 256) {o : Int} (h : (vdec b o).2.2 = 0) : 0 ≤ (vdec b o).1 ∧ (vdec b o).1 < 18446744073709551616 ∧ 0 ≤ (vdec b o).2.1 ∧ (vdec b o).2.1 ≤ (b.length : Int) := by
  obtain ⟨v, t, e, hv⟩ : ∃ v t e, vdec b o = (v, t, e) := ⟨_, _, _, rfl⟩
  rw [hv] at h ⊢
  simp only at h
  subst h
  obtain ⟨n, h1, h2, h3, h4, h5, _⟩ := vdec_ok hb hv
  refine ⟨by omega, by omega, by simp only; omega, by simpa using h5⟩
theorem str_data (l : List Int) : bytesOf (strOfNums l) = l.map fun n => (((UInt8.ofNat n.toNat).toNat : Nat) : Int) := by
  unfold bytesOf
  rw [strOfNums_data, List.map_map]; rfl
theorem bytes_str (l : List Int) (h : ∀ x ∈ l, 0 ≤ x ∧ x < 256) : bytesOf (strOfNums l) = l := by
  rw [str_data]
  induction l with
  | nil => rfl
  | cons c l ih =>
    have hc := h c List.mem_cons_self
    rw [List.map_cons, ih (fun x hx => h x (List.mem_cons_of_mem _ hx))]
    congr 1
    simp [UInt8.ofNat, UInt8.toNat]
    omega
theorem bytesOf_range (s : ByteArray) : ∀ x ∈ bytesOf s, 0 ≤ x ∧ x < 256 := by
  intro x hx
  unfold bytesOf at hx
  obtain ⟨c, _, rfl⟩ := List.mem_map.1 hx
  have := c.toNat_lt
  omega
theorem ba_ext {a b : ByteArray} (h : bytesOf a = bytesOf b) : a = b := by
  have hinj : ∀ (x y : List UInt8), (x.map fun c => (c.toNat : Int)) = (y.map fun c => (c.toNat : Int)) → x = y := by
    intro x
    induction x with
    | nil => intro y h; cases y with
      | nil => rfl
      | cons c y => simp at h
    | cons c x ih => intro y h; cases y with
      | nil => simp at h
      | cons d y =>
        simp only [List.map_cons, List.cons.injEq] at h
        have h1 := h.1
        rw [ih y h.2, show c = d from UInt8.toNat_inj.1 (by omega)]
  obtain ⟨a⟩ := a
  obtain ⟨b⟩ := b
  have := hinj a.toList b.toList h
  rw [Array.toList_inj.1 this]
theorem txt_range (b : List Int) (hb : ∀ x ∈ b, 0 ≤ x ∧ x < 256) (s : ByteArray) (k m at_ : Int) : bytesOf (txt b s k m at_) = (bytesOf s).take k.toNat ++ (b.drop at_.toNat).take m.toNat := by
  unfold txt
  refine bytes_str _ (fun x hx => ?_)
  rcases List.mem_append.1 hx with h | h
  · exact bytesOf_range s x (List.mem_of_mem_take h)
  · exact hb x (List.mem_of_mem_drop (List.mem_of_mem_take h))
theorem txt_size (b : List Int) (s : ByteArray) (k m at_ : Int) : (txt b s k m at_).size ≤ s.size + b.length := by
  unfold txt
  rw [strOfNums_size, List.length_append, List.length_take, List.length_take, List.length_drop, bytesOf_length]
  omega
theorem nx_size (b : List Int) (o : Int) (i : Nat) (s : ByteArray) : (nx b o i s).1.size ≤ s.size + b.length := by
  have h := txt_size b s
  unfold nx
  simp only
  split
  · split
    · exact Nat.zero_le _
    · split
      · split
        · exact Nat.zero_le _
        · split
          · exact h _ _ _
          · split
            · exact Nat.zero_le _
            · exact h _ _ _
      · exact Nat.zero_le _
  · exact Nat.zero_le _

theorem inx_ev (b : List Int) (hb : ∀ x ∈ b, 0 ≤ x ∧ x < 256) (hl : b.length ≤ 1000000) (o : Int) (i : Nat) (hi : i ≤ 1000000) (s : ByteArray) (hs : s.size ≤ 900000000) : Ev (fun k => frontcode_next.f k b o (i : Int) s) (nx b o i s) := by
  unfold frontcode_next.f nx
  refine Ev.pos ⟨by omega, by omega, by omega, by omega⟩ ?_
  simp only [tm16]
  refine Ev.bind (dec_ev b hb (by omega) o) ?_
  by_cases h1 : (vdec b o).2.2 = 0
  · obtain ⟨r1, r2, r3, r4⟩ := vdec_rng hb h1
    refine Ev.pos h1 ?_
    rw [if_pos h1]
    refine Ev.pos ⟨r1, r2⟩ ?_
    by_cases h2 : (vdec b o).1 > (s.size : Int) ∨ (i % 16 = 0 ∧ (vdec b o).1 > 0)
    · rw [if_pos h2]
      refine Ev.pos (by omega) ?_
      exact Ev.now _
    · rw [if_neg h2]
      refine Ev.neg (by omega) ?_
      refine Ev.bind (dec_ev b hb (by omega) _) ?_
      by_cases h3 : (vdec b (vdec b o).2.1).2.2 = 0
      · obtain ⟨q1, q2, q3, q4⟩ := vdec_rng hb h3
        refine Ev.pos h3 ?_
        rw [if_pos h3]
        refine Ev.pos ⟨q1, q2, q3, q4⟩ ?_
        by_cases h4 : (vdec b (vdec b o).2.1).1 > (b.length : Int) - (vdec b (vdec b o).2.1).2.1
        · refine Ev.pos h4 ?_
          rw [if_pos h4]
          exact Ev.now _
        · refine Ev.neg h4 ?_
          rw [if_neg h4]
          by_cases h5 : i % 16 = 0
          · refine Ev.pos (by omega) ?_
            rw [if_pos h5]
            exact Ev.now _
          · refine Ev.neg (by omega) ?_
            rw [if_neg h5]
            refine Ev.bind (icp_ev s _ (by omega)) ?_
            by_cases h6 : (cp (bytesOf s) (bytesOf (txt b s (vdec b o).1 (vdec b (vdec b o).2.1).1 (vdec b (vdec b o).2.1).2.1)) : Int) > (vdec b o).1
            · rw [if_pos h6]
              refine Ev.pos h6 ?_
              exact Ev.now _
            · rw [if_neg h6]
              refine Ev.neg h6 ?_
              exact Ev.now _
      · refine Ev.neg h3 ?_
        rw [if_neg h3]
        exact Ev.now _
  · refine Ev.neg h1 ?_
    rw [if_neg h1]
    exact Ev.now _

theorem txtR_eq (b : List Int) (hb : ∀ x ∈ b, 0 ≤ x ∧ x < 256) (s : ByteArray) (k m a : Int) (hk : 0 ≤ k) (hm : 0 ≤ m) (ha : 0 ≤ a) : nextTextR b s k m a = txt b s k m a := by
  have hp : bytesOf (s.extract 0 k.toNat) = (bytesOf s).take k.toNat := by
    unfold bytesOf
    rw [ByteArray.data_extract]
    simp
  have happ : ∀ x y : ByteArray, bytesOf (x ++ y) = bytesOf x ++ bytesOf y := by
    intro x y
    unfold bytesOf
    rw [ByteArray.data_append]
    simp
  refine ba_ext ?_
  unfold nextTextR
  rw [happ, hp, txt_range b hb, bytes_str _ (fun x hx => hb x (List.mem_of_mem_take (List.mem_of_mem_drop hx)))]
  congr 1
  rw [List.drop_take, show (a + m).toNat - a.toNat = m.toNat by omega]
theorem rnx_ev (b : List Int) (hb : ∀ x ∈ b, 0 ≤ x ∧ x < 256) (hl : b.length ≤ 1000000) (o : Int) (i : Nat) (hi : i ≤ 1000000) (s : ByteArray) (hs : s.size ≤ 900000000) : Ev (fun k => laminaref11_next.f k b o (i : Int) s) (nx b o i s) := by
  unfold laminaref11_next.f nx
  refine Ev.pos ⟨by omega, by omega, by omega, by omega⟩ ?_
  simp only [tm16]
  refine Ev.bind (rdec_ev b hb (by omega) o) ?_
  by_cases h1 : (vdec b o).2.2 = 0
  · obtain ⟨r1, r2, r3, r4⟩ := vdec_rng hb h1
    refine Ev.pos h1 ?_
    rw [if_pos h1]
    refine Ev.pos ⟨r1, r2⟩ ?_
    by_cases h2 : (vdec b o).1 > (s.size : Int) ∨ (i % 16 = 0 ∧ (vdec b o).1 > 0)
    · rw [if_pos h2]
      refine Ev.pos (by omega) ?_
      exact Ev.now _
    · rw [if_neg h2]
      refine Ev.neg (by omega) ?_
      refine Ev.bind (rdec_ev b hb (by omega) _) ?_
      by_cases h3 : (vdec b (vdec b o).2.1).2.2 = 0
      · obtain ⟨q1, q2, q3, q4⟩ := vdec_rng hb h3
        refine Ev.pos h3 ?_
        rw [if_pos h3]
        refine Ev.pos ⟨q1, q2, q3, q4⟩ ?_
        by_cases h4 : (vdec b (vdec b o).2.1).1 > (b.length : Int) - (vdec b (vdec b o).2.1).2.1
        · refine Ev.pos h4 ?_
          rw [if_pos h4]
          exact Ev.now _
        · refine Ev.neg h4 ?_
          rw [if_neg h4, txtR_eq b hb s _ _ _ r1 q1 q3]
          by_cases h5 : i % 16 = 0
          · refine Ev.pos (by omega) ?_
            rw [if_pos h5]
            exact Ev.now _
          · refine Ev.neg (by omega) ?_
            rw [if_neg h5]
            refine Ev.bind (rcp_ev s _ (by omega)) ?_
            have hge := cp_take (bytesOf s) ((b.drop (vdec b (vdec b o).2.1).2.1.toNat).take (vdec b (vdec b o).2.1).1.toNat) (vdec b o).1.toNat (by rw [bytesOf_length]; omega)
            rw [← txt_range b hb] at hge
            by_cases h6 : (cp (bytesOf s) (bytesOf (txt b s (vdec b o).1 (vdec b (vdec b o).2.1).1 (vdec b (vdec b o).2.1).2.1)) : Int) > (vdec b o).1
            · rw [if_pos h6]
              refine Ev.neg (by omega) ?_
              exact Ev.now _
            · rw [if_neg h6]
              refine Ev.pos (by omega) ?_
              exact Ev.now _
      · refine Ev.neg h3 ?_
        rw [if_neg h3]
        exact Ev.now _
  · refine Ev.neg h1 ?_
    rw [if_neg h1]
    exact Ev.now _

/-! ### lists of strings -/
def dl (b : List Int) : Nat → Nat → Int → ByteArray → List ByteArray → List ByteArray × Int × Int
  | 0, _, o, _, acc => (acc, o, 0)
  | d + 1, i, o, s, acc => if (nx b o i s).2.2 = 0 then dl b d (i + 1) (nx b o i s).2.1 (nx b o i s).1 (acc ++ [(nx b o i s).1]) else ([], 0, (nx b o i s).2.2)
def dcd (b : List Int) (o n : Int) : List ByteArray × Int × Int := if 0 ≤ o ∧ o ≤ (b.length : Int) ∧ 0 ≤ n ∧ n ≤ 65536 then dl b n.toNat 0 o ⟨#[]⟩ [] else ([], 0, 1)
theorem dl_len (b : List Int) : ∀ (d i : Nat) (o : Int) (s : ByteArray) (acc : List ByteArray), (dl b d i o s acc).1.length ≤ acc.length + d := by
  intro d
  induction d with
  | zero => intro i o s acc; exact Nat.le_refl _
  | succ d ih =>
    intro i o s acc
    simp only [dl]
    split
    · have := ih (i + 1) (nx b o i s).2.1 (nx b o i s).1 (acc ++ [(nx b o i s).1])
      simp only [List.length_append, List.length_cons, List.length_nil] at this
      omega
    · exact Nat.zero_le _
theorem dcd_len (b : List Int) (o n : Int) : (dcd b o n).1.length ≤ 65536 := by
  unfold dcd
  split
  · have := dl_len b n.toNat 0 o ⟨#[]⟩ []
    simp only [List.length_nil] at this
    omega
  · exact Nat.zero_le _
theorem step_size (b : List Int) (hl : b.length ≤ 13000) (o : Int) (i : Nat) (s : ByteArray) (hs : s.size ≤ i * 13000) : (nx b o i s).1.size ≤ (i + 1) * 13000 := by
  have := nx_size b o i s
  omega

theorem idl_ev (b : List Int) (hb : ∀ x ∈ b, 0 ≤ x ∧ x < 256) (hl : b.length ≤ 13000) (n : Nat) (hn : n ≤ 65536) : ∀ (d i : Nat) (o : Int) (s : ByteArray) (acc : List ByteArray), i + d = n → s.size ≤ i * 13000 → acc.length = i →
    Ev (fun k => frontcode_Decode.l0 k b o acc s (n : Int) (i : Int)) (dl b d i o s acc) := by
  intro d
  induction d with
  | zero =>
    intro i o s acc h hs ha
    refine Ev.succ ?_
    simp only [frontcode_Decode.l0]
    refine Ev.neg (by omega) ?_
    exact Ev.now _
  | succ d ih =>
    intro i o s acc h hs ha
    have hst := step_size b hl o i s hs
    refine Ev.succ ?_
    simp only [frontcode_Decode.l0, w64_add1 i (by omega), dl]
    refine Ev.pos (by omega) ?_
    refine Ev.bind (inx_ev b hb (by omega) o i (by omega) s (by omega)) ?_
    by_cases h1 : (nx b o i s).2.2 = 0
    · rw [if_pos h1]
      refine Ev.pos h1 ?_
      refine Ev.pos (by omega) ?_
      exact ih (i + 1) _ _ _ (by omega) hst (by simp [ha])
    · rw [if_neg h1]
      refine Ev.neg h1 ?_
      exact Ev.now _
theorem ival (b : List Int) (o n : Int) : frontcode_valid.f b o n = some (decide (0 ≤ o ∧ o ≤ (b.length : Int) ∧ 0 ≤ n ∧ n ≤ 65536)) := by
  unfold frontcode_valid.f
  by_cases h1 : o ≥ 0
  · rw [if_pos h1]
    by_cases h2 : o ≤ (b.length : Int)
    · rw [if_pos h2]
      by_cases h3 : n ≥ 0
      · rw [if_pos h3]
        congr 1
        exact decide_eq_decide.2 ⟨fun h => ⟨h1, h2, h3, h⟩, fun h => h.2.2.2⟩
      · rw [if_neg h3, decide_eq_false (fun h => h3 h.2.2.1)]
    · rw [if_neg h2, decide_eq_false (fun h => h2 h.2.1)]
  · rw [if_neg h1, decide_eq_false (fun h => h1 h.1)]
theorem idcd_ev (b : List Int) (hb : ∀ x ∈ b, 0 ≤ x ∧ x < 256) (hl : b.length ≤ 13000) (o n : Int) : Ev (fun k => frontcode_Decode.f k b o n) (dcd b o n) := by
  unfold frontcode_Decode.f dcd
  refine Ev.bind0 (ival b o n) ?_
  by_cases h : 0 ≤ o ∧ o ≤ (b.length : Int) ∧ 0 ≤ n ∧ n ≤ 65536
  · rw [if_pos h]
    refine Ev.pos (decide_eq_true h) ?_
    obtain ⟨m, rfl⟩ := Int.eq_ofNat_of_zero_le h.2.2.1
    rw [Int.toNat_natCast]
    exact idl_ev b hb hl m (by omega) m 0 o _ [] (by omega) (Nat.zero_le _) rfl
  · rw [if_neg h]
    refine Ev.neg (by rw [decide_eq_false h]; decide) ?_
    exact Ev.now _

theorem rdl_ev (b : List Int) (hb : ∀ x ∈ b, 0 ≤ x ∧ x < 256) (hl : b.length ≤ 13000) (n : Nat) (hn : n ≤ 65536) : ∀ (d i : Nat) (o : Int) (s : ByteArray) (acc : List ByteArray), i + d = n → s.size ≤ i * 13000 → acc.length = i →
    Ev (fun k => laminaref11_Decode.l0 k b o (n : Int) acc s (i : Int)) (dl b d i o s acc) := by
  intro d
  induction d with
  | zero =>
    intro i o s acc h hs ha
    refine Ev.succ ?_
    simp only [laminaref11_Decode.l0]
    refine Ev.neg (by omega) ?_
    exact Ev.now _
  | succ d ih =>
    intro i o s acc h hs ha
    have hst := step_size b hl o i s hs
    refine Ev.succ ?_
    simp only [laminaref11_Decode.l0, w64_add1 i (by omega), dl]
    refine Ev.pos (by omega) ?_
    refine Ev.bind (rnx_ev b hb (by omega) o i (by omega) s (by omega)) ?_
    by_cases h1 : (nx b o i s).2.2 = 0
    · rw [if_pos h1]
      refine Ev.pos h1 ?_
      refine Ev.pos (by omega) ?_
      exact ih (i + 1) _ _ _ (by omega) hst (by simp [ha])
    · rw [if_neg h1]
      refine Ev.neg h1 ?_
      exact Ev.now _
theorem rdcd_ev (b : List Int) (hb : ∀ x ∈ b, 0 ≤ x ∧ x < 256) (hl : b.length ≤ 13000) (o n : Int) : Ev (fun k => laminaref11_Decode.f k b o n) (dcd b o n) := by
  have bad : Ev (fun k => laminaref11_Decode.j0 k b o n true) (([] : List ByteArray), 0, 1) := by
    refine Ev.succ ?_
    simp only [laminaref11_Decode.j0]
    refine Ev.pos (by decide) ?_
    exact Ev.now _
  unfold laminaref11_Decode.f dcd
  by_cases h1 : o < 0
  · rw [if_neg (by omega)]
    refine Ev.pos h1 ?_
    exact bad
  refine Ev.neg h1 ?_
  by_cases h2 : o > (b.length : Int)
  · rw [if_neg (by omega)]
    refine Ev.pos h2 ?_
    exact bad
  refine Ev.neg h2 ?_
  by_cases h3 : n < 0
  · rw [if_neg (by omega)]
    refine Ev.pos h3 ?_
    exact bad
  refine Ev.neg h3 ?_
  by_cases h4 : n > 65536
  · rw [if_neg (by omega), decide_eq_true h4]
    exact bad
  rw [if_pos (by omega), decide_eq_false h4]
  obtain ⟨m, rfl⟩ := Int.eq_ofNat_of_zero_le (show 0 ≤ n by omega)
  rw [Int.toNat_natCast]
  refine Ev.succ ?_
  simp only [laminaref11_Decode.j0]
  refine Ev.neg (by decide) ?_
  exact rdl_ev b hb hl m (by omega) m 0 o _ [] (by omega) (Nat.zero_le _) rfl

/-! ### one string -/
def atl (b : List Int) : Nat → Nat → Int → ByteArray → ByteArray × Int
  | 0, _, _, s => (s, 0)
  | d + 1, i, o, s => if (nx b o i s).2.2 = 0 then atl b d (i + 1) (nx b o i s).2.1 (nx b o i s).1 else (⟨#[]⟩, (nx b o i s).2.2)
theorem iatl_ev (b : List Int) (hb : ∀ x ∈ b, 0 ≤ x ∧ x < 256) (hl : b.length ≤ 13000) (n : Nat) (hn : n ≤ 65536) : ∀ (d i : Nat) (o : Int) (s : ByteArray), i + d = n → s.size ≤ i * 13000 →
    Ev (fun k => frontcode_At.l0 k b o s (n : Int) (i : Int)) (atl b d i o s) := by
  intro d
  induction d with
  | zero =>
    intro i o s h hs
    refine Ev.succ ?_
    simp only [frontcode_At.l0]
    refine Ev.neg (by omega) ?_
    exact Ev.now _
  | succ d ih =>
    intro i o s h hs
    have hst := step_size b hl o i s hs
    refine Ev.succ ?_
    simp only [frontcode_At.l0, w64_add1 i (by omega), atl]
    refine Ev.pos (by omega) ?_
    refine Ev.bind (inx_ev b hb (by omega) o i (by omega) s (by omega)) ?_
    by_cases h1 : (nx b o i s).2.2 = 0
    · rw [if_pos h1]
      refine Ev.pos h1 ?_
      exact ih (i + 1) _ _ (by omega) hst
    · rw [if_neg h1]
      refine Ev.neg h1 ?_
      exact Ev.now _
theorem dl_atl (b : List Int) : ∀ (d i : Nat) (o : Int) (s : ByteArray) (acc : List ByteArray), acc ≠ [] → rdOf ByteArray.empty acc ((acc.length - 1 : Nat) : Int) = s →
    (dl b d i o s acc).2.2 = (atl b d i o s).2 ∧ ((atl b d i o s).2 = 0 → (dl b d i o s acc).1.length = acc.length + d ∧ rdOf ByteArray.empty (dl b d i o s acc).1 ((acc.length + d - 1 : Nat) : Int) = (atl b d i o s).1) ∧ ((atl b d i o s).2 ≠ 0 → (atl b d i o s).1 = ⟨#[]⟩) := by
  intro d
  induction d with
  | zero =>
    intro i o s acc ha hs
    simp only [dl, atl]
    exact ⟨trivial, fun _ => ⟨rfl, hs⟩, fun h => absurd rfl h⟩
  | succ d ih =>
    intro i o s acc ha hs
    simp only [dl, atl]
    by_cases h1 : (nx b o i s).2.2 = 0
    · rw [if_pos h1, if_pos h1]
      obtain ⟨q1, q2, q3⟩ := ih (i + 1) (nx b o i s).2.1 (nx b o i s).1 (acc ++ [(nx b o i s).1]) (by simp) (by simp [rdOf])
      refine ⟨q1, fun h => ?_, q3⟩
      obtain ⟨q4, q5⟩ := q2 h
      rw [List.length_append, List.length_singleton] at q4 q5
      exact ⟨by rw [q4]; omega, by rw [← q5]; congr 2; omega⟩
    · rw [if_neg h1, if_neg h1]
      exact ⟨rfl, fun h => absurd h h1, fun _ => rfl⟩
/-- What At answers. -/
def atS (b : List Int) (o n i : Int) : ByteArray × Int := if 0 ≤ o ∧ o ≤ (b.length : Int) ∧ 0 ≤ n ∧ n ≤ 65536 ∧ 0 ≤ i ∧ i < n then atl b (i.toNat + 1) 0 o ⟨#[]⟩ else (⟨#[]⟩, 1)
theorem iatS_ev (b : List Int) (hb : ∀ x ∈ b, 0 ≤ x ∧ x < 256) (hl : b.length ≤ 13000) (o n i : Int) : Ev (fun k => frontcode_At.f k b o n i) (atS b o n i) := by
  have bad : Ev (fun k => frontcode_At.j0 k b o i true) ((⟨#[]⟩ : ByteArray), 1) := by
    refine Ev.succ ?_
    simp only [frontcode_At.j0]
    refine Ev.pos (by decide) ?_
    exact Ev.now _
  unfold frontcode_At.f atS
  refine Ev.bind0 (ival b o n) ?_
  by_cases h : 0 ≤ o ∧ o ≤ (b.length : Int) ∧ 0 ≤ n ∧ n ≤ 65536
  · refine Ev.pos (decide_eq_true h) ?_
    by_cases h2 : i < 0
    · rw [if_neg (by omega)]
      refine Ev.pos h2 ?_
      exact bad
    · refine Ev.neg h2 ?_
      by_cases h3 : i ≥ n
      · rw [if_neg (by omega), decide_eq_true h3]
        exact bad
      · rw [if_pos (by omega), decide_eq_false h3]
        obtain ⟨m, rfl⟩ := Int.eq_ofNat_of_zero_le (show 0 ≤ i by omega)
        rw [Int.toNat_natCast]
        refine Ev.succ ?_
        simp only [frontcode_At.j0, w64_add1 m (by omega)]
        refine Ev.neg (by decide) ?_
        exact iatl_ev b hb hl (m + 1) (by omega) (m + 1) 0 o _ (by omega) (Nat.zero_le _)
  · rw [if_neg (fun hh => h ⟨hh.1, hh.2.1, hh.2.2.1, hh.2.2.2.1⟩)]
    refine Ev.neg (by rw [decide_eq_false h]; decide) ?_
    exact bad
theorem ratS_ev (b : List Int) (hb : ∀ x ∈ b, 0 ≤ x ∧ x < 256) (hl : b.length ≤ 13000) (o n i : Int) : Ev (fun k => laminaref11_At.f k b o n i) (atS b o n i) := by
  have bad : Ev (fun k => laminaref11_At.j0 k b o i true) ((⟨#[]⟩ : ByteArray), 1) := by
    refine Ev.succ ?_
    simp only [laminaref11_At.j0]
    refine Ev.pos (by decide) ?_
    exact Ev.now _
  unfold laminaref11_At.f atS
  by_cases h1 : o < 0
  · rw [if_neg (by omega)]
    refine Ev.pos h1 ?_
    exact bad
  refine Ev.neg h1 ?_
  by_cases h2 : o > (b.length : Int)
  · rw [if_neg (by omega)]
    refine Ev.pos h2 ?_
    exact bad
  refine Ev.neg h2 ?_
  by_cases h3 : n < 0
  · rw [if_neg (by omega)]
    refine Ev.pos h3 ?_
    exact bad
  refine Ev.neg h3 ?_
  by_cases h4 : n > 65536
  · rw [if_neg (by omega)]
    refine Ev.pos h4 ?_
    exact bad
  refine Ev.neg h4 ?_
  by_cases h5 : i < 0
  · rw [if_neg (by omega)]
    refine Ev.pos h5 ?_
    exact bad
  refine Ev.neg h5 ?_
  by_cases h6 : i ≥ n
  · rw [if_neg (by omega), decide_eq_true h6]
    exact bad
  rw [if_pos (by omega), decide_eq_false h6]
  obtain ⟨m, rfl⟩ := Int.eq_ofNat_of_zero_le (show 0 ≤ i by omega)
  rw [Int.toNat_natCast]
  have hd := rdcd_ev b hb hl o ((m + 1 : Nat) : Int)
  have he : dcd b o ((m + 1 : Nat) : Int) = dl b (m + 1) 0 o ⟨#[]⟩ [] := by
    unfold dcd
    rw [if_pos (by omega), Int.toNat_natCast]
  rw [he] at hd
  refine Ev.succ ?_
  simp only [laminaref11_At.j0, w64_add1 m (by omega)]
  refine Ev.neg (by decide) ?_
  have hdl : dl b (m + 1) 0 o ⟨#[]⟩ [] = if (nx b o 0 ⟨#[]⟩).2.2 = 0 then dl b m (0 + 1) (nx b o 0 ⟨#[]⟩).2.1 (nx b o 0 ⟨#[]⟩).1 ([] ++ [(nx b o 0 ⟨#[]⟩).1]) else ([], 0, (nx b o 0 ⟨#[]⟩).2.2) := rfl
  have hal : atl b (m + 1) 0 o ⟨#[]⟩ = if (nx b o 0 ⟨#[]⟩).2.2 = 0 then atl b m (0 + 1) (nx b o 0 ⟨#[]⟩).2.1 (nx b o 0 ⟨#[]⟩).1 else (⟨#[]⟩, (nx b o 0 ⟨#[]⟩).2.2) := rfl
  rw [hdl] at hd
  rw [hal]
  by_cases h1 : (nx b o 0 ⟨#[]⟩).2.2 = 0
  · rw [if_pos h1] at hd
    rw [if_pos h1]
    refine Ev.bind hd ?_
    obtain ⟨q1, q2, q3⟩ := dl_atl b m (0 + 1) (nx b o 0 ⟨#[]⟩).2.1 (nx b o 0 ⟨#[]⟩).1 ([] ++ [(nx b o 0 ⟨#[]⟩).1]) (by simp) (by simp [rdOf])
    by_cases h7 : (atl b m (0 + 1) (nx b o 0 ⟨#[]⟩).2.1 (nx b o 0 ⟨#[]⟩).1).2 = 0
    · obtain ⟨q4, q5⟩ := q2 h7
      rw [List.length_append, List.length_singleton, List.length_nil] at q4 q5
      refine Ev.pos (by rw [q1]; exact h7) ?_
      refine Ev.pos (by omega) ?_
      refine Ev.pos (by rw [q4]; omega) ?_
      refine Ev.eq (Ev.now _) ?_
      rw [show (m : Int) = ((0 + 1 + m - 1 : Nat) : Int) by omega, q5]
      exact Prod.ext rfl h7.symm
    · refine Ev.neg (by rw [q1]; exact h7) ?_
      refine Ev.eq (Ev.now _) ?_
      rw [q1]
      exact Prod.ext (q3 h7).symm rfl
  · rw [if_neg h1] at hd
    rw [if_neg h1]
    refine Ev.bind hd ?_
    refine Ev.neg h1 ?_
    exact Ev.now _

/-! ### the law's walk -/
set_option maxHeartbeats 1000000 in
set_option maxRecDepth 100000 in
theorem law_calls (k : Nat) (A0 : Option Addr) (c0 : Nat) (l0 : List Int) (a1 n0 n1 : Int) (s : ByteArray) (e0 : Int) (w : World) (hr0 : Kd.C (Kd.int .u8) w A0 l0.length l0) (hc0 : l0.length ≤ c0)
    (hAR : ¬ ((1000 : Int) < (l0.length : Int) ∨ 300 < n0 ∧ n0 ≤ 65536) → frontcode_At.f k l0 a1 n0 n1 = some (s, e0) ∧ laminaref11_At.f k l0 a1 n0 n1 = some (s, e0)) :
    Calls Try.prog 9 #[.slice A0 l0.length c0, .int .i64 a1, .agg #[.int .i64 n0, .int .i64 n1]] w fun e w' => e = .returned (.bool true) ∧ Below w.heap.size w w' := by
  have hmx := Kd.C_max hr0
  have HR := Aside0.mk hr0
  have HAR := Aside0.mk hAR
  clear hr0 hAR
  have hub := Try.underlying62
  have fin : ∀ (w1 : World), Below w.heap.size w w1 → Calls Try.prog 33 #[] w1 fun e w' => e = .returned (.bool true) ∧ Below w.heap.size w w' := fun w1 h1 => (laminalaw11_awake.calls true w1 rfl).mono (fun e w2 h2 => ⟨h2.1, below_then h1 h1.size h2.2⟩)
  have FIN := Aside0.mk fin
  clear fin
  have main : ((1000 : Int) < (l0.length : Int)) ∨ (¬ ((1000 : Int) < (l0.length : Int)) ∧ 300 < n0 ∧ n0 ≤ 65536) ∨ (¬ ((1000 : Int) < (l0.length : Int)) ∧ 300 < n0 ∧ ¬ n0 ≤ 65536) ∨ (¬ ((1000 : Int) < (l0.length : Int)) ∧ ¬ 300 < n0) := by omega
  rcases main with h1 | ⟨h1, h2, h3⟩ | ⟨h1, h2, h3⟩ | ⟨h1, h2⟩
  · go_enter Try.func9, Try.ntmps9
    go_wp2_with (go_at_call 33; refine (FIN.out _ (below_alloc (Below.refl _ _) _)).mono ?_; rintro e w9 ⟨rfl, hB9⟩)
    go_ret
    exact ⟨rfl, hB9⟩
  · go_enter Try.func9, Try.ntmps9
    go_wp2_with (go_at_call 33; refine (FIN.out _ (below_alloc (Below.refl _ _) _)).mono ?_; rintro e w9 ⟨rfl, hB9⟩)
    go_ret
    exact ⟨rfl, hB9⟩
  · obtain ⟨hA, hF⟩ := HAR.out (by omega)
    have HA := Aside0.mk hA
    have HF := Aside0.mk hF
    clear hA hF HAR
    go_enter Try.func9, Try.ntmps9
    go_wp2_with (first | (go_at_call 43; refine (frontcode_At.calls k _ _ l0 a1 n0 n1 s e0 _ (Kd.C_alloc HR.out _) hc0 HA.out).mono ?_; rintro e w1 ⟨rfl, hB1⟩; have hB1' : Below w.heap.size w w1 := below_then (below_alloc (Below.refl _ _) _) (by simp) hB1; have k1 := blk_below (blk_new w (.cells #[.int .i64 n0, .int .i64 n1] 62 (0, 0))) hB1; have c10 := blk_cell k1 0; have c11 := blk_cell k1 1) | (go_at_call 44; refine (laminaref11_At.calls k _ _ l0 a1 n0 n1 s e0 w1 (Kd.C_below HR.out hB1') hc0 HF.out).mono ?_; rintro e w2 ⟨rfl, hB2⟩; have hB2' : Below w.heap.size w w2 := below_then hB1' hB1'.size hB2) | (go_at_call 33; refine (FIN.out _ hB2').mono ?_; rintro e w9 ⟨rfl, hB9⟩))
    go_ret
    exact ⟨rfl, hB9⟩
  · obtain ⟨hA, hF⟩ := HAR.out (by omega)
    have HA := Aside0.mk hA
    have HF := Aside0.mk hF
    clear hA hF HAR
    go_enter Try.func9, Try.ntmps9
    go_wp2_with (first | (go_at_call 43; refine (frontcode_At.calls k _ _ l0 a1 n0 n1 s e0 _ (Kd.C_alloc HR.out _) hc0 HA.out).mono ?_; rintro e w1 ⟨rfl, hB1⟩; have hB1' : Below w.heap.size w w1 := below_then (below_alloc (Below.refl _ _) _) (by simp) hB1; have k1 := blk_below (blk_new w (.cells #[.int .i64 n0, .int .i64 n1] 62 (0, 0))) hB1; have c10 := blk_cell k1 0; have c11 := blk_cell k1 1) | (go_at_call 44; refine (laminaref11_At.calls k _ _ l0 a1 n0 n1 s e0 w1 (Kd.C_below HR.out hB1') hc0 HF.out).mono ?_; rintro e w2 ⟨rfl, hB2⟩; have hB2' : Below w.heap.size w w2 := below_then hB1' hB1'.size hB2) | (go_at_call 33; refine (FIN.out _ hB2').mono ?_; rintro e w9 ⟨rfl, hB9⟩))
    go_ret
    exact ⟨rfl, hB9⟩

theorem Ev.two {α β : Type} {g : Nat → Option α} {f : Nat → Option β} {a : α} {b : β} (h : Ev g a) (h' : Ev f b) : ∃ k, g k = some a ∧ f k = some b := by
  obtain ⟨K, h⟩ := h
  obtain ⟨K', h'⟩ := h'
  exact ⟨max K K', h _ (Nat.le_max_left _ _), h' _ (Nat.le_max_right _ _)⟩
theorem FrontcodeAt (l0 : List Int) (a1 n0 n1 : Int) (hb : l0.length ≤ maxLen ∧ ∀ y0 ∈ l0, (Lit.int .u8 y0).wf = true) :
    ∃ (k : Nat) (s : ByteArray) (e0 : Int), ¬ ((1000 : Int) < (l0.length : Int) ∨ 300 < n0 ∧ n0 ≤ 65536) → frontcode_At.f k l0 a1 n0 n1 = some (s, e0) ∧ laminaref11_At.f k l0 a1 n0 n1 = some (s, e0) := by
  have hr := wf_u8s hb.2
  by_cases h : (1000 : Int) < (l0.length : Int)
  · exact ⟨0, ⟨#[]⟩, 0, fun hn => absurd (.inl h) hn⟩
  · obtain ⟨k, h1, h2⟩ := Ev.two (iatS_ev l0 hr (by omega) a1 n0 n1) (ratS_ev l0 hr (by omega) a1 n0 n1)
    exact ⟨k, (atS l0 a1 n0 n1).1, (atS l0 a1 n0 n1).2, fun _ => ⟨h1, h2⟩⟩

end Go.Proofs.Yteamkjphdiajeaa.Pure
