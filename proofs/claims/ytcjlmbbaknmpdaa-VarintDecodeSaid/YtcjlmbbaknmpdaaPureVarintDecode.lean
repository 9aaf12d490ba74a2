/- laminalaw01.VarintDecode returns true for every byte slice and every offset, and leaves its arguments as they were. Conditions: none beyond the row's own (the slice is readable and takes at most 2^47 - 4096 bytes). -/
import Derived.Test.YtcjlmbbaknmpdaaPVarintDecodex2
import Derived.Test.YtcjlmbbaknmpdaaM01
import Derived.Test.YtcjlmbbaknmpdaaM02
set_option linter.unusedVariables false
set_option linter.unusedSimpArgs false
namespace Go.Proofs.Ytcjlmbbaknmpdaa.Pure
open Go Go.RowKit Go.Proofs.Ytcjlmbbaknmpdaa.PVarintDecode Go.Proofs.YtcjlmbbaknmpdaaW.PrintWords Go.Proofs.YtcjlmbbaknmpdaaW.PrintLast Go.Proofs.YtcjlmbbaknmpdaaM

/-! ### varint.Decode and the reference's -/
theorem pow_shl (i : Nat) (hi : i ≤ 9) (c : Int) (h0 : 0 ≤ c) (h1 : c * 128 ^ i < 18446744073709551616) : shl .u64 c (7 * (i : Int)) = c * 128 ^ i := by
  have e : min (7 * (i : Int)).toNat 64 = 7 * i := by omega
  have e2 : (2 : Int) ^ (7 * i) = 128 ^ i := by rw [Int.pow_mul]; rfl
  unfold shl
  rw [show IntKind.u64.bits = 64 from rfl, e, e2]
  exact wrap_u64_of _ (Int.mul_nonneg h0 (Int.pow_nonneg (by decide))) h1
theorem dec_j2 (b : List Int) (hlen : b.length < 4611686018427387904) (o i acc c : Nat) (hi : i ≤ 9) (ho : o + i < b.length) (hc : c < 256) (hacc : acc < 128 ^ i) (f : Nat) (hf : i + f = 9)
    (h9 : ¬ (i = 9 ∧ 1 < c))
    (ih : i < 9 → acc + c % 128 * 128 ^ i < 128 ^ (i + 1) → Ev (fun k => varint_Decode.l0 k b o ((acc + c % 128 * 128 ^ i : Nat) : Int) ((i + 1 : Nat) : Int)) (vd b o f (i + 1) (acc + c % 128 * 128 ^ i))) :
    Ev (fun k => varint_Decode.j2 k b o acc i c i false)
      (if i = 9 ∧ 1 < c ∨ 0 < i ∧ c = 0 then (0, 0, 4) else if c < 128 then (((acc + c * 128 ^ i : Nat) : Int), ((o + i + 1 : Nat) : Int), 0) else vd b o f (i + 1) (acc + c % 128 * 128 ^ i)) := by
  have hp : 0 < 128 ^ i := Nat.pow_pos (by decide)
  have hple : 128 ^ i ≤ 128 ^ 9 := Nat.pow_le_pow_right (by decide) hi
  have h9v : (128 : Nat) ^ 9 = 9223372036854775808 := by decide
  have hm : c % 128 * 128 ^ i < 18446744073709551616 := by
    by_cases e : i = 9
    · subst e
      have : c ≤ 1 := by omega
      have : c % 128 ≤ 1 := by omega
      have := Nat.mul_le_mul_right (128 ^ 9) this
      omega
    · have h8 : 128 ^ i ≤ 128 ^ 8 := Nat.pow_le_pow_right (by decide) (by omega)
      have : (128 : Nat) ^ 8 = 72057594037927936 := by decide
      have : c % 128 * 128 ^ i ≤ 127 * 72057594037927936 := Nat.mul_le_mul (by omega) (by omega)
      omega
  have hlow : c % 128 * 128 ^ i + 128 ^ i ≤ 128 ^ (i + 1) := by
    rw [pow128, ← Nat.succ_mul]
    exact Nat.mul_le_mul_right _ (by omega)
  have hs : shl .u64 (IntKind.u64.wrap (Go.bits .and .u8 c 127)) (wrap64 (7 * (i : Int))) = ((c % 128 * 128 ^ i : Nat) : Int) := by
    rw [and_127 _ (by omega) (by omega), w64 _ (by omega) (by omega), wrap_u64_of _ (by omega) (by omega), pow_shl i hi _ (by omega)]
    · push_cast; rfl
    · have : ((c % 128 * 128 ^ i : Nat) : Int) < 18446744073709551616 := by omega
      push_cast at this
      exact this
  have hor : Go.bits .or .u64 acc ((c % 128 * 128 ^ i : Nat) : Int) = ((acc + c % 128 * 128 ^ i : Nat) : Int) := by
    rw [or_add (7 * i) _ _ (by omega) ?_ (by omega) (by omega) (by omega) ?_]
    · push_cast; rfl
    · have e2 : (2 : Int) ^ (7 * i) = ((128 ^ i : Nat) : Int) := by rw [Int.pow_mul]; simp
      rw [e2]; omega
    · have e2 : (2 : Int) ^ (7 * i) = ((128 ^ i : Nat) : Int) := by rw [Int.pow_mul]; simp
      rw [e2]
      push_cast
      exact Int.mul_emod_left _ _
  refine Ev.succ ?_
  simp only [varint_Decode.j2, hs, hor, w64_add1 i (by omega), w64_add_1 o i (by omega)]
  clear hs hor
  refine Ev.neg (by decide) ?_
  refine Ev.pos (by rw [w64 _ (by omega) (by omega)]; omega) ?_
  by_cases h2 : c < 128
  · refine Ev.neg (by omega) ?_
    have hcm : c % 128 = c := Nat.mod_eq_of_lt h2
    by_cases h0 : c = 0
    · refine Ev.pos (by omega) ?_
      by_cases hi0 : 0 < i
      · refine Ev.pos (by omega) ?_
        exact Ev.eq (Ev.now _) (by rw [if_pos (Or.inr ⟨hi0, h0⟩)])
      · refine Ev.neg (by omega) ?_
        exact Ev.eq (Ev.now _) (by rw [if_neg (by omega), if_pos h2, hcm])
    · refine Ev.neg (by omega) ?_
      exact Ev.eq (Ev.now _) (by rw [if_neg (by omega), if_pos h2, hcm])
  · refine Ev.pos (by omega) ?_
    exact Ev.eq (ih (by omega) (by omega)) (by rw [if_neg (by omega), if_neg h2])
theorem dec_l0 (b : List Int) (hb : ∀ x ∈ b, 0 ≤ x ∧ x < 256) (hlen : b.length < 4611686018427387904) (o : Nat) (ho : o ≤ b.length) :
    ∀ (f i acc : Nat), i + f = 10 → acc < 128 ^ i → Ev (fun k => varint_Decode.l0 k b o acc i) (vd b o f i acc) := by
  intro f
  induction f with
  | zero =>
    intro i acc hi ha
    refine Ev.succ ?_
    simp only [varint_Decode.l0]
    refine Ev.neg (by omega) ?_
    exact Ev.now _
  | succ f ih =>
    intro i acc hi ha
    refine Ev.succ ?_
    simp only [varint_Decode.l0, w64_add o i (by omega), rd_nat]
    refine Ev.pos (by omega) ?_
    unfold vd
    by_cases hl : b.length ≤ o + i
    · refine Ev.pos (by omega) ?_
      exact Ev.eq (Ev.now _) (by rw [if_pos hl])
    refine Ev.neg (by omega) ?_
    refine Ev.pos (by omega) ?_
    refine Ev.pos (by omega) ?_
    rw [if_neg hl]
    have hr := getD_range hb (i := o + i) (by omega)
    obtain ⟨c, hc⟩ := Int.eq_ofNat_of_zero_le hr.1
    simp only [hc, Int.toNat_natCast]
    rw [hc] at hr
    have hstep : ¬ (i = 9 ∧ 1 < c) → Ev (fun k => varint_Decode.j2 k b o acc i c i false) (if i = 9 ∧ 1 < c ∨ 0 < i ∧ c = 0 then (0, 0, 4) else if c < 128 then (((acc + c * 128 ^ i : Nat) : Int), ((o + i + 1 : Nat) : Int), 0) else vd b o f (i + 1) (acc + c % 128 * 128 ^ i)) := fun h =>
      dec_j2 b hlen o i acc c (by omega) (by omega) (by omega) ha f (by omega) h (fun h1 h2 => ih (i + 1) _ (by omega) h2)
    by_cases h9 : i = 9
    · refine Ev.pos (by omega) ?_
      by_cases h1 : 1 < c
      · have : decide ((c : Int) > 1) = true := by simp; omega
        rw [this, if_pos (Or.inl ⟨h9, h1⟩)]
        refine Ev.succ ?_
        simp only [varint_Decode.j2]
        refine Ev.pos (by decide) ?_
        exact Ev.now _
      · have : decide ((c : Int) > 1) = false := by simp; omega
        rw [this]
        exact hstep (by omega)
    · refine Ev.neg (by omega) ?_
      exact hstep (by omega)
theorem dec_ev (b : List Int) (hb : ∀ x ∈ b, 0 ≤ x ∧ x < 256) (hlen : b.length < 4611686018427387904) (o : Int) : Ev (fun k => varint_Decode.f k b o) (vdec b o) := by
  unfold varint_Decode.f vdec
  by_cases h0 : o < 0
  · refine Ev.pos h0 ?_
    rw [if_pos (Or.inl h0)]
    refine Ev.succ ?_
    simp only [varint_Decode.j0]
    refine Ev.pos (by decide) ?_
    exact Ev.now _
  refine Ev.neg h0 ?_
  refine Ev.succ ?_
  simp only [varint_Decode.j0]
  by_cases h1 : (b.length : Int) < o
  · refine Ev.pos (by simpa using h1) ?_
    exact Ev.eq (Ev.now _) (by rw [if_pos (Or.inr h1)])
  · refine Ev.neg (by simpa using h1) ?_
    obtain ⟨n, rfl⟩ := Int.eq_ofNat_of_zero_le (show 0 ≤ o by omega)
    rw [if_neg (by omega), Int.toNat_natCast]
    exact dec_l0 b hb hlen n (by omega) 10 0 0 rfl (by decide)

theorem rdec_j2 (b : List Int) (hlen : b.length < 4611686018427387904) (o i acc c : Nat) (hi : i ≤ 9) (ho : o + i < b.length) (hc : c < 256) (hacc : acc < 128 ^ i) (f : Nat) (hf : i + f = 9)
    (h9 : ¬ (i = 9 ∧ 1 < c)) (h0 : ¬ (0 < i ∧ c = 0))
    (ih : i < 9 → acc + c % 128 * 128 ^ i < 128 ^ (i + 1) → Ev (fun k => laminaref01_Decode.l0 k b o ((acc + c % 128 * 128 ^ i : Nat) : Int) ((128 ^ (i + 1) : Nat) : Int) ((i + 1 : Nat) : Int)) (vd b o f (i + 1) (acc + c % 128 * 128 ^ i))) :
    Ev (fun k => laminaref01_Decode.j2 k b o acc ((128 ^ i : Nat) : Int) i c false)
      (if i = 9 ∧ 1 < c ∨ 0 < i ∧ c = 0 then (0, 0, 4) else if c < 128 then (((acc + c * 128 ^ i : Nat) : Int), ((o + i + 1 : Nat) : Int), 0) else vd b o f (i + 1) (acc + c % 128 * 128 ^ i)) := by
  have hp : 0 < 128 ^ i := Nat.pow_pos (by decide)
  have hple : 128 ^ i ≤ 128 ^ 9 := Nat.pow_le_pow_right (by decide) hi
  have h9v : (128 : Nat) ^ 9 = 9223372036854775808 := by decide
  have hm : acc + c % 128 * 128 ^ i < 18446744073709551616 := by
    by_cases e : i = 9
    · subst e
      have : c % 128 ≤ 1 := by omega
      have := Nat.mul_le_mul_right (128 ^ 9) this
      omega
    · have h8 : 128 ^ i ≤ 128 ^ 8 := Nat.pow_le_pow_right (by decide) (by omega)
      have : (128 : Nat) ^ 8 = 72057594037927936 := by decide
      have : c % 128 * 128 ^ i ≤ 127 * 72057594037927936 := Nat.mul_le_mul (by omega) (by omega)
      omega
  have hlow : c % 128 * 128 ^ i + 128 ^ i ≤ 128 ^ (i + 1) := by
    rw [pow128, ← Nat.succ_mul]
    exact Nat.mul_le_mul_right _ (by omega)
  have ht : Int.tmod (c : Int) 128 = ((c % 128 : Nat) : Int) := by rw [Int.tmod_eq_emod_of_nonneg (by omega)]; rfl
  have hs : IntKind.u64.wrap ((acc : Int) + IntKind.u64.wrap (IntKind.u64.wrap (Int.tmod (c : Int) 128) * ((128 ^ i : Nat) : Int))) = ((acc + c % 128 * 128 ^ i : Nat) : Int) := by
    rw [ht, wrap_u64_of ((c % 128 : Nat) : Int) (by omega) (by omega)]
    have e : ((c % 128 : Nat) : Int) * ((128 ^ i : Nat) : Int) = ((c % 128 * 128 ^ i : Nat) : Int) := by push_cast; rfl
    rw [e, wrap_u64_of ((c % 128 * 128 ^ i : Nat) : Int) (by omega) (by omega), wrap_u64_of _ (by omega) (by omega)]
    push_cast; rfl
  refine Ev.succ ?_
  simp only [laminaref01_Decode.j2, hs, w64_add1 i (by omega), w64_add_1 o i (by omega)]
  clear hs
  refine Ev.neg (by decide) ?_
  by_cases h2 : c < 128
  · refine Ev.pos (by omega) ?_
    exact Ev.eq (Ev.now _) (by rw [if_neg (by omega), if_pos h2, Nat.mod_eq_of_lt h2])
  · refine Ev.neg (by omega) ?_
    have hu : IntKind.u64.wrap (((128 ^ i : Nat) : Int) * 128) = ((128 ^ (i + 1) : Nat) : Int) := by
      have hle : 128 ^ (i + 1) ≤ 128 ^ 9 := Nat.pow_le_pow_right (by decide) (by omega)
      rw [wrap_u64_of _ (by omega) (by rw [pow128] at hle; omega), pow128]
      push_cast
      omega
    rw [hu]
    exact Ev.eq (ih (by omega) (by omega)) (by rw [if_neg (by omega), if_neg h2])
theorem rdec_l0 (b : List Int) (hb : ∀ x ∈ b, 0 ≤ x ∧ x < 256) (hlen : b.length < 4611686018427387904) (o : Nat) (ho : o ≤ b.length) :
    ∀ (f i acc : Nat), i + f = 10 → 1 ≤ f → acc < 128 ^ i → Ev (fun k => laminaref01_Decode.l0 k b o acc ((128 ^ i : Nat) : Int) i) (vd b o f i acc) := by
  intro f
  induction f with
  | zero => intro i acc hi h1; omega
  | succ f ih =>
    intro i acc hi _ ha
    refine Ev.succ ?_
    simp only [laminaref01_Decode.l0, w64_add o i (by omega), rd_nat]
    unfold vd
    by_cases hl : b.length ≤ o + i
    · refine Ev.pos (by omega) ?_
      exact Ev.eq (Ev.now _) (by rw [if_pos hl])
    refine Ev.neg (by omega) ?_
    refine Ev.pos (by omega) ?_
    refine Ev.pos (by omega) ?_
    rw [if_neg hl]
    have hr := getD_range hb (i := o + i) (by omega)
    obtain ⟨c, hc⟩ := Int.eq_ofNat_of_zero_le hr.1
    simp only [hc, Int.toNat_natCast]
    rw [hc] at hr
    have bad : (i = 9 ∧ 1 < c ∨ 0 < i ∧ c = 0) → Ev (fun k => laminaref01_Decode.j2 k b o acc ((128 ^ i : Nat) : Int) i c true) (if i = 9 ∧ 1 < c ∨ 0 < i ∧ c = 0 then (0, 0, 4) else if c < 128 then (((acc + c * 128 ^ i : Nat) : Int), ((o + i + 1 : Nat) : Int), 0) else vd b o f (i + 1) (acc + c % 128 * 128 ^ i)) := fun h => by
      rw [if_pos h]
      refine Ev.succ ?_
      simp only [laminaref01_Decode.j2]
      refine Ev.pos (by decide) ?_
      exact Ev.now _
    have good : ¬ (i = 9 ∧ 1 < c) → ¬ (0 < i ∧ c = 0) → Ev (fun k => laminaref01_Decode.j2 k b o acc ((128 ^ i : Nat) : Int) i c false) (if i = 9 ∧ 1 < c ∨ 0 < i ∧ c = 0 then (0, 0, 4) else if c < 128 then (((acc + c * 128 ^ i : Nat) : Int), ((o + i + 1 : Nat) : Int), 0) else vd b o f (i + 1) (acc + c % 128 * 128 ^ i)) := fun h h' =>
      rdec_j2 b hlen o i acc c (by omega) (by omega) (by omega) ha f (by omega) h h' (fun h1 h2 => ih (i + 1) _ (by omega) (by omega) h2)
    have zero : ((c : Int) == 0) = decide (c = 0) := by
      rw [Bool.eq_iff_iff, beq_iff_eq, decide_eq_true_iff]; omega
    by_cases h9 : i = 9
    · refine Ev.pos (by omega) ?_
      by_cases h1 : 1 < c
      · exact Ev.pos (by omega) (bad (by omega))
      · refine Ev.neg (by omega) ?_
        refine Ev.pos (by omega) ?_
        rw [zero]
        by_cases h0 : c = 0
        · rw [decide_eq_true h0]; exact bad (by omega)
        · rw [decide_eq_false h0]; exact good (by omega) (by omega)
    · refine Ev.neg (by omega) ?_
      by_cases hi0 : 0 < i
      · refine Ev.pos (by omega) ?_
        rw [zero]
        by_cases h0 : c = 0
        · rw [decide_eq_true h0]; exact bad (by omega)
        · rw [decide_eq_false h0]; exact good (by omega) (by omega)
      · exact Ev.neg (by omega) (good (by omega) (by omega))
theorem rdec_ev (b : List Int) (hb : ∀ x ∈ b, 0 ≤ x ∧ x < 256) (hlen : b.length < 4611686018427387904) (o : Int) : Ev (fun k => laminaref01_Decode.f k b o) (vdec b o) := by
  unfold laminaref01_Decode.f vdec
  by_cases h0 : o < 0
  · refine Ev.pos h0 ?_
    rw [if_pos (Or.inl h0)]
    refine Ev.succ ?_
    simp only [laminaref01_Decode.j0]
    refine Ev.pos (by decide) ?_
    exact Ev.now _
  refine Ev.neg h0 ?_
  refine Ev.succ ?_
  simp only [laminaref01_Decode.j0]
  by_cases h1 : (b.length : Int) < o
  · refine Ev.pos (by simpa using h1) ?_
    exact Ev.eq (Ev.now _) (by rw [if_pos (Or.inr h1)])
  · refine Ev.neg (by simpa using h1) ?_
    obtain ⟨n, rfl⟩ := Int.eq_ofNat_of_zero_le (show 0 ≤ o by omega)
    rw [if_neg (by omega), Int.toNat_natCast]
    exact rdec_l0 b hb hlen n (by omega) 10 0 0 rfl (by decide) (by decide)

theorem awake_ev : Ev (fun k => laminalaw01_awake.f k) true := Ev.of laminalaw01_awake.mono (k := 20) (by decide +kernel)
theorem VarintDecode : laminalaw01_VarintDecode.Pure := by
  intro b o hl hl2 hw ho
  have hb := wf_u8s hw
  have hlen : b.length < 4611686018427387904 := by omega
  refine Ev.rounds (g := fun k => laminalaw01_VarintDecode.f k b o) ?_
  unfold laminalaw01_VarintDecode.f
  refine Ev.bind (dec_ev b hb hlen o) ?_
  refine Ev.bind (rdec_ev b hb hlen o) ?_
  refine Ev.pos (by rfl) ?_
  refine Ev.pos (by rfl) ?_
  refine Ev.pos (by rfl) ?_
  exact Ev.bind awake_ev (Ev.now _)

end Go.Proofs.Ytcjlmbbaknmpdaa.Pure
