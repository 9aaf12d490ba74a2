/- laminalaw01.VarintRoundTrip returns true for all its arguments of bulk at most 1048576 (a varint inside a byte slice is decoded to its number and the offset after it, and whatever Decode accepts is the encoding of its result). Conditions: the statement's own bound on the bulk. -/
import Derived.Test.YtcjlmbbaknmpdaaStVarintRoundTrip
import Derived.Test.YtcjlmbbaknmpdaaM01
import Derived.Test.YtcjlmbbaknmpdaaM02
import Derived.Test.YtcjlmbbaknmpdaaM03
import Derived.Test.YtcjlmbbaknmpdaaM05
set_option linter.unusedVariables false
set_option linter.unusedSimpArgs false
namespace Go.Proofs.Ytcjlmbbaknmpdaa.Pure
open Go Go.RowKit Go.Proofs.Ytcjlmbbaknmpdaa.QVarintRoundTrip Go.Proofs.YtcjlmbbaknmpdaaW.PrintWords Go.Proofs.YtcjlmbbaknmpdaaW.PrintLast Go.Proofs.YtcjlmbbaknmpdaaM

/-! ### varint.Decode and the reference's -/
theorem pow_shl (i : Nat) (hi : i ≤ 9) (c : Int) (h0 : 0 ≤ c) (h1 : c * 128 ^ i < 18446744073709551616) : shl .u64 c (7 * (i : Int)) = c * 128 ^ i := by
  have e : min (7 * (i : Int)).toNat 64 = 7 * i := by omega
  have e2 : (2 : Int) ^ (7 * i) = 128 ^ i := by rw [Int.pow_mul]; rfl
  unfold shl
  rw [show IntKind.u64.bits = 64 from rfl, e, e2]
  exact wrap_u64_of _ (Int.mul_nonneg h0 (Int.pow_nonneg (by decide))) h1
theorem dec_j2 (b : List Int) (hlen : b.length < 4611686018427387904) (o i acc c : Nat) (hi : i ≤ 9) (ho : o + i < b.length) (hc : c < 256) (hacc : acc < 128 ^ i) (f : Nat) (hf : i + f = 9)
    (h9 : ¬ (i = 9 ∧ 1 < c))
    (ih : i < 9 → acc + c % 128 * 128 ^ i < 128 ^ (i + 1) → Ev (fun k => varint_Decode.l0 k b o ((acc + c % 128 * 128 ^ i : Nat) : Int) ((i + 1 : Nat) : Int)) (vd b o f (i + 1) (acc + c % 128 * 128 ^ i))) :
    Ev (fun k => varint_Decode.j2 k b o acc i c i false)
      (if i = 9 ∧ 1 < c ∨ 0 < i ∧ c = 0 then (0, 0, 4) else if c < 128 then (((acc + c * 128 ^ i : Nat) : Int), ((o + i + 1 : Nat) : Int), 0) else vd b o f (i + 1) (acc + c % 128 * 128 ^ i)) := by
  have hp : 0 < 128 ^ i := Nat.pow_pos (by decide)
  have hple : 128 ^ i ≤ 128 ^ 9 := Nat.pow_le_pow_right (by decide) hi
  have h9v : (128 : Nat) ^ 9 = 9223372036854775808 := by decide
  have hm : c % 128 * 128 ^ i < 18446744073709551616 := by
    by_cases e : i = 9
    · subst e
      have : c ≤ 1 := by omega
      have : c % 128 ≤ 1 := by omega
      have := Nat.mul_le_mul_right (128 ^ 9) this
      omega
    · have h8 : 128 ^ i ≤ 128 ^ 8 := Nat.pow_le_pow_right (by decide) (by omega)
      have : (128 : Nat) ^ 8 = 72057594037927936 := by decide
      have : c % 128 * 128 ^ i ≤ 127 * 72057594037927936 := Nat.mul_le_mul (by omega) (by omega)
      omega
  have hlow : c % 128 * 128 ^ i + 128 ^ i ≤ 128 ^ (i + 1) := by
    rw [pow128, ← Nat.succ_mul]
    exact Nat.mul_le_mul_right _ (by omega)
  have hs : shl .u64 (IntKind.u64.wrap (Go.bits .and .u8 c 127)) (wrap64 (7 * (i : Int))) = ((c % 128 * 128 ^ i : Nat) : Int) := by
    rw [and_127 _ (by omega) (by omega), w64 _ (by omega) (by omega), wrap_u64_of _ (by omega) (by omega), pow_shl i hi _ (by omega)]
    · push_cast; rfl
    · have : ((c % 128 * 128 ^ i : Nat) : Int) < 18446744073709551616 := by omega
      push_cast at this
      exact this
  have hor : Go.bits .or .u64 acc ((c % 128 * 128 ^ i : Nat) : Int) = ((acc + c % 128 * 128 ^ i : Nat) : Int) := by
    rw [or_add (7 * i) _ _ (by omega) ?_ (by omega) (by omega) (by omega) ?_]
    · push_cast; rfl
    · have e2 : (2 : Int) ^ (7 * i) = ((128 ^ i : Nat) : Int) := by rw [Int.pow_mul]; simp
      rw [e2]; omega
    · have e2 : (2 : Int) ^ (7 * i) = ((128 ^ i : Nat) : Int) := by rw [Int.pow_mul]; simp
      rw [e2]
      push_cast
      exact Int.mul_emod_left _ _
  refine Ev.succ ?_
  simp only [varint_Decode.j2, hs, hor, w64_add1 i (by omega), w64_add_1 o i (by omega)]
  clear hs hor
  refine Ev.neg (by decide) ?_
  refine Ev.pos (by rw [w64 _ (by omega) (by omega)]; omega) ?_
  by_cases h2 : c < 128
  · refine Ev.neg (by omega) ?_
    have hcm : c % 128 = c := Nat.mod_eq_of_lt h2
    by_cases h0 : c = 0
    · refine Ev.pos (by omega) ?_
      by_cases hi0 : 0 < i
      · refine Ev.pos (by omega) ?_
        exact Ev.eq (Ev.now _) (by rw [if_pos (Or.inr ⟨hi0, h0⟩)])
      · refine Ev.neg (by omega) ?_
        exact Ev.eq (Ev.now _) (by rw [if_neg (by omega), if_pos h2, hcm])
    · refine Ev.neg (by omega) ?_
      exact Ev.eq (Ev.now _) (by rw [if_neg (by omega), if_pos h2, hcm])
  · refine Ev.pos (by omega) ?_
    exact Ev.eq (ih (by omega) (by omega)) (by rw [if_neg (by omega), if_neg h2])
theorem dec_l0 (b : List Int) (hb : ∀ x ∈ b, 0 ≤ x ∧ x < 256) (hlen : b.length < 4611686018427387904) (o : Nat) (ho : o ≤ b.length) :
    ∀ (f i acc : Nat), i + f = 10 → acc < 128 ^ i → Ev (fun k => varint_Decode.l0 k b o acc i) (vd b o f i acc) := by
  intro f
  induction f with
  | zero =>
    intro i acc hi ha
    refine Ev.succ ?_
    simp only [varint_Decode.l0]
    refine Ev.neg (by omega) ?_
    exact Ev.now _
  | succ f ih =>
    intro i acc hi ha
    refine Ev.succ ?_
    simp only [varint_Decode.l0, w64_add o i (by omega), rd_nat]
    refine Ev.pos (by omega) ?_
    unfold vd
    by_cases hl : b.length ≤ o + i
    · refine Ev.pos (by omega) ?_
      exact Ev.eq (Ev.now _) (by rw [if_pos hl])
    refine Ev.neg (by omega) ?_
    refine Ev.pos (by omega) ?_
    refine Ev.pos (by omega) ?_
    rw [if_neg hl]
    have hr := getD_range hb (i := o + i) (by omega)
    obtain ⟨c, hc⟩ := Int.eq_ofNat_of_zero_le hr.1
    simp only [hc, Int.toNat_natCast]
    rw [hc] at hr
    have hstep : ¬ (i = 9 ∧ 1 < c) → Ev (fun k => varint_Decode.j2 k b o acc i c i false) (if i = 9 ∧ 1 < c ∨ 0 < i ∧ c = 0 then (0, 0, 4) else if c < 128 then (((acc + c * 128 ^ i : Nat) : Int), ((o + i + 1 : Nat) : Int), 0) else vd b o f (i + 1) (acc + c % 128 * 128 ^ i)) := fun h =>
      dec_j2 b hlen o i acc c (by omega) (by omega) (by omega) ha f (by omega) h (fun h1 h2 => ih (i + 1) _ (by omega) h2)
    by_cases h9 : i = 9
    · refine Ev.pos (by omega) ?_
      by_cases h1 : 1 < c
      · have : decide ((c : Int) > 1) = true := by simp; omega
        rw [this, if_pos (Or.inl ⟨h9, h1⟩)]
        refine Ev.succ ?_
        simp only [varint_Decode.j2]
        refine Ev.pos (by decide) ?_
        exact Ev.now _
      · have : decide ((c : Int) > 1) = false := by simp; omega
        rw [this]
        exact hstep (by omega)
    · refine Ev.neg (by omega) ?_
      exact hstep (by omega)
theorem dec_ev (b : List Int) (hb : ∀ x ∈ b, 0 ≤ x ∧ x < 256) (hlen : b.length < 4611686018427387904) (o : Int) : Ev (fun k => varint_Decode.f k b o) (vdec b o) := by
  unfold varint_Decode.f vdec
  by_cases h0 : o < 0
  · refine Ev.pos h0 ?_
    rw [if_pos (Or.inl h0)]
    refine Ev.succ ?_
    simp only [varint_Decode.j0]
    refine Ev.pos (by decide) ?_
    exact Ev.now _
  refine Ev.neg h0 ?_
  refine Ev.succ ?_
  simp only [varint_Decode.j0]
  by_cases h1 : (b.length : Int) < o
  · refine Ev.pos (by simpa using h1) ?_
    exact Ev.eq (Ev.now _) (by rw [if_pos (Or.inr h1)])
  · refine Ev.neg (by simpa using h1) ?_
    obtain ⟨n, rfl⟩ := Int.eq_ofNat_of_zero_le (show 0 ≤ o by omega)
    rw [if_neg (by omega), Int.toNat_natCast]
    exact dec_l0 b hb hlen n (by omega) 10 0 0 rfl (by decide)

/-! ### fixed numbers -/
theorem shr_256 (n i : Nat) (hi : i ≤ 7) (hn : n < 18446744073709551616) : (shr .u64 (n : Int) (wrap64 (8 * (i : Int)))) % 256 = ((n / 256 ^ i % 256 : Nat) : Int) := by
  have e : min (8 * (i : Int)).toNat 64 = 8 * i := by omega
  have e2 : (2 : Int) ^ (8 * i) = ((256 ^ i : Nat) : Int) := by rw [Int.pow_mul]; simp
  rw [w64 _ (by omega) (by omega)]
  unfold shr
  rw [show IntKind.u64.bits = 64 from rfl, e, e2, ← Int.natCast_ediv]
  rfl
theorem fix_l0 (n s : Nat) (hs : s ≤ 8) (hn : n < 18446744073709551616) : ∀ (f i : Nat) (l : List Int), i + f = s → l.length = s → l.take i = (fixed n s).take i → 
    Ev (fun k => varint_Fixed.l0 k n l s i) (fixed n s) := by
  intro f
  induction f with
  | zero =>
    intro i l hi hl ht
    refine Ev.succ ?_
    simp only [varint_Fixed.l0]
    refine Ev.neg (by omega) ?_
    refine Ev.eq (Ev.now _) ?_
    rw [List.take_of_length_le (by omega), List.take_of_length_le (by rw [fixed_len]; omega)] at ht
    exact ht
  | succ f ih =>
    intro i l hi hl ht
    refine Ev.succ ?_
    simp only [varint_Fixed.l0, shr_256 n i (by omega) hn, w64_add1 i (by omega), Int.toNat_natCast]
    refine Ev.pos (by omega) ?_
    refine Ev.pos (by rw [w64 _ (by omega) (by omega)]; omega) ?_
    refine Ev.pos (by omega) ?_
    refine Ev.pos (by omega) ?_
    refine ih (i + 1) _ (by omega) (by rw [List.length_set, hl]) ?_
    have hlt : i < (fixed n s).length := by rw [fixed_len]; omega
    rw [List.take_succ_eq_append_getElem (by rw [List.length_set]; omega), List.take_succ_eq_append_getElem hlt, List.getElem_set_self, List.take_set_of_le (by omega), ht]
    congr 2
    rw [fixed_get n s i (by omega)]
theorem fix_ev (n : Nat) (hn : n < 18446744073709551616) (s : Int) : Ev (fun k => varint_Fixed.f k n s) (if s < 1 ∨ 8 < s then [] else fixed n s.toNat) := by
  unfold varint_Fixed.f
  have bad : (s < 1 ∨ 8 < s) → Ev (fun k => varint_Fixed.j0 k n s true) (if s < 1 ∨ 8 < s then [] else fixed n s.toNat) := fun h => by
    rw [if_pos h]
    refine Ev.succ ?_
    simp only [varint_Fixed.j0]
    refine Ev.pos (by decide) ?_
    exact Ev.now _
  by_cases h1 : s < 1
  · refine Ev.pos h1 ?_
    exact bad (.inl h1)
  refine Ev.neg h1 ?_
  by_cases h8 : 8 < s
  · rw [show decide (s > 8) = true by simpa using h8]
    exact bad (.inr h8)
  · rw [show decide (s > 8) = false by simpa using h8, if_neg (by omega)]
    refine Ev.succ ?_
    simp only [varint_Fixed.j0]
    refine Ev.neg (by decide) ?_
    refine Ev.pos (by omega) ?_
    refine Ev.pos (by omega) ?_
    obtain ⟨m, rfl⟩ := Int.eq_ofNat_of_zero_le (show 0 ≤ s by omega)
    rw [Int.toNat_natCast]
    exact fix_l0 n m (by omega) hn m 0 _ (by omega) (by rw [List.length_replicate]) (by simp)

/-! ### reading fixed numbers -/
def rfx (b : List Int) (o s : Int) : Int × Int :=
  if s < 1 ∨ 8 < s ∨ o < 0 ∨ (b.length : Int) < o then (0, 1) else if (b.length : Int) - o < s then (0, 2) else (((le ((b.drop o.toNat).take s.toNat) : Nat) : Int), 0)
theorem rdf_l0 (b : List Int) (hb : ∀ x ∈ b, 0 ≤ x ∧ x < 256) (hlen : b.length < 4611686018427387904) (o s : Nat) (hs : s ≤ 8) (ho : o + s ≤ b.length) :
    ∀ (f i : Nat), i + f = s → Ev (fun k => varint_ReadFixed.l0 k b o ((le ((b.drop o).take i) : Nat) : Int) s i) (((le ((b.drop o).take s) : Nat) : Int), 0) := by
  intro f
  induction f with
  | zero =>
    intro i hi
    refine Ev.succ ?_
    simp only [varint_ReadFixed.l0]
    refine Ev.neg (by omega) ?_
    rw [show i = s by omega]
    exact Ev.now _
  | succ f ih =>
    intro i hi
    have hlt : o + i < b.length := by omega
    have hr := getD_range hb hlt
    obtain ⟨c, hc⟩ := Int.eq_ofNat_of_zero_le hr.1
    rw [hc] at hr
    have hl : ((b.drop o).take i).length = i := by rw [List.length_take, List.length_drop]; omega
    have hall : ∀ x ∈ (b.drop o).take i, 0 ≤ x ∧ x < 256 := fun x hx => hb x (List.mem_of_mem_drop (List.mem_of_mem_take hx))
    have hle := le_lt ((b.drop o).take i) hall
    rw [hl] at hle
    have htake : (b.drop o).take (i + 1) = (b.drop o).take i ++ [(c : Int)] := by
      rw [List.take_succ_eq_append_getElem (by rw [List.length_drop]; omega)]
      congr 2
      rw [List.getElem_drop]
      rw [← hc, List.getD_eq_getElem?_getD, List.getElem?_eq_getElem hlt]; rfl
    have hle2 : le ((b.drop o).take (i + 1)) = le ((b.drop o).take i) + c * 256 ^ i := by
      rw [htake, le_append, hl]; simp [le, Nat.mul_comm]
    have hp7 : 256 ^ i ≤ 256 ^ 7 := Nat.pow_le_pow_right (by decide) (by omega)
    have h7 : (256 : Nat) ^ 7 = 72057594037927936 := by decide
    have hcb : c * 256 ^ i ≤ 255 * 72057594037927936 := Nat.mul_le_mul (by omega) (by omega)
    have e1 : shl .u64 (IntKind.u64.wrap (rd b (((o + i : Nat)) : Int))) (wrap64 (8 * (i : Int))) = ((c * 256 ^ i : Nat) : Int) := by
      have e : min (8 * (i : Int)).toNat 64 = 8 * i := by omega
      have e2 : (2 : Int) ^ (8 * i) = ((256 ^ i : Nat) : Int) := by rw [Int.pow_mul]; simp
      rw [rd_nat, hc, wrap_u64_of (c : Int) (by omega) (by omega), w64 _ (by omega) (by omega)]
      unfold shl
      rw [show IntKind.u64.bits = 64 from rfl, e, e2, show (c : Int) * ((256 ^ i : Nat) : Int) = ((c * 256 ^ i : Nat) : Int) by simp]
      exact wrap_u64_of _ (by omega) (by omega)
    have e2 : bits .or .u64 ((le ((b.drop o).take i) : Nat) : Int) ((c * 256 ^ i : Nat) : Int) = ((le ((b.drop o).take (i + 1)) : Nat) : Int) := by
      have e2 : (2 : Int) ^ (8 * i) = ((256 ^ i : Nat) : Int) := by rw [Int.pow_mul]; simp
      rw [or_add (8 * i) _ _ (by omega) (by rw [e2]; omega) (by omega) (by omega) (by omega) ?_, hle2]
      · omega
      · rw [e2, show ((c * 256 ^ i : Nat) : Int) = (c : Int) * ((256 ^ i : Nat) : Int) from Int.natCast_mul _ _]; exact Int.mul_emod_left _ _
    refine Ev.succ ?_
    simp only [varint_ReadFixed.l0, w64_add o i (by omega), e1, e2, w64_add1 i (by omega)]
    clear e1 e2
    refine Ev.pos (by omega) ?_
    refine Ev.pos (by omega) ?_
    refine Ev.pos (by omega) ?_
    refine Ev.pos (by rw [w64 _ (by omega) (by omega)]; omega) ?_
    exact ih (i + 1) (by omega)
theorem rdf_ev (b : List Int) (hb : ∀ x ∈ b, 0 ≤ x ∧ x < 256) (hlen : b.length < 4611686018427387904) (o s : Int) : Ev (fun k => varint_ReadFixed.f k b o s) (rfx b o s) := by
  unfold varint_ReadFixed.f
  have bad : (s < 1 ∨ 8 < s ∨ o < 0 ∨ (b.length : Int) < o) → Ev (fun k => varint_ReadFixed.j0 k b o s true) (rfx b o s) := fun h => by
    unfold rfx
    rw [if_pos h]
    refine Ev.succ ?_
    simp only [varint_ReadFixed.j0]
    refine Ev.pos (by decide) ?_
    exact Ev.now _
  by_cases h1 : s < 1
  · refine Ev.pos h1 ?_
    exact bad (by omega)
  refine Ev.neg h1 ?_
  by_cases h8 : 8 < s
  · refine Ev.pos h8 ?_
    exact bad (by omega)
  refine Ev.neg h8 ?_
  by_cases h0 : o < 0
  · refine Ev.pos h0 ?_
    exact bad (by omega)
  refine Ev.neg h0 ?_
  by_cases hl : (b.length : Int) < o
  · rw [show decide (o > (b.length : Int)) = true by simpa using hl]
    exact bad (by omega)
  rw [show decide (o > (b.length : Int)) = false by simpa using hl]
  unfold rfx
  rw [if_neg (by omega)]
  obtain ⟨m, rfl⟩ := Int.eq_ofNat_of_zero_le (show 0 ≤ s by omega)
  obtain ⟨n, rfl⟩ := Int.eq_ofNat_of_zero_le (show 0 ≤ o by omega)
  refine Ev.succ ?_
  simp only [varint_ReadFixed.j0, w64 ((b.length : Int) - (n : Int)) (by omega) (by omega)]
  refine Ev.neg (by decide) ?_
  by_cases hsh : (b.length : Int) - n < m
  · refine Ev.pos hsh ?_
    exact Ev.eq (Ev.now _) (by rw [if_pos hsh])
  · refine Ev.neg hsh ?_
    rw [if_neg hsh, Int.toNat_natCast, Int.toNat_natCast]
    have := rdf_l0 b hb hlen n m (by omega) (by omega) m 0 (by omega)
    simpa [le] using this

/-! ### varint.Encode -/
theorem enc_l0 : ∀ (f n : Nat) (acc : List Int), n < 128 ^ (f + 1) → acc.length + f < 1000 → Ev (fun k => varint_Encode.l0 k (n : Int) acc) (acc ++ venc n) := by
  intro f
  induction f with
  | zero =>
    intro n acc hn ha
    have h : n < 128 := by simpa using hn
    refine Ev.succ ?_
    simp only [varint_Encode.l0]
    refine Ev.neg (by omega) ?_
    refine Ev.pos (by omega) ?_
    exact Ev.eq (Ev.now _) (by rw [venc_lt h, show (n : Int) % 256 = n by omega])
  | succ f ih =>
    intro n acc hn ha
    have hn2 : n / 128 < 128 ^ (f + 1) := by
      rw [Nat.div_lt_iff_lt_mul (by decide), ← Nat.pow_succ]; exact hn
    clear hn
    refine Ev.succ ?_
    simp only [varint_Encode.l0]
    by_cases h : n < 128
    · refine Ev.neg (by omega) ?_
      refine Ev.pos (by omega) ?_
      exact Ev.eq (Ev.now _) (by rw [venc_lt h, show (n : Int) % 256 = n by omega])
    · refine Ev.pos (by omega) ?_
      refine Ev.pos (by omega) ?_
      have e : bits .or .u8 ((n : Int) % 256) 128 = ((128 + n % 128 : Nat) : Int) := by
        rw [or_128 _ (by omega) (by omega)]; omega
      have e2 : (n : Int) / 128 = ((n / 128 : Nat) : Int) := by omega
      rw [e, e2]
      have := ih (n / 128) (acc ++ [((128 + n % 128 : Nat) : Int)]) hn2 (by simp; omega)
      rw [venc_ge h]
      simpa using this
theorem enc_ev (n : Nat) (h : n < 18446744073709551616) : Ev (fun k => varint_Encode.f k (n : Int)) (venc n) := by
  have hp : (128 : Nat) ^ (9 + 1) = 1180591620717411303424 := by decide
  have := enc_l0 9 n [] (by omega) (by decide)
  unfold varint_Encode.f
  simpa using this

theorem vdec_ok (b : List Int) (hb : ∀ x ∈ b, 0 ≤ x ∧ x < 256) (o : Int) (h : (vdec b o).2.2 = 0) :
    ∃ n m : Nat, o = m ∧ (vdec b o).1 = n ∧ n < 18446744073709551616 ∧ (vdec b o).2.1 = ((m + (venc n).length : Nat) : Int) ∧ m + (venc n).length ≤ b.length ∧ (b.drop m).take (venc n).length = venc n := by
  by_cases c : o < 0 ∨ (b.length : Int) < o
  · simp [vdec, c] at h
  · have hv : vdec b o = vd b o.toNat 10 0 0 := by simp [vdec, c]
    obtain ⟨v, t, e⟩ : ∃ v t, vd b o.toNat 10 0 0 = (v, t, 0) := ⟨(vdec b o).1, (vdec b o).2.1, by rw [← hv]; rw [← h]⟩
    obtain ⟨n, h1, h2, _, h3, h4, h5⟩ := vd_ok o.toNat b hb 10 0 0 v t rfl e
    refine ⟨n, o.toNat, by omega, ?_, by simpa using h2, ?_, by simpa using h4, by simpa using h5⟩
    · rw [hv, e]; simpa using h1
    · rw [hv, e]; simpa using h3

/-! ### how many bits -/
def IsLen (n r : Nat) : Prop := n < 2 ^ r ∧ (0 < r → 2 ^ (r - 1) ≤ n)
theorem IsLen.shift {n i r : Nat} (h : IsLen (n / 2 ^ i) r) (hn : 2 ^ i ≤ n) : IsLen n (r + i) := by
  obtain ⟨h1, h2⟩ := h
  have hp : 0 < 2 ^ i := Nat.pow_pos (by decide)
  have h3 : 1 ≤ n / 2 ^ i := (Nat.le_div_iff_mul_le hp).2 (by omega)
  refine ⟨?_, fun _ => ?_⟩
  · rw [Nat.pow_add]
    exact (Nat.div_lt_iff_lt_mul hp).1 h1
  · have hr : 0 < r := by
      rcases Nat.eq_zero_or_pos r with e | e
      · subst e; simp at h1; omega
      · exact e
    have := h2 hr
    rw [show r + i - 1 = (r - 1) + i by omega, Nat.pow_add]
    exact (Nat.le_div_iff_mul_le hp).1 this
def T8 : ByteArray := ⟨#[0, 1, 2, 2, 3, 3, 3, 3, 4, 4, 4, 4, 4, 4, 4, 4, 5, 5, 5, 5, 5, 5, 5, 5, 5, 5, 5, 5, 5, 5, 5, 5, 6, 6, 6, 6, 6, 6, 6, 6, 6, 6, 6, 6, 6, 6, 6, 6, 6, 6, 6, 6, 6, 6, 6, 6, 6, 6, 6, 6, 6, 6, 6, 6, 7, 7, 7, 7, 7, 7, 7, 7, 7, 7, 7, 7, 7, 7, 7, 7, 7, 7, 7, 7, 7, 7, 7, 7, 7, 7, 7, 7, 7, 7, 7, 7, 7, 7, 7, 7, 7, 7, 7, 7, 7, 7, 7, 7, 7, 7, 7, 7, 7, 7, 7, 7, 7, 7, 7, 7, 7, 7, 7, 7, 7, 7, 7, 7, 8, 8, 8, 8, 8, 8, 8, 8, 8, 8, 8, 8, 8, 8, 8, 8, 8, 8, 8, 8, 8, 8, 8, 8, 8, 8, 8, 8, 8, 8, 8, 8, 8, 8, 8, 8, 8, 8, 8, 8, 8, 8, 8, 8, 8, 8, 8, 8, 8, 8, 8, 8, 8, 8, 8, 8, 8, 8, 8, 8, 8, 8, 8, 8, 8, 8, 8, 8, 8, 8, 8, 8, 8, 8, 8, 8, 8, 8, 8, 8, 8, 8, 8, 8, 8, 8, 8, 8, 8, 8, 8, 8, 8, 8, 8, 8, 8, 8, 8, 8, 8, 8, 8, 8, 8, 8, 8, 8, 8, 8, 8, 8, 8, 8, 8, 8, 8, 8, 8, 8, 8, 8, 8, 8, 8, 8, 8, 8]⟩
def J8 (T : ByteArray) (x0 x2 : Int) : Option Int := if x0 ≥ 65536 then (if (x0 / 65536) ≥ 256 then (if 0 ≤ (((x0 / 65536) / 256) % 256) then (if (((x0 / 65536) / 256) % 256) < 256 then (some (wrap64 ((wrap64 ((wrap64 (x2 + 16)) + 8)) + (wrap64 (bt T (((x0 / 65536) / 256) % 256)))))) else (none)) else (none)) else (if 0 ≤ ((x0 / 65536) % 256) then (if ((x0 / 65536) % 256) < 256 then (some (wrap64 ((wrap64 (x2 + 16)) + (wrap64 (bt T ((x0 / 65536) % 256)))))) else (none)) else (none))) else (if x0 ≥ 256 then (if 0 ≤ ((x0 / 256) % 256) then (if ((x0 / 256) % 256) < 256 then (some (wrap64 ((wrap64 (x2 + 8)) + (wrap64 (bt T ((x0 / 256) % 256)))))) else (none)) else (none)) else (if 0 ≤ ((x0) % 256) then (if ((x0) % 256) < 256 then (some (wrap64 (x2 + (wrap64 (bt T ((x0) % 256)))))) else (none)) else (none)))
set_option maxRecDepth 100000 in
theorem j8_eq (x0 x2 : Int) : (fun k => bits_Len64.j0 (k + 1) x0 x2) = fun _ => J8 T8 x0 x2 := rfl
theorem t8_all : ∀ c : Fin 256, 0 ≤ bt T8 (c.val : Int) ∧ bt T8 (c.val : Int) ≤ 8 ∧ c.val < 2 ^ (bt T8 (c.val : Int)).toNat ∧ (0 < (bt T8 (c.val : Int)).toNat → 2 ^ ((bt T8 (c.val : Int)).toNat - 1) ≤ c.val) := by
  decide +kernel
theorem t8_key (c : Nat) (hc : c < 256) : ∃ v : Nat, bt T8 (c : Int) = (v : Int) ∧ v ≤ 8 ∧ IsLen c v := by
  obtain ⟨h0, h1, h2, h3⟩ := t8_all ⟨c, hc⟩
  refine ⟨(bt T8 (c : Int)).toNat, (Int.toNat_of_nonneg h0).symm, ?_, h2, h3⟩
  have h1' : bt T8 (c : Int) ≤ 8 := h1
  omega
theorem len_j0 (n : Nat) (hn : n < 4294967296) (s : Nat) (hs : s ≤ 32) : ∃ r : Nat, IsLen n r ∧ Ev (fun k => bits_Len64.j0 k (n : Int) (s : Int)) ((s + r : Nat) : Int) := by
  by_cases h1 : 65536 ≤ n
  · by_cases h2 : 256 ≤ n / 65536
    · obtain ⟨v, hv, hv8, hi⟩ := t8_key (n / 65536 / 256) (by omega)
      have e : ((n : Int) / 65536 / 256) % 256 = ((n / 65536 / 256 : Nat) : Int) := by omega
      have e2 : wrap64 ((wrap64 ((wrap64 ((s : Int) + 16)) + 8)) + (wrap64 (v : Int))) = ((s + (v + 8 + 16) : Nat) : Int) := by
        rw [w64 ((s : Int) + 16) (by omega) (by omega), w64 ((s : Int) + 16 + 8) (by omega) (by omega), w64 (v : Int) (by omega) (by omega), w64 ((s : Int) + 16 + 8 + v) (by omega) (by omega)]; omega
      refine ⟨v + 8 + 16, IsLen.shift (IsLen.shift hi (by omega)) (by omega), Ev.succ ?_⟩
      rw [j8_eq]
      unfold J8
      rw [e, hv, e2]
      clear hv e e2
      refine Ev.pos (by omega) ?_
      refine Ev.pos (by omega) ?_
      refine Ev.pos (by omega) ?_
      refine Ev.pos (by omega) ?_
      exact Ev.now _
    · obtain ⟨v, hv, hv8, hi⟩ := t8_key (n / 65536) (by omega)
      have e : ((n : Int) / 65536) % 256 = ((n / 65536 : Nat) : Int) := by omega
      have e2 : wrap64 ((wrap64 ((s : Int) + 16)) + (wrap64 (v : Int))) = ((s + (v + 16) : Nat) : Int) := by
        rw [w64 ((s : Int) + 16) (by omega) (by omega), w64 (v : Int) (by omega) (by omega), w64 ((s : Int) + 16 + v) (by omega) (by omega)]; omega
      refine ⟨v + 16, IsLen.shift hi (by omega), Ev.succ ?_⟩
      rw [j8_eq]
      unfold J8
      rw [e, hv, e2]
      clear hv e e2
      refine Ev.pos (by omega) ?_
      refine Ev.neg (by omega) ?_
      refine Ev.pos (by omega) ?_
      refine Ev.pos (by omega) ?_
      exact Ev.now _
  · by_cases h2 : 256 ≤ n
    · obtain ⟨v, hv, hv8, hi⟩ := t8_key (n / 256) (by omega)
      have e : ((n : Int) / 256) % 256 = ((n / 256 : Nat) : Int) := by omega
      have e2 : wrap64 ((wrap64 ((s : Int) + 8)) + (wrap64 (v : Int))) = ((s + (v + 8) : Nat) : Int) := by
        rw [w64 ((s : Int) + 8) (by omega) (by omega), w64 (v : Int) (by omega) (by omega), w64 ((s : Int) + 8 + v) (by omega) (by omega)]; omega
      refine ⟨v + 8, IsLen.shift hi (by omega), Ev.succ ?_⟩
      rw [j8_eq]
      unfold J8
      rw [e, hv, e2]
      clear hv e e2
      refine Ev.neg (by omega) ?_
      refine Ev.pos (by omega) ?_
      refine Ev.pos (by omega) ?_
      refine Ev.pos (by omega) ?_
      exact Ev.now _
    · obtain ⟨v, hv, hv8, hi⟩ := t8_key n (by omega)
      have e : (n : Int) % 256 = (n : Int) := by omega
      have e2 : wrap64 ((s : Int) + (wrap64 (v : Int))) = ((s + v : Nat) : Int) := by
        rw [w64 (v : Int) (by omega) (by omega), w64 ((s : Int) + v) (by omega) (by omega)]; omega
      refine ⟨v, hi, Ev.succ ?_⟩
      rw [j8_eq]
      unfold J8
      rw [e, hv, e2]
      clear hv e e2
      refine Ev.neg (by omega) ?_
      refine Ev.neg (by omega) ?_
      refine Ev.pos (by omega) ?_
      refine Ev.pos (by omega) ?_
      exact Ev.now _
theorem len_ev (n : Nat) (hn : n < 18446744073709551616) : ∃ r : Nat, IsLen n r ∧ Ev (fun k => varint_BitWidth.f k (n : Int)) (r : Int) := by
  by_cases h : 4294967296 ≤ n
  · obtain ⟨r, hr, he⟩ := len_j0 (n / 4294967296) (by omega) 32 (by omega)
    refine ⟨r + 32, IsLen.shift hr (by omega), ?_⟩
    unfold varint_BitWidth.f bits_Len64.f
    have e : (n : Int) / 4294967296 = ((n / 4294967296 : Nat) : Int) := by omega
    refine Ev.bind (a := ((r + 32 : Nat) : Int)) ?_ (Ev.now _)
    refine Ev.pos (by omega) ?_
    rw [e, Nat.add_comm]
    exact he
  · obtain ⟨r, hr, he⟩ := len_j0 n (by omega) 0 (by omega)
    refine ⟨r, hr, ?_⟩
    unfold varint_BitWidth.f bits_Len64.f
    refine Ev.bind (a := (r : Int)) ?_ (Ev.now _)
    refine Ev.neg (by omega) ?_
    rw [Nat.zero_add] at he
    exact he
theorem IsLen.le {n r : Nat} (h : IsLen n r) (i : Nat) (hn : n < 2 ^ i) : r ≤ i := by
  rcases Nat.lt_or_ge i r with h1 | h1
  · have := h.2 (by omega)
    have h2 : 2 ^ i ≤ 2 ^ (r - 1) := Nat.pow_le_pow_right (by decide) (by omega)
    omega
  · exact h1
theorem IsLen.div {n r i : Nat} (h : IsLen n r) (hr : i < r) : IsLen (n / 2 ^ i) (r - i) := by
  have hp : 0 < 2 ^ i := Nat.pow_pos (by decide)
  refine ⟨?_, fun h0 => ?_⟩
  · rw [Nat.div_lt_iff_lt_mul hp, ← Nat.pow_add, show r - i + i = r by omega]
    exact h.1
  · rw [Nat.le_div_iff_mul_le hp, ← Nat.pow_add, show r - i - 1 + i = r - 1 by omega]
    exact h.2 (by omega)
theorem venc_bits : ∀ (f n r : Nat), n < 128 ^ f → IsLen n r → (venc n).length = max 1 ((r + 6) / 7) := by
  intro f
  induction f with
  | zero =>
    intro n r hn h
    have : n = 0 := by simpa using hn
    subst this
    have := h.le 0 (by decide)
    rw [venc_lt (by decide), List.length_singleton]
    omega
  | succ f ih =>
    intro n r hn h
    by_cases c : n < 128
    · have := h.le 7 (by simpa using c)
      rw [venc_lt c, List.length_singleton]
      omega
    · have hr : 7 < r := by
        rcases Nat.lt_or_ge 7 r with h1 | h1
        · exact h1
        · have h2 : 2 ^ r ≤ 2 ^ 7 := Nat.pow_le_pow_right (by decide) h1
          have h3 := h.1
          have h4 : (2 : Nat) ^ 7 = 128 := by decide
          omega
      have hd := h.div hr
      have := ih (n / 128) (r - 7) (by rw [Nat.div_lt_iff_lt_mul (by decide), ← Nat.pow_succ]; exact hn) hd
      rw [venc_ge c, List.length_cons, this]
      omega

theorem awake_ev : Ev (fun k => laminalaw01_awake.f k) true := Ev.of laminalaw01_awake.mono (k := 20) (by decide +kernel)
theorem vdec_at (pre post : List Int) (n : Nat) (hn : n < 18446744073709551616) : vdec (pre ++ (venc n ++ post)) (pre.length : Int) = ((n : Int), ((pre.length + (venc n).length : Nat) : Int), 0) := by
  have h := vd_venc pre.length (pre ++ (venc n ++ post)) post 10 0 0 n pre rfl (by decide) (by simpa using hn) (fun h => absurd h (by decide)) rfl (by omega)
  unfold vdec
  rw [if_neg (by simp only [List.length_append]; omega), Int.toNat_natCast, h]
  simp
theorem rt_j1 (n : Nat) (hn : n < 18446744073709551616) : Ev (fun k => laminalaw01_VarintRoundTrip.j1 k (n : Int) false) true := by
  refine Ev.succ ?_
  simp only [laminalaw01_VarintRoundTrip.j1]
  refine Ev.neg (by decide) ?_
  refine Ev.bind (fix_ev n hn 8) ?_
  rw [if_neg (by decide), show (8 : Int).toNat = 8 from rfl]
  have hR : rfx (fixed n 8) 0 8 = ((n : Int), 0) := by
    have h8 := fixed_len 8 n
    have hle := le_fixed 8 n (by omega)
    have ht : (fixed n 8).take 8 = fixed n 8 := by rw [List.take_of_length_le (by omega)]
    unfold rfx
    simp [h8, ht, hle]
  refine Ev.bind (Ev.eq (rdf_ev (fixed n 8) (fixed_range 8 n) (by rw [fixed_len]; decide) 0 8) hR) ?_
  refine Ev.pos rfl ?_
  refine Ev.pos rfl ?_
  exact Ev.bind awake_ev (Ev.now _)
theorem rt_j0 (n : Nat) (hn : n < 18446744073709551616) (b : List Int) (hb : ∀ x ∈ b, 0 ≤ x ∧ x < 256) (hlen : b.length < 4611686018427387904) : Ev (fun k => laminalaw01_VarintRoundTrip.j0 k (n : Int) b false) true := by
  refine Ev.succ ?_
  simp only [laminalaw01_VarintRoundTrip.j0]
  refine Ev.neg (by decide) ?_
  refine Ev.bind (dec_ev b hb hlen 0) ?_
  by_cases c0 : (vdec b 0).2.2 = 0
  · obtain ⟨v, m, hm, e1, hv64, e2, hle, htk⟩ := vdec_ok b hb 0 c0
    have hm0 : m = 0 := by omega
    subst hm0
    have hp := venc_pos v
    rw [Nat.zero_add] at e2 hle
    rw [List.drop_zero] at htk
    refine Ev.pos c0 ?_
    simp only [e1, e2]
    refine Ev.neg (by omega) ?_
    refine Ev.neg (by omega) ?_
    refine Ev.bind (enc_ev v hv64) ?_
    refine Ev.pos (by omega) ?_
    refine Ev.pos (by omega) ?_
    rw [Int.toNat_natCast, htk, show ((strOfNums (venc v)).toList != (strOfNums (venc v)).toList) = false by simp]
    exact rt_j1 n hn
  · refine Ev.neg c0 ?_
    exact rt_j1 n hn
theorem VarintRoundTrip : laminalaw01_VarintRoundTrip.Pure := by
  intro n0 b1 b2 wn ⟨h1l, h1w⟩ h18 ⟨h2l, h2w⟩ h28 hk
  have hn0 := wf_u64 wn
  obtain ⟨n, rfl⟩ := Int.eq_ofNat_of_zero_le hn0.1
  have hn : n < 18446744073709551616 := by omega
  refine Ev.rounds (g := fun k => laminalaw01_VarintRoundTrip.f k n b1 b2) ?_
  unfold laminalaw01_VarintRoundTrip.f
  refine Ev.bind (enc_ev n hn) ?_
  have h10 := venc_len10 n hn
  have hp := venc_pos n
  refine Ev.pos (by simp; omega) ?_
  refine Ev.bind0 rfl ?_
  refine Ev.pos (by simp; omega) ?_
  refine Ev.bind0 rfl ?_
  refine Ev.pos (by simp; omega) ?_
  have eA : ([] ++ b1 ++ venc n) ++ b2 = b1 ++ (venc n ++ b2) := by simp
  have hbb : ∀ x ∈ ([] ++ b1 ++ venc n) ++ b2, 0 ≤ x ∧ x < 256 := by
    intro x hx
    simp only [List.nil_append, List.mem_append] at hx
    rcases hx with (hx | hx) | hx
    · exact wf_u8 (h1w x hx)
    · exact venc_range n x hx
    · exact wf_u8 (h2w x hx)
  have hV : vdec (([] ++ b1 ++ venc n) ++ b2) (b1.length : Int) = ((n : Int), ((b1.length + (venc n).length : Nat) : Int), 0) := by rw [eA]; exact vdec_at b1 b2 n hn
  refine Ev.bind (Ev.eq (dec_ev _ hbb (by simp; omega) _) hV) ?_
  refine Ev.pos rfl ?_
  refine Ev.pos rfl ?_
  refine Ev.pos (by rw [w64_add b1.length _ (by omega)]) ?_
  obtain ⟨r, hr, he⟩ := len_ev n hn
  have hr64 := hr.le 64 (by omega)
  refine Ev.bind he ?_
  have hvb := venc_bits 10 n r (by omega) hr
  have hm : mx 1 (wrap64 (Int.tdiv (wrap64 ((r : Int) + 6)) 7)) = ((venc n).length : Int) := by
    rw [w64 ((r : Int) + 6) (by omega) (by omega), Int.tdiv_eq_ediv_of_nonneg (show (0 : Int) ≤ (r : Int) + 6 by omega), w64 (((r : Int) + 6) / 7) (by omega) (by omega), hvb]
    unfold mx
    split <;> omega
  rw [hm, show (((venc n).length : Int) != ((venc n).length : Int)) = false by simp]
  exact rt_j0 n hn b2 (fun x hx => wf_u8 (h2w x hx)) (by omega)

end Go.Proofs.Ytcjlmbbaknmpdaa.Pure
