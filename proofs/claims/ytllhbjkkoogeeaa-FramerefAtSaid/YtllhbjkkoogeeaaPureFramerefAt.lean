/- laminalaw08.FramerefAt returns true for all its arguments (At returns each value of an encoding that lies between other bytes, and ErrArg for an index out of range). Conditions: none beyond the row's own (slices of at most 2^47 - 4096 bytes). -/
import Derived.Test.YtllhbjkkoogeeaaQFramerefAtx7
import Derived.Test.YtllhbjkkoogeeaaM01
import Derived.Test.YtllhbjkkoogeeaaM02
import Derived.Test.YtllhbjkkoogeeaaM06
import Derived.Test.YtllhbjkkoogeeaaM09
set_option linter.unusedVariables false
set_option linter.unusedSimpArgs false
namespace Go.Proofs.Ytllhbjkkoogeeaa.Pure
open Go Go.RowKit Go.Proofs.Ytllhbjkkoogeeaa.QFramerefAt Go.Proofs.YtllhbjkkoogeeaaW.PrintWords Go.Proofs.YtllhbjkkoogeeaaW.PrintLast Go.Proofs.YtllhbjkkoogeeaaM

/-! ### varint.Decode and the reference's -/
theorem pow_shl (i : Nat) (hi : i ≤ 9) (c : Int) (h0 : 0 ≤ c) (h1 : c * 128 ^ i < 18446744073709551616) : shl .u64 c (7 * (i : Int)) = c * 128 ^ i := by
  have e : min (7 * (i : Int)).toNat 64 = 7 * i := by omega
  have e2 : (2 : Int) ^ (7 * i) = 128 ^ i := by rw [Int.pow_mul]; rfl
  unfold shl
  rw [show IntKind.u64.bits = 64 from rfl, e, e2]
  exact wrap_u64_of _ (Int.mul_nonneg h0 (Int.pow_nonneg (by decide))) h1
theorem dec_j2 (b : List Int) (hlen : b.length < 4611686018427387904) (o i acc c : Nat) (hi : i ≤ 9) (ho : o + i < b.length) (hc : c < 256) (hacc : acc < 128 ^ i) (f : Nat) (hf : i + f = 9)
    (h9 : ¬ (i = 9 ∧ 1 < c))
    (ih : i < 9 → acc + c % 128 * 128 ^ i < 128 ^ (i + 1) → Ev (fun k => varint_Decode.l0 k b o ((acc + c % 128 * 128 ^ i : Nat) : Int) ((i + 1 : Nat) : Int)) (vd b o f (i + 1) (acc + c % 128 * 128 ^ i))) :
    Ev (fun k => varint_Decode.j2 k b o acc i c i false)
      (if i = 9 ∧ 1 < c ∨ 0 < i ∧ c = 0 then (0, 0, 4) else if c < 128 then (((acc + c * 128 ^ i : Nat) : Int), ((o + i + 1 : Nat) : Int), 0) else vd b o f (i + 1) (acc + c % 128 * 128 ^ i)) := by
  have hp : 0 < 128 ^ i := Nat.pow_pos (by decide)
  have hple : 128 ^ i ≤ 128 ^ 9 := Nat.pow_le_pow_right (by decide) hi
  have h9v : (128 : Nat) ^ 9 = 9223372036854775808 := by decide
  have hm : c % 128 * 128 ^ i < 18446744073709551616 := by
    by_cases e : i = 9
    · subst e
      have : c ≤ 1 := by omega
      have : c % 128 ≤ 1 := by omega
      have := Nat.mul_le_mul_right (128 ^ 9) this
      omega
    · have h8 : 128 ^ i ≤ 128 ^ 8 := Nat.pow_le_pow_right (by decide) (by omega)
      have : (128 : Nat) ^ 8 = 72057594037927936 := by decide
      have : c % 128 * 128 ^ i ≤ 127 * 72057594037927936 := Nat.mul_le_mul (by omega) (by omega)
      omega
  have hlow : c % 128 * 128 ^ i + 128 ^ i ≤ 128 ^ (i + 1) := by
    rw [pow128, ← Nat.succ_mul]
    exact Nat.mul_le_mul_right _ (by omega)
  have hs : shl .u64 (IntKind.u64.wrap (Go.bits .and .u8 c 127)) (wrap64 (7 * (i : Int))) = ((c % 128 * 128 ^ i : Nat) : Int) := by
    rw [and_127 _ (by omega) (by omega), w64 _ (by omega) (by omega), wrap_u64_of _ (by omega) (by omega), pow_shl i hi _ (by omega)]
    · push_cast; rfl
    · have : ((c % 128 * 128 ^ i : Nat) : Int) < 18446744073709551616 := by omega
      push_cast at this
      exact this
  have hor : Go.bits .or .u64 acc ((c % 128 * 128 ^ i : Nat) : Int) = ((acc + c % 128 * 128 ^ i : Nat) : Int) := by
    rw [or_add (7 * i) _ _ (by omega) ?_ (by omega) (by omega) (by omega) ?_]
    · push_cast; rfl
    · have e2 : (2 : Int) ^ (7 * i) = ((128 ^ i : Nat) : Int) := by rw [Int.pow_mul]; simp
      rw [e2]; omega
    · have e2 : (2 : Int) ^ (7 * i) = ((128 ^ i : Nat) : Int) := by rw [Int.pow_mul]; simp
      rw [e2]
      push_cast
      exact Int.mul_emod_left _ _
  refine Ev.succ ?_
  simp only [varint_Decode.j2, hs, hor, w64_add1 i (by omega), w64_add_1 o i (by omega)]
  clear hs hor
  refine Ev.neg (by decide) ?_
  refine Ev.pos (by rw [w64 _ (by omega) (by omega)]; omega) ?_
  by_cases h2 : c < 128
  · refine Ev.neg (by omega) ?_
    have hcm : c % 128 = c := Nat.mod_eq_of_lt h2
    by_cases h0 : c = 0
    · refine Ev.pos (by omega) ?_
      by_cases hi0 : 0 < i
      · refine Ev.pos (by omega) ?_
        exact Ev.eq (Ev.now _) (by rw [if_pos (Or.inr ⟨hi0, h0⟩)])
      · refine Ev.neg (by omega) ?_
        exact Ev.eq (Ev.now _) (by rw [if_neg (by omega), if_pos h2, hcm])
    · refine Ev.neg (by omega) ?_
      exact Ev.eq (Ev.now _) (by rw [if_neg (by omega), if_pos h2, hcm])
  · refine Ev.pos (by omega) ?_
    exact Ev.eq (ih (by omega) (by omega)) (by rw [if_neg (by omega), if_neg h2])
theorem dec_l0 (b : List Int) (hb : ∀ x ∈ b, 0 ≤ x ∧ x < 256) (hlen : b.length < 4611686018427387904) (o : Nat) (ho : o ≤ b.length) :
    ∀ (f i acc : Nat), i + f = 10 → acc < 128 ^ i → Ev (fun k => varint_Decode.l0 k b o acc i) (vd b o f i acc) := by
  intro f
  induction f with
  | zero =>
    intro i acc hi ha
    refine Ev.succ ?_
    simp only [varint_Decode.l0]
    refine Ev.neg (by omega) ?_
    exact Ev.now _
  | succ f ih =>
    intro i acc hi ha
    refine Ev.succ ?_
    simp only [varint_Decode.l0, w64_add o i (by omega), rd_nat]
    refine Ev.pos (by omega) ?_
    unfold vd
    by_cases hl : b.length ≤ o + i
    · refine Ev.pos (by omega) ?_
      exact Ev.eq (Ev.now _) (by rw [if_pos hl])
    refine Ev.neg (by omega) ?_
    refine Ev.pos (by omega) ?_
    refine Ev.pos (by omega) ?_
    rw [if_neg hl]
    have hr := getD_range hb (i := o + i) (by omega)
    obtain ⟨c, hc⟩ := Int.eq_ofNat_of_zero_le hr.1
    simp only [hc, Int.toNat_natCast]
    rw [hc] at hr
    have hstep : ¬ (i = 9 ∧ 1 < c) → Ev (fun k => varint_Decode.j2 k b o acc i c i false) (if i = 9 ∧ 1 < c ∨ 0 < i ∧ c = 0 then (0, 0, 4) else if c < 128 then (((acc + c * 128 ^ i : Nat) : Int), ((o + i + 1 : Nat) : Int), 0) else vd b o f (i + 1) (acc + c % 128 * 128 ^ i)) := fun h =>
      dec_j2 b hlen o i acc c (by omega) (by omega) (by omega) ha f (by omega) h (fun h1 h2 => ih (i + 1) _ (by omega) h2)
    by_cases h9 : i = 9
    · refine Ev.pos (by omega) ?_
      by_cases h1 : 1 < c
      · have : decide ((c : Int) > 1) = true := by simp; omega
        rw [this, if_pos (Or.inl ⟨h9, h1⟩)]
        refine Ev.succ ?_
        simp only [varint_Decode.j2]
        refine Ev.pos (by decide) ?_
        exact Ev.now _
      · have : decide ((c : Int) > 1) = false := by simp; omega
        rw [this]
        exact hstep (by omega)
    · refine Ev.neg (by omega) ?_
      exact hstep (by omega)
theorem dec_ev (b : List Int) (hb : ∀ x ∈ b, 0 ≤ x ∧ x < 256) (hlen : b.length < 4611686018427387904) (o : Int) : Ev (fun k => varint_Decode.f k b o) (vdec b o) := by
  unfold varint_Decode.f vdec
  by_cases h0 : o < 0
  · refine Ev.pos h0 ?_
    rw [if_pos (Or.inl h0)]
    refine Ev.succ ?_
    simp only [varint_Decode.j0]
    refine Ev.pos (by decide) ?_
    exact Ev.now _
  refine Ev.neg h0 ?_
  refine Ev.succ ?_
  simp only [varint_Decode.j0]
  by_cases h1 : (b.length : Int) < o
  · refine Ev.pos (by simpa using h1) ?_
    exact Ev.eq (Ev.now _) (by rw [if_pos (Or.inr h1)])
  · refine Ev.neg (by simpa using h1) ?_
    obtain ⟨n, rfl⟩ := Int.eq_ofNat_of_zero_le (show 0 ≤ o by omega)
    rw [if_neg (by omega), Int.toNat_natCast]
    exact dec_l0 b hb hlen n (by omega) 10 0 0 rfl (by decide)

/-! ### zigzag -/
theorem zig_f (x : Int) (h0 : -9223372036854775808 ≤ x) (h1 : x < 9223372036854775808) : varint_ZigZag.f x = some (zig x) := by
  unfold varint_ZigZag.f; rw [zig_bits x h0 h1]
theorem unzig_f (u : Int) (h0 : 0 ≤ u) (h1 : u < 18446744073709551616) : varint_UnZigZag.f u = some (unzig u) := by
  have h := unzig_bits u h0 h1
  simp only [IntKind.wrap_i64] at h
  unfold varint_UnZigZag.f wrap64
  rw [h]

/-! ### sizes, unpacking -/
def inr (n w : Int) : Bool := decide (0 ≤ n) && decide (n ≤ 1048576) && decide (0 ≤ w) && decide (w ≤ 64)
def psz (n w : Int) : Int := if inr n w = true then ((pbytes n.toNat w.toNat : Nat) : Int) else 0
theorem inr_iff {n w : Int} : inr n w = true ↔ 0 ≤ n ∧ n ≤ 1048576 ∧ 0 ≤ w ∧ w ≤ 64 := by
  simp [inr, and_assoc]
theorem iinr (n w : Int) : bitpack_inRange.f n w = some (inr n w) := by
  unfold bitpack_inRange.f inr
  by_cases h1 : n ≥ 0
  · rw [if_pos h1, decide_eq_true (show 0 ≤ n from h1)]
    by_cases h2 : n ≤ 1048576
    · rw [if_pos h2, decide_eq_true h2]
      by_cases h3 : w ≥ 0
      · rw [if_pos h3, decide_eq_true (show 0 ≤ w from h3)]; simp
      · rw [if_neg h3, decide_eq_false (show ¬ 0 ≤ w from h3)]; simp
    · rw [if_neg h2, decide_eq_false h2]; simp
  · rw [if_neg h1, decide_eq_false (show ¬ 0 ≤ n from h1)]; simp
theorem size_wrap (n w : Int) (h : inr n w = true) : wrap64 (Int.tdiv (wrap64 ((wrap64 (n * w)) + 7)) 8) = ((pbytes n.toNat w.toNat : Nat) : Int) := by
  obtain ⟨h1, h2, h3, h4⟩ := inr_iff.1 h
  obtain ⟨a, rfl⟩ := Int.eq_ofNat_of_zero_le h1
  obtain ⟨b, rfl⟩ := Int.eq_ofNat_of_zero_le h3
  have hm : a * b ≤ 1048576 * 64 := Nat.mul_le_mul (by omega) (by omega)
  have e1 : ((a : Int) * (b : Int)) = ((a * b : Nat) : Int) := by simp
  rw [e1, w64 ((a * b : Nat) : Int) (by omega) (by omega), w64 (((a * b : Nat) : Int) + 7) (by omega) (by omega), Int.tdiv_eq_ediv_of_nonneg (by omega), w64 _ (by omega) (by omega)]
  unfold pbytes
  simp
theorem isz (n w : Int) : bitpack_Size.f n w = some (psz n w) := by
  unfold bitpack_Size.f psz
  rw [iinr]
  simp only [Option.bind_some]
  by_cases h : inr n w = true
  · rw [if_pos h, if_pos h, size_wrap n w h]
  · rw [if_neg h, if_neg h]
theorem psz_nat (n w : Nat) (h : inr n w = true) : psz (n : Int) (w : Int) = ((pbytes n w : Nat) : Int) := by unfold psz; rw [if_pos h]; simp
/-- What Unpack answers. -/
def unp (b : List Int) (n w : Int) : List Int × Int :=
  if inr n w = true then (if (b.length : Int) < psz n w then ([], 2) else if (b.length : Int) > psz n w then ([], 3) else if le b < 2 ^ (n.toNat * w.toNat) then (unpackN w.toNat (le b) n.toNat, 0) else ([], 4)) else ([], 1)
theorem iread (b : List Int) (hb : ∀ x ∈ b, 0 ≤ x ∧ x < 256) (hl : b.length ≤ 100000000) (p w : Nat) (hw : w ≤ 64) (hp : p + w ≤ 8 * b.length) : bitpack_read.f b (p : Int) (w : Int) = some ((le b / 2 ^ p % 2 ^ w : Nat) : Int) := by
  unfold bitpack_read.f
  rw [if_pos]
  · simp
  · refine ⟨?_, by omega, by omega, by omega, by omega, by omega⟩
    simp only [okbytes, List.all_eq_true, Bool.and_eq_true, decide_eq_true_eq]
    exact hb
theorem set_unpack (w N : Nat) : ∀ (n i : Nat), i < n → ((unpackN w N i) ++ List.replicate (n - i) (0 : Int)).set i ((N / 2 ^ (i * w) % 2 ^ w : Nat) : Int) = unpackN w N (i + 1) ++ List.replicate (n - (i + 1)) 0 := by
  intro n i hi
  apply List.ext_getElem
  · simp [unpackN_len]; omega
  · intro j h1 h2
    have g : ∀ (m j : Nat) (hj : j < m), (unpackN w N m)[j]'(by rw [unpackN_len]; exact hj) = ((N / 2 ^ (j * w) % 2 ^ w : Nat) : Int) := by
      intro m j hj
      have := unpackN_get w m N j hj
      rw [List.getD_eq_getElem?_getD, List.getElem?_eq_getElem (by rw [unpackN_len]; exact hj)] at this
      simpa using this
    rw [List.getElem_set]
    by_cases hij : i = j
    · subst hij
      rw [if_pos rfl, List.getElem_append_left (by rw [unpackN_len]; omega), g (i + 1) i (by omega)]
    · rw [if_neg hij]
      by_cases hlt : j < i
      · rw [List.getElem_append_left (by rw [unpackN_len]; exact hlt), List.getElem_append_left (by rw [unpackN_len]; omega), g i j hlt, g (i + 1) j (by omega)]
      · rw [List.getElem_append_right (by rw [unpackN_len]; omega), List.getElem_append_right (by rw [unpackN_len]; omega)]
        simp
theorem iunp_l0 (b : List Int) (hb : ∀ x ∈ b, 0 ≤ x ∧ x < 256) (hl : b.length ≤ 100000000) (n w : Nat) (hn : n ≤ 1048576) (hw : w ≤ 64) (hlen : b.length = pbytes n w) :
    ∀ (d i : Nat), i + d = n → Ev (fun k => bitpack_Unpack.l0 k b (w : Int) (unpackN w (le b) i ++ List.replicate (n - i) 0) (n : Int) (i : Int)) (unpackN w (le b) n, 0) := by
  intro d
  induction d with
  | zero =>
    intro i h
    have : i = n := by omega
    subst this
    refine Ev.succ ?_
    simp only [bitpack_Unpack.l0]
    refine Ev.neg (by omega) ?_
    exact Ev.eq (Ev.now _) (by simp)
  | succ d ih =>
    intro i h
    have hm : i * w ≤ 1048576 * 64 := Nat.mul_le_mul (by omega) hw
    have hm2 : i * w + w ≤ n * w := by rw [← Nat.succ_mul]; exact Nat.mul_le_mul_right _ (by omega)
    have e1 : wrap64 ((i : Int) * (w : Int)) = ((i * w : Nat) : Int) := by
      rw [show ((i : Int) * (w : Int)) = ((i * w : Nat) : Int) by simp, w64 _ (by omega) (by omega)]
    refine Ev.succ ?_
    simp only [bitpack_Unpack.l0, e1, w64_add1 i (by omega)]
    refine Ev.pos (by omega) ?_
    refine Ev.bind0 (iread b hb hl (i * w) w hw (by rw [hlen]; unfold pbytes; omega)) ?_
    refine Ev.pos (by omega) ?_
    refine Ev.pos (by simp [unpackN_len]; omega) ?_
    rw [Int.toNat_natCast, set_unpack w (le b) n i (by omega)]
    exact ih (i + 1) (by omega)
theorem iunp_ev (b : List Int) (hb : ∀ x ∈ b, 0 ≤ x ∧ x < 256) (hl : b.length ≤ 100000000) (n w : Int) : Ev (fun k => bitpack_Unpack.f k b n w) (unp b n w) := by
  unfold bitpack_Unpack.f unp
  refine Ev.bind0 (isz n w) ?_
  refine Ev.bind0 (iinr n w) ?_
  by_cases h : inr n w = true
  · refine Ev.pos h ?_
    rw [if_pos h]
    by_cases h1 : (b.length : Int) < psz n w
    · refine Ev.pos h1 ?_
      rw [if_pos h1]; exact Ev.now _
    refine Ev.neg h1 ?_
    rw [if_neg h1]
    by_cases h2 : (b.length : Int) > psz n w
    · refine Ev.pos h2 ?_
      rw [if_pos h2]; exact Ev.now _
    refine Ev.neg h2 ?_
    rw [if_neg h2]
    obtain ⟨k1, k2, k3, k4⟩ := inr_iff.1 h
    obtain ⟨a, rfl⟩ := Int.eq_ofNat_of_zero_le k1
    obtain ⟨c, rfl⟩ := Int.eq_ofNat_of_zero_le k3
    have hsz := psz_nat a c h
    have hlen : b.length = pbytes a c := by omega
    have hm : a * c ≤ 1048576 * 64 := Nat.mul_le_mul (by omega) (by omega)
    have e1 : wrap64 ((a : Int) * (c : Int)) = ((a * c : Nat) : Int) := by
      rw [show ((a : Int) * (c : Int)) = ((a * c : Nat) : Int) by simp, w64 _ (by omega) (by omega)]
    have hpos : 0 ≤ psz (a : Int) (c : Int) := by rw [hsz]; omega
    have e2 : Int.tmod (wrap64 ((a : Int) * (c : Int))) 8 = ((a * c % 8 : Nat) : Int) := by
      rw [e1, Int.tmod_eq_emod_of_nonneg (by omega)]; omega
    have hlt := le_lt b hb
    rw [pow256] at hlt
    have j0f : le b < 2 ^ (a * c) → Ev (fun k => bitpack_Unpack.j0 k b (a : Int) (c : Int) false) (if le b < 2 ^ ((a : Int).toNat * (c : Int).toNat) then (unpackN (c : Int).toNat (le b) (a : Int).toNat, 0) else ([], 4)) := by
      intro hv
      simp only [Int.toNat_natCast]
      rw [if_pos hv]
      refine Ev.succ ?_
      simp only [bitpack_Unpack.j0]
      refine Ev.neg (by decide) ?_
      refine Ev.pos (by omega) ?_
      refine Ev.pos (by omega) ?_
      have := iunp_l0 b hb hl a c (by omega) (by omega) hlen a 0 (by omega)
      simpa [unpackN] using this
    rw [e2]
    by_cases h3 : ((a * c % 8 : Nat) : Int) = 0
    · refine Ev.pos h3 ?_
      exact j0f (Nat.lt_of_lt_of_le hlt (Nat.pow_le_pow_right (by decide) (by rw [hlen]; unfold pbytes; omega)))
    · refine Ev.neg h3 ?_
      have hs1 : wrap64 (psz (a : Int) (c : Int) - 1) = ((a * c / 8 : Nat) : Int) := by
        rw [hsz, w64 _ (by unfold pbytes; omega) (by unfold pbytes; omega)]; unfold pbytes; omega
      rw [hs1]
      have hq : a * c / 8 < b.length := by rw [hlen]; unfold pbytes; omega
      refine Ev.pos (by omega) ?_
      refine Ev.pos (by omega) ?_
      refine Ev.pos (by omega) ?_
      have hby : shr .u8 (rd b ((a * c / 8 : Nat) : Int)) ((a * c % 8 : Nat) : Int) = ((le b / 2 ^ (a * c) : Nat) : Int) := by
        unfold shr
        rw [rd_nat, le_get b _ hb, Int.toNat_natCast, Nat.min_eq_left (by show a * c % 8 ≤ 8; omega), ← pow_cast, ← Int.natCast_ediv]
        congr 1
        have h5 : le b / 256 ^ (a * c / 8) < 256 := by
          rw [pow256, Nat.div_lt_iff_lt_mul (Nat.two_pow_pos _), show 256 = 2 ^ 8 by rfl, ← Nat.pow_add]
          exact Nat.lt_of_lt_of_le hlt (Nat.pow_le_pow_right (by decide) (by rw [hlen]; unfold pbytes; omega))
        rw [Nat.mod_eq_of_lt h5, pow256, Nat.div_div_eq_div_mul, ← Nat.pow_add, show 8 * (a * c / 8) + a * c % 8 = a * c by omega]
      rw [hby]
      by_cases h4 : le b < 2 ^ (a * c)
      · rw [Nat.div_eq_of_lt h4]
        exact j0f h4
      · have h6 : 1 ≤ le b / 2 ^ (a * c) := (Nat.le_div_iff_mul_le (Nat.two_pow_pos _)).2 (by omega)
        rw [show (((le b / 2 ^ (a * c) : Nat) : Int) != 0) = true by rw [bne_iff_ne]; omega]
        simp only [Int.toNat_natCast]
        rw [if_neg h4]
        refine Ev.succ ?_
        simp only [bitpack_Unpack.j0]
        refine Ev.pos (by decide) ?_
        exact Ev.now _
  · refine Ev.neg h ?_
    rw [if_neg h]; exact Ev.now _
/-- What At answers. -/
def atP (b : List Int) (i w : Int) : Int := if w < 1 ∨ w > 64 ∨ i < 0 ∨ i ≥ ((8 * b.length / w.toNat : Nat) : Int) then 0 else ((le b / 2 ^ (i.toNat * w.toNat) % 2 ^ w.toNat : Nat) : Int)
theorem at_div (b : List Int) (hl : b.length ≤ 100000000) (w : Int) (h1 : 1 ≤ w) (h2 : w ≤ 64) : wrap64 (Int.tdiv (wrap64 (8 * (b.length : Int))) w) = ((8 * b.length / w.toNat : Nat) : Int) := by
  obtain ⟨c, rfl⟩ := Int.eq_ofNat_of_zero_le (show 0 ≤ w by omega)
  have h3 : 8 * b.length / c ≤ 8 * b.length := Nat.div_le_self _ _
  rw [w64 (8 * (b.length : Int)) (by omega) (by omega), Int.tdiv_eq_ediv_of_nonneg (by omega), show (8 * (b.length : Int)) = ((8 * b.length : Nat) : Int) by simp, ← Int.natCast_ediv, Int.toNat_natCast]
  exact w64n _ (by omega)
theorem at_in {b : List Int} {i c : Nat} (h : i < 8 * b.length / c) (hc : 0 < c) : i * c + c ≤ 8 * b.length := by
  have h1 : (i + 1) * c ≤ 8 * b.length := (Nat.le_div_iff_mul_le hc).1 h
  rw [Nat.succ_mul] at h1; exact h1

/-! ### Pack -/
theorem wf_u64s {l : List Int} (h : ∀ x ∈ l, (Lit.int .u64 x).wf = true) : ∀ x ∈ l, 0 ≤ x ∧ x < 18446744073709551616 := fun x hx => wf_u64 (h x hx)
theorem ipk (l : List Int) (hu : ∀ x ∈ l, 0 ≤ x ∧ x < 18446744073709551616) (w : Int) : bitpack_Pack.f l w = some (if 0 ≤ w ∧ w ≤ 64 ∧ l.length ≤ 1048576 then packed l w.toNat else []) := by
  unfold bitpack_Pack.f
  by_cases h : 0 ≤ w ∧ w ≤ 64 ∧ l.length ≤ 1048576
  · rw [if_pos h, if_pos h, if_pos]
    simp only [List.all_eq_true, Bool.and_eq_true, decide_eq_true_eq]
    exact hu
  · rw [if_neg h, if_neg h]
theorem ipk_in (l : List Int) (hu : ∀ x ∈ l, 0 ≤ x ∧ x < 18446744073709551616) (w : Nat) (hw : w ≤ 64) (hl : l.length ≤ 1048576) : bitpack_Pack.f l (w : Int) = some (packed l w) := by
  rw [ipk l hu, if_pos ⟨by omega, by omega, hl⟩, Int.toNat_natCast]
theorem packed_range (l : List Int) (w : Nat) : ∀ x ∈ packed l w, 0 ≤ x ∧ x < 256 := fixed_range _ _
theorem unpackN_range (w : Nat) (hw : w ≤ 64) : ∀ (n N : Nat), ∀ x ∈ unpackN w N n, 0 ≤ x ∧ x < 18446744073709551616 := by
  intro n
  induction n with
  | zero => intro N x h; cases h
  | succ n ih =>
    intro N x h
    have h1 := mod_lt_pow N w
    have h2 := pow_le_64 w hw
    rcases List.mem_cons.1 h with rfl | h
    · omega
    · exact ih _ x h
theorem unp_packed (l : List Int) (c : Nat) (hc : c ≤ 64) (hl : l.length ≤ 1048576) : unp (packed l c) (l.length : Int) (c : Int) = (unpackN c (packN c l) l.length, 0) := by
  have h0 : inr (l.length : Int) (c : Int) = true := inr_iff.2 ⟨by omega, by omega, by omega, by omega⟩
  unfold unp
  rw [if_pos h0, psz_nat _ _ h0, packed_len, if_neg (by omega), if_neg (by omega), le_packed, if_pos]
  · simp
  · have := packN_lt c l
    rw [Nat.mul_comm] at this
    simpa using this

theorem iat_ev (b : List Int) (hb : ∀ x ∈ b, 0 ≤ x ∧ x < 256) (hl : b.length ≤ 100000000) (i w : Int) : bitpack_At.f b i w = some (atP b i w) := by
  unfold bitpack_At.f atP
  by_cases h1 : w < 1
  · rw [if_pos h1, if_pos (.inl h1)]
  rw [if_neg h1]
  by_cases h2 : w > 64
  · rw [if_pos h2, if_pos (.inr (.inl h2))]
  rw [if_neg h2]
  by_cases h3 : i < 0
  · rw [if_pos h3, if_pos (.inr (.inr (.inl h3)))]
  rw [if_neg h3, if_neg (show ¬ w = 0 by omega), at_div b hl w (by omega) (by omega)]
  by_cases h4 : i ≥ ((8 * b.length / w.toNat : Nat) : Int)
  · rw [if_pos h4, if_pos (.inr (.inr (.inr h4)))]
  rw [if_neg h4, if_neg (by omega)]
  obtain ⟨a, rfl⟩ := Int.eq_ofNat_of_zero_le (show 0 ≤ i by omega)
  obtain ⟨c, rfl⟩ := Int.eq_ofNat_of_zero_le (show 0 ≤ w by omega)
  have hin := at_in (b := b) (i := a) (c := c) (Int.ofNat_lt.1 (by have h5 := Int.not_le.1 h4; rwa [Int.toNat_natCast] at h5)) (by omega)
  have e1 : wrap64 ((a : Int) * (c : Int)) = ((a * c : Nat) : Int) := by
    rw [show ((a : Int) * (c : Int)) = ((a * c : Nat) : Int) by simp, w64 _ (by omega) (by omega)]
  rw [e1, iread b hb hl (a * c) c (by omega) hin]
  simp

/-! ### frameref.readHeader -/
theorem vdec_rng {b : List Int} (hb : ∀ x ∈ b, 0 ≤ x ∧ x < 256) {o : Int} (h : (vdec b o).2.2 = 0) : 0 ≤ (vdec b o).1 ∧ (vdec b o).1 < 18446744073709551616 ∧ 0 ≤ (vdec b o).2.1 ∧ (vdec b o).2.1 ≤ (b.length : Int) := by
  obtain ⟨v, t, e, hv⟩ : ∃ v t e, vdec b o = (v, t, e) := ⟨_, _, _, rfl⟩
  rw [hv] at h ⊢
  simp only at h
  subst h
  obtain ⟨n, a, h1, h2, h3, h4, h5, _⟩ := vdec_ok hb hv
  refine ⟨by simp only; omega, by simp only; omega, by simp only; omega, by simp only; omega⟩
theorem rdh_ev (b : List Int) (hb : ∀ x ∈ b, 0 ≤ x ∧ x < 256) (hlen : b.length < 4611686018427387904) (o : Int) (n : Nat) (hn : n ≤ 65536) :
    Ev (fun k => frameref_readHeader.f k b o (n : Int)) (unzig (((hdr b o n).1 : Nat) : Int), (((hdr b o n).2.1 : Nat) : Int), (((hdr b o n).2.2.1 : Nat) : Int), (hdr b o n).2.2.2.1, (hdr b o n).2.2.2.2) := by
  unfold frameref_readHeader.f hdr
  dsimp only
  refine Ev.bind (dec_ev b hb hlen o) ?_
  by_cases h1 : (vdec b o).2.2 = 0
  · obtain ⟨r1, r2, r3, r4⟩ := vdec_rng hb h1
    rw [if_neg (show ¬ (vdec b o).2.2 ≠ 0 by omega)]
    refine Ev.pos h1 ?_
    refine Ev.bind (dec_ev b hb hlen _) ?_
    by_cases h2 : (vdec b (vdec b o).2.1).2.2 = 0
    · obtain ⟨s1, s2, s3, s4⟩ := vdec_rng hb h2
      rw [if_neg (show ¬ (vdec b (vdec b o).2.1).2.2 ≠ 0 by omega)]
      refine Ev.pos h2 ?_
      by_cases h3 : (vdec b (vdec b o).2.1).1 > 64
      · rw [if_pos h3]
        refine Ev.pos h3 ?_
        exact Ev.eq (Ev.now _) (by first | rfl | simp [unzig])
      · rw [if_neg h3]
        refine Ev.neg h3 ?_
        refine Ev.bind (dec_ev b hb hlen _) ?_
        by_cases h4 : (vdec b (vdec b (vdec b o).2.1).2.1).2.2 = 0
        · obtain ⟨q1, q2, q3, q4⟩ := vdec_rng hb h4
          rw [if_neg (show ¬ (vdec b (vdec b (vdec b o).2.1).2.1).2.2 ≠ 0 by omega)]
          refine Ev.pos h4 ?_
          rw [wraps_u64 (n : Int) (by omega) (by omega)]
          by_cases h5 : (vdec b (vdec b (vdec b o).2.1).2.1).1 > n
          · simp only [if_pos h5]
            exact Ev.eq (Ev.now _) (by first | rfl | simp [unzig])
          · simp only [if_neg h5]
            refine Ev.bind0 (unzig_f _ r1 r2) ?_
            rw [w64 _ (by omega) (by omega), w64 _ (by omega) (by omega)]
            refine Ev.eq (Ev.now _) ?_
            simp only [Int.toNat_of_nonneg r1, Int.toNat_of_nonneg s1, Int.toNat_of_nonneg q1]
        · rw [if_pos h4]
          refine Ev.neg h4 ?_
          exact Ev.eq (Ev.now _) (by first | rfl | simp [unzig])
    · rw [if_pos h2]
      refine Ev.neg h2 ?_
      exact Ev.eq (Ev.now _) (by first | rfl | simp [unzig])
  · rw [if_pos h1]
    refine Ev.neg h1 ?_
    exact Ev.eq (Ev.now _) (by first | rfl | simp [unzig])

/-! ### frameref.Decode -/
theorem dropN {α : Type} {l r : List α} {i : Nat} {x : α} (h : l.drop i = x :: r) : i < l.length ∧ l.drop (i + 1) = r := by
  refine ⟨?_, by rw [← List.drop_drop, h]; rfl⟩
  rcases Nat.lt_or_ge i l.length with h1 | h1
  · exact h1
  · rw [List.drop_of_length_le h1] at h; cases h
theorem strs_inj : ∀ {x y : List Int}, (∀ v ∈ x, 0 ≤ v ∧ v < 256) → (∀ v ∈ y, 0 ≤ v ∧ v < 256) → (strOfNums x).toList = (strOfNums y).toList → x = y := by
  intro x y hx hy h
  rw [ByteArray.toList_eq, ByteArray.toList_eq, strOfNums_data, strOfNums_data] at h
  have key : ∀ (l : List Int), (∀ v ∈ l, 0 ≤ v ∧ v < 256) → (l.map fun n => UInt8.ofNat n.toNat).map (fun u => ((u.toNat : Nat) : Int)) = l := by
    intro l hl
    rw [List.map_map]
    conv => rhs; rw [← List.map_id l]
    apply List.map_congr_left
    intro v hv
    have := hl v hv
    simp only [Function.comp, id, UInt8.toNat_ofNat']
    omega
  rw [← key x hx, ← key y hy, h]
theorem strs_iff {x y : List Int} (hx : ∀ v ∈ x, 0 ≤ v ∧ v < 256) (hy : ∀ v ∈ y, 0 ≤ v ∧ v < 256) : (strOfNums x).toList = (strOfNums y).toList ↔ x = y :=
  ⟨strs_inj hx hy, fun h => by rw [h]⟩
theorem shlN (x w : Nat) (hw : w < 64) : shl .u64 (x : Int) (w : Int) = ((x * 2 ^ w % 18446744073709551616 : Nat) : Int) := by
  have e : min ((w : Int)).toNat 64 = w := by omega
  unfold shl
  rw [show IntKind.u64.bits = 64 from rfl, e, ← pow_cast w, wrap_u64]
  simp
theorem vdec_mono {b : List Int} (hb : ∀ x ∈ b, 0 ≤ x ∧ x < 256) {o : Int} (h : (vdec b o).2.2 = 0) : o ≤ (vdec b o).2.1 := by
  obtain ⟨v, t, e, hv⟩ : ∃ v t e, vdec b o = (v, t, e) := ⟨_, _, _, rfl⟩
  rw [hv] at h ⊢
  simp only at h
  subst h
  obtain ⟨n, a, h1, h2, h3, h4, h5, _⟩ := vdec_ok hb hv
  simp only; omega
def allB (n : Nat) (ps : List (Nat × Nat)) : Bool := ps.all fun p => decide (p.1 < n)
def psR (ps : List (Nat × Nat)) : Prop := ∀ p ∈ ps, p.1 < 18446744073709551616 ∧ p.2 < 18446744073709551616
theorem psR_snoc {ps : List (Nat × Nat)} (h : psR ps) {p : Nat × Nat} (h1 : p.1 < 18446744073709551616) (h2 : p.2 < 18446744073709551616) : psR (ps ++ [p]) := by
  intro q hq
  rcases List.mem_append.1 hq with hq | hq
  · exact h q hq
  · rw [List.mem_singleton.1 hq]; exact ⟨h1, h2⟩
theorem allB_snoc (n : Nat) (ps : List (Nat × Nat)) (p : Nat × Nat) : allB n (ps ++ [p]) = (allB n ps && decide (p.1 < n)) := by
  simp [allB]
theorem pat_range (w : Nat) : ∀ (ps : List (Nat × Nat)) (ds : List Int), (∀ x ∈ ds, 0 ≤ x ∧ x < 18446744073709551616) → ∀ x ∈ pat w ds ps, 0 ≤ x ∧ x < 18446744073709551616 := by
  intro ps
  induction ps with
  | nil => intro ds h; exact h
  | cons p ps ih =>
    intro ds h
    simp only [pat]
    refine ih _ ?_
    split
    · rename_i hc
      intro x hx
      rcases List.mem_or_eq_of_mem_set hx with hx | rfl
      · exact h x hx
      · have h1 := getD_range h hc.1
        have h2 : (ds.getD p.1 0).toNat ||| (p.2 * 2 ^ w % 18446744073709551616) < 2 ^ 64 := Nat.or_lt_two_pow (by omega) (by omega)
        omega
    · exact h
theorem or_pat (x y w : Nat) (hx : x < 18446744073709551616) (hw : w < 64) : Go.bits .or .u64 (x : Int) (shl .u64 (y : Int) (w : Int)) = ((x ||| (y * 2 ^ w % 18446744073709551616) : Nat) : Int) := by
  rw [shlN y w hw, or_nat x _ (by omega) (by omega)]
theorem set_fill (l : List Int) (i : Nat) (hi : i < l.length) (n : Nat) (hn : n = l.length) : (l.take i ++ List.replicate (n - i) (0 : Int)).set i (l.getD i 0) = l.take (i + 1) ++ List.replicate (n - (i + 1)) 0 := by
  subst hn
  rw [List.set_append_right _ _ (by simp; omega), List.length_take, Nat.min_eq_left (by omega), Nat.sub_self, show l.length - i = (l.length - (i + 1)) + 1 by omega, List.replicate_succ, List.set_cons_zero,
    List.getD_eq_getElem?_getD, List.getElem?_eq_getElem hi, Option.getD_some, List.take_succ_eq_append_getElem hi, List.append_assoc, List.singleton_append]
theorem i64_out (B d : Int) : wrap64 (IntKind.u64.wrap (IntKind.u64.wrap B + d)) = i64of (B + d) := by
  unfold wrap64 i64of
  rw [wrap_u64, wrap_u64]
  omega
theorem outs_len (z : Nat) (ds : List Int) : (outs z ds).length = ds.length := by simp [outs]
theorem outs_get (z : Nat) (ds : List Int) (i : Nat) (hi : i < ds.length) : (outs z ds).getD i 0 = i64of (unzig z + ds.getD i 0) := by
  unfold outs
  rw [List.getD_eq_getElem?_getD, List.getElem?_map, List.getD_eq_getElem?_getD, List.getElem?_eq_getElem hi]
  rfl
theorem venc_bytes_pts : ∀ (ps : List (Nat × Nat)), ∀ x ∈ pts ps, 0 ≤ x ∧ x < 256 := by
  intro ps
  induction ps with
  | nil => intro x hx; cases hx
  | cons p ps ih =>
    intro x hx
    simp only [pts, List.mem_append] at hx
    rcases hx with hx | hx | hx
    · exact venc_range _ x hx
    · exact venc_range _ x hx
    · exact ih x hx
theorem fenc_bytes (l : List Int) : ∀ x ∈ fenc l, 0 ≤ x ∧ x < 256 := by
  intro x hx
  unfold fenc withW at hx
  simp only [List.mem_append] at hx
  rcases hx with hx | hx | hx | hx | hx
  · exact venc_range _ x hx
  · exact venc_range _ x hx
  · exact venc_range _ x hx
  · exact fixed_range _ _ x hx
  · exact venc_bytes_pts _ x hx
theorem seg_bytes {b : List Int} (hb : ∀ x ∈ b, 0 ≤ x ∧ x < 256) (a n : Nat) : ∀ x ∈ seg b a n, 0 ≤ x ∧ x < 256 :=
  fun x hx => hb x (List.mem_of_mem_drop (List.mem_of_mem_take hx))
theorem seg_take (b : List Int) (a n : Nat) : (b.take (a + n)).drop a = seg b a n := by
  unfold seg; rw [List.drop_take, Nat.add_sub_cancel_left]
def fin2 (b : List Int) (o : Nat) (out : List Int) (at_ : Int) : List Int × Int × Int := if fenc out = seg b o (at_.toNat - o) then (out, at_, 0) else ([], 0, 4)
theorem fenc_some {l : List Int} (h : ∀ x ∈ l, -9223372036854775808 ≤ x ∧ x < 9223372036854775808) (hl : l.length ≤ 65536) : frameref_Encode.f l = some (fenc l) := by
  unfold frameref_Encode.f; rw [if_pos ⟨okI_of h, hl⟩]
theorem hdr_rng {b : List Int} (hb : ∀ x ∈ b, 0 ≤ x ∧ x < 256) {o : Int} {n : Nat} (h : (hdr b o n).2.2.2.2 = 0) : (hdr b o n).1 < 18446744073709551616 ∧ (hdr b o n).2.1 ≤ 64 ∧ (hdr b o n).2.2.1 ≤ n ∧ o ≤ (hdr b o n).2.2.2.1 ∧ 0 ≤ o ∧ (hdr b o n).2.2.2.1 ≤ (b.length : Int) := by
  unfold hdr at h ⊢
  dsimp only at h ⊢
  by_cases h1 : (vdec b o).2.2 = 0
  · obtain ⟨r1, r2, r3, r4⟩ := vdec_rng hb h1
    have r5 := vdec_mono hb h1
    have r6 : 0 ≤ o := by
      obtain ⟨v, t, e, hv⟩ : ∃ v t e, vdec b o = (v, t, e) := ⟨_, _, _, rfl⟩
      rw [hv] at h1
      simp only at h1
      subst h1
      obtain ⟨n, a, h1, h2, h3, h4, h5, _⟩ := vdec_ok hb hv
      omega
    rw [if_neg (show ¬ (vdec b o).2.2 ≠ 0 by omega)] at h ⊢
    by_cases h2 : (vdec b (vdec b o).2.1).2.2 = 0
    · obtain ⟨s1, s2, s3, s4⟩ := vdec_rng hb h2
      have s5 := vdec_mono hb h2
      rw [if_neg (show ¬ (vdec b (vdec b o).2.1).2.2 ≠ 0 by omega)] at h ⊢
      by_cases h3 : (vdec b (vdec b o).2.1).1 > 64
      · rw [if_pos h3] at h; simp at h
      · rw [if_neg h3] at h ⊢
        by_cases h4 : (vdec b (vdec b (vdec b o).2.1).2.1).2.2 = 0
        · obtain ⟨q1, q2, q3, q4⟩ := vdec_rng hb h4
          have q5 := vdec_mono hb h4
          rw [if_neg (show ¬ (vdec b (vdec b (vdec b o).2.1).2.1).2.2 ≠ 0 by omega)] at h ⊢
          by_cases h5 : (vdec b (vdec b (vdec b o).2.1).2.1).1 > n
          · rw [if_pos h5] at h; simp at h
          · rw [if_neg h5]
            simp only
            omega
        · rw [if_pos h4] at h; simp at h; omega
    · rw [if_pos h2] at h; simp at h; omega
  · rw [if_pos h1] at h; simp at h; omega
theorem rdp_len {b : List Int} : ∀ (k : Nat) (t : Int), (rdp b k t).2.2 = 0 → (rdp b k t).1.length = k := by
  intro k
  induction k with
  | zero => intro t _; rfl
  | succ k ih =>
    intro t h
    simp only [rdp] at h ⊢
    by_cases c1 : (vdec b t).2.2 = 0
    · rw [if_neg (show ¬ (vdec b t).2.2 ≠ 0 by omega)] at h ⊢
      by_cases c2 : (vdec b (vdec b t).2.1).2.2 = 0
      · rw [if_neg (show ¬ (vdec b (vdec b t).2.1).2.2 ≠ 0 by omega)] at h ⊢
        by_cases c3 : (rdp b k (vdec b (vdec b t).2.1).2.1).2.2 = 0
        · rw [if_neg (show ¬ (rdp b k (vdec b (vdec b t).2.1).2.1).2.2 ≠ 0 by omega)]
          simp [ih _ c3]
        · rw [if_pos c3] at h; simp at h; omega
      · rw [if_pos c2] at h; simp at h; omega
    · rw [if_pos c1] at h; simp at h; omega
theorem allB_iff {n : Nat} {ps : List (Nat × Nat)} : allB n ps = true ↔ ∀ p ∈ ps, p.1 < n := by simp [allB]

theorem atP_unpack (b : List Int) (n w i : Nat) (hw : w ≤ 64) (hi : i < n) (hlen : b.length = pbytes n w) : atP b (i : Int) (w : Int) = (unpackN w (le b) n).getD i 0 := by
  rw [unpackN_get w n (le b) i hi]
  unfold atP
  simp only [Int.toNat_natCast]
  by_cases h : w = 0
  · subst h
    rw [if_pos (by omega)]
    simp [Nat.mod_one]
  · rw [if_neg]
    have h1 : n ≤ 8 * b.length / w := by
      rw [Nat.le_div_iff_mul_le (by omega), hlen]
      unfold pbytes
      omega
    omega

/-! ### frameref.At -/
def fo (w i : Nat) : Nat → List (Nat × Nat) → Nat
  | d, [] => d
  | d, p :: ps => fo w i (if p.1 = i ∧ w < 64 then d ||| (p.2 * 2 ^ w % 18446744073709551616) else d) ps
theorem fo_skip (w i : Nat) : ∀ (ps : List (Nat × Nat)) (d : Nat), (∀ p ∈ ps, p.1 ≠ i) → fo w i d ps = d := by
  intro ps
  induction ps with
  | nil => intro d _; rfl
  | cons p ps ih =>
    intro d h
    simp only [fo]
    rw [if_neg (fun e => h p List.mem_cons_self e.1)]
    exact ih d (fun q hq => h q (List.mem_cons_of_mem _ hq))
theorem fo_exc (w : Nat) (hw : w < 64) : ∀ (r : List Int) (j i : Nat), (∀ x ∈ r, 0 ≤ x ∧ x < 18446744073709551616) → j ≤ i → i < j + r.length → fo w i ((r.getD (i - j) 0).toNat % 2 ^ w) (exc w j r) = (r.getD (i - j) 0).toNat := by
  intro r
  induction r with
  | nil => intro j i _ h1 h2; simp at h2; omega
  | cons d r ih =>
    intro j i hr h1 h2
    have hr2 := fun x hx => hr x (List.mem_cons_of_mem d hx)
    have hd := hr d List.mem_cons_self
    simp only [exc]
    simp only [List.length_cons] at h2
    by_cases hij : i = j
    · subst hij
      rw [Nat.sub_self, List.getD_cons_zero]
      have hs : ∀ x : Nat, fo w i x (exc w (i + 1) r) = x := fun x => fo_skip w i _ x (fun p hp => by have := exc_mem w r (i + 1) hr2 p hp; omega)
      by_cases hh : hi d w = 0
      · rw [if_pos hh, hs]
        have : d.toNat < 2 ^ w := by
          unfold hi at hh
          rcases Nat.div_eq_zero_iff.1 hh with h | h
          · have := Nat.two_pow_pos w; omega
          · exact h
        exact Nat.mod_eq_of_lt this
      · rw [if_neg hh]
        simp only [fo]
        rw [if_pos ⟨trivial, hw⟩, hs]
        unfold hi
        exact or_hi _ _ (by omega)
    · have g := ih (j + 1) i hr2 (by omega) (by omega)
      rw [show i - j = (i - (j + 1)) + 1 by omega, List.getD_cons_succ]
      by_cases hh : hi d w = 0
      · rw [if_pos hh]; exact g
      · rw [if_neg hh]
        simp only [fo]
        rw [if_neg (fun e => hij e.1.symm)]
        exact g
theorem fra_l0 (b : List Int) (hb : ∀ x ∈ b, 0 ≤ x ∧ x < 256) (hl : b.length ≤ 100000000) (z w i K : Nat) (A : Int) (hw : w ≤ 64) (hi : i ≤ 65536) (hK : K ≤ 65536) : ∀ (ps : List (Nat × Nat)) (c o d : Nat) (R : List Int), psR ps → c + ps.length = K → d < 18446744073709551616 → o ≤ b.length → b.drop o = pts ps ++ R →
    Ev (fun k => frameref_At.l0 k b (i : Int) (d : Int) (o : Int) (K : Int) (c : Int) (unzig (z : Int)) (w : Int) (K : Int) A) (i64of (unzig (z : Int) + (fo w i d ps : Nat)), 0) := by
  intro ps
  induction ps with
  | nil =>
    intro c o d R hp hc hd ho h
    refine Ev.succ ?_
    simp only [frameref_At.l0]
    simp only [List.length_nil] at hc
    refine Ev.neg (by omega) ?_
    rw [i64_out]
    exact Ev.now _
  | cons p ps ih =>
    intro c o d R hp hc hd ho h
    have hp0 := hp p List.mem_cons_self
    have hps : psR ps := fun q hq => hp q (List.mem_cons_of_mem _ hq)
    simp only [pts, List.append_assoc] at h
    simp only [List.length_cons] at hc
    have d1 := vdec_enc hp0.1 ho h
    have h2 := drop_app h
    have o1 := off_le ho h
    have d2 := vdec_enc hp0.2 o1 h2
    have h3 := drop_app h2
    have o2 := off_le o1 h2
    refine Ev.succ ?_
    simp only [frameref_At.l0]
    refine Ev.pos (by omega) ?_
    have e1 := dec_ev b hb (by omega) (o : Int)
    have e2 := dec_ev b hb (by omega) ((o + (venc p.1).length : Nat) : Int)
    rw [d1] at e1
    rw [d2] at e2
    refine Ev.bind e1 ?_
    refine Ev.pos rfl ?_
    refine Ev.bind e2 ?_
    refine Ev.pos rfl ?_
    dsimp only
    rw [wraps_u64 (i : Int) (by omega) (by omega), w64_add1 c (by omega)]
    simp only [fo]
    by_cases c1 : p.1 = i
    · refine Ev.pos (by omega) ?_
      by_cases c2 : w < 64
      · refine Ev.pos (by omega) ?_
        rw [wraps_u64 (w : Int) (by omega) (by omega)]
        refine Ev.pos (by omega) ?_
        rw [or_pat d p.2 w hd c2, if_pos ⟨c1, c2⟩]
        exact ih (c + 1) _ _ R hps (by omega) (Nat.or_lt_two_pow (n := 64) hd (by omega)) o2 h3
      · refine Ev.neg (by omega) ?_
        rw [if_neg (fun e => c2 e.2)]
        exact ih (c + 1) _ _ R hps (by omega) hd o2 h3
    · refine Ev.neg (by omega) ?_
      rw [if_neg (fun e => c1 e.1)]
      exact ih (c + 1) _ _ R hps (by omega) hd o2 h3
theorem hdr_enc2 {b R : List Int} {o z w : Nat} {ds : List Int} (hz : z < 18446744073709551616) (hw : w ≤ 64) (hn : ds.length ≤ 65536) (ho : o ≤ b.length) (h : b.drop o = withW z ds w ++ R) :
    ∃ a : Nat, hdr b (o : Int) ds.length = (z, w, (exc w 0 ds).length, (a : Int), 0) ∧ a + pbytes ds.length w ≤ b.length ∧ seg b a (pbytes ds.length w) = packed ds w ∧ b.drop (a + pbytes ds.length w) = pts (exc w 0 ds) ++ R := by
  have hc := exc_len w ds 0
  unfold withW at h
  simp only [List.append_assoc] at h
  have d1 := vdec_enc hz ho h
  have h2 := drop_app h
  have o1 := off_le ho h
  have d2 := vdec_enc (by omega) o1 h2
  have h3 := drop_app h2
  have o2 := off_le o1 h2
  have d3 := vdec_enc (by omega) o2 h3
  have h4 := drop_app h3
  have o3 := off_le o2 h3
  have h5 := drop_app h4
  have o4 := off_le o3 h4
  have hp := packed_len ds w
  refine ⟨o + (venc z).length + (venc w).length + (venc (exc w 0 ds).length).length, ?_, by omega, ?_, ?_⟩
  · unfold hdr
    simp only [d1, d2, d3]
    rw [if_neg (by simp), if_neg (by simp), if_neg (by omega), if_neg (by simp), if_neg (by omega)]
    simp
  · unfold seg
    rw [h4, ← hp, List.take_left]
  · rw [← hp]; exact h5
theorem fra_in (b R l : List Int) (hb : ∀ x ∈ b, 0 ≤ x ∧ x < 256) (hl : b.length ≤ 100000000) (o : Nat) (hn : l.length ≤ 65536) (hI : ∀ v ∈ l, -9223372036854775808 ≤ v ∧ v < 9223372036854775808) (ho : o ≤ b.length) (h : b.drop o = fenc l ++ R) (i : Nat) (hi : i < l.length) :
    Ev (fun k => frameref_At.f k b (o : Int) (l.length : Int) (i : Int)) (l.getD i 0, 0) := by
  obtain ⟨a, e1, e2, e3, e4⟩ := hdr_enc2 (zb_lt hI) (fbest_le l) (by rw [fds_len]; exact hn) ho h
  rw [fds_len] at e1 e2 e3 e4
  have hw := fbest_le l
  have hfr := fds_range l
  have hdi := getD_range hfr (i := i) (by rw [fds_len]; exact hi)
  unfold frameref_At.f
  refine Ev.neg (by omega) ?_
  rw [decide_eq_false (by omega)]
  refine Ev.succ ?_
  simp only [frameref_At.j0]
  refine Ev.neg (by decide) ?_
  have g := rdh_ev b hb (by omega) (o : Int) l.length hn
  rw [e1] at g
  refine Ev.bind g ?_
  refine Ev.pos rfl ?_
  dsimp only
  have hin : inr (l.length : Int) (fbest l : Int) = true := inr_iff.2 ⟨by omega, by omega, by omega, by omega⟩
  refine Ev.bind0 (isz (l.length : Int) (fbest l : Int)) ?_
  rw [psz_nat _ _ hin, w64 ((b.length : Int) - (a : Int)) (by omega) (by omega)]
  refine Ev.neg (by omega) ?_
  refine Ev.pos (by omega) ?_
  rw [w64 ((a : Int) + ((pbytes l.length (fbest l) : Nat) : Int)) (by omega) (by omega)]
  refine Ev.pos (by omega) ?_
  refine Ev.pos (by omega) ?_
  have s1 : (b.take ((a : Int) + ((pbytes l.length (fbest l) : Nat) : Int)).toNat).drop (a : Int).toNat = packed (fds l) (fbest l) := by
    rw [← e3, ← seg_take b a (pbytes l.length (fbest l)), Int.toNat_natCast, show ((a : Int) + ((pbytes l.length (fbest l) : Nat) : Int)).toNat = a + pbytes l.length (fbest l) by omega]
  rw [s1]
  have hpl : (packed (fds l) (fbest l)).length = pbytes l.length (fbest l) := by rw [packed_len, fds_len]
  have pk : atP (packed (fds l) (fbest l)) (i : Int) (fbest l : Int) = ((((fds l).getD i 0).toNat % 2 ^ fbest l : Nat) : Int) := by
    rw [atP_unpack _ l.length (fbest l) i hw hi hpl, unpackN_get _ _ _ _ hi, le_packed, packN_get _ _ _ (by rw [fds_len]; exact hi)]
  refine Ev.bind0 (iat_ev (packed (fds l) (fbest l)) (packed_range _ _) (by omega) (i : Int) (fbest l : Int)) ?_
  rw [pk, show (a : Int) + ((pbytes l.length (fbest l) : Nat) : Int) = ((a + pbytes l.length (fbest l) : Nat) : Int) by omega]
  have hel := exc_len (fbest l) (fds l) 0
  rw [fds_len] at hel
  have hpr : psR (exc (fbest l) 0 (fds l)) := fun p hp => by have := exc_mem _ _ 0 hfr p hp; rw [fds_len] at this; omega
  have hml : ((fds l).getD i 0).toNat % 2 ^ fbest l ≤ ((fds l).getD i 0).toNat := Nat.mod_le _ _
  have q := fra_l0 b hb hl (zb l) (fbest l) i (exc (fbest l) 0 (fds l)).length (a : Int) hw (by omega) (by omega) (exc (fbest l) 0 (fds l)) 0 (a + pbytes l.length (fbest l)) (((fds l).getD i 0).toNat % 2 ^ fbest l) R hpr (by omega) (by omega) e2 e4
  refine Ev.eq q ?_
  have hfo : fo (fbest l) i (((fds l).getD i 0).toNat % 2 ^ fbest l) (exc (fbest l) 0 (fds l)) = ((fds l).getD i 0).toNat := by
    by_cases c : fbest l < 64
    · have := fo_exc (fbest l) c (fds l) 0 i hfr (by omega) (by rw [fds_len]; omega)
      rwa [Nat.sub_zero] at this
    · rw [show fbest l = 64 by omega, exc_64 _ 0 hfr]
      simp only [fo]
      exact Nat.mod_eq_of_lt (by omega)
  rw [hfo, Int.toNat_of_nonneg hdi.1, ← outs_get (zb l) (fds l) i (by rw [fds_len]; exact hi), outs_fds hI]
theorem fra_out (b : List Int) (o n i : Int) (h : i < 0 ∨ n ≤ i) : Ev (fun k => frameref_At.f k b o n i) (0, 1) := by
  unfold frameref_At.f
  have bad : Ev (fun k => frameref_At.j0 k b o n i true) (0, 1) := by
    refine Ev.succ ?_
    simp only [frameref_At.j0]
    refine Ev.pos (by simp) ?_
    exact Ev.now _
  by_cases h1 : i < 0
  · refine Ev.pos h1 ?_; exact bad
  · refine Ev.neg h1 ?_
    rw [decide_eq_true (by omega)]; exact bad

theorem awake_ev : Ev (fun k => laminalaw08_awake.f k) true := Ev.of laminalaw08_awake.mono (k := 60) (by decide +kernel)
/-! ### Same -/
theorem rsame_l0 (l : List Int) (hl : l.length < 9223372036854775807) : ∀ (d i : Nat), i + d = l.length → Ev (fun k => laminaref08_Same.l0 k l l (i : Int)) true := by
  intro d
  induction d with
  | zero =>
    intro i h
    refine Ev.succ ?_
    simp only [laminaref08_Same.l0]
    refine Ev.neg (by omega) ?_
    exact Ev.now _
  | succ d ih =>
    intro i h
    refine Ev.succ ?_
    simp only [laminaref08_Same.l0, w64_add1 i (by omega)]
    refine Ev.pos (by omega) ?_
    refine Ev.pos (by omega) ?_
    refine Ev.pos (by omega) ?_
    refine Ev.pos (by simp) ?_
    exact ih (i + 1) (by omega)
theorem rsame_ev (l : List Int) (hl : l.length < 9223372036854775807) : Ev (fun k => laminaref08_Same.f k l l) true := by
  unfold laminaref08_Same.f
  refine Ev.pos (by simp) ?_
  exact rsame_l0 l hl l.length 0 (by omega)

/-! ### an encoding between other bytes -/
theorem encoded_some (x l y : List Int) (hx : x.length ≤ 300) (hl : l.length ≤ 300) (hy : y.length ≤ 300) (hI : ∀ v ∈ l, -9223372036854775808 ≤ v ∧ v < 9223372036854775808) : laminalaw08_encoded.f x l y = some (x ++ fenc l ++ y) := by
  have h1 := fenc_len (by omega : l.length ≤ 65536) hI
  unfold laminalaw08_encoded.f
  rw [if_pos (by simp; omega)]
  simp only [Option.bind_some, List.nil_append]
  rw [fenc_some hI (by omega)]
  simp only [Option.bind_some]
  rw [if_pos (by omega)]
  rw [if_pos (by rw [List.length_append]; omega)]
theorem enc_bytes {x l y : List Int} (hx : ∀ v ∈ x, 0 ≤ v ∧ v < 256) (hy : ∀ v ∈ y, 0 ≤ v ∧ v < 256) : ∀ v ∈ x ++ fenc l ++ y, 0 ≤ v ∧ v < 256 := by
  intro v hv
  simp only [List.mem_append] at hv
  rcases hv with (hv | hv) | hv
  · exact hx v hv
  · exact fenc_bytes l v hv
  · exact hy v hv
theorem enc_drop (x l y : List Int) : (x ++ fenc l ++ y).drop x.length = fenc l ++ y := by
  rw [List.append_assoc, List.drop_left]

theorem FramerefAt : laminalaw08_FramerefAt.Pure := by
  intro x l y i _ _ hwx _ _ hwl _ _ hwy _
  have hI : ∀ v ∈ l, -9223372036854775808 ≤ v ∧ v < 9223372036854775808 := fun v hv => wf_i64 (hwl v hv)
  have lv : Ev (fun k => (laminalaw08_awake.f k).bind fun t => some t) true := Ev.bind awake_ev (Ev.now _)
  refine Ev.rounds (g := fun k => laminalaw08_FramerefAt.f k x l y i) ?_
  have bad : Ev (fun k => laminalaw08_FramerefAt.j0 k x l y i true) true := by
    refine Ev.succ ?_
    simp only [laminalaw08_FramerefAt.j0]
    refine Ev.pos (by simp) ?_
    exact lv
  unfold laminalaw08_FramerefAt.f
  by_cases h1 : (l.length : Int) > 300
  · refine Ev.pos h1 ?_; exact bad
  refine Ev.neg h1 ?_
  by_cases h2 : (x.length : Int) > 300
  · refine Ev.pos h2 ?_; exact bad
  refine Ev.neg h2 ?_
  by_cases h3 : (y.length : Int) > 300
  · rw [decide_eq_true h3]; exact bad
  rw [decide_eq_false h3]
  refine Ev.succ ?_
  simp only [laminalaw08_FramerefAt.j0]
  refine Ev.neg (by decide) ?_
  refine Ev.bind0 (encoded_some x l y (by omega) (by omega) (by omega) hI) ?_
  have hlen := fenc_len (by omega : l.length ≤ 65536) hI
  have hb := enc_bytes (x := x) (l := l) (y := y) (wf_u8s hwx) (wf_u8s hwy)
  have hbl : (x ++ fenc l ++ y).length = x.length + (fenc l).length + y.length := by simp [Nat.add_assoc]
  have out : (i < 0 ∨ (l.length : Int) ≤ i) → Ev (fun k => laminalaw08_FramerefAt.j1 k l i 0 1 true) true := by
    intro _
    refine Ev.succ ?_
    simp only [laminalaw08_FramerefAt.j1]
    refine Ev.pos (by simp) ?_
    simp only [if_true]
    exact lv
  by_cases c1 : i < 0
  · refine Ev.bind (fra_out _ _ _ i (.inl c1)) ?_
    refine Ev.pos c1 ?_
    exact out (.inl c1)
  by_cases c2 : i ≥ (l.length : Int)
  · refine Ev.bind (fra_out _ _ _ i (.inr c2)) ?_
    refine Ev.neg c1 ?_
    rw [decide_eq_true c2]
    exact out (.inr c2)
  obtain ⟨j, rfl⟩ := Int.eq_ofNat_of_zero_le (show 0 ≤ i by omega)
  refine Ev.bind (fra_in (x ++ fenc l ++ y) y l hb (by omega) x.length (by omega) hI (by omega) (enc_drop x l y) j (by omega)) ?_
  refine Ev.neg c1 ?_
  rw [decide_eq_false c2]
  refine Ev.succ ?_
  simp only [laminalaw08_FramerefAt.j1]
  refine Ev.neg (by decide) ?_
  refine Ev.pos (by omega) ?_
  refine Ev.pos (by omega) ?_
  refine Ev.pos (by rw [rd_nat]) ?_
  first | exact lv | (simp only [if_true]; exact lv) | (refine Ev.pos (by simp) ?_; exact lv)

end Go.Proofs.Ytllhbjkkoogeeaa.Pure
