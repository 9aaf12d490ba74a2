/- laminalaw09.DeltaDecode returns true for all its arguments (decoding any bytes equals the reference). Conditions: none beyond the row's own (slices of at most 2^47 - 4096 bytes). -/
import Derived.Test.YtllhbjkkoogeeaaQDeltaDecodex16
import Derived.Test.YtllhbjkkoogeeaaUM01
import Derived.Test.YtllhbjkkoogeeaaUM02
import Derived.Test.YtllhbjkkoogeeaaUM06
import Derived.Test.YtllhbjkkoogeeaaUM09
import Derived.Test.YtllhbjkkoogeeaaUM10
import Derived.Test.YtllhbjkkoogeeaaUM14
set_option linter.unusedVariables false
set_option linter.unusedSimpArgs false
namespace Go.Proofs.Ytllhbjkkoogeeaa.Pure
open Go Go.RowKit Go.Proofs.Ytllhbjkkoogeeaa.QDeltaDecode Go.Proofs.YtllhbjkkoogeeaaW.PrintWords Go.Proofs.YtllhbjkkoogeeaaW.PrintLast Go.Proofs.YtllhbjkkoogeeaaM

/-! ### varint.Decode and the reference's -/
theorem pow_shl (i : Nat) (hi : i ≤ 9) (c : Int) (h0 : 0 ≤ c) (h1 : c * 128 ^ i < 18446744073709551616) : shl .u64 c (7 * (i : Int)) = c * 128 ^ i := by
  have e : min (7 * (i : Int)).toNat 64 = 7 * i := by omega
  have e2 : (2 : Int) ^ (7 * i) = 128 ^ i := by rw [Int.pow_mul]; rfl
  unfold shl
  rw [show IntKind.u64.bits = 64 from rfl, e, e2]
  exact wrap_u64_of _ (Int.mul_nonneg h0 (Int.pow_nonneg (by decide))) h1
theorem dec_j2 (b : List Int) (hlen : b.length < 4611686018427387904) (o i acc c : Nat) (hi : i ≤ 9) (ho : o + i < b.length) (hc : c < 256) (hacc : acc < 128 ^ i) (f : Nat) (hf : i + f = 9)
    (h9 : ¬ (i = 9 ∧ 1 < c))
    (ih : i < 9 → acc + c % 128 * 128 ^ i < 128 ^ (i + 1) → Ev (fun k => varint_Decode.l0 k b o ((acc + c % 128 * 128 ^ i : Nat) : Int) ((i + 1 : Nat) : Int)) (vd b o f (i + 1) (acc + c % 128 * 128 ^ i))) :
    Ev (fun k => varint_Decode.j2 k b o acc i c i false)
      (if i = 9 ∧ 1 < c ∨ 0 < i ∧ c = 0 then (0, 0, 4) else if c < 128 then (((acc + c * 128 ^ i : Nat) : Int), ((o + i + 1 : Nat) : Int), 0) else vd b o f (i + 1) (acc + c % 128 * 128 ^ i)) := by
  have hp : 0 < 128 ^ i := Nat.pow_pos (by decide)
  have hple : 128 ^ i ≤ 128 ^ 9 := Nat.pow_le_pow_right (by decide) hi
  have h9v : (128 : Nat) ^ 9 = 9223372036854775808 := by decide
  have hm : c % 128 * 128 ^ i < 18446744073709551616 := by
    by_cases e : i = 9
    · subst e
      have : c ≤ 1 := by omega
      have : c % 128 ≤ 1 := by omega
      have := Nat.mul_le_mul_right (128 ^ 9) this
      omega
    · have h8 : 128 ^ i ≤ 128 ^ 8 := Nat.pow_le_pow_right (by decide) (by omega)
      have : (128 : Nat) ^ 8 = 72057594037927936 := by decide
      have : c % 128 * 128 ^ i ≤ 127 * 72057594037927936 := Nat.mul_le_mul (by omega) (by omega)
      omega
  have hlow : c % 128 * 128 ^ i + 128 ^ i ≤ 128 ^ (i + 1) := by
    rw [pow128, ← Nat.succ_mul]
    exact Nat.mul_le_mul_right _ (by omega)
  have hs : shl .u64 (IntKind.u64.wrap (Go.bits .and .u8 c 127)) (wrap64 (7 * (i : Int))) = ((c % 128 * 128 ^ i : Nat) : Int) := by
    rw [and_127 _ (by omega) (by omega), w64 _ (by omega) (by omega), wrap_u64_of _ (by omega) (by omega), pow_shl i hi _ (by omega)]
    · push_cast; rfl
    · have : ((c % 128 * 128 ^ i : Nat) : Int) < 18446744073709551616 := by omega
      push_cast at this
      exact this
  have hor : Go.bits .or .u64 acc ((c % 128 * 128 ^ i : Nat) : Int) = ((acc + c % 128 * 128 ^ i : Nat) : Int) := by
    rw [or_add (7 * i) _ _ (by omega) ?_ (by omega) (by omega) (by omega) ?_]
    · push_cast; rfl
    · have e2 : (2 : Int) ^ (7 * i) = ((128 ^ i : Nat) : Int) := by rw [Int.pow_mul]; simp
      rw [e2]; omega
    · have e2 : (2 : Int) ^ (7 * i) = ((128 ^ i : Nat) : Int) := by rw [Int.pow_mul]; simp
      rw [e2]
      push_cast
      exact Int.mul_emod_left _ _
  refine Ev.succ ?_
  simp only [varint_Decode.j2, hs, hor, w64_add1 i (by omega), w64_add_1 o i (by omega)]
  clear hs hor
  refine Ev.neg (by decide) ?_
  refine Ev.pos (by rw [w64 _ (by omega) (by omega)]; omega) ?_
  by_cases h2 : c < 128
  · refine Ev.neg (by omega) ?_
    have hcm : c % 128 = c := Nat.mod_eq_of_lt h2
    by_cases h0 : c = 0
    · refine Ev.pos (by omega) ?_
      by_cases hi0 : 0 < i
      · refine Ev.pos (by omega) ?_
        exact Ev.eq (Ev.now _) (by rw [if_pos (Or.inr ⟨hi0, h0⟩)])
      · refine Ev.neg (by omega) ?_
        exact Ev.eq (Ev.now _) (by rw [if_neg (by omega), if_pos h2, hcm])
    · refine Ev.neg (by omega) ?_
      exact Ev.eq (Ev.now _) (by rw [if_neg (by omega), if_pos h2, hcm])
  · refine Ev.pos (by omega) ?_
    exact Ev.eq (ih (by omega) (by omega)) (by rw [if_neg (by omega), if_neg h2])
theorem dec_l0 (b : List Int) (hb : ∀ x ∈ b, 0 ≤ x ∧ x < 256) (hlen : b.length < 4611686018427387904) (o : Nat) (ho : o ≤ b.length) :
    ∀ (f i acc : Nat), i + f = 10 → acc < 128 ^ i → Ev (fun k => varint_Decode.l0 k b o acc i) (vd b o f i acc) := by
  intro f
  induction f with
  | zero =>
    intro i acc hi ha
    refine Ev.succ ?_
    simp only [varint_Decode.l0]
    refine Ev.neg (by omega) ?_
    exact Ev.now _
  | succ f ih =>
    intro i acc hi ha
    refine Ev.succ ?_
    simp only [varint_Decode.l0, w64_add o i (by omega), rd_nat]
    refine Ev.pos (by omega) ?_
    unfold vd
    by_cases hl : b.length ≤ o + i
    · refine Ev.pos (by omega) ?_
      exact Ev.eq (Ev.now _) (by rw [if_pos hl])
    refine Ev.neg (by omega) ?_
    refine Ev.pos (by omega) ?_
    refine Ev.pos (by omega) ?_
    rw [if_neg hl]
    have hr := getD_range hb (i := o + i) (by omega)
    obtain ⟨c, hc⟩ := Int.eq_ofNat_of_zero_le hr.1
    simp only [hc, Int.toNat_natCast]
    rw [hc] at hr
    have hstep : ¬ (i = 9 ∧ 1 < c) → Ev (fun k => varint_Decode.j2 k b o acc i c i false) (if i = 9 ∧ 1 < c ∨ 0 < i ∧ c = 0 then (0, 0, 4) else if c < 128 then (((acc + c * 128 ^ i : Nat) : Int), ((o + i + 1 : Nat) : Int), 0) else vd b o f (i + 1) (acc + c % 128 * 128 ^ i)) := fun h =>
      dec_j2 b hlen o i acc c (by omega) (by omega) (by omega) ha f (by omega) h (fun h1 h2 => ih (i + 1) _ (by omega) h2)
    by_cases h9 : i = 9
    · refine Ev.pos (by omega) ?_
      by_cases h1 : 1 < c
      · have : decide ((c : Int) > 1) = true := by simp; omega
        rw [this, if_pos (Or.inl ⟨h9, h1⟩)]
        refine Ev.succ ?_
        simp only [varint_Decode.j2]
        refine Ev.pos (by decide) ?_
        exact Ev.now _
      · have : decide ((c : Int) > 1) = false := by simp; omega
        rw [this]
        exact hstep (by omega)
    · refine Ev.neg (by omega) ?_
      exact hstep (by omega)
theorem dec_ev (b : List Int) (hb : ∀ x ∈ b, 0 ≤ x ∧ x < 256) (hlen : b.length < 4611686018427387904) (o : Int) : Ev (fun k => varint_Decode.f k b o) (vdec b o) := by
  unfold varint_Decode.f vdec
  by_cases h0 : o < 0
  · refine Ev.pos h0 ?_
    rw [if_pos (Or.inl h0)]
    refine Ev.succ ?_
    simp only [varint_Decode.j0]
    refine Ev.pos (by decide) ?_
    exact Ev.now _
  refine Ev.neg h0 ?_
  refine Ev.succ ?_
  simp only [varint_Decode.j0]
  by_cases h1 : (b.length : Int) < o
  · refine Ev.pos (by simpa using h1) ?_
    exact Ev.eq (Ev.now _) (by rw [if_pos (Or.inr h1)])
  · refine Ev.neg (by simpa using h1) ?_
    obtain ⟨n, rfl⟩ := Int.eq_ofNat_of_zero_le (show 0 ≤ o by omega)
    rw [if_neg (by omega), Int.toNat_natCast]
    exact dec_l0 b hb hlen n (by omega) 10 0 0 rfl (by decide)

/-! ### zigzag -/
theorem zig_f (x : Int) (h0 : -9223372036854775808 ≤ x) (h1 : x < 9223372036854775808) : varint_ZigZag.f x = some (zig x) := by
  unfold varint_ZigZag.f; rw [zig_bits x h0 h1]
theorem unzig_f (u : Int) (h0 : 0 ≤ u) (h1 : u < 18446744073709551616) : varint_UnZigZag.f u = some (unzig u) := by
  have h := unzig_bits u h0 h1
  simp only [IntKind.wrap_i64] at h
  unfold varint_UnZigZag.f wrap64
  rw [h]

/-! ### sizes, unpacking -/
def inr (n w : Int) : Bool := decide (0 ≤ n) && decide (n ≤ 1048576) && decide (0 ≤ w) && decide (w ≤ 64)
def psz (n w : Int) : Int := if inr n w = true then ((pbytes n.toNat w.toNat : Nat) : Int) else 0
theorem inr_iff {n w : Int} : inr n w = true ↔ 0 ≤ n ∧ n ≤ 1048576 ∧ 0 ≤ w ∧ w ≤ 64 := by
  simp [inr, and_assoc]
theorem iinr (n w : Int) : bitpack_inRange.f n w = some (inr n w) := by
  unfold bitpack_inRange.f inr
  by_cases h1 : n ≥ 0
  · rw [if_pos h1, decide_eq_true (show 0 ≤ n from h1)]
    by_cases h2 : n ≤ 1048576
    · rw [if_pos h2, decide_eq_true h2]
      by_cases h3 : w ≥ 0
      · rw [if_pos h3, decide_eq_true (show 0 ≤ w from h3)]; simp
      · rw [if_neg h3, decide_eq_false (show ¬ 0 ≤ w from h3)]; simp
    · rw [if_neg h2, decide_eq_false h2]; simp
  · rw [if_neg h1, decide_eq_false (show ¬ 0 ≤ n from h1)]; simp
theorem size_wrap (n w : Int) (h : inr n w = true) : wrap64 (Int.tdiv (wrap64 ((wrap64 (n * w)) + 7)) 8) = ((pbytes n.toNat w.toNat : Nat) : Int) := by
  obtain ⟨h1, h2, h3, h4⟩ := inr_iff.1 h
  obtain ⟨a, rfl⟩ := Int.eq_ofNat_of_zero_le h1
  obtain ⟨b, rfl⟩ := Int.eq_ofNat_of_zero_le h3
  have hm : a * b ≤ 1048576 * 64 := Nat.mul_le_mul (by omega) (by omega)
  have e1 : ((a : Int) * (b : Int)) = ((a * b : Nat) : Int) := by simp
  rw [e1, w64 ((a * b : Nat) : Int) (by omega) (by omega), w64 (((a * b : Nat) : Int) + 7) (by omega) (by omega), Int.tdiv_eq_ediv_of_nonneg (by omega), w64 _ (by omega) (by omega)]
  unfold pbytes
  simp
theorem isz (n w : Int) : bitpack_Size.f n w = some (psz n w) := by
  unfold bitpack_Size.f psz
  rw [iinr]
  simp only [Option.bind_some]
  by_cases h : inr n w = true
  · rw [if_pos h, if_pos h, size_wrap n w h]
  · rw [if_neg h, if_neg h]
theorem psz_nat (n w : Nat) (h : inr n w = true) : psz (n : Int) (w : Int) = ((pbytes n w : Nat) : Int) := by unfold psz; rw [if_pos h]; simp
/-- What Unpack answers. -/
def unp (b : List Int) (n w : Int) : List Int × Int :=
  if inr n w = true then (if (b.length : Int) < psz n w then ([], 2) else if (b.length : Int) > psz n w then ([], 3) else if le b < 2 ^ (n.toNat * w.toNat) then (unpackN w.toNat (le b) n.toNat, 0) else ([], 4)) else ([], 1)
theorem iread (b : List Int) (hb : ∀ x ∈ b, 0 ≤ x ∧ x < 256) (hl : b.length ≤ 100000000) (p w : Nat) (hw : w ≤ 64) (hp : p + w ≤ 8 * b.length) : bitpack_read.f b (p : Int) (w : Int) = some ((le b / 2 ^ p % 2 ^ w : Nat) : Int) := by
  unfold bitpack_read.f
  rw [if_pos]
  · simp
  · refine ⟨?_, by omega, by omega, by omega, by omega, by omega⟩
    simp only [okbytes, List.all_eq_true, Bool.and_eq_true, decide_eq_true_eq]
    exact hb
theorem set_unpack (w N : Nat) : ∀ (n i : Nat), i < n → ((unpackN w N i) ++ List.replicate (n - i) (0 : Int)).set i ((N / 2 ^ (i * w) % 2 ^ w : Nat) : Int) = unpackN w N (i + 1) ++ List.replicate (n - (i + 1)) 0 := by
  intro n i hi
  apply List.ext_getElem
  · simp [unpackN_len]; omega
  · intro j h1 h2
    have g : ∀ (m j : Nat) (hj : j < m), (unpackN w N m)[j]'(by rw [unpackN_len]; exact hj) = ((N / 2 ^ (j * w) % 2 ^ w : Nat) : Int) := by
      intro m j hj
      have := unpackN_get w m N j hj
      rw [List.getD_eq_getElem?_getD, List.getElem?_eq_getElem (by rw [unpackN_len]; exact hj)] at this
      simpa using this
    rw [List.getElem_set]
    by_cases hij : i = j
    · subst hij
      rw [if_pos rfl, List.getElem_append_left (by rw [unpackN_len]; omega), g (i + 1) i (by omega)]
    · rw [if_neg hij]
      by_cases hlt : j < i
      · rw [List.getElem_append_left (by rw [unpackN_len]; exact hlt), List.getElem_append_left (by rw [unpackN_len]; omega), g i j hlt, g (i + 1) j (by omega)]
      · rw [List.getElem_append_right (by rw [unpackN_len]; omega), List.getElem_append_right (by rw [unpackN_len]; omega)]
        simp
theorem iunp_l0 (b : List Int) (hb : ∀ x ∈ b, 0 ≤ x ∧ x < 256) (hl : b.length ≤ 100000000) (n w : Nat) (hn : n ≤ 1048576) (hw : w ≤ 64) (hlen : b.length = pbytes n w) :
    ∀ (d i : Nat), i + d = n → Ev (fun k => bitpack_Unpack.l0 k b (w : Int) (unpackN w (le b) i ++ List.replicate (n - i) 0) (n : Int) (i : Int)) (unpackN w (le b) n, 0) := by
  intro d
  induction d with
  | zero =>
    intro i h
    have : i = n := by omega
    subst this
    refine Ev.succ ?_
    simp only [bitpack_Unpack.l0]
    refine Ev.neg (by omega) ?_
    exact Ev.eq (Ev.now _) (by simp)
  | succ d ih =>
    intro i h
    have hm : i * w ≤ 1048576 * 64 := Nat.mul_le_mul (by omega) hw
    have hm2 : i * w + w ≤ n * w := by rw [← Nat.succ_mul]; exact Nat.mul_le_mul_right _ (by omega)
    have e1 : wrap64 ((i : Int) * (w : Int)) = ((i * w : Nat) : Int) := by
      rw [show ((i : Int) * (w : Int)) = ((i * w : Nat) : Int) by simp, w64 _ (by omega) (by omega)]
    refine Ev.succ ?_
    simp only [bitpack_Unpack.l0, e1, w64_add1 i (by omega)]
    refine Ev.pos (by omega) ?_
    refine Ev.bind0 (iread b hb hl (i * w) w hw (by rw [hlen]; unfold pbytes; omega)) ?_
    refine Ev.pos (by omega) ?_
    refine Ev.pos (by simp [unpackN_len]; omega) ?_
    rw [Int.toNat_natCast, set_unpack w (le b) n i (by omega)]
    exact ih (i + 1) (by omega)
theorem iunp_ev (b : List Int) (hb : ∀ x ∈ b, 0 ≤ x ∧ x < 256) (hl : b.length ≤ 100000000) (n w : Int) : Ev (fun k => bitpack_Unpack.f k b n w) (unp b n w) := by
  unfold bitpack_Unpack.f unp
  refine Ev.bind0 (isz n w) ?_
  refine Ev.bind0 (iinr n w) ?_
  by_cases h : inr n w = true
  · refine Ev.pos h ?_
    rw [if_pos h]
    by_cases h1 : (b.length : Int) < psz n w
    · refine Ev.pos h1 ?_
      rw [if_pos h1]; exact Ev.now _
    refine Ev.neg h1 ?_
    rw [if_neg h1]
    by_cases h2 : (b.length : Int) > psz n w
    · refine Ev.pos h2 ?_
      rw [if_pos h2]; exact Ev.now _
    refine Ev.neg h2 ?_
    rw [if_neg h2]
    obtain ⟨k1, k2, k3, k4⟩ := inr_iff.1 h
    obtain ⟨a, rfl⟩ := Int.eq_ofNat_of_zero_le k1
    obtain ⟨c, rfl⟩ := Int.eq_ofNat_of_zero_le k3
    have hsz := psz_nat a c h
    have hlen : b.length = pbytes a c := by omega
    have hm : a * c ≤ 1048576 * 64 := Nat.mul_le_mul (by omega) (by omega)
    have e1 : wrap64 ((a : Int) * (c : Int)) = ((a * c : Nat) : Int) := by
      rw [show ((a : Int) * (c : Int)) = ((a * c : Nat) : Int) by simp, w64 _ (by omega) (by omega)]
    have hpos : 0 ≤ psz (a : Int) (c : Int) := by rw [hsz]; omega
    have e2 : Int.tmod (wrap64 ((a : Int) * (c : Int))) 8 = ((a * c % 8 : Nat) : Int) := by
      rw [e1, Int.tmod_eq_emod_of_nonneg (by omega)]; omega
    have hlt := le_lt b hb
    rw [pow256] at hlt
    have j0f : le b < 2 ^ (a * c) → Ev (fun k => bitpack_Unpack.j0 k b (a : Int) (c : Int) false) (if le b < 2 ^ ((a : Int).toNat * (c : Int).toNat) then (unpackN (c : Int).toNat (le b) (a : Int).toNat, 0) else ([], 4)) := by
      intro hv
      simp only [Int.toNat_natCast]
      rw [if_pos hv]
      refine Ev.succ ?_
      simp only [bitpack_Unpack.j0]
      refine Ev.neg (by decide) ?_
      refine Ev.pos (by omega) ?_
      refine Ev.pos (by omega) ?_
      have := iunp_l0 b hb hl a c (by omega) (by omega) hlen a 0 (by omega)
      simpa [unpackN] using this
    rw [e2]
    by_cases h3 : ((a * c % 8 : Nat) : Int) = 0
    · refine Ev.pos h3 ?_
      exact j0f (Nat.lt_of_lt_of_le hlt (Nat.pow_le_pow_right (by decide) (by rw [hlen]; unfold pbytes; omega)))
    · refine Ev.neg h3 ?_
      have hs1 : wrap64 (psz (a : Int) (c : Int) - 1) = ((a * c / 8 : Nat) : Int) := by
        rw [hsz, w64 _ (by unfold pbytes; omega) (by unfold pbytes; omega)]; unfold pbytes; omega
      rw [hs1]
      have hq : a * c / 8 < b.length := by rw [hlen]; unfold pbytes; omega
      refine Ev.pos (by omega) ?_
      refine Ev.pos (by omega) ?_
      refine Ev.pos (by omega) ?_
      have hby : shr .u8 (rd b ((a * c / 8 : Nat) : Int)) ((a * c % 8 : Nat) : Int) = ((le b / 2 ^ (a * c) : Nat) : Int) := by
        unfold shr
        rw [rd_nat, le_get b _ hb, Int.toNat_natCast, Nat.min_eq_left (by show a * c % 8 ≤ 8; omega), ← pow_cast, ← Int.natCast_ediv]
        congr 1
        have h5 : le b / 256 ^ (a * c / 8) < 256 := by
          rw [pow256, Nat.div_lt_iff_lt_mul (Nat.two_pow_pos _), show 256 = 2 ^ 8 by rfl, ← Nat.pow_add]
          exact Nat.lt_of_lt_of_le hlt (Nat.pow_le_pow_right (by decide) (by rw [hlen]; unfold pbytes; omega))
        rw [Nat.mod_eq_of_lt h5, pow256, Nat.div_div_eq_div_mul, ← Nat.pow_add, show 8 * (a * c / 8) + a * c % 8 = a * c by omega]
      rw [hby]
      by_cases h4 : le b < 2 ^ (a * c)
      · rw [Nat.div_eq_of_lt h4]
        exact j0f h4
      · have h6 : 1 ≤ le b / 2 ^ (a * c) := (Nat.le_div_iff_mul_le (Nat.two_pow_pos _)).2 (by omega)
        rw [show (((le b / 2 ^ (a * c) : Nat) : Int) != 0) = true by rw [bne_iff_ne]; omega]
        simp only [Int.toNat_natCast]
        rw [if_neg h4]
        refine Ev.succ ?_
        simp only [bitpack_Unpack.j0]
        refine Ev.pos (by decide) ?_
        exact Ev.now _
  · refine Ev.neg h ?_
    rw [if_neg h]; exact Ev.now _
/-- What At answers. -/
def atP (b : List Int) (i w : Int) : Int := if w < 1 ∨ w > 64 ∨ i < 0 ∨ i ≥ ((8 * b.length / w.toNat : Nat) : Int) then 0 else ((le b / 2 ^ (i.toNat * w.toNat) % 2 ^ w.toNat : Nat) : Int)
theorem at_div (b : List Int) (hl : b.length ≤ 100000000) (w : Int) (h1 : 1 ≤ w) (h2 : w ≤ 64) : wrap64 (Int.tdiv (wrap64 (8 * (b.length : Int))) w) = ((8 * b.length / w.toNat : Nat) : Int) := by
  obtain ⟨c, rfl⟩ := Int.eq_ofNat_of_zero_le (show 0 ≤ w by omega)
  have h3 : 8 * b.length / c ≤ 8 * b.length := Nat.div_le_self _ _
  rw [w64 (8 * (b.length : Int)) (by omega) (by omega), Int.tdiv_eq_ediv_of_nonneg (by omega), show (8 * (b.length : Int)) = ((8 * b.length : Nat) : Int) by simp, ← Int.natCast_ediv, Int.toNat_natCast]
  exact w64n _ (by omega)
theorem at_in {b : List Int} {i c : Nat} (h : i < 8 * b.length / c) (hc : 0 < c) : i * c + c ≤ 8 * b.length := by
  have h1 : (i + 1) * c ≤ 8 * b.length := (Nat.le_div_iff_mul_le hc).1 h
  rw [Nat.succ_mul] at h1; exact h1

/-! ### Pack -/
theorem wf_u64s {l : List Int} (h : ∀ x ∈ l, (Lit.int .u64 x).wf = true) : ∀ x ∈ l, 0 ≤ x ∧ x < 18446744073709551616 := fun x hx => wf_u64 (h x hx)
theorem ipk (l : List Int) (hu : ∀ x ∈ l, 0 ≤ x ∧ x < 18446744073709551616) (w : Int) : bitpack_Pack.f l w = some (if 0 ≤ w ∧ w ≤ 64 ∧ l.length ≤ 1048576 then packed l w.toNat else []) := by
  unfold bitpack_Pack.f
  by_cases h : 0 ≤ w ∧ w ≤ 64 ∧ l.length ≤ 1048576
  · rw [if_pos h, if_pos h, if_pos]
    simp only [List.all_eq_true, Bool.and_eq_true, decide_eq_true_eq]
    exact hu
  · rw [if_neg h, if_neg h]
theorem ipk_in (l : List Int) (hu : ∀ x ∈ l, 0 ≤ x ∧ x < 18446744073709551616) (w : Nat) (hw : w ≤ 64) (hl : l.length ≤ 1048576) : bitpack_Pack.f l (w : Int) = some (packed l w) := by
  rw [ipk l hu, if_pos ⟨by omega, by omega, hl⟩, Int.toNat_natCast]
theorem packed_range (l : List Int) (w : Nat) : ∀ x ∈ packed l w, 0 ≤ x ∧ x < 256 := fixed_range _ _
theorem unpackN_range (w : Nat) (hw : w ≤ 64) : ∀ (n N : Nat), ∀ x ∈ unpackN w N n, 0 ≤ x ∧ x < 18446744073709551616 := by
  intro n
  induction n with
  | zero => intro N x h; cases h
  | succ n ih =>
    intro N x h
    have h1 := mod_lt_pow N w
    have h2 := pow_le_64 w hw
    rcases List.mem_cons.1 h with rfl | h
    · omega
    · exact ih _ x h
theorem unp_packed (l : List Int) (c : Nat) (hc : c ≤ 64) (hl : l.length ≤ 1048576) : unp (packed l c) (l.length : Int) (c : Int) = (unpackN c (packN c l) l.length, 0) := by
  have h0 : inr (l.length : Int) (c : Int) = true := inr_iff.2 ⟨by omega, by omega, by omega, by omega⟩
  unfold unp
  rw [if_pos h0, psz_nat _ _ h0, packed_len, if_neg (by omega), if_neg (by omega), le_packed, if_pos]
  · simp
  · have := packN_lt c l
    rw [Nat.mul_comm] at this
    simpa using this

/-! ### frameref.readHeader -/
theorem vdec_rng {b : List Int} (hb : ∀ x ∈ b, 0 ≤ x ∧ x < 256) {o : Int} (h : (vdec b o).2.2 = 0) : 0 ≤ (vdec b o).1 ∧ (vdec b o).1 < 18446744073709551616 ∧ 0 ≤ (vdec b o).2.1 ∧ (vdec b o).2.1 ≤ (b.length : Int) := by
  obtain ⟨v, t, e, hv⟩ : ∃ v t e, vdec b o = (v, t, e) := ⟨_, _, _, rfl⟩
  rw [hv] at h ⊢
  simp only at h
  subst h
  obtain ⟨n, a, h1, h2, h3, h4, h5, _⟩ := vdec_ok hb hv
  refine ⟨by simp only; omega, by simp only; omega, by simp only; omega, by simp only; omega⟩
theorem rdh_ev (b : List Int) (hb : ∀ x ∈ b, 0 ≤ x ∧ x < 256) (hlen : b.length < 4611686018427387904) (o : Int) (n : Nat) (hn : n ≤ 65536) :
    Ev (fun k => frameref_readHeader.f k b o (n : Int)) (unzig (((hdr b o n).1 : Nat) : Int), (((hdr b o n).2.1 : Nat) : Int), (((hdr b o n).2.2.1 : Nat) : Int), (hdr b o n).2.2.2.1, (hdr b o n).2.2.2.2) := by
  unfold frameref_readHeader.f hdr
  dsimp only
  refine Ev.bind (dec_ev b hb hlen o) ?_
  by_cases h1 : (vdec b o).2.2 = 0
  · obtain ⟨r1, r2, r3, r4⟩ := vdec_rng hb h1
    rw [if_neg (show ¬ (vdec b o).2.2 ≠ 0 by omega)]
    refine Ev.pos h1 ?_
    refine Ev.bind (dec_ev b hb hlen _) ?_
    by_cases h2 : (vdec b (vdec b o).2.1).2.2 = 0
    · obtain ⟨s1, s2, s3, s4⟩ := vdec_rng hb h2
      rw [if_neg (show ¬ (vdec b (vdec b o).2.1).2.2 ≠ 0 by omega)]
      refine Ev.pos h2 ?_
      by_cases h3 : (vdec b (vdec b o).2.1).1 > 64
      · rw [if_pos h3]
        refine Ev.pos h3 ?_
        exact Ev.eq (Ev.now _) (by first | rfl | simp [unzig])
      · rw [if_neg h3]
        refine Ev.neg h3 ?_
        refine Ev.bind (dec_ev b hb hlen _) ?_
        by_cases h4 : (vdec b (vdec b (vdec b o).2.1).2.1).2.2 = 0
        · obtain ⟨q1, q2, q3, q4⟩ := vdec_rng hb h4
          rw [if_neg (show ¬ (vdec b (vdec b (vdec b o).2.1).2.1).2.2 ≠ 0 by omega)]
          refine Ev.pos h4 ?_
          rw [wraps_u64 (n : Int) (by omega) (by omega)]
          by_cases h5 : (vdec b (vdec b (vdec b o).2.1).2.1).1 > n
          · simp only [if_pos h5]
            exact Ev.eq (Ev.now _) (by first | rfl | simp [unzig])
          · simp only [if_neg h5]
            refine Ev.bind0 (unzig_f _ r1 r2) ?_
            rw [w64 _ (by omega) (by omega), w64 _ (by omega) (by omega)]
            refine Ev.eq (Ev.now _) ?_
            simp only [Int.toNat_of_nonneg r1, Int.toNat_of_nonneg s1, Int.toNat_of_nonneg q1]
        · rw [if_pos h4]
          refine Ev.neg h4 ?_
          exact Ev.eq (Ev.now _) (by first | rfl | simp [unzig])
    · rw [if_pos h2]
      refine Ev.neg h2 ?_
      exact Ev.eq (Ev.now _) (by first | rfl | simp [unzig])
  · rw [if_pos h1]
    refine Ev.neg h1 ?_
    exact Ev.eq (Ev.now _) (by first | rfl | simp [unzig])

/-! ### frameref.Decode -/
theorem dropN {α : Type} {l r : List α} {i : Nat} {x : α} (h : l.drop i = x :: r) : i < l.length ∧ l.drop (i + 1) = r := by
  refine ⟨?_, by rw [← List.drop_drop, h]; rfl⟩
  rcases Nat.lt_or_ge i l.length with h1 | h1
  · exact h1
  · rw [List.drop_of_length_le h1] at h; cases h
theorem strs_inj : ∀ {x y : List Int}, (∀ v ∈ x, 0 ≤ v ∧ v < 256) → (∀ v ∈ y, 0 ≤ v ∧ v < 256) → (strOfNums x).toList = (strOfNums y).toList → x = y := by
  intro x y hx hy h
  rw [ByteArray.toList_eq, ByteArray.toList_eq, strOfNums_data, strOfNums_data] at h
  have key : ∀ (l : List Int), (∀ v ∈ l, 0 ≤ v ∧ v < 256) → (l.map fun n => UInt8.ofNat n.toNat).map (fun u => ((u.toNat : Nat) : Int)) = l := by
    intro l hl
    rw [List.map_map]
    conv => rhs; rw [← List.map_id l]
    apply List.map_congr_left
    intro v hv
    have := hl v hv
    simp only [Function.comp, id, UInt8.toNat_ofNat']
    omega
  rw [← key x hx, ← key y hy, h]
theorem strs_iff {x y : List Int} (hx : ∀ v ∈ x, 0 ≤ v ∧ v < 256) (hy : ∀ v ∈ y, 0 ≤ v ∧ v < 256) : (strOfNums x).toList = (strOfNums y).toList ↔ x = y :=
  ⟨strs_inj hx hy, fun h => by rw [h]⟩
theorem shlN (x w : Nat) (hw : w < 64) : shl .u64 (x : Int) (w : Int) = ((x * 2 ^ w % 18446744073709551616 : Nat) : Int) := by
  have e : min ((w : Int)).toNat 64 = w := by omega
  unfold shl
  rw [show IntKind.u64.bits = 64 from rfl, e, ← pow_cast w, wrap_u64]
  simp
theorem vdec_mono {b : List Int} (hb : ∀ x ∈ b, 0 ≤ x ∧ x < 256) {o : Int} (h : (vdec b o).2.2 = 0) : o ≤ (vdec b o).2.1 := by
  obtain ⟨v, t, e, hv⟩ : ∃ v t e, vdec b o = (v, t, e) := ⟨_, _, _, rfl⟩
  rw [hv] at h ⊢
  simp only at h
  subst h
  obtain ⟨n, a, h1, h2, h3, h4, h5, _⟩ := vdec_ok hb hv
  simp only; omega
def tS (n : Nat) (p : Nat × Nat) : S82 := ⟨((min p.1 n : Nat) : Int), (p.2 : Int)⟩
def allB (n : Nat) (ps : List (Nat × Nat)) : Bool := ps.all fun p => decide (p.1 < n)
def psR (ps : List (Nat × Nat)) : Prop := ∀ p ∈ ps, p.1 < 18446744073709551616 ∧ p.2 < 18446744073709551616
theorem psR_snoc {ps : List (Nat × Nat)} (h : psR ps) {p : Nat × Nat} (h1 : p.1 < 18446744073709551616) (h2 : p.2 < 18446744073709551616) : psR (ps ++ [p]) := by
  intro q hq
  rcases List.mem_append.1 hq with hq | hq
  · exact h q hq
  · rw [List.mem_singleton.1 hq]; exact ⟨h1, h2⟩
theorem allB_snoc (n : Nat) (ps : List (Nat × Nat)) (p : Nat × Nat) : allB n (ps ++ [p]) = (allB n ps && decide (p.1 < n)) := by
  simp [allB]
theorem tS_snoc (n : Nat) (ps : List (Nat × Nat)) (u v : Int) (hu : 0 ≤ u ∧ u < 18446744073709551616) (hv : 0 ≤ v) (hn : n ≤ 65536) :
    ps.map (tS n) ++ [(⟨wrap64 (mn u (IntKind.u64.wrap (n : Int))), v⟩ : S82)] = (ps ++ [(u.toNat, v.toNat)]).map (tS n) := by
  rw [List.map_append, List.map_cons, List.map_nil]
  unfold tS
  rw [wraps_u64 (n : Int) (by omega) (by omega)]
  have e : wrap64 (mn u (n : Int)) = ((min u.toNat n : Nat) : Int) := by
    unfold mn
    rw [w64 _ (by split <;> omega) (by split <;> omega)]
    split <;> omega
  rw [e, Int.toNat_of_nonneg hv]
def cmb {α : Type} (E : Int → α) (F : List (Nat × Nat) → Int → α) (ps : List (Nat × Nat)) (r : List (Nat × Nat) × Int × Int) : α := if r.2.2 ≠ 0 then E r.2.2 else F (ps ++ r.1) r.2.1
theorem cmb_step {α : Type} (E : Int → α) (F : List (Nat × Nat) → Int → α) (ps : List (Nat × Nat)) (b : List Int) (d : Nat) (at_ : Int) (c1 : (vdec b at_).2.2 = 0) (c2 : (vdec b (vdec b at_).2.1).2.2 = 0) :
    cmb E F ps (rdp b (d + 1) at_) = cmb E F (ps ++ [((vdec b at_).1.toNat, (vdec b (vdec b at_).2.1).1.toNat)]) (rdp b d (vdec b (vdec b at_).2.1).2.1) := by
  simp only [rdp, cmb]
  rw [if_neg (show ¬ (vdec b at_).2.2 ≠ 0 by omega), if_neg (show ¬ (vdec b (vdec b at_).2.1).2.2 ≠ 0 by omega)]
  by_cases c3 : (rdp b d (vdec b (vdec b at_).2.1).2.1).2.2 = 0
  · simp [c3]
  · rw [if_pos c3]
    simp [c3]
theorem cmb_bad1 {α : Type} (E : Int → α) (F : List (Nat × Nat) → Int → α) (ps : List (Nat × Nat)) (b : List Int) (d : Nat) (at_ : Int) (c1 : ¬ (vdec b at_).2.2 = 0) : cmb E F ps (rdp b (d + 1) at_) = E (vdec b at_).2.2 := by
  simp only [rdp, cmb]
  rw [if_pos c1]
  simp [c1]
theorem cmb_bad2 {α : Type} (E : Int → α) (F : List (Nat × Nat) → Int → α) (ps : List (Nat × Nat)) (b : List Int) (d : Nat) (at_ : Int) (c1 : (vdec b at_).2.2 = 0) (c2 : ¬ (vdec b (vdec b at_).2.1).2.2 = 0) : cmb E F ps (rdp b (d + 1) at_) = E (vdec b (vdec b at_).2.1).2.2 := by
  simp only [rdp, cmb]
  rw [if_neg (show ¬ (vdec b at_).2.2 ≠ 0 by omega), if_pos c2]
  simp [c2]
def err3 (e : Int) : List Int × Int × Int := ([], 0, e)
theorem frd_l0 (b : List Int) (hb : ∀ x ∈ b, 0 ≤ x ∧ x < 256) (hl : b.length ≤ 100000000) (o s z w a : Int) (N : Nat) (hN : N ≤ 65536) (K : Nat) (hK : K ≤ 65536) (lo : Int) (RD : List (Nat × Nat) × Int × Int) (FIN : List (Nat × Nat) → Int → List Int × Int × Int)
    (hf : ∀ ps at_, ps.length = K → lo ≤ at_ → at_ ≤ (b.length : Int) → psR ps → RD = (ps, at_, 0) → Ev (fun k => frameref_Decode.l0 k b o (N : Int) s at_ (ps.map (tS N)) (allB N ps) (K : Int) (K : Int) z w (K : Int) a) (FIN ps at_)) :
    ∀ (d : Nat) (at_ : Int) (ps : List (Nat × Nat)), ps.length + d = K → lo ≤ at_ → at_ ≤ (b.length : Int) → psR ps → RD = cmb (fun e => ([], 0, e)) (fun p t => (p, t, 0)) ps (rdp b d at_) →
      Ev (fun k => frameref_Decode.l0 k b o (N : Int) s at_ (ps.map (tS N)) (allB N ps) (K : Int) (ps.length : Int) z w (K : Int) a) (cmb err3 FIN ps (rdp b d at_)) := by
  intro d
  induction d with
  | zero =>
    intro at_ ps h1 h2 h3 h4 h5
    have := hf ps at_ (by omega) h2 h3 h4 (by simpa [rdp, cmb] using h5)
    rw [show ps.length = K by omega]
    simpa [rdp, cmb] using this
  | succ d ih =>
    intro at_ ps h1 h2 h3 h4 h5
    refine Ev.succ ?_
    simp only [frameref_Decode.l0]
    refine Ev.pos (by omega) ?_
    refine Ev.bind (dec_ev b hb (by omega) at_) ?_
    by_cases c1 : (vdec b at_).2.2 = 0
    · obtain ⟨r1, r2, r3, r4⟩ := vdec_rng hb c1
      have r5 := vdec_mono hb c1
      refine Ev.pos c1 ?_
      refine Ev.bind (dec_ev b hb (by omega) _) ?_
      by_cases c2 : (vdec b (vdec b at_).2.1).2.2 = 0
      · obtain ⟨s1, s2, s3, s4⟩ := vdec_rng hb c2
        have s5 := vdec_mono hb c2
        refine Ev.pos c2 ?_
        rw [cmb_step _ _ ps b d at_ c1 c2] at h5 ⊢
        have g := ih (vdec b (vdec b at_).2.1).2.1 (ps ++ [((vdec b at_).1.toNat, (vdec b (vdec b at_).2.1).1.toNat)]) (by simp; omega) (by omega) s4 (psR_snoc h4 (by simp only; omega) (by simp only; omega)) h5
        rw [← tS_snoc N ps _ _ ⟨r1, r2⟩ s1 hN, allB_snoc] at g
        have e1 : decide ((vdec b at_).1.toNat < N) = decide ((vdec b at_).1 < IntKind.u64.wrap (N : Int)) := by
          rw [wraps_u64 (N : Int) (by omega) (by omega)]
          by_cases h : (vdec b at_).1.toNat < N
          · rw [decide_eq_true h, decide_eq_true (by omega)]
          · rw [decide_eq_false h, decide_eq_false (by omega)]
        have e2 : (((ps ++ [((vdec b at_).1.toNat, (vdec b (vdec b at_).2.1).1.toNat)]).length : Nat) : Int) = wrap64 ((ps.length : Int) + 1) := by
          rw [w64 _ (by omega) (by omega)]; simp
        rw [e1, e2] at g
        by_cases ha : allB N ps = true
        · refine Ev.pos ha ?_
          refine Ev.pos (by simp; omega) ?_
          rw [ha, Bool.true_and] at g
          exact g
        · refine Ev.neg ha ?_
          refine Ev.pos (by simp; omega) ?_
          rw [Bool.eq_false_iff.2 ha, Bool.false_and] at g
          exact g
      · refine Ev.neg c2 ?_
        rw [cmb_bad2 _ _ ps b d at_ c1 c2]
        exact Ev.now _
    · refine Ev.neg c1 ?_
      rw [cmb_bad1 _ _ ps b d at_ c1]
      exact Ev.now _
/-- The numbers, with the high parts. -/
theorem pat_range (w : Nat) : ∀ (ps : List (Nat × Nat)) (ds : List Int), (∀ x ∈ ds, 0 ≤ x ∧ x < 18446744073709551616) → ∀ x ∈ pat w ds ps, 0 ≤ x ∧ x < 18446744073709551616 := by
  intro ps
  induction ps with
  | nil => intro ds h; exact h
  | cons p ps ih =>
    intro ds h
    simp only [pat]
    refine ih _ ?_
    split
    · rename_i hc
      intro x hx
      rcases List.mem_or_eq_of_mem_set hx with hx | rfl
      · exact h x hx
      · have h1 := getD_range h hc.1
        have h2 : (ds.getD p.1 0).toNat ||| (p.2 * 2 ^ w % 18446744073709551616) < 2 ^ 64 := Nat.or_lt_two_pow (by omega) (by omega)
        omega
    · exact h
theorem rdS (l : List S82) (i : Nat) : rd_T82 l (i : Int) = l.getD i z82 := by simp [rd_T82]
theorem tS_drop {N : Nat} {ps r : List (Nat × Nat)} {i : Nat} {p : Nat × Nat} (h : ps.drop i = p :: r) : rd_T82 (ps.map (tS N)) (i : Int) = tS N p := by
  rw [rdS, List.getD_eq_getElem?_getD, List.getElem?_map, ← List.head?_drop, h]; rfl
theorem or_pat (x y w : Nat) (hx : x < 18446744073709551616) (hw : w < 64) : Go.bits .or .u64 (x : Int) (shl .u64 (y : Int) (w : Int)) = ((x ||| (y * 2 ^ w % 18446744073709551616) : Nat) : Int) := by
  rw [shlN y w hw, or_nat x _ (by omega) (by omega)]
theorem frd_l1 (b : List Int) (o at_ z a K : Int) (N w : Nat) (hN : N ≤ 65536) (hw : w ≤ 64) (ps : List (Nat × Nat)) (hps : ps.length ≤ 65536) (hin : ∀ p ∈ ps, p.1 < N) (R : List Int × Int × Int) :
    ∀ (r : List (Nat × Nat)) (i : Nat) (ds : List Int), ps.drop i = r → ds.length = N → (∀ x ∈ ds, 0 ≤ x ∧ x < 18446744073709551616) →
      Ev (fun k => frameref_Decode.l2 k b o at_ (List.replicate N 0) (pat w ds r) ((pat w ds r).length : Int) 0 z (w : Int) K a) R →
      Ev (fun k => frameref_Decode.l1 k b o (N : Int) at_ ds (ps.map (tS N)) (ps.length : Int) (i : Int) z (w : Int) K a) R := by
  intro r
  induction r with
  | nil =>
    intro i ds h hd hr hR
    rw [List.drop_eq_nil_iff] at h
    refine Ev.succ ?_
    simp only [frameref_Decode.l1]
    refine Ev.neg (by omega) ?_
    refine Ev.pos (by omega) ?_
    refine Ev.pos (by omega) ?_
    rw [Int.toNat_natCast]
    exact hR
  | cons p r ih =>
    intro i ds h hd hr hR
    obtain ⟨h1, h2⟩ := dropN h
    have hp : p.1 < N := hin p (List.mem_of_mem_drop (h ▸ List.mem_cons_self))
    refine Ev.succ ?_
    simp only [frameref_Decode.l1]
    refine Ev.pos (by omega) ?_
    refine Ev.pos (by omega) ?_
    refine Ev.pos (by rw [List.length_map]; omega) ?_
    rw [tS_drop h, w64_add1 i (by omega)]
    simp only [pat] at hR
    by_cases c : w < 64
    · refine Ev.pos (by omega) ?_
      simp only [tS]
      refine Ev.pos (by omega) ?_
      refine Ev.pos (by omega) ?_
      rw [wraps_u64 (w : Int) (by omega) (by omega)]
      refine Ev.pos (by omega) ?_
      rw [Nat.min_eq_left (by omega), Int.toNat_natCast, rd_nat]
      have g := getD_range hr (i := p.1) (by omega)
      rw [if_pos ⟨by omega, c⟩] at hR
      obtain ⟨x, hx⟩ := Int.eq_ofNat_of_zero_le g.1
      have e : Go.bits .or .u64 (ds.getD p.1 0) (shl .u64 (p.2 : Int) (w : Int)) = (((ds.getD p.1 0).toNat ||| (p.2 * 2 ^ w % 18446744073709551616) : Nat) : Int) := by
        rw [hx, Int.toNat_natCast]; exact or_pat x p.2 w (by omega) c
      rw [e]
      refine ih (i + 1) _ h2 (by rw [List.length_set]; exact hd) ?_ hR
      have := pat_range w [p] ds hr
      simp only [pat] at this
      rw [if_pos ⟨by omega, c⟩] at this
      exact this
    · refine Ev.neg (by omega) ?_
      rw [if_neg (fun h => c h.2)] at hR
      exact ih (i + 1) ds h2 hd hr hR
theorem set_fill (l : List Int) (i : Nat) (hi : i < l.length) (n : Nat) (hn : n = l.length) : (l.take i ++ List.replicate (n - i) (0 : Int)).set i (l.getD i 0) = l.take (i + 1) ++ List.replicate (n - (i + 1)) 0 := by
  subst hn
  rw [List.set_append_right _ _ (by simp; omega), List.length_take, Nat.min_eq_left (by omega), Nat.sub_self, show l.length - i = (l.length - (i + 1)) + 1 by omega, List.replicate_succ, List.set_cons_zero,
    List.getD_eq_getElem?_getD, List.getElem?_eq_getElem hi, Option.getD_some, List.take_succ_eq_append_getElem hi, List.append_assoc, List.singleton_append]
theorem i64_out (B d : Int) : wrap64 (IntKind.u64.wrap (IntKind.u64.wrap B + d)) = i64of (B + d) := by
  unfold wrap64 i64of
  rw [wrap_u64, wrap_u64]
  omega
theorem outs_len (z : Nat) (ds : List Int) : (outs z ds).length = ds.length := by simp [outs]
theorem outs_get (z : Nat) (ds : List Int) (i : Nat) (hi : i < ds.length) : (outs z ds).getD i 0 = i64of (unzig z + ds.getD i 0) := by
  unfold outs
  rw [List.getD_eq_getElem?_getD, List.getElem?_map, List.getD_eq_getElem?_getD, List.getElem?_eq_getElem hi]
  rfl
theorem venc_bytes_pts : ∀ (ps : List (Nat × Nat)), ∀ x ∈ pts ps, 0 ≤ x ∧ x < 256 := by
  intro ps
  induction ps with
  | nil => intro x hx; cases hx
  | cons p ps ih =>
    intro x hx
    simp only [pts, List.mem_append] at hx
    rcases hx with hx | hx | hx
    · exact venc_range _ x hx
    · exact venc_range _ x hx
    · exact ih x hx
theorem fenc_bytes (l : List Int) : ∀ x ∈ fenc l, 0 ≤ x ∧ x < 256 := by
  intro x hx
  unfold fenc withW at hx
  simp only [List.mem_append] at hx
  rcases hx with hx | hx | hx | hx | hx
  · exact venc_range _ x hx
  · exact venc_range _ x hx
  · exact venc_range _ x hx
  · exact fixed_range _ _ x hx
  · exact venc_bytes_pts _ x hx
theorem seg_bytes {b : List Int} (hb : ∀ x ∈ b, 0 ≤ x ∧ x < 256) (a n : Nat) : ∀ x ∈ seg b a n, 0 ≤ x ∧ x < 256 :=
  fun x hx => hb x (List.mem_of_mem_drop (List.mem_of_mem_take hx))
theorem seg_take (b : List Int) (a n : Nat) : (b.take (a + n)).drop a = seg b a n := by
  unfold seg; rw [List.drop_take, Nat.add_sub_cancel_left]
/-- The last test. -/
def fin2 (b : List Int) (o : Nat) (out : List Int) (at_ : Int) : List Int × Int × Int := if fenc out = seg b o (at_.toNat - o) then (out, at_, 0) else ([], 0, 4)
theorem fenc_some {l : List Int} (h : ∀ x ∈ l, -9223372036854775808 ≤ x ∧ x < 9223372036854775808) (hl : l.length ≤ 65536) : frameref_Encode.f l = some (fenc l) := by
  unfold frameref_Encode.f; rw [if_pos ⟨okI_of h, hl⟩]
theorem frd_l2 (b : List Int) (hb : ∀ x ∈ b, 0 ≤ x ∧ x < 256) (o : Nat) (at_ : Int) (K w a : Int) (N z : Nat) (hN : N ≤ 65536) (h1 : (o : Int) ≤ at_) (h2 : at_ ≤ (b.length : Int)) (ds : List Int) (hd : ds.length = N) :
    ∀ (d i : Nat), i + d = N → Ev (fun k => frameref_Decode.l2 k b (o : Int) at_ ((outs z ds).take i ++ List.replicate (N - i) 0) ds (ds.length : Int) (i : Int) (unzig z) w K a) (fin2 b o (outs z ds) at_) := by
  intro d
  induction d with
  | zero =>
    intro i hi
    refine Ev.succ ?_
    simp only [frameref_Decode.l2]
    refine Ev.neg (by omega) ?_
    have e : (outs z ds).take i ++ List.replicate (N - i) 0 = outs z ds := by
      rw [show N - i = 0 by omega, List.replicate_zero, List.append_nil, List.take_of_length_le (by rw [outs_len]; omega)]
    rw [e]
    refine Ev.bind0 (fenc_some (outs_range z ds) (by rw [outs_len]; omega)) ?_
    refine Ev.pos (by omega) ?_
    refine Ev.pos h1 ?_
    refine Ev.pos h2 ?_
    have e2 : (b.take at_.toNat).drop (o : Int).toNat = seg b o (at_.toNat - o) := by
      rw [← seg_take b o (at_.toNat - o), Int.toNat_natCast, show o + (at_.toNat - o) = at_.toNat by omega]
    rw [e2]
    unfold fin2
    by_cases c : fenc (outs z ds) = seg b o (at_.toNat - o)
    · rw [if_pos c]
      refine Ev.pos (by rw [c]) ?_
      exact Ev.now _
    · rw [if_neg c]
      refine Ev.neg (fun h => c (strs_inj (fenc_bytes _) (seg_bytes hb _ _) h)) ?_
      exact Ev.now _
  | succ d ih =>
    intro i hi
    refine Ev.succ ?_
    simp only [frameref_Decode.l2]
    refine Ev.pos (by omega) ?_
    refine Ev.pos (by omega) ?_
    refine Ev.pos (by omega) ?_
    refine Ev.pos (by simp [outs_len]; omega) ?_
    rw [Int.toNat_natCast, w64_add1 i (by omega), rd_nat, i64_out, ← outs_get z ds i (by omega), set_fill (outs z ds) i (by rw [outs_len]; omega) N (by rw [outs_len]; omega)]
    exact ih (i + 1) (by omega)
theorem hdr_rng {b : List Int} (hb : ∀ x ∈ b, 0 ≤ x ∧ x < 256) {o : Int} {n : Nat} (h : (hdr b o n).2.2.2.2 = 0) : (hdr b o n).1 < 18446744073709551616 ∧ (hdr b o n).2.1 ≤ 64 ∧ (hdr b o n).2.2.1 ≤ n ∧ o ≤ (hdr b o n).2.2.2.1 ∧ 0 ≤ o ∧ (hdr b o n).2.2.2.1 ≤ (b.length : Int) := by
  unfold hdr at h ⊢
  dsimp only at h ⊢
  by_cases h1 : (vdec b o).2.2 = 0
  · obtain ⟨r1, r2, r3, r4⟩ := vdec_rng hb h1
    have r5 := vdec_mono hb h1
    have r6 : 0 ≤ o := by
      obtain ⟨v, t, e, hv⟩ : ∃ v t e, vdec b o = (v, t, e) := ⟨_, _, _, rfl⟩
      rw [hv] at h1
      simp only at h1
      subst h1
      obtain ⟨n, a, h1, h2, h3, h4, h5, _⟩ := vdec_ok hb hv
      omega
    rw [if_neg (show ¬ (vdec b o).2.2 ≠ 0 by omega)] at h ⊢
    by_cases h2 : (vdec b (vdec b o).2.1).2.2 = 0
    · obtain ⟨s1, s2, s3, s4⟩ := vdec_rng hb h2
      have s5 := vdec_mono hb h2
      rw [if_neg (show ¬ (vdec b (vdec b o).2.1).2.2 ≠ 0 by omega)] at h ⊢
      by_cases h3 : (vdec b (vdec b o).2.1).1 > 64
      · rw [if_pos h3] at h; simp at h
      · rw [if_neg h3] at h ⊢
        by_cases h4 : (vdec b (vdec b (vdec b o).2.1).2.1).2.2 = 0
        · obtain ⟨q1, q2, q3, q4⟩ := vdec_rng hb h4
          have q5 := vdec_mono hb h4
          rw [if_neg (show ¬ (vdec b (vdec b (vdec b o).2.1).2.1).2.2 ≠ 0 by omega)] at h ⊢
          by_cases h5 : (vdec b (vdec b (vdec b o).2.1).2.1).1 > n
          · rw [if_pos h5] at h; simp at h
          · rw [if_neg h5]
            simp only
            omega
        · rw [if_pos h4] at h; simp at h; omega
    · rw [if_pos h2] at h; simp at h; omega
  · rw [if_pos h1] at h; simp at h; omega
theorem rdp_len {b : List Int} : ∀ (k : Nat) (t : Int), (rdp b k t).2.2 = 0 → (rdp b k t).1.length = k := by
  intro k
  induction k with
  | zero => intro t _; rfl
  | succ k ih =>
    intro t h
    simp only [rdp] at h ⊢
    by_cases c1 : (vdec b t).2.2 = 0
    · rw [if_neg (show ¬ (vdec b t).2.2 ≠ 0 by omega)] at h ⊢
      by_cases c2 : (vdec b (vdec b t).2.1).2.2 = 0
      · rw [if_neg (show ¬ (vdec b (vdec b t).2.1).2.2 ≠ 0 by omega)] at h ⊢
        by_cases c3 : (rdp b k (vdec b (vdec b t).2.1).2.1).2.2 = 0
        · rw [if_neg (show ¬ (rdp b k (vdec b (vdec b t).2.1).2.1).2.2 ≠ 0 by omega)]
          simp [ih _ c3]
        · rw [if_pos c3] at h; simp at h; omega
      · rw [if_pos c2] at h; simp at h; omega
    · rw [if_pos c1] at h; simp at h; omega
theorem allB_iff {n : Nat} {ps : List (Nat × Nat)} : allB n ps = true ↔ ∀ p ∈ ps, p.1 < n := by simp [allB]
theorem frd_ev (b : List Int) (hb : ∀ x ∈ b, 0 ≤ x ∧ x < 256) (hl : b.length ≤ 100000000) (o n : Int) : Ev (fun k => frameref_Decode.f k b o n) (fdec b o n) := by
  have bad : ∀ (A : Int × Int × List Int), (o < 0 ∨ o > b.length ∨ n < 0 ∨ n > 65536) → Ev (fun k => frameref_Decode.j0 k b o n true) (fdec b o n) := by
    intro _ h
    refine Ev.succ ?_
    simp only [frameref_Decode.j0]
    refine Ev.pos (by simp) ?_
    refine Ev.eq (Ev.now _) ?_
    unfold fdec; rw [if_pos h]
  unfold frameref_Decode.f
  by_cases h1 : o < 0
  · refine Ev.pos h1 ?_; exact bad (0, 0, []) (.inl h1)
  refine Ev.neg h1 ?_
  by_cases h2 : o > b.length
  · refine Ev.pos h2 ?_; exact bad (0, 0, []) (.inr (.inl h2))
  refine Ev.neg h2 ?_
  by_cases h3 : n < 0
  · refine Ev.pos h3 ?_; exact bad (0, 0, []) (.inr (.inr (.inl h3)))
  refine Ev.neg h3 ?_
  by_cases h4 : n > 65536
  · rw [decide_eq_true h4]; exact bad (0, 0, []) (.inr (.inr (.inr h4)))
  rw [decide_eq_false h4]
  obtain ⟨N, rfl⟩ := Int.eq_ofNat_of_zero_le (show 0 ≤ n by omega)
  obtain ⟨O, rfl⟩ := Int.eq_ofNat_of_zero_le (show 0 ≤ o by omega)
  refine Ev.succ ?_
  simp only [frameref_Decode.j0]
  refine Ev.neg (by decide) ?_
  refine Ev.bind (rdh_ev b hb (by omega) (O : Int) N (by omega)) ?_
  unfold fdec
  rw [if_neg (by omega)]
  simp only [Int.toNat_natCast]
  by_cases c1 : (hdr b (O : Int) N).2.2.2.2 = 0
  · obtain ⟨q1, q2, q3, q4, _, q5⟩ := hdr_rng hb c1
    obtain ⟨z, w, K, A, e, hh⟩ : ∃ z w K A e, hdr b (O : Int) N = (z, w, K, A, e) := ⟨_, _, _, _, _, rfl⟩
    rw [hh] at c1 q1 q2 q3 q4 q5 ⊢
    simp only at c1 q1 q2 q3 q4 q5
    subst c1
    obtain ⟨a, rfl⟩ := Int.eq_ofNat_of_zero_le (show 0 ≤ A by omega)
    refine Ev.pos rfl ?_
    have hin : inr (N : Int) (w : Int) = true := inr_iff.2 ⟨by omega, by omega, by omega, by omega⟩
    refine Ev.bind0 (isz (N : Int) (w : Int)) ?_
    rw [psz_nat N w hin]
    rw [if_neg (show ¬ (0 : Int) ≠ 0 by decide)]
    simp only [Int.toNat_natCast]
    have hs : pbytes N w ≤ 524288 := by
      unfold pbytes
      have : N * w ≤ 65536 * 64 := Nat.mul_le_mul (by omega) q2
      omega
    rw [w64 ((b.length : Int) - (a : Int)) (by omega) (by omega)]
    by_cases c2 : b.length < a + pbytes N w
    · refine Ev.pos (by omega) ?_
      rw [if_pos c2]
      exact Ev.now _
    · refine Ev.neg (by omega) ?_
      rw [if_neg c2, w64 ((a : Int) + ((pbytes N w : Nat) : Int)) (by omega) (by omega), show (a : Int) + ((pbytes N w : Nat) : Int) = ((a + pbytes N w : Nat) : Int) by omega]
      have hsl : (seg b a (pbytes N w)).length = pbytes N w := by unfold seg; rw [List.length_take, List.length_drop]; omega
      have hle := unpackN_range w q2 N (le (seg b a (pbytes N w)))
      have g := frd_l0 b hb hl (O : Int) ((pbytes N w : Nat) : Int) (unzig (z : Int)) (w : Int) (a : Int) N (by omega) K (by omega) (O : Int) (cmb (fun e => ([], 0, e)) (fun p t => (p, t, 0)) [] (rdp b K ((a + pbytes N w : Nat) : Int)))
        (fun ps t => fin2 b O (outs z (pat w (unpackN w (le (seg b a (pbytes N w))) N) ps)) t) ?_ K ((a + pbytes N w : Nat) : Int) [] (by simp) (by omega) (by omega) (fun p hp => by cases hp) rfl
      · simp only [List.map_nil, List.length_nil] at g
        refine Ev.eq g ?_
        unfold cmb err3 fin2
        simp only [List.nil_append]
      · -- behind the patches
        intro ps t hk hlo hhi hps hrd0
        have hrd : rdp b K ((a + pbytes N w : Nat) : Int) = (ps, t, 0) := by
          obtain ⟨x, y, e, hx⟩ : ∃ x y e, rdp b K ((a + pbytes N w : Nat) : Int) = (x, y, e) := ⟨_, _, _, rfl⟩
          rw [hx] at hrd0 ⊢
          unfold cmb at hrd0
          simp only [List.nil_append] at hrd0
          by_cases he : e = 0
          · subst he; simpa using hrd0
          · rw [if_pos he] at hrd0
            simp only [Prod.mk.injEq] at hrd0
            omega
        clear hrd0
        refine Ev.succ ?_
        simp only [frameref_Decode.l0]
        refine Ev.neg (by omega) ?_
        rw [w64 ((a : Int) + ((pbytes N w : Nat) : Int)) (by omega) (by omega)]
        refine Ev.pos (by omega) ?_
        refine Ev.pos (by omega) ?_
        refine Ev.pos (by omega) ?_
        have e1 : (b.take ((a : Int) + ((pbytes N w : Nat) : Int)).toNat).drop (a : Int).toNat = seg b a (pbytes N w) := by
          rw [← seg_take b a (pbytes N w), Int.toNat_natCast, show ((a : Int) + ((pbytes N w : Nat) : Int)).toNat = a + pbytes N w by omega]
        rw [e1]
        refine Ev.bind (iunp_ev (seg b a (pbytes N w)) (seg_bytes hb _ _) (by rw [hsl]; omega) (N : Int) (w : Int)) ?_
        have hbad : ¬ (allB N ps = true ∧ le (seg b a (pbytes N w)) < 2 ^ (N * w)) → fin2 b O (outs z (pat w (unpackN w (le (seg b a (pbytes N w))) N) ps)) t = ([], 0, 4) := by
          intro hn
          unfold fin2
          rw [if_neg]
          intro hf
          have hol : (outs z (pat w (unpackN w (le (seg b a (pbytes N w))) N) ps)).length = N := by rw [outs_len, pat_length, unpackN_len]
          have := fenc_good (outs_range _ _) hol (by omega) (by omega) hh hrd hf
          exact hn ⟨allB_iff.2 this.1, by rw [Nat.mul_comm]; exact this.2⟩
        have hu : unp (seg b a (pbytes N w)) (N : Int) (w : Int) = if le (seg b a (pbytes N w)) < 2 ^ (N * w) then (unpackN w (le (seg b a (pbytes N w))) N, 0) else ([], 4) := by
          unfold unp
          rw [if_pos hin, psz_nat N w hin, hsl, if_neg (by omega), if_neg (by omega)]
          simp only [Int.toNat_natCast]
        rw [hu]
        by_cases c3 : le (seg b a (pbytes N w)) < 2 ^ (N * w)
        · rw [if_pos c3]
          refine Ev.pos rfl ?_
          refine Ev.succ ?_
          simp only [frameref_Decode.j2]
          by_cases c4 : allB N ps = true
          · rw [c4]
            refine Ev.neg (by decide) ?_
            have l2 := frd_l2 b hb O t (K : Int) (w : Int) (a : Int) N z (by omega) hlo hhi (pat w (unpackN w (le (seg b a (pbytes N w))) N) ps) (by rw [pat_length, unpackN_len]) N 0 (by omega)
            rw [List.take_zero, List.nil_append, Nat.sub_zero] at l2
            have l1 := frd_l1 b (O : Int) t (unzig (z : Int)) (a : Int) (K : Int) N w (by omega) q2 ps (by omega) (allB_iff.1 c4) _ ps 0 (unpackN w (le (seg b a (pbytes N w))) N) rfl (unpackN_len _ _ _) hle l2
            rw [List.length_map]
            exact l1
          · rw [Bool.eq_false_iff.2 c4]
            refine Ev.pos (by decide) ?_
            rw [hbad (fun h => c4 h.1)]
            exact Ev.now _
        · rw [if_neg c3]
          refine Ev.neg (by decide) ?_
          refine Ev.succ ?_
          simp only [frameref_Decode.j2]
          refine Ev.pos (by simp) ?_
          rw [hbad (fun h => c3 h.2)]
          exact Ev.now _
  · rw [if_pos c1]
    refine Ev.neg c1 ?_
    exact Ev.now _
theorem fdec_len (b : List Int) (o n : Int) : (fdec b o n).1.length ≤ 65536 := by
  unfold fdec
  by_cases h : o < 0 ∨ o > b.length ∨ n < 0 ∨ n > 65536
  · rw [if_pos h]; simp
  · rw [if_neg h]
    dsimp only
    split
    · simp
    · split
      · simp
      · split
        · simp
        · split
          · simp only [outs_len, pat_length, unpackN_len]; omega
          · simp

theorem rdec_j2 (b : List Int) (hlen : b.length < 4611686018427387904) (o i acc c : Nat) (hi : i ≤ 9) (ho : o + i < b.length) (hc : c < 256) (hacc : acc < 128 ^ i) (f : Nat) (hf : i + f = 9)
    (h9 : ¬ (i = 9 ∧ 1 < c)) (h0 : ¬ (0 < i ∧ c = 0))
    (ih : i < 9 → acc + c % 128 * 128 ^ i < 128 ^ (i + 1) → Ev (fun k => laminaref01_Decode.l0 k b o ((acc + c % 128 * 128 ^ i : Nat) : Int) ((128 ^ (i + 1) : Nat) : Int) ((i + 1 : Nat) : Int)) (vd b o f (i + 1) (acc + c % 128 * 128 ^ i))) :
    Ev (fun k => laminaref01_Decode.j2 k b o acc ((128 ^ i : Nat) : Int) i c false)
      (if i = 9 ∧ 1 < c ∨ 0 < i ∧ c = 0 then (0, 0, 4) else if c < 128 then (((acc + c * 128 ^ i : Nat) : Int), ((o + i + 1 : Nat) : Int), 0) else vd b o f (i + 1) (acc + c % 128 * 128 ^ i)) := by
  have hp : 0 < 128 ^ i := Nat.pow_pos (by decide)
  have hple : 128 ^ i ≤ 128 ^ 9 := Nat.pow_le_pow_right (by decide) hi
  have h9v : (128 : Nat) ^ 9 = 9223372036854775808 := by decide
  have hm : acc + c % 128 * 128 ^ i < 18446744073709551616 := by
    by_cases e : i = 9
    · subst e
      have : c % 128 ≤ 1 := by omega
      have := Nat.mul_le_mul_right (128 ^ 9) this
      omega
    · have h8 : 128 ^ i ≤ 128 ^ 8 := Nat.pow_le_pow_right (by decide) (by omega)
      have : (128 : Nat) ^ 8 = 72057594037927936 := by decide
      have : c % 128 * 128 ^ i ≤ 127 * 72057594037927936 := Nat.mul_le_mul (by omega) (by omega)
      omega
  have hlow : c % 128 * 128 ^ i + 128 ^ i ≤ 128 ^ (i + 1) := by
    rw [pow128, ← Nat.succ_mul]
    exact Nat.mul_le_mul_right _ (by omega)
  have ht : Int.tmod (c : Int) 128 = ((c % 128 : Nat) : Int) := by rw [Int.tmod_eq_emod_of_nonneg (by omega)]; rfl
  have hs : IntKind.u64.wrap ((acc : Int) + IntKind.u64.wrap (IntKind.u64.wrap (Int.tmod (c : Int) 128) * ((128 ^ i : Nat) : Int))) = ((acc + c % 128 * 128 ^ i : Nat) : Int) := by
    rw [ht, wrap_u64_of ((c % 128 : Nat) : Int) (by omega) (by omega)]
    have e : ((c % 128 : Nat) : Int) * ((128 ^ i : Nat) : Int) = ((c % 128 * 128 ^ i : Nat) : Int) := by push_cast; rfl
    rw [e, wrap_u64_of ((c % 128 * 128 ^ i : Nat) : Int) (by omega) (by omega), wrap_u64_of _ (by omega) (by omega)]
    push_cast; rfl
  refine Ev.succ ?_
  simp only [laminaref01_Decode.j2, hs, w64_add1 i (by omega), w64_add_1 o i (by omega)]
  clear hs
  refine Ev.neg (by decide) ?_
  by_cases h2 : c < 128
  · refine Ev.pos (by omega) ?_
    exact Ev.eq (Ev.now _) (by rw [if_neg (by omega), if_pos h2, Nat.mod_eq_of_lt h2])
  · refine Ev.neg (by omega) ?_
    have hu : IntKind.u64.wrap (((128 ^ i : Nat) : Int) * 128) = ((128 ^ (i + 1) : Nat) : Int) := by
      have hle : 128 ^ (i + 1) ≤ 128 ^ 9 := Nat.pow_le_pow_right (by decide) (by omega)
      rw [wrap_u64_of _ (by omega) (by rw [pow128] at hle; omega), pow128]
      push_cast
      omega
    rw [hu]
    exact Ev.eq (ih (by omega) (by omega)) (by rw [if_neg (by omega), if_neg h2])
theorem rdec_l0 (b : List Int) (hb : ∀ x ∈ b, 0 ≤ x ∧ x < 256) (hlen : b.length < 4611686018427387904) (o : Nat) (ho : o ≤ b.length) :
    ∀ (f i acc : Nat), i + f = 10 → 1 ≤ f → acc < 128 ^ i → Ev (fun k => laminaref01_Decode.l0 k b o acc ((128 ^ i : Nat) : Int) i) (vd b o f i acc) := by
  intro f
  induction f with
  | zero => intro i acc hi h1; omega
  | succ f ih =>
    intro i acc hi _ ha
    refine Ev.succ ?_
    simp only [laminaref01_Decode.l0, w64_add o i (by omega), rd_nat]
    unfold vd
    by_cases hl : b.length ≤ o + i
    · refine Ev.pos (by omega) ?_
      exact Ev.eq (Ev.now _) (by rw [if_pos hl])
    refine Ev.neg (by omega) ?_
    refine Ev.pos (by omega) ?_
    refine Ev.pos (by omega) ?_
    rw [if_neg hl]
    have hr := getD_range hb (i := o + i) (by omega)
    obtain ⟨c, hc⟩ := Int.eq_ofNat_of_zero_le hr.1
    simp only [hc, Int.toNat_natCast]
    rw [hc] at hr
    have bad : (i = 9 ∧ 1 < c ∨ 0 < i ∧ c = 0) → Ev (fun k => laminaref01_Decode.j2 k b o acc ((128 ^ i : Nat) : Int) i c true) (if i = 9 ∧ 1 < c ∨ 0 < i ∧ c = 0 then (0, 0, 4) else if c < 128 then (((acc + c * 128 ^ i : Nat) : Int), ((o + i + 1 : Nat) : Int), 0) else vd b o f (i + 1) (acc + c % 128 * 128 ^ i)) := fun h => by
      rw [if_pos h]
      refine Ev.succ ?_
      simp only [laminaref01_Decode.j2]
      refine Ev.pos (by decide) ?_
      exact Ev.now _
    have good : ¬ (i = 9 ∧ 1 < c) → ¬ (0 < i ∧ c = 0) → Ev (fun k => laminaref01_Decode.j2 k b o acc ((128 ^ i : Nat) : Int) i c false) (if i = 9 ∧ 1 < c ∨ 0 < i ∧ c = 0 then (0, 0, 4) else if c < 128 then (((acc + c * 128 ^ i : Nat) : Int), ((o + i + 1 : Nat) : Int), 0) else vd b o f (i + 1) (acc + c % 128 * 128 ^ i)) := fun h h' =>
      rdec_j2 b hlen o i acc c (by omega) (by omega) (by omega) ha f (by omega) h h' (fun h1 h2 => ih (i + 1) _ (by omega) (by omega) h2)
    have zero : ((c : Int) == 0) = decide (c = 0) := by
      rw [Bool.eq_iff_iff, beq_iff_eq, decide_eq_true_iff]; omega
    by_cases h9 : i = 9
    · refine Ev.pos (by omega) ?_
      by_cases h1 : 1 < c
      · exact Ev.pos (by omega) (bad (by omega))
      · refine Ev.neg (by omega) ?_
        refine Ev.pos (by omega) ?_
        rw [zero]
        by_cases h0 : c = 0
        · rw [decide_eq_true h0]; exact bad (by omega)
        · rw [decide_eq_false h0]; exact good (by omega) (by omega)
    · refine Ev.neg (by omega) ?_
      by_cases hi0 : 0 < i
      · refine Ev.pos (by omega) ?_
        rw [zero]
        by_cases h0 : c = 0
        · rw [decide_eq_true h0]; exact bad (by omega)
        · rw [decide_eq_false h0]; exact good (by omega) (by omega)
      · exact Ev.neg (by omega) (good (by omega) (by omega))
theorem rdec_ev (b : List Int) (hb : ∀ x ∈ b, 0 ≤ x ∧ x < 256) (hlen : b.length < 4611686018427387904) (o : Int) : Ev (fun k => laminaref01_Decode.f k b o) (vdec b o) := by
  unfold laminaref01_Decode.f vdec
  by_cases h0 : o < 0
  · refine Ev.pos h0 ?_
    rw [if_pos (Or.inl h0)]
    refine Ev.succ ?_
    simp only [laminaref01_Decode.j0]
    refine Ev.pos (by decide) ?_
    exact Ev.now _
  refine Ev.neg h0 ?_
  refine Ev.succ ?_
  simp only [laminaref01_Decode.j0]
  by_cases h1 : (b.length : Int) < o
  · refine Ev.pos (by simpa using h1) ?_
    exact Ev.eq (Ev.now _) (by rw [if_pos (Or.inr h1)])
  · refine Ev.neg (by simpa using h1) ?_
    obtain ⟨n, rfl⟩ := Int.eq_ofNat_of_zero_le (show 0 ≤ o by omega)
    rw [if_neg (by omega), Int.toNat_natCast]
    exact rdec_l0 b hb hlen n (by omega) 10 0 0 rfl (by decide) (by decide)

theorem runzig_f (u : Int) (h0 : 0 ≤ u) (h1 : u < 18446744073709551616) : laminaref01_UnZigZag.f u = some (unzig u) := by
  unfold laminaref01_UnZigZag.f unzig
  rw [Int.tmod_eq_emod_of_nonneg h0, Int.tdiv_eq_ediv_of_nonneg h0]
  by_cases h : u % 2 = 0
  · rw [if_pos h, if_pos h, wrap_u64_of _ (by omega) (by omega), w64 _ (by omega) (by omega)]
  · rw [if_neg h, if_neg h, wrap_u64_of _ (by omega) (by omega), w64 (u / 2) (by omega) (by omega), w64 (-(u / 2)) (by omega) (by omega), w64 _ (by omega) (by omega)]

/-! ### the same by the reference -/
theorem rinr (n w : Int) : laminaref06_ok.f n w = some (inr n w) := by
  unfold laminaref06_ok.f inr
  by_cases h1 : n ≥ 0
  · rw [if_pos h1, decide_eq_true (show 0 ≤ n from h1)]
    by_cases h2 : n ≤ 1048576
    · rw [if_pos h2, decide_eq_true h2]
      by_cases h3 : w ≥ 0
      · rw [if_pos h3, decide_eq_true (show 0 ≤ w from h3)]; simp
      · rw [if_neg h3, decide_eq_false (show ¬ 0 ≤ w from h3)]; simp
    · rw [if_neg h2, decide_eq_false h2]; simp
  · rw [if_neg h1, decide_eq_false (show ¬ 0 ≤ n from h1)]; simp
theorem rsz (n w : Int) : laminaref06_Size.f n w = some (psz n w) := by
  unfold laminaref06_Size.f psz
  rw [rinr]
  simp only [Option.bind_some]
  by_cases h : inr n w = true
  · rw [if_pos h, if_pos h, size_wrap n w h]
  · rw [if_neg h, if_neg h]

theorem rbit (b : List Int) (hb : ∀ x ∈ b, 0 ≤ x ∧ x < 256) (hl : b.length ≤ 100000000) (p : Nat) (hp : p < 8 * b.length) : laminaref06_bit.f b (p : Int) = some ((le b / 2 ^ p % 2 : Nat) : Int) := by
  have e1 : wrap64 (Int.tdiv (p : Int) 8) = ((p / 8 : Nat) : Int) := by
    rw [Int.tdiv_eq_ediv_of_nonneg (by omega), w64 _ (by omega) (by omega)]; omega
  have e2 : IntKind.u64.wrap (Int.tmod (p : Int) 8) = ((p % 8 : Nat) : Int) := by
    rw [Int.tmod_eq_emod_of_nonneg (by omega), wraps_u64 _ (by omega) (by omega)]; omega
  unfold laminaref06_bit.f
  rw [e1, e2, if_pos (by omega), if_pos (by omega), if_pos (by omega)]
  unfold shr
  rw [rd_nat, le_get b _ hb, Int.toNat_natCast, Nat.min_eq_left (by show p % 8 ≤ 8; omega), ← pow_cast, ← Int.natCast_ediv]
  have h1 : le b / 256 ^ (p / 8) % 256 / 2 ^ (p % 8) < 256 := Nat.lt_of_le_of_lt (Nat.div_le_self _ _) (Nat.mod_lt _ (by decide))
  have h2 := byte_bits (le b) p 1 (by omega)
  rw [Nat.pow_one] at h2
  rw [← h2]
  generalize le b / 256 ^ (p / 8) % 256 / 2 ^ (p % 8) = q at h1 ⊢
  rw [wraps_u64 (q : Int) (by omega) (by omega), and_one _ (by omega) (by omega), Int.natCast_emod]; rfl
theorem rnum_l0 (b : List Int) (hb : ∀ x ∈ b, 0 ≤ x ∧ x < 256) (hl : b.length ≤ 100000000) (i w : Nat) (hw : w ≤ 64) (hi : i * w + w ≤ 8 * b.length) :
    ∀ (d g : Nat), g + d = w → Ev (fun k => laminaref06_number.l0 k b (i : Int) (w : Int) ((le b / 2 ^ (i * w) % 2 ^ g : Nat) : Int) (g : Int)) ((le b / 2 ^ (i * w) % 2 ^ w : Nat) : Int) := by
  intro d
  induction d with
  | zero =>
    intro g h
    have : g = w := by omega
    subst this
    refine Ev.succ ?_
    simp only [laminaref06_number.l0]
    refine Ev.neg (by omega) ?_
    exact Ev.now _
  | succ d ih =>
    intro g h
    have e1 : wrap64 (wrap64 ((i : Int) * (w : Int)) + (g : Int)) = ((i * w + g : Nat) : Int) := by
      rw [show ((i : Int) * (w : Int)) = ((i * w : Nat) : Int) by simp, w64 ((i * w : Nat) : Int) (by omega) (by omega), w64 _ (by omega) (by omega)]; simp
    have e2 : IntKind.u64.wrap (g : Int) = (g : Int) := wraps_u64 _ (by omega) (by omega)
    have hb2 : le b / 2 ^ (i * w + g) % 2 < 2 ^ 1 := by have := Nat.mod_lt (le b / 2 ^ (i * w + g)) (show 0 < 2 by decide); omega
    have hm := mul_pow_lt _ 1 g 64 hb2 (by omega)
    have hg64 : le b / 2 ^ (i * w) % 2 ^ g < 2 ^ 64 := Nat.lt_of_lt_of_le (mod_lt_pow _ g) (Nat.pow_le_pow_right (by decide) (by omega))
    have e3 : bits .or .u64 ((le b / 2 ^ (i * w) % 2 ^ g : Nat) : Int) (shl .u64 ((le b / 2 ^ (i * w + g) % 2 : Nat) : Int) (g : Int)) = ((le b / 2 ^ (i * w) % 2 ^ (g + 1) : Nat) : Int) := by
      unfold shl
      rw [Int.toNat_natCast, Nat.min_eq_left (by show g ≤ 64; omega), ← pow_cast, ← Int.natCast_mul, wraps_u64 _ (by omega) (by omega), or_u64 g _ _ (mod_lt_pow _ g) hg64 hm, mod_split _ g 1, Nat.div_div_eq_div_mul, ← Nat.pow_add, Nat.pow_one]
    refine Ev.succ ?_
    simp only [laminaref06_number.l0, e1, e2, w64_add1 g (by omega)]
    refine Ev.pos (by omega) ?_
    refine Ev.bind0 (rbit b hb hl (i * w + g) (by omega)) ?_
    refine Ev.pos (by omega) ?_
    rw [e3]
    exact ih (g + 1) (by omega)
theorem rnum_ev (b : List Int) (hb : ∀ x ∈ b, 0 ≤ x ∧ x < 256) (hl : b.length ≤ 100000000) (i w : Nat) (hw : w ≤ 64) (hi : i * w + w ≤ 8 * b.length) : Ev (fun k => laminaref06_number.f k b (i : Int) (w : Int)) ((le b / 2 ^ (i * w) % 2 ^ w : Nat) : Int) := by
  have := rnum_l0 b hb hl i w hw hi w 0 (by omega)
  unfold laminaref06_number.f
  simpa [Nat.mod_one] using this
theorem rat_ev (b : List Int) (hb : ∀ x ∈ b, 0 ≤ x ∧ x < 256) (hl : b.length ≤ 100000000) (i w : Int) : Ev (fun k => laminaref06_At.f k b i w) (atP b i w) := by
  unfold laminaref06_At.f atP
  by_cases h1 : w < 1
  · refine Ev.pos h1 ?_
    rw [if_pos (.inl h1)]; exact Ev.now _
  refine Ev.neg h1 ?_
  by_cases h2 : w > 64
  · refine Ev.pos h2 ?_
    rw [if_pos (.inr (.inl h2))]; exact Ev.now _
  refine Ev.neg h2 ?_
  by_cases h3 : i < 0
  · refine Ev.pos h3 ?_
    rw [if_pos (.inr (.inr (.inl h3)))]; exact Ev.now _
  refine Ev.neg h3 ?_
  refine Ev.neg (show ¬ w = 0 by omega) ?_
  rw [at_div b hl w (by omega) (by omega)]
  by_cases h4 : i ≥ ((8 * b.length / w.toNat : Nat) : Int)
  · refine Ev.pos h4 ?_
    rw [if_pos (.inr (.inr (.inr h4)))]; exact Ev.now _
  refine Ev.neg h4 ?_
  rw [if_neg (by omega)]
  obtain ⟨a, rfl⟩ := Int.eq_ofNat_of_zero_le (show 0 ≤ i by omega)
  obtain ⟨c, rfl⟩ := Int.eq_ofNat_of_zero_le (show 0 ≤ w by omega)
  have hin := at_in (b := b) (i := a) (c := c) (Int.ofNat_lt.1 (by have h5 := Int.not_le.1 h4; rwa [Int.toNat_natCast] at h5)) (by omega)
  simp only [Int.toNat_natCast]
  exact Ev.bind (rnum_ev b hb hl a c (by omega) hin) (Ev.now _)

/-! ### the reference's Encode and Concat -/
theorem renc_l0 : ∀ (f n : Nat) (acc : List Int), n < 128 ^ (f + 1) → n < 18446744073709551616 → acc.length + f < 1000 → Ev (fun k => laminaref01_Encode.l0 k (n : Int) acc) (acc ++ venc n) := by
  intro f
  induction f with
  | zero =>
    intro n acc hn hn6 ha
    have h : n < 128 := by simpa using hn
    refine Ev.succ ?_
    simp only [laminaref01_Encode.l0]
    refine Ev.neg (by omega) ?_
    refine Ev.pos (by omega) ?_
    exact Ev.eq (Ev.now _) (by rw [venc_lt h, show (n : Int) % 256 = n by omega])
  | succ f ih =>
    intro n acc hn hn6 ha
    have hn2 : n / 128 < 128 ^ (f + 1) := by
      rw [Nat.div_lt_iff_lt_mul (by decide), ← Nat.pow_succ]; exact hn
    clear hn
    refine Ev.succ ?_
    simp only [laminaref01_Encode.l0, Int.tdiv_eq_ediv_of_nonneg (show (0 : Int) ≤ n by omega), Int.tmod_eq_emod_of_nonneg (show (0 : Int) ≤ n by omega)]
    by_cases h : n < 128
    · refine Ev.neg (by omega) ?_
      refine Ev.pos (by omega) ?_
      exact Ev.eq (Ev.now _) (by rw [venc_lt h, show (n : Int) % 256 = n by omega])
    · refine Ev.pos (by omega) ?_
      refine Ev.pos (by omega) ?_
      have e : IntKind.u64.wrap (128 + (n : Int) % 128) % 256 = ((128 + n % 128 : Nat) : Int) := by
        rw [wrap_u64_of _ (by omega) (by omega)]; omega
      have e2 : IntKind.u64.wrap ((n : Int) / 128) = ((n / 128 : Nat) : Int) := by rw [wrap_u64_of _ (by omega) (by omega)]; omega
      rw [e, e2]
      have := ih (n / 128) (acc ++ [((128 + n % 128 : Nat) : Int)]) hn2 (by omega) (by simp; omega)
      rw [venc_ge h]
      simpa using this
theorem renc_ev (n : Nat) (h : n < 18446744073709551616) : Ev (fun k => laminaref01_Encode.f k (n : Int)) (venc n) := by
  have hp : (128 : Nat) ^ (9 + 1) = 1180591620717411303424 := by decide
  have := renc_l0 9 n [] (by omega) h (by decide)
  unfold laminaref01_Encode.f
  simpa using this

theorem rzig_f (x : Int) (h0 : -9223372036854775808 ≤ x) (h1 : x < 9223372036854775808) : laminaref01_ZigZag.f x = some (zig x) := by
  unfold laminaref01_ZigZag.f zig
  by_cases h : 0 ≤ x
  · have e : IntKind.u64.wrap (2 * IntKind.u64.wrap x) = 2 * x := by rw [wrap_u64, wrap_u64]; omega
    rw [if_pos (by omega), if_pos h, e]
  · have e : IntKind.u64.wrap (IntKind.u64.wrap (2 * IntKind.u64.wrap (wrap64 (-wrap64 (x + 1)))) + 1) = -2 * x - 1 := by
      rw [w64 (x + 1) (by omega) (by omega), w64 _ (by omega) (by omega), wrap_u64, wrap_u64, wrap_u64]; omega
    rw [if_neg (by omega), if_neg h, e]

/-! ### laminaref08: least, low, high, With, Best, Encode, Size -/
theorem rleast_l0 (l : List Int) (hl : l.length ≤ 65536) : ∀ (d j : Nat), j + d = l.length → Ev (fun k => laminaref08_least.l0 k l (lmin (l.take j)) (j : Int)) (lmin l) := by
  intro d
  induction d with
  | zero =>
    intro j hj
    obtain rfl : j = l.length := by omega
    refine Ev.succ ?_
    simp only [laminaref08_least.l0]
    refine Ev.neg (by omega) ?_
    rw [List.take_length]
    exact Ev.now _
  | succ d ih =>
    intro j hj
    have hjl : j < l.length := by omega
    have hs := lmin_snoc (l.take j) (l.getD j 0)
    rw [← dtake_snoc l j hjl, List.length_take, Nat.min_eq_left (by omega)] at hs
    refine Ev.succ ?_
    simp only [laminaref08_least.l0, w64_add1 j (by omega), rd_nat]
    refine Ev.pos (by omega) ?_
    have hi := ih (j + 1) (by omega)
    by_cases h0 : j = 0
    · rw [if_pos h0] at hs
      refine Ev.pos (by omega) ?_
      refine Ev.pos (by omega) ?_
      rw [← hs]
      exact hi
    · rw [if_neg h0] at hs
      refine Ev.neg (by omega) ?_
      refine Ev.pos (by omega) ?_
      by_cases hc : l.getD j 0 < lmin (l.take j)
      · rw [if_pos hc] at hs
        refine Ev.pos hc ?_
        rw [← hs]
        exact hi
      · rw [if_neg hc] at hs
        refine Ev.neg hc ?_
        rw [← hs]
        exact hi
theorem rleast_ev (l : List Int) (hl : l.length ≤ 65536) : Ev (fun k => laminaref08_least.f k l) (lmin l) := rleast_l0 l hl l.length 0 (by omega)
theorem shl1u (w : Nat) (hw : w < 64) : shl .u64 1 (w : Int) = ((2 ^ w : Nat) : Int) := by
  have h : (2 : Nat) ^ w < 2 ^ 64 := Nat.pow_lt_pow_right (by decide) hw
  have e : min ((w : Int)).toNat 64 = w := by omega
  have h3 : ∀ p : Nat, p < 2 ^ 64 → IntKind.u64.wrap (p : Int) = (p : Int) := fun p hp => wraps_u64 _ (by omega) (by omega)
  unfold shl
  rw [show IntKind.u64.bits = 64 from rfl, e, Int.one_mul, ← pow_cast w, h3 _ h]
theorem rlow (d w : Nat) (hd : d < 18446744073709551616) (hw : w ≤ 64) : laminaref08_low.f (d : Int) (w : Int) = some ((d % 2 ^ w : Nat) : Int) := by
  unfold laminaref08_low.f
  by_cases h : w = 64
  · subst h
    rw [if_pos (by rfl), Nat.mod_eq_of_lt (by simpa using hd)]
  · have hp : (2 : Nat) ^ w < 2 ^ 64 := Nat.pow_lt_pow_right (by decide) (by omega)
    have hp1 : 0 < (2 : Nat) ^ w := Nat.two_pow_pos w
    obtain ⟨p, hpe⟩ : ∃ p : Nat, p = 2 ^ w := ⟨_, rfl⟩
    rw [← hpe] at hp hp1
    rw [if_neg (by omega), wraps_u64 (w : Int) (by omega) (by omega), if_pos (by omega), shl1u w (by omega), ← hpe, wraps_u64 ((p : Int) - 1) (by omega) (by omega), hpe]
    have hm := bits_mask .u64 64 (by decide) wraps_u64 w (by omega) (d : Int) (by omega) (by omega)
    rw [pow_cast w, hm, ← pow_cast w]
    congr 1
theorem rhigh (d w : Nat) (hd : d < 18446744073709551616) (hw : w ≤ 64) : laminaref08_high.f (d : Int) (w : Int) = some ((hi (d : Int) w : Nat) : Int) := by
  have h := fhigh d w hd hw
  unfold frameref_high.f at h
  unfold laminaref08_high.f
  by_cases h6 : w = 64
  · rw [if_pos (by omega)] at h ⊢; exact h
  · rw [if_neg (by omega)] at h ⊢; exact h
theorem packN_low (w : Nat) : ∀ l : List Int, (∀ x ∈ l, 0 ≤ x) → packN w (l.map fun x => ((x.toNat % 2 ^ w : Nat) : Int)) = packN w l := by
  intro l
  induction l with
  | nil => intro _; rfl
  | cons x l ih =>
    intro h
    simp only [List.map_cons, packN, Int.toNat_natCast, Nat.mod_mod]
    rw [ih (fun y hy => h y (List.mem_cons_of_mem _ hy))]
theorem rwith_l0 (l : List Int) (w : Nat) (hw : w ≤ 64) (hl : l.length ≤ 60000) (hI : ∀ x ∈ l, -9223372036854775808 ≤ x ∧ x < 9223372036854775808) : ∀ (d j : Nat), j + d = l.length →
    Ev (fun k => laminaref08_With.l0 k l (w : Int) (lmin l) (((exc w 0 ((fds l).take j)).length : Nat) : Int) (((fds l).take j).map fun x => ((x.toNat % 2 ^ w : Nat) : Int)) (pts (exc w 0 ((fds l).take j))) (j : Int)) (withW (zb l) (fds l) w) := by
  have hfr := fds_range l
  have hfl := fds_len l
  have hpl : ∀ j, (pts (exc w 0 ((fds l).take j))).length ≤ 1310720 := fun j => pts_exc_len w _ (by rw [List.length_take]; omega) (fun y hy => hfr y (List.mem_of_mem_take hy))
  have hel : ∀ j, (exc w 0 ((fds l).take j)).length ≤ 60000 := fun j => by
    have := exc_len w ((fds l).take j) 0
    rw [List.length_take] at this; omega
  intro d
  induction d with
  | zero =>
    intro j hj
    obtain rfl : j = l.length := by omega
    rw [List.take_of_length_le (by omega)]
    have hp := hpl l.length
    have he := hel l.length
    rw [List.take_of_length_le (by omega)] at hp he
    obtain ⟨_, _, l1⟩ := fsize (zb l) (zb_lt hI)
    obtain ⟨_, _, l2⟩ := fsize w (by omega)
    obtain ⟨_, _, l3⟩ := fsize (exc w 0 (fds l)).length (by omega)
    have hr := lmin_range hI
    have hz := zig_range (lmin l) hr.1 hr.2
    have hzb : laminaref01_ZigZag.f (lmin l) = some ((zb l : Nat) : Int) := by
      rw [rzig_f _ hr.1 hr.2]; unfold zb; rw [Int.toNat_of_nonneg (by omega)]
    have hml : ((fds l).map fun x => ((x.toNat % 2 ^ w : Nat) : Int)).length = (fds l).length := List.length_map _
    have hpk : laminaref06_Pack.f ((fds l).map fun x => ((x.toNat % 2 ^ w : Nat) : Int)) (w : Int) = some (packed (fds l) w) := by
      unfold laminaref06_Pack.f
      rw [pack_at _ w hw (by rw [hml]; omega) (fun y hy => by
        obtain ⟨x, hx, rfl⟩ := List.mem_map.1 hy
        have := hfr x hx
        have h2 := Nat.mod_le x.toNat (2 ^ w)
        omega)]
      unfold packed
      rw [hml, packN_low w _ (fun x hx => (hfr x hx).1)]
    have lpk : (packed (fds l) w).length ≤ 524289 := by rw [packed_len]; exact fpb_le _ _ (by omega) hw
    refine Ev.succ ?_
    simp only [laminaref08_With.l0]
    refine Ev.neg (by omega) ?_
    refine Ev.bind0 hzb ?_
    refine Ev.bind (renc_ev (zb l) (zb_lt hI)) ?_
    rw [wraps_u64 (w : Int) (by omega) (by omega), wraps_u64 ((exc w 0 (fds l)).length : Int) (by omega) (by omega)]
    refine Ev.bind (renc_ev w (by omega)) ?_
    refine Ev.pos (by omega) ?_
    refine Ev.bind0 rfl ?_
    refine Ev.bind (renc_ev (exc w 0 (fds l)).length (by omega)) ?_
    refine Ev.pos (by simp only [List.length_append]; omega) ?_
    refine Ev.bind0 rfl ?_
    refine Ev.bind0 hpk ?_
    refine Ev.pos (by simp only [List.length_append]; omega) ?_
    refine Ev.bind0 rfl ?_
    refine Ev.pos (by simp only [List.length_append]; omega) ?_
    refine Ev.eq (Ev.now _) ?_
    unfold withW
    simp only [List.append_assoc]
  | succ d ih =>
    intro j hj
    have hjl : j < l.length := by omega
    have hjf : j < (fds l).length := by omega
    have hx := getD_range hfr hjf
    obtain ⟨x, hxe⟩ : ∃ x : Nat, (fds l).getD j 0 = (x : Int) := ⟨((fds l).getD j 0).toNat, by omega⟩
    have hx64 : x < 18446744073709551616 := by omega
    have hv : IntKind.u64.wrap (IntKind.u64.wrap (l.getD j 0) - IntKind.u64.wrap (lmin l)) = (x : Int) := by
      rw [wsub, ← hxe]
      simp only [fds, List.getD_eq_getElem?_getD, List.getElem?_map, List.getElem?_eq_getElem hjl, Option.map_some, Option.getD_some]
    have hst := exc_step w (fds l) j hjf
    rw [hxe] at hst
    have hmap : ((fds l).take (j + 1)).map (fun x => ((x.toNat % 2 ^ w : Nat) : Int)) = ((fds l).take j).map (fun x => ((x.toNat % 2 ^ w : Nat) : Int)) ++ [((x % 2 ^ w : Nat) : Int)] := by
      rw [dtake_snoc _ j hjf, List.map_append, hxe]; simp
    have hi2 := ih (j + 1) (by omega)
    rw [hst, hmap] at hi2
    have hp := hpl j
    have he := hel j
    obtain ⟨h, hhe⟩ : ∃ h, h = hi (x : Int) w := ⟨_, rfl⟩
    have hh64 : h < 18446744073709551616 := by
      have : h ≤ x := by rw [hhe]; unfold hi; rw [Int.toNat_natCast]; exact Nat.div_le_self _ _
      omega
    rw [← hhe] at hi2
    refine Ev.succ ?_
    simp only [laminaref08_With.l0, w64_add1 j (by omega), rd_nat, hv]
    refine Ev.pos (by omega) ?_
    refine Ev.pos (by omega) ?_
    refine Ev.bind0 (rlow x w hx64 hw) ?_
    refine Ev.pos (by rw [List.length_map, List.length_take]; omega) ?_
    refine Ev.bind0 rfl ?_
    refine Ev.bind0 (by rw [rhigh x w hx64 hw, ← hhe]) ?_
    by_cases h0 : h = 0
    · rw [if_pos h0, List.append_nil] at hi2
      refine Ev.pos (by omega) ?_
      exact hi2
    · rw [if_neg h0, pts_app, List.length_append] at hi2
      obtain ⟨_, _, l1⟩ := fsize j (by omega)
      obtain ⟨_, _, l2⟩ := fsize h hh64
      refine Ev.neg (by omega) ?_
      rw [wraps_u64 (j : Int) (by omega) (by omega)]
      refine Ev.bind (renc_ev j (by omega)) ?_
      refine Ev.pos (by omega) ?_
      refine Ev.bind0 rfl ?_
      refine Ev.bind (renc_ev h hh64) ?_
      refine Ev.pos (by simp only [List.length_append]; omega) ?_
      rw [w64_add1 _ (by omega)]
      simpa [pts] using hi2
theorem rwith_ev (l : List Int) (w : Nat) (hw : w ≤ 64) (hl : l.length ≤ 60000) (hI : ∀ x ∈ l, -9223372036854775808 ≤ x ∧ x < 9223372036854775808) : Ev (fun k => laminaref08_With.f k l (w : Int)) (withW (zb l) (fds l) w) := by
  unfold laminaref08_With.f
  refine Ev.bind (rleast_ev l (by omega)) ?_
  have := rwith_l0 l w hw hl hI l.length 0 (by omega)
  simpa [exc, pts] using this

theorem rbest_l0 (l : List Int) (hl : l.length ≤ 60000) (hI : ∀ x ∈ l, -9223372036854775808 ≤ x ∧ x < 9223372036854775808) : ∀ (d j : Nat), j + d = 64 →
    Ev (fun k => laminaref08_Best.l0 k l ((argm (szW (zb l) (fds l)) j : Nat) : Int) ((szW (zb l) (fds l) (argm (szW (zb l) (fds l)) j) : Nat) : Int) ((j + 1 : Nat) : Int)) (lmin l, ((fbest l : Nat) : Int)) := by
  intro d
  induction d with
  | zero =>
    intro j hj
    obtain rfl : j = 64 := by omega
    refine Ev.succ ?_
    simp only [laminaref08_Best.l0]
    refine Ev.neg (by omega) ?_
    refine Ev.bind (rleast_ev l (by omega)) ?_
    exact Ev.now _
  | succ d ih =>
    intro j hj
    have hi2 := ih (j + 1) (by omega)
    refine Ev.succ ?_
    simp only [laminaref08_Best.l0, w64_add1 (j + 1) (by omega)]
    refine Ev.pos (by omega) ?_
    refine Ev.bind (rwith_ev l (j + 1) (by omega) hl hI) ?_
    have e : argm (szW (zb l) (fds l)) (j + 1) = if szW (zb l) (fds l) (j + 1) < szW (zb l) (fds l) (argm (szW (zb l) (fds l)) j) then j + 1 else argm (szW (zb l) (fds l)) j := rfl
    have es : (withW (zb l) (fds l) (j + 1)).length = szW (zb l) (fds l) (j + 1) := rfl
    rw [es]
    by_cases hc : szW (zb l) (fds l) (j + 1) < szW (zb l) (fds l) (argm (szW (zb l) (fds l)) j)
    · rw [if_pos hc] at e
      rw [e] at hi2
      refine Ev.pos (by omega) ?_
      exact hi2
    · rw [if_neg hc] at e
      rw [e] at hi2
      refine Ev.neg (by omega) ?_
      exact hi2
theorem rbest_ev (l : List Int) (hl : l.length ≤ 60000) (hI : ∀ x ∈ l, -9223372036854775808 ≤ x ∧ x < 9223372036854775808) : Ev (fun k => laminaref08_Best.f k l) (lmin l, ((fbest l : Nat) : Int)) := by
  unfold laminaref08_Best.f
  refine Ev.bind (rwith_ev l 0 (by omega) hl hI) ?_
  exact rbest_l0 l hl hI 64 0 rfl
theorem rfenc_ev (l : List Int) (hl : l.length ≤ 60000) (hI : ∀ x ∈ l, -9223372036854775808 ≤ x ∧ x < 9223372036854775808) : Ev (fun k => laminaref08_Encode.f k l) (fenc l) := by
  unfold laminaref08_Encode.f
  refine Ev.bind (rbest_ev l hl hI) ?_
  refine Ev.bind (rwith_ev l (fbest l) (fbest_le l) hl hI) ?_
  exact Ev.now _

/-! ### the reference's Decode -/
theorem atP_unpack (b : List Int) (n w i : Nat) (hw : w ≤ 64) (hi : i < n) (hlen : b.length = pbytes n w) : atP b (i : Int) (w : Int) = (unpackN w (le b) n).getD i 0 := by
  rw [unpackN_get w n (le b) i hi]
  unfold atP
  simp only [Int.toNat_natCast]
  by_cases h : w = 0
  · subst h
    rw [if_pos (by omega)]
    simp [Nat.mod_one]
  · rw [if_neg]
    have h1 : n ≤ 8 * b.length / w := by
      rw [Nat.le_div_iff_mul_le (by omega), hlen]
      unfold pbytes
      omega
    omega
theorem take_snoc (l : List Int) (i : Nat) (hi : i < l.length) : l.take i ++ [l.getD i 0] = l.take (i + 1) := by
  rw [List.getD_eq_getElem?_getD, List.getElem?_eq_getElem hi, Option.getD_some, List.take_succ_eq_append_getElem hi]
theorem drop_getD (x : List Int) (j : Nat) (h : j < x.length) : x.drop j = x.getD j 0 :: x.drop (j + 1) := by
  rw [List.getD_eq_getElem?_getD, List.getElem?_eq_getElem h, Option.getD_some]; exact List.drop_eq_getElem_cons h
theorem rdp_lo {b : List Int} (hb : ∀ x ∈ b, 0 ≤ x ∧ x < 256) : ∀ (k : Nat) (t : Int), t ≤ (b.length : Int) → (rdp b k t).2.2 = 0 → t ≤ (rdp b k t).2.1 ∧ (rdp b k t).2.1 ≤ (b.length : Int) := by
  intro k
  induction k with
  | zero => intro t ht _; exact ⟨Int.le_refl _, ht⟩
  | succ k ih =>
    intro t ht h
    simp only [rdp] at h ⊢
    by_cases c1 : (vdec b t).2.2 = 0
    · have m1 := vdec_mono hb c1
      have m2 := vdec_rng hb c1
      rw [if_neg (show ¬ (vdec b t).2.2 ≠ 0 by omega)] at h ⊢
      by_cases c2 : (vdec b (vdec b t).2.1).2.2 = 0
      · have m3 := vdec_mono hb c2
        have m4 := vdec_rng hb c2
        rw [if_neg (show ¬ (vdec b (vdec b t).2.1).2.2 ≠ 0 by omega)] at h ⊢
        by_cases c3 : (rdp b k (vdec b (vdec b t).2.1).2.1).2.2 = 0
        · rw [if_neg (show ¬ (rdp b k (vdec b (vdec b t).2.1).2.1).2.2 ≠ 0 by omega)]
          have := ih _ m4.2.2.2 c3
          simp only
          omega
        · rw [if_pos c3] at h; simp at h; omega
      · rw [if_pos c2] at h; simp at h; omega
    · rw [if_pos c1] at h; simp at h; omega
theorem rexc_l0 (b : List Int) (hb : ∀ x ∈ b, 0 ≤ x ∧ x < 256) (hl : b.length ≤ 100000000) (K N w : Nat) (hK : K ≤ 65536) (hN : N ≤ 65536) (hw : w ≤ 64) : ∀ (r c : Nat) (at_ : Int) (ds : List Int), c + r = K → ds.length = N → (∀ x ∈ ds, 0 ≤ x ∧ x < 18446744073709551616) →
    ∃ dd, Ev (fun k => laminaref08_exceptions.l0 k b at_ (K : Int) (w : Int) ds (c : Int)) (if (rdp b r at_).2.2 ≠ 0 then (0, (rdp b r at_).2.2, dd) else ((rdp b r at_).2.1, 0, pat w ds (rdp b r at_).1)) := by
  intro r
  induction r with
  | zero =>
    intro c at_ ds h1 h2 h3
    refine ⟨[], Ev.succ ?_⟩
    simp only [laminaref08_exceptions.l0]
    refine Ev.neg (by omega) ?_
    refine Ev.eq (Ev.now _) ?_
    simp [rdp, pat]
  | succ r ih =>
    intro c at_ ds h1 h2 h3
    by_cases c1 : (vdec b at_).2.2 = 0
    · obtain ⟨r1, r2, r3, r4⟩ := vdec_rng hb c1
      by_cases c2 : (vdec b (vdec b at_).2.1).2.2 = 0
      · obtain ⟨s1, s2, s3, s4⟩ := vdec_rng hb c2
        obtain ⟨p1, hp1⟩ := Int.eq_ofNat_of_zero_le r1
        obtain ⟨p2, hp2⟩ := Int.eq_ofNat_of_zero_le s1
        obtain ⟨ds', hds⟩ : ∃ ds', ds' = if p1 < ds.length ∧ w < 64 then ds.set p1 (((ds.getD p1 0).toNat ||| (p2 * 2 ^ w % 18446744073709551616) : Nat) : Int) else ds := ⟨_, rfl⟩
        have hl' : ds'.length = N := by rw [hds]; split <;> simp [h2]
        have hr' : ∀ x ∈ ds', 0 ≤ x ∧ x < 18446744073709551616 := by
          have := pat_range w [(p1, p2)] ds h3
          simp only [pat] at this
          rw [hds]; exact this
        obtain ⟨dd, g⟩ := ih (c + 1) (vdec b (vdec b at_).2.1).2.1 ds' (by omega) hl' hr'
        refine ⟨dd, Ev.succ ?_⟩
        simp only [laminaref08_exceptions.l0]
        refine Ev.pos (by omega) ?_
        refine Ev.bind (rdec_ev b hb (by omega) at_) ?_
        refine Ev.pos c1 ?_
        refine Ev.bind (rdec_ev b hb (by omega) _) ?_
        refine Ev.pos c2 ?_
        have eR : (if (rdp b (r + 1) at_).2.2 ≠ 0 then ((0 : Int), (rdp b (r + 1) at_).2.2, dd) else ((rdp b (r + 1) at_).2.1, 0, pat w ds (rdp b (r + 1) at_).1)) =
            (if (rdp b r (vdec b (vdec b at_).2.1).2.1).2.2 ≠ 0 then ((0 : Int), (rdp b r (vdec b (vdec b at_).2.1).2.1).2.2, dd) else ((rdp b r (vdec b (vdec b at_).2.1).2.1).2.1, 0, pat w ds' (rdp b r (vdec b (vdec b at_).2.1).2.1).1)) := by
          simp only [rdp]
          rw [if_neg (show ¬ (vdec b at_).2.2 ≠ 0 by omega), if_neg (show ¬ (vdec b (vdec b at_).2.1).2.2 ≠ 0 by omega)]
          by_cases c3 : (rdp b r (vdec b (vdec b at_).2.1).2.1).2.2 = 0
          · simp only [c3, ne_eq, not_true_eq_false, if_false, pat, hp1, hp2, Int.toNat_natCast, hds]
          · simp [c3]
        rw [eR]
        rw [hp1, hp2, w64_add1 c (by omega)]
        by_cases q1 : p1 < ds.length
        · refine Ev.pos (by rw [wraps_u64 (ds.length : Int) (by omega) (by omega)]; omega) ?_
          by_cases q2 : w < 64
          · have gr := getD_range h3 q1
            obtain ⟨x, hx⟩ := Int.eq_ofNat_of_zero_le gr.1
            have hds2 : ds' = ds.set p1 ((x ||| (p2 * 2 ^ w % 18446744073709551616) : Nat) : Int) := by rw [hds, if_pos ⟨q1, q2⟩, hx, Int.toNat_natCast]
            rw [hds2] at g ⊢
            refine Ev.pos (by omega) ?_
            rw [w64n p1 (by omega)]
            refine Ev.pos (by omega) ?_
            refine Ev.pos (by omega) ?_
            rw [wraps_u64 (w : Int) (by omega) (by omega)]
            refine Ev.pos (by omega) ?_
            rw [Int.toNat_natCast, rd_nat, hx, or_pat x p2 w (by omega) q2]
            exact g
          · have hds2 : ds' = ds := by rw [hds, if_neg (fun h => q2 h.2)]
            rw [hds2] at g ⊢
            refine Ev.neg (by omega) ?_
            exact g
        · have hds2 : ds' = ds := by rw [hds, if_neg (fun h => q1 h.1)]
          rw [hds2] at g ⊢
          refine Ev.neg (by rw [wraps_u64 (ds.length : Int) (by omega) (by omega)]; omega) ?_
          exact g
      · refine ⟨ds, Ev.succ ?_⟩
        simp only [laminaref08_exceptions.l0]
        refine Ev.pos (by omega) ?_
        refine Ev.bind (rdec_ev b hb (by omega) at_) ?_
        refine Ev.pos c1 ?_
        refine Ev.bind (rdec_ev b hb (by omega) _) ?_
        refine Ev.neg c2 ?_
        refine Ev.eq (Ev.now _) ?_
        simp only [rdp]
        rw [if_neg (show ¬ (vdec b at_).2.2 ≠ 0 by omega), if_pos c2]
        simp [c2]
    · refine ⟨ds, Ev.succ ?_⟩
      simp only [laminaref08_exceptions.l0]
      refine Ev.pos (by omega) ?_
      refine Ev.bind (rdec_ev b hb (by omega) at_) ?_
      refine Ev.neg c1 ?_
      refine Ev.eq (Ev.now _) ?_
      simp only [rdp]
      rw [if_pos c1]
      simp [c1]
theorem rfd_l2 (b : List Int) (O L : Nat) (at_ : Int) (out q : List Int) (hL : q.length = L) (hb : O + L ≤ b.length) (hl : b.length ≤ 100000000) : ∀ (d i : Nat), i + d = L →
    Ev (fun k => laminaref08_Decode.l2 k b (O : Int) at_ out q (i : Int)) (if q.drop i = (seg b O L).drop i then (out, at_, 0) else ([], 0, 4)) := by
  have hs : (seg b O L).length = L := by unfold seg; rw [List.length_take, List.length_drop]; omega
  intro d
  induction d with
  | zero =>
    intro i hi
    refine Ev.succ ?_
    simp only [laminaref08_Decode.l2]
    refine Ev.neg (by omega) ?_
    rw [if_pos (by rw [List.drop_of_length_le (by omega), List.drop_of_length_le (by omega)])]
    exact Ev.now _
  | succ d ih =>
    intro i hi
    refine Ev.succ ?_
    simp only [laminaref08_Decode.l2]
    refine Ev.pos (by omega) ?_
    refine Ev.pos (by omega) ?_
    rw [w64 ((O : Int) + (i : Int)) (by omega) (by omega), show (O : Int) + (i : Int) = ((O + i : Nat) : Int) by omega]
    refine Ev.pos (by omega) ?_
    refine Ev.pos (by omega) ?_
    have g : b.getD (O + i) 0 = (seg b O L).getD i 0 := by
      unfold seg
      rw [List.getD_eq_getElem?_getD, List.getD_eq_getElem?_getD, List.getElem?_take, if_pos (by omega), List.getElem?_drop]
    rw [rd_nat, rd_nat, g, w64_add1 i (by omega)]
    have dq := drop_getD q i (by omega)
    have ds := drop_getD (seg b O L) i (by omega)
    by_cases c : q.getD i 0 = (seg b O L).getD i 0
    · refine Ev.pos c ?_
      refine Ev.eq (ih (i + 1) (by omega)) ?_
      rw [dq, ds, c]
      by_cases c2 : q.drop (i + 1) = (seg b O L).drop (i + 1)
      · rw [if_pos c2, if_pos (by rw [c2])]
      · rw [if_neg c2, if_neg (fun h => c2 (List.cons.inj h).2)]
    · refine Ev.neg c ?_
      rw [dq, ds, if_neg (fun h => c (List.cons.inj h).1)]
      exact Ev.now _
theorem rfd_l1 (b : List Int) (hl : b.length ≤ 100000000) (O z N : Nat) (at_ : Int) (hN : N ≤ 60000) (h1 : (O : Int) ≤ at_) (h2 : at_ ≤ (b.length : Int)) (ds : List Int) (hd : ds.length = N) :
    ∀ (d i : Nat), i + d = N → Ev (fun k => laminaref08_Decode.l1 k b (O : Int) (N : Int) ds at_ (IntKind.u64.wrap (unzig (z : Int))) ((outs z ds).take i) (i : Int)) (fin2 b O (outs z ds) at_) := by
  intro d
  induction d with
  | zero =>
    intro i hi
    refine Ev.succ ?_
    simp only [laminaref08_Decode.l1]
    refine Ev.neg (by omega) ?_
    rw [List.take_of_length_le (by rw [outs_len]; omega)]
    have hol := fenc_len (by rw [outs_len]; omega : (outs z ds).length ≤ 65536) (outs_range z ds)
    rw [outs_len] at hol
    refine Ev.bind (rfenc_ev (outs z ds) (by rw [outs_len]; omega) (outs_range z ds)) ?_
    rw [w64 (at_ - (O : Int)) (by omega) (by omega)]
    have hsl : (seg b O (at_.toNat - O)).length = at_.toNat - O := by unfold seg; rw [List.length_take, List.length_drop]; omega
    unfold fin2
    by_cases c : ((fenc (outs z ds)).length : Int) = at_ - (O : Int)
    · refine Ev.pos c ?_
      have := rfd_l2 b O (at_.toNat - O) at_ (outs z ds) (fenc (outs z ds)) (by omega) (by omega) hl (at_.toNat - O) 0 (by omega)
      simp only [List.drop_zero] at this
      exact this
    · refine Ev.neg c ?_
      rw [if_neg (fun h => c (by rw [h, hsl]; omega))]
      exact Ev.now _
  | succ d ih =>
    intro i hi
    refine Ev.succ ?_
    simp only [laminaref08_Decode.l1]
    refine Ev.pos (by omega) ?_
    refine Ev.pos (by omega) ?_
    refine Ev.pos (by omega) ?_
    refine Ev.pos (by rw [List.length_take, outs_len]; omega) ?_
    rw [rd_nat, i64_out, ← outs_get z ds i (by omega), take_snoc (outs z ds) i (by rw [outs_len]; omega), w64_add1 i (by omega)]
    exact ih (i + 1) (by omega)
theorem rfd_l0 (b : List Int) (hb : ∀ x ∈ b, 0 ≤ x ∧ x < 256) (hl : b.length ≤ 100000000) (O z N a w K : Nat) (hN : N ≤ 60000) (hw : w ≤ 64) (hK : K ≤ N) (hz : z < 18446744073709551616) (hO : O ≤ a) (ha : a + pbytes N w ≤ b.length) :
    ∀ (d i : Nat), i + d = N → Ev (fun k => laminaref08_Decode.l0 k b (O : Int) (N : Int) (z : Int) (a : Int) (w : Int) (K : Int) ((pbytes N w : Nat) : Int) ((unpackN w (le (seg b a (pbytes N w))) N).take i) (i : Int))
      (cmb err3 (fun ps t => fin2 b O (outs z (pat w (unpackN w (le (seg b a (pbytes N w))) N) ps)) t) [] (rdp b K ((a + pbytes N w : Nat) : Int))) := by
  have hsl : (seg b a (pbytes N w)).length = pbytes N w := by unfold seg; rw [List.length_take, List.length_drop]; omega
  have hun := unpackN_len w N (le (seg b a (pbytes N w)))
  intro d
  induction d with
  | zero =>
    intro i hi
    refine Ev.succ ?_
    simp only [laminaref08_Decode.l0]
    refine Ev.neg (by omega) ?_
    rw [List.take_of_length_le (by omega), w64 ((a : Int) + ((pbytes N w : Nat) : Int)) (by omega) (by omega), show (a : Int) + ((pbytes N w : Nat) : Int) = ((a + pbytes N w : Nat) : Int) by omega, w64n K (by omega), w64n w (by omega)]
    obtain ⟨dd, g⟩ := rexc_l0 b hb hl K N w (by omega) (by omega) hw K 0 ((a + pbytes N w : Nat) : Int) (unpackN w (le (seg b a (pbytes N w))) N) (by omega) hun (unpackN_range w hw N _)
    have hlo := rdp_lo hb K ((a + pbytes N w : Nat) : Int) (by omega)
    refine Ev.bind (a := (if (rdp b K ((a + pbytes N w : Nat) : Int)).2.2 ≠ 0 then (0, (rdp b K ((a + pbytes N w : Nat) : Int)).2.2, dd) else ((rdp b K ((a + pbytes N w : Nat) : Int)).2.1, 0, pat w (unpackN w (le (seg b a (pbytes N w))) N) (rdp b K ((a + pbytes N w : Nat) : Int)).1))) ?_ ?_
    · unfold laminaref08_exceptions.f; exact g
    · unfold cmb
      by_cases c : (rdp b K ((a + pbytes N w : Nat) : Int)).2.2 = 0
      · rw [if_neg (show ¬ (rdp b K ((a + pbytes N w : Nat) : Int)).2.2 ≠ 0 by omega), if_neg (show ¬ (rdp b K ((a + pbytes N w : Nat) : Int)).2.2 ≠ 0 by omega)]
        refine Ev.pos rfl ?_
        refine Ev.bind0 (runzig_f _ (by omega) (by omega)) ?_
        have := hlo c
        exact rfd_l1 b hl O z N _ hN (by omega) (by omega) (pat w (unpackN w (le (seg b a (pbytes N w))) N) (rdp b K ((a + pbytes N w : Nat) : Int)).1) (by rw [pat_length, hun]) N 0 (by omega)
      · rw [if_pos c, if_pos c]
        refine Ev.neg c ?_
        exact Ev.now _
  | succ d ih =>
    intro i hi
    refine Ev.succ ?_
    simp only [laminaref08_Decode.l0]
    refine Ev.pos (by omega) ?_
    refine Ev.pos (by omega) ?_
    rw [w64 ((a : Int) + ((pbytes N w : Nat) : Int)) (by omega) (by omega)]
    refine Ev.pos (by omega) ?_
    refine Ev.pos (by omega) ?_
    have e1 : (b.take ((a : Int) + ((pbytes N w : Nat) : Int)).toNat).drop (a : Int).toNat = seg b a (pbytes N w) := by
      rw [← seg_take b a (pbytes N w), Int.toNat_natCast, show ((a : Int) + ((pbytes N w : Nat) : Int)).toNat = a + pbytes N w by omega]
    rw [e1, w64n w (by omega)]
    refine Ev.bind (rat_ev (seg b a (pbytes N w)) (seg_bytes hb _ _) (by omega) (i : Int) (w : Int)) ?_
    refine Ev.pos (by rw [List.length_take]; omega) ?_
    rw [atP_unpack _ N w i hw (by omega) hsl, take_snoc _ i (by omega), w64_add1 i (by omega)]
    exact ih (i + 1) (by omega)
theorem rfd_ev (b : List Int) (hb : ∀ x ∈ b, 0 ≤ x ∧ x < 256) (hl : b.length ≤ 100000000) (o n : Int) (hn : n ≤ 60000 ∨ 65536 < n) : Ev (fun k => laminaref08_Decode.f k b o n) (fdec b o n) := by
  have bad : (o < 0 ∨ o > b.length ∨ n < 0 ∨ n > 65536) → Ev (fun k => laminaref08_Decode.j0 k b o n true) (fdec b o n) := by
    intro h
    refine Ev.succ ?_
    simp only [laminaref08_Decode.j0]
    refine Ev.pos (by simp) ?_
    refine Ev.eq (Ev.now _) ?_
    unfold fdec; rw [if_pos h]
  unfold laminaref08_Decode.f
  by_cases h1 : o < 0
  · refine Ev.pos h1 ?_; exact bad (.inl h1)
  refine Ev.neg h1 ?_
  by_cases h2 : o > b.length
  · refine Ev.pos h2 ?_; exact bad (.inr (.inl h2))
  refine Ev.neg h2 ?_
  by_cases h3 : n < 0
  · refine Ev.pos h3 ?_; exact bad (.inr (.inr (.inl h3)))
  refine Ev.neg h3 ?_
  by_cases h4 : n > 65536
  · rw [decide_eq_true h4]; exact bad (.inr (.inr (.inr h4)))
  rw [decide_eq_false h4]
  obtain ⟨N, rfl⟩ := Int.eq_ofNat_of_zero_le (show 0 ≤ n by omega)
  obtain ⟨O, rfl⟩ := Int.eq_ofNat_of_zero_le (show 0 ≤ o by omega)
  refine Ev.succ ?_
  simp only [laminaref08_Decode.j0]
  refine Ev.neg (by decide) ?_
  unfold fdec
  rw [if_neg (by omega)]
  simp only [Int.toNat_natCast]
  refine Ev.bind (rdec_ev b hb (by omega) (O : Int)) ?_
  by_cases c1 : (vdec b (O : Int)).2.2 = 0
  · obtain ⟨r1, r2, r3, r4⟩ := vdec_rng hb c1
    have r5 := vdec_mono hb c1
    refine Ev.pos c1 ?_
    refine Ev.bind (rdec_ev b hb (by omega) _) ?_
    by_cases c2 : (vdec b (vdec b (O : Int)).2.1).2.2 = 0
    · obtain ⟨s1, s2, s3, s4⟩ := vdec_rng hb c2
      have s5 := vdec_mono hb c2
      refine Ev.pos c2 ?_
      by_cases c3 : (vdec b (vdec b (O : Int)).2.1).1 > 64
      · have hh : hdr b (O : Int) N = (0, 0, 0, 0, 4) := by
          unfold hdr; dsimp only; rw [if_neg (show ¬ (vdec b (O : Int)).2.2 ≠ 0 by omega), if_neg (show ¬ (vdec b (vdec b (O : Int)).2.1).2.2 ≠ 0 by omega), if_pos c3]
        rw [hh]
        refine Ev.pos c3 ?_
        exact Ev.eq (Ev.now _) (by simp)
      · refine Ev.neg c3 ?_
        refine Ev.bind (rdec_ev b hb (by omega) _) ?_
        by_cases c4 : (vdec b (vdec b (vdec b (O : Int)).2.1).2.1).2.2 = 0
        · obtain ⟨q1, q2, q3, q4⟩ := vdec_rng hb c4
          have q5 := vdec_mono hb c4
          refine Ev.pos c4 ?_
          rw [wraps_u64 (N : Int) (by omega) (by omega)]
          by_cases c5 : (vdec b (vdec b (vdec b (O : Int)).2.1).2.1).1 > (N : Int)
          · have hh : hdr b (O : Int) N = (0, 0, 0, 0, 4) := by
              unfold hdr; dsimp only; rw [if_neg (show ¬ (vdec b (O : Int)).2.2 ≠ 0 by omega), if_neg (show ¬ (vdec b (vdec b (O : Int)).2.1).2.2 ≠ 0 by omega), if_neg c3, if_neg (show ¬ (vdec b (vdec b (vdec b (O : Int)).2.1).2.1).2.2 ≠ 0 by omega), if_pos c5]
            rw [hh]
            refine Ev.pos c5 ?_
            exact Ev.eq (Ev.now _) (by simp)
          · refine Ev.neg c5 ?_
            have hh : hdr b (O : Int) N = ((vdec b (O : Int)).1.toNat, (vdec b (vdec b (O : Int)).2.1).1.toNat, (vdec b (vdec b (vdec b (O : Int)).2.1).2.1).1.toNat, (vdec b (vdec b (vdec b (O : Int)).2.1).2.1).2.1, 0) := by
              unfold hdr; dsimp only; rw [if_neg (show ¬ (vdec b (O : Int)).2.2 ≠ 0 by omega), if_neg (show ¬ (vdec b (vdec b (O : Int)).2.1).2.2 ≠ 0 by omega), if_neg c3, if_neg (show ¬ (vdec b (vdec b (vdec b (O : Int)).2.1).2.1).2.2 ≠ 0 by omega), if_neg c5]
            rw [hh]
            obtain ⟨z, hz⟩ := Int.eq_ofNat_of_zero_le r1
            obtain ⟨w, hw⟩ := Int.eq_ofNat_of_zero_le s1
            obtain ⟨K, hK⟩ := Int.eq_ofNat_of_zero_le q1
            obtain ⟨a, ha⟩ := Int.eq_ofNat_of_zero_le q3
            have hOa : O ≤ a := by omega
            rw [hz, hw, hK, ha]
            rw [hz] at r2; rw [hw] at c3; rw [hK] at c5; rw [ha] at q4
            clear hh hz hw hK ha q5 q2 s2 s3 s4 s5 r1 r3 r4 r5 s1 q1 q3 c4 c2 c1
            simp only [Int.toNat_natCast]
            rw [if_neg (show ¬ (0 : Int) ≠ 0 by decide), w64n w (by omega)]
            have hin : inr (N : Int) (w : Int) = true := inr_iff.2 ⟨by omega, by omega, by omega, by omega⟩
            refine Ev.bind0 (rsz (N : Int) (w : Int)) ?_
            rw [psz_nat N w hin, w64 ((b.length : Int) - (a : Int)) (by omega) (by omega)]
            by_cases c6 : b.length < a + pbytes N w
            · refine Ev.pos (by omega) ?_
              rw [if_pos c6]
              exact Ev.now _
            · refine Ev.neg (by omega) ?_
              rw [if_neg c6]
              have g := rfd_l0 b hb hl O z N a w K (by omega) (by omega) (by omega) (by omega) hOa (by omega) N 0 (by omega)
              rw [List.take_zero] at g
              refine Ev.eq g ?_
              unfold cmb err3 fin2
              simp only [List.nil_append]
        · have hh : hdr b (O : Int) N = (0, 0, 0, 0, (vdec b (vdec b (vdec b (O : Int)).2.1).2.1).2.2) := by
            unfold hdr; dsimp only; rw [if_neg (show ¬ (vdec b (O : Int)).2.2 ≠ 0 by omega), if_neg (show ¬ (vdec b (vdec b (O : Int)).2.1).2.2 ≠ 0 by omega), if_neg c3, if_pos c4]
          rw [hh]
          refine Ev.neg c4 ?_
          dsimp only
          rw [if_pos c4]
          exact Ev.now _
    · have hh : hdr b (O : Int) N = (0, 0, 0, 0, (vdec b (vdec b (O : Int)).2.1).2.2) := by
        unfold hdr; dsimp only; rw [if_neg (show ¬ (vdec b (O : Int)).2.2 ≠ 0 by omega), if_pos c2]
      rw [hh]
      refine Ev.neg c2 ?_
      dsimp only
      rw [if_pos c2]
      exact Ev.now _
  · have hh : hdr b (O : Int) N = (0, 0, 0, 0, (vdec b (O : Int)).2.2) := by
      unfold hdr; dsimp only; rw [if_pos c1]
    rw [hh]
    refine Ev.neg c1 ?_
    dsimp only
    rw [if_pos c1]
    exact Ev.now _

/-! ### delta: the program's functions -/
theorem w64_i (x : Int) : wrap64 x = i64of x := by unfold wrap64 i64of; omega
theorem diffs_get : ∀ (l : List Int) (i : Nat), i + 1 < l.length → (diffs l).getD i 0 = i64of (l.getD (i + 1) 0 - l.getD i 0) := by
  intro l
  induction l with
  | nil => intro i h; simp at h
  | cons x r ih =>
    intro i h
    cases r with
    | nil => simp at h
    | cons y s =>
      cases i with
      | zero => simp [diffs]
      | succ i =>
        have := ih i (by simpa using h)
        simp only [diffs, List.getD_cons_succ] at this ⊢
        exact this
theorem idiffs_l0 (l : List Int) (hl : l.length ≤ 100000) (m : Nat) (hm : m + 1 = l.length) : ∀ (d i : Nat), i + d = m → Ev (fun k => delta_Differences.l0 k l ((diffs l).take i ++ List.replicate (m - i) 0) (m : Int) (i : Int)) (diffs l) := by
  have hd := diffs_len l
  intro d
  induction d with
  | zero =>
    intro i hi
    refine Ev.succ ?_
    simp only [delta_Differences.l0]
    refine Ev.neg (by omega) ?_
    refine Ev.eq (Ev.now _) ?_
    rw [show m - i = 0 by omega, List.replicate_zero, List.append_nil, List.take_of_length_le (by omega)]
  | succ d ih =>
    intro i hi
    refine Ev.succ ?_
    simp only [delta_Differences.l0]
    refine Ev.pos (by omega) ?_
    rw [w64_add1 i (by omega)]
    refine Ev.pos (by omega) ?_
    refine Ev.pos (by omega) ?_
    refine Ev.pos (by omega) ?_
    refine Ev.pos (by omega) ?_
    refine Ev.pos (by simp; omega) ?_
    rw [rd_nat, rd_nat, w64_i, ← diffs_get l i (by omega), Int.toNat_natCast, set_fill (diffs l) i (by omega) m (by omega)]
    exact ih (i + 1) (by omega)
theorem idiffs_ev (l : List Int) (hl : l.length ≤ 100000) : Ev (fun k => delta_Differences.f k l) (diffs l) := by
  unfold delta_Differences.f
  by_cases h : (l.length : Int) < 2
  · refine Ev.pos h ?_
    refine Ev.eq (Ev.now _) ?_
    match l, h with
    | [], _ => rfl
    | [_], _ => rfl
    | x :: y :: r, h => simp at h; omega
  · refine Ev.neg h ?_
    obtain ⟨m, hm⟩ : ∃ m : Nat, m + 1 = l.length := ⟨l.length - 1, by omega⟩
    rw [show (wrap64 ((l.length : Int) - 1)) = (m : Int) by rw [w64 _ (by omega) (by omega)]; omega]
    refine Ev.pos (by omega) ?_
    refine Ev.pos (by omega) ?_
    rw [Int.toNat_natCast]
    simp only [Option.bind_some, List.length_replicate]
    have := idiffs_l0 l hl m hm m 0 (by omega)
    rw [List.take_zero, List.nil_append, Nat.sub_zero] at this
    exact this
theorem I64_bd {x : Int} (h : I64 x) : -9223372036854775808 ≤ x ∧ x < 9223372036854775808 := h
theorem diffs_bd (l : List Int) : ∀ x ∈ diffs l, -9223372036854775808 ≤ x ∧ x < 9223372036854775808 := fun x hx => diffs_range l x hx
theorem ienc1 (a : Int) (x y : List Int) (hx : ∀ v ∈ x, -9223372036854775808 ≤ v ∧ v < 9223372036854775808) (hxl : x.length ≤ 1000) (hy : ∀ v ∈ y, -9223372036854775808 ≤ v ∧ v < 9223372036854775808) (hyl : y.length ≤ 65536) : delta_Encode_1.f a x y = some (a :: (lds x ++ fenc y)) := by
  unfold delta_Encode_1.f; rw [if_pos ⟨okI_of hx, hxl, okI_of hy, hyl⟩]
theorem take1 {l : List Int} (h : 0 < l.length) : l.take 1 = [rd l 0] := by
  cases l with
  | nil => simp at h
  | cons x r => simp [rd]
theorem idenc_ev (l : List Int) (hI : ∀ x ∈ l, -9223372036854775808 ≤ x ∧ x < 9223372036854775808) (hl : l.length ≤ 65536) : Ev (fun k => delta_Encode.f k l) (denc l) := by
  have hd := diffs_len l
  have hd2 := diffs_len (diffs l)
  unfold delta_Encode.f
  refine Ev.neg (by omega) ?_
  refine Ev.bind (idiffs_ev l (by omega)) ?_
  have e1 : l.take ((mn 1 (l.length : Int)) : Int).toNat = l.take 1 := by
    cases l with
    | nil => rfl
    | cons x r =>
      have : (mn 1 (((x :: r).length : Nat) : Int)).toNat = 1 := by simp only [mn, List.length_cons]; split <;> omega
      rw [this]
  have e0 : 0 ≤ mn 1 (l.length : Int) ∧ mn 1 (l.length : Int) ≤ (l.length : Int) := by unfold mn; split <;> omega
  refine Ev.pos e0.1 ?_
  refine Ev.pos e0.2 ?_
  rw [e1]
  have f1 : delta_Encode_1.f 1 (l.take 1) (diffs l) = some (form1 l) :=
    ienc1 1 (l.take 1) (diffs l) (fun v hv => hI v (List.mem_of_mem_take hv)) (by rw [List.length_take]; omega) (diffs_bd l) (by omega)
  refine Ev.bind0 f1 ?_
  unfold denc
  by_cases h : l.length < 2
  · rw [if_pos h]
    refine Ev.pos (by omega) ?_
    exact Ev.now _
  · rw [if_neg h]
    refine Ev.neg (by omega) ?_
    refine Ev.pos (by omega) ?_
    refine Ev.pos (by omega) ?_
    refine Ev.bind (idiffs_ev (diffs l) (by omega)) ?_
    have f2 : delta_Encode_1.f 2 [rd l 0, rd (diffs l) 0] (diffs (diffs l)) = some (form2 l) := by
      have t1 := take1 (l := l) (by omega)
      have t2 := take1 (l := diffs l) (by omega)
      have e2 : [rd l 0, rd (diffs l) 0] = l.take 1 ++ (diffs l).take 1 := by rw [t1, t2]; rfl
      rw [e2]
      refine ienc1 2 _ (diffs (diffs l)) (fun v hv => ?_) (by rw [List.length_append, List.length_take, List.length_take]; omega) (diffs_bd _) (by omega)
      rcases List.mem_append.1 hv with hv | hv
      · exact hI v (List.mem_of_mem_take hv)
      · exact diffs_bd l v (List.mem_of_mem_take hv)
    refine Ev.bind0 f2 ?_
    by_cases c : (form2 l).length < (form1 l).length
    · rw [if_pos c]
      refine Ev.pos (by omega) ?_
      exact Ev.now _
    · rw [if_neg c]
      refine Ev.neg (by omega) ?_
      exact Ev.now _
theorem lds_bytes : ∀ (l : List Int), ∀ x ∈ lds l, 0 ≤ x ∧ x < 256 := by
  intro l
  induction l with
  | nil => intro x hx; cases hx
  | cons y l ih =>
    intro x hx
    simp only [lds, List.mem_append] at hx
    rcases hx with hx | hx
    · exact venc_range _ x hx
    · exact ih x hx
theorem denc_bytes (l : List Int) : ∀ x ∈ denc l, 0 ≤ x ∧ x < 256 := by
  have h1 : ∀ x ∈ form1 l, 0 ≤ x ∧ x < 256 := by
    intro x hx
    simp only [form1, List.mem_cons, List.mem_append] at hx
    rcases hx with rfl | hx | hx
    · omega
    · exact lds_bytes _ x hx
    · exact fenc_bytes _ x hx
  have h2 : ∀ x ∈ form2 l, 0 ≤ x ∧ x < 256 := by
    intro x hx
    simp only [form2, List.mem_cons, List.mem_append] at hx
    rcases hx with rfl | hx | hx
    · omega
    · exact lds_bytes _ x hx
    · exact fenc_bytes _ x hx
  intro x hx
  unfold denc at hx
  split at hx
  · exact h1 x hx
  · split at hx
    · exact h2 x hx
    · exact h1 x hx
theorem ldsl : ∀ (a : List Int), (∀ x ∈ a, -9223372036854775808 ≤ x ∧ x < 9223372036854775808) → (lds a).length ≤ 10 * a.length := by
  intro a
  induction a with
  | nil => intro _; exact Nat.le_refl _
  | cons x a ih =>
    intro h
    have h1 := ih (fun y hy => h y (List.mem_cons_of_mem _ hy))
    have h2 := venc_len10 (zn x) (zn_lt (h x List.mem_cons_self))
    simp only [lds, List.length_append, List.length_cons]
    omega
theorem denc_len {l : List Int} (hI : ∀ x ∈ l, -9223372036854775808 ≤ x ∧ x < 9223372036854775808) (hl : l.length ≤ 65536) : (denc l).length ≤ 100 + 28 * l.length := by
  have hd := diffs_len l
  have hd2 := diffs_len (diffs l)
  have a1 := fenc_len (l := diffs l) (by omega) (diffs_bd l)
  have a2 := fenc_len (l := diffs (diffs l)) (by omega) (diffs_bd _)
  have b1 := ldsl (l.take 1) (fun v hv => hI v (List.mem_of_mem_take hv))
  have b2 := ldsl (l.take 1 ++ (diffs l).take 1) (fun v hv => by
    rcases List.mem_append.1 hv with hv | hv
    · exact hI v (List.mem_of_mem_take hv)
    · exact diffs_bd l v (List.mem_of_mem_take hv))
  rw [List.length_take] at b1
  rw [List.length_append, List.length_take, List.length_take] at b2
  unfold denc form1 form2
  split
  · simp only [List.length_cons, List.length_append]; omega
  · split <;> simp only [List.length_cons, List.length_append] <;> omega
/-! ### Equal -/
theorem deq_l0 (l : List Int) (hl : l.length < 9223372036854775807) : ∀ (d i : Nat), i + d = l.length → Ev (fun k => laminaref09_Equal.l0 k l l (i : Int)) true := by
  intro d
  induction d with
  | zero =>
    intro i h
    refine Ev.succ ?_
    simp only [laminaref09_Equal.l0]
    refine Ev.neg (by omega) ?_
    refine Ev.succ ?_
    simp only [laminaref09_Equal.j1]
    exact Ev.neg (by decide) (Ev.now _)
  | succ d ih =>
    intro i h
    refine Ev.succ ?_
    simp only [laminaref09_Equal.l0]
    refine Ev.pos (by omega) ?_
    rw [decide_eq_true (show (i : Int) < (l.length : Int) by omega)]
    refine Ev.succ ?_
    simp only [laminaref09_Equal.j1]
    refine Ev.pos (by simp) ?_
    refine Ev.pos (by omega) ?_
    refine Ev.pos (by omega) ?_
    refine Ev.pos (by omega) ?_
    refine Ev.pos (by simp) ?_
    rw [w64_add1 i (by omega)]
    exact ih (i + 1) (by omega)
theorem deq_ev (l : List Int) (hl : l.length < 9223372036854775807) : Ev (fun k => laminaref09_Equal.f k l l) true := by
  unfold laminaref09_Equal.f
  refine Ev.pos (by simp) ?_
  exact deq_l0 l hl l.length 0 (by omega)
theorem ips (a : Int) (l : List Int) (hl : l.length ≤ 1000000) : delta_PrefixSums.f a l = some (psums a l) := by
  unfold delta_PrefixSums.f; rw [if_pos (by omega)]

/-! ### delta: the reference's functions -/
theorem getD_take (l : List Int) (i j : Nat) (h : i < j) : (l.take j).getD i 0 = l.getD i 0 := by
  rw [List.getD_eq_getElem?_getD, List.getD_eq_getElem?_getD, List.getElem?_take, if_pos h]
theorem rdiffs_l0 (l : List Int) (hl : l.length ≤ 100000) : ∀ (d j : Nat), j + d = l.length - 1 → Ev (fun k => laminaref09_Differences.l0 k l ((diffs l).take j) ((j + 1 : Nat) : Int)) (diffs l) := by
  have hd := diffs_len l
  intro d
  induction d with
  | zero =>
    intro j hj
    refine Ev.succ ?_
    simp only [laminaref09_Differences.l0]
    refine Ev.neg (by omega) ?_
    refine Ev.eq (Ev.now _) ?_
    rw [List.take_of_length_le (by omega)]
  | succ d ih =>
    intro j hj
    refine Ev.succ ?_
    simp only [laminaref09_Differences.l0]
    refine Ev.pos (by omega) ?_
    refine Ev.pos (by omega) ?_
    rw [show wrap64 (((j + 1 : Nat) : Int) - 1) = (j : Int) by rw [w64 _ (by omega) (by omega)]; omega]
    refine Ev.pos (by omega) ?_
    refine Ev.pos (by omega) ?_
    refine Ev.pos (by rw [List.length_take]; omega) ?_
    rw [rd_nat, rd_nat, w64_i, ← diffs_get l j (by omega), take_snoc _ j (by omega), w64_add1 (j + 1) (by omega)]
    exact ih (j + 1) (by omega)
theorem rdiffs_ev (l : List Int) (hl : l.length ≤ 100000) : Ev (fun k => laminaref09_Differences.f k l) (diffs l) := by
  have := rdiffs_l0 l hl (l.length - 1) 0 (by omega)
  rw [List.take_zero] at this
  exact this
theorem psums_get : ∀ (l : List Int) (f : Int) (i : Nat), i < l.length → (psums f l).getD (i + 1) 0 = i64of ((psums f l).getD i 0 + l.getD i 0) := by
  intro l
  induction l with
  | nil => intro f i h; simp at h
  | cons d r ih =>
    intro f i h
    cases i with
    | zero =>
      obtain ⟨q, hq⟩ := psums_cons (i64of (f + d)) r
      simp [psums, hq]
    | succ i =>
      have := ih (i64of (f + d)) i (by simpa using h)
      simp only [psums, List.getD_cons_succ] at this ⊢
      exact this
theorem rpsums_l0 (a : Int) (l : List Int) (hl : l.length ≤ 100000) : ∀ (d i : Nat), i + d = l.length → Ev (fun k => laminaref09_PrefixSums.l0 k l ((psums a l).take (i + 1)) (i : Int)) (psums a l) := by
  have hp := psums_len l a
  intro d
  induction d with
  | zero =>
    intro i hi
    refine Ev.succ ?_
    simp only [laminaref09_PrefixSums.l0]
    refine Ev.neg (by omega) ?_
    refine Ev.eq (Ev.now _) ?_
    rw [List.take_of_length_le (by omega)]
  | succ d ih =>
    intro i hi
    refine Ev.succ ?_
    simp only [laminaref09_PrefixSums.l0]
    refine Ev.pos (by omega) ?_
    refine Ev.pos (by omega) ?_
    refine Ev.pos (by rw [List.length_take]; omega) ?_
    refine Ev.pos (by rw [List.length_take]; omega) ?_
    rw [rd_nat, rd_nat, getD_take _ i (i + 1) (by omega), w64_i, ← psums_get l a i (by omega), take_snoc _ (i + 1) (by omega), w64_add1 i (by omega)]
    exact ih (i + 1) (by omega)
theorem rpsums_ev (a : Int) (l : List Int) (hl : l.length ≤ 100000) : Ev (fun k => laminaref09_PrefixSums.f k a l) (psums a l) := by
  have := rpsums_l0 a l hl l.length 0 (by omega)
  obtain ⟨q, hq⟩ := psums_cons a l
  have e : (psums a l).take (0 + 1) = [a] := by rw [hq]; rfl
  rw [e] at this
  exact this

/-! ### the reference's Encode -/
theorem rform_end (K : Int) (acc rest : List Int) (i : Int) (h : K ≤ i ∨ rest = []) (ha : acc.length ≤ 100) (hl : rest.length ≤ 60000) (hI : ∀ x ∈ rest, -9223372036854775808 ≤ x ∧ x < 9223372036854775808) :
    Ev (fun k => laminaref09_form.l0 k K acc rest i) (acc ++ fenc rest) := by
  have hf := fenc_len (l := rest) (by omega) hI
  have key : Ev (fun k => laminaref09_form.j1 k K acc rest i false) (acc ++ fenc rest) := by
    refine Ev.succ ?_
    simp only [laminaref09_form.j1]
    refine Ev.neg (by decide) ?_
    refine Ev.bind (rfenc_ev rest hl hI) ?_
    refine Ev.pos (by omega) ?_
    exact Ev.now _
  refine Ev.succ ?_
  simp only [laminaref09_form.l0]
  by_cases c : i < K
  · refine Ev.pos c ?_
    have hr : rest = [] := h.resolve_left (by omega)
    rw [decide_eq_false (by rw [hr]; simp)]
    exact key
  · refine Ev.neg c ?_
    exact key
theorem rform_step (K : Int) (acc : List Int) (x : Int) (r : List Int) (i : Nat) (h : (i : Int) < K) (hi : i ≤ 10) (ha : acc.length ≤ 80) (hl : r.length ≤ 60000) (hx : -9223372036854775808 ≤ x ∧ x < 9223372036854775808) (R : List Int)
    (hR : Ev (fun k => laminaref09_form.l0 k K (acc ++ venc (zn x)) (diffs (x :: r)) ((i + 1 : Nat) : Int)) R) : Ev (fun k => laminaref09_form.l0 k K acc (x :: r) (i : Int)) R := by
  have hv := venc_len10 (zn x) (zn_lt hx)
  have hz := zig_range x hx.1 hx.2
  refine Ev.succ ?_
  simp only [laminaref09_form.l0]
  refine Ev.pos h ?_
  have hpos : (0 : Int) < (((x :: r).length : Nat) : Int) := by rw [List.length_cons]; omega
  rw [decide_eq_true (show (((x :: r).length : Nat) : Int) > 0 from hpos)]
  refine Ev.succ ?_
  simp only [laminaref09_form.j1]
  refine Ev.pos (by simp) ?_
  refine Ev.pos hpos ?_
  have e0 : rd (x :: r) 0 = x := by simp [rd]
  rw [e0]
  refine Ev.bind0 (rzig_f x hx.1 hx.2) ?_
  have e1 := renc_ev (zn x) (zn_lt hx)
  unfold zn at e1
  rw [Int.toNat_of_nonneg hz.1] at e1
  refine Ev.bind e1 ?_
  have hv2 : (venc (zig x).toNat).length ≤ 10 := hv
  refine Ev.pos (by omega) ?_
  refine Ev.bind (rdiffs_ev (x :: r) (by simp only [List.length_cons]; omega)) ?_
  rw [w64_add1 i (by omega)]
  exact hR
theorem rform1 (l : List Int) (hI : ∀ x ∈ l, -9223372036854775808 ≤ x ∧ x < 9223372036854775808) (hl : l.length ≤ 60000) : Ev (fun k => laminaref09_form.f k l 1) (form1 l) := by
  unfold laminaref09_form.f form1
  cases l with
  | nil => exact rform_end 1 [1] [] 0 (.inr rfl) (by simp) (by simp) (fun x hx => by cases hx)
  | cons x r =>
    have hd := diffs_len (x :: r)
    have hx := hI x List.mem_cons_self
    have hv := venc_len10 (zn x) (zn_lt hx)
    simp only [List.length_cons] at hl hd
    refine rform_step 1 [1] x r 0 (by decide) (by decide) (by simp) (by omega) hx _ ?_
    have g := rform_end 1 ([1] ++ venc (zn x)) (diffs (x :: r)) ((0 + 1 : Nat) : Int) (.inl (by decide)) (by simp; omega) (by omega) (diffs_bd _)
    refine Ev.eq g ?_
    simp [lds]
theorem rform2 (l : List Int) (hI : ∀ x ∈ l, -9223372036854775808 ≤ x ∧ x < 9223372036854775808) (hl : l.length ≤ 60000) (h2 : 2 ≤ l.length) : Ev (fun k => laminaref09_form.f k l 2) (form2 l) := by
  unfold laminaref09_form.f form2
  cases l with
  | nil => simp at h2
  | cons x r =>
    have hd := diffs_len (x :: r)
    have hd2 := diffs_len (diffs (x :: r))
    have hx := hI x List.mem_cons_self
    have hv := venc_len10 (zn x) (zn_lt hx)
    simp only [List.length_cons] at hl hd h2
    refine rform_step 2 [2] x r 0 (by decide) (by decide) (by simp) (by omega) hx _ ?_
    obtain ⟨ds, hds⟩ : ∃ ds, ds = diffs (x :: r) := ⟨_, rfl⟩
    have hdb := diffs_bd (x :: r)
    rw [← hds] at hd hd2 hdb ⊢
    cases ds with
    | nil => simp at hd; omega
    | cons y s =>
      have hy := hdb y List.mem_cons_self
      have hw := venc_len10 (zn y) (zn_lt hy)
      simp only [List.length_cons] at hd hd2
      refine rform_step 2 ([2] ++ venc (zn x)) y s 1 (by decide) (by decide) (by simp; omega) (by omega) hy _ ?_
      have g := rform_end 2 ([2] ++ venc (zn x) ++ venc (zn y)) (diffs (y :: s)) ((1 + 1 : Nat) : Int) (.inl (by decide)) (by simp; omega) (by omega) (diffs_bd _)
      refine Ev.eq g ?_
      simp [lds]
theorem rdenc_ev (l : List Int) (hI : ∀ x ∈ l, -9223372036854775808 ≤ x ∧ x < 9223372036854775808) (hl : l.length ≤ 60000) : Ev (fun k => laminaref09_Encode.f k l) (denc l) := by
  unfold laminaref09_Encode.f denc
  refine Ev.neg (by omega) ?_
  refine Ev.bind (rform1 l hI hl) ?_
  by_cases h : l.length < 2
  · rw [if_pos h]
    refine Ev.pos (by omega) ?_
    exact Ev.now _
  · rw [if_neg h]
    refine Ev.neg (by omega) ?_
    refine Ev.bind (rform2 l hI hl (by omega)) ?_
    by_cases c : (form2 l).length < (form1 l).length
    · rw [if_pos c]
      refine Ev.pos (by omega) ?_
      exact Ev.now _
    · rw [if_neg c]
      refine Ev.neg (by omega) ?_
      exact Ev.now _

/-! ### delta.Decode -/
theorem rdp_lo0 {b : List Int} (hb : ∀ x ∈ b, 0 ≤ x ∧ x < 256) : ∀ (k : Nat) (t : Int), t ≤ (b.length : Int) → (rdp b k t).2.2 = 0 → t ≤ (rdp b k t).2.1 ∧ (rdp b k t).2.1 ≤ (b.length : Int) := by
  intro k
  induction k with
  | zero => intro t ht _; exact ⟨Int.le_refl _, ht⟩
  | succ k ih =>
    intro t ht h
    simp only [rdp] at h ⊢
    by_cases c1 : (vdec b t).2.2 = 0
    · have m1 := vdec_mono hb c1
      have m2 := vdec_rng hb c1
      rw [if_neg (show ¬ (vdec b t).2.2 ≠ 0 by omega)] at h ⊢
      by_cases c2 : (vdec b (vdec b t).2.1).2.2 = 0
      · have m3 := vdec_mono hb c2
        have m4 := vdec_rng hb c2
        rw [if_neg (show ¬ (vdec b (vdec b t).2.1).2.2 ≠ 0 by omega)] at h ⊢
        by_cases c3 : (rdp b k (vdec b (vdec b t).2.1).2.1).2.2 = 0
        · rw [if_neg (show ¬ (rdp b k (vdec b (vdec b t).2.1).2.1).2.2 ≠ 0 by omega)]
          have := ih _ m4.2.2.2 c3
          simp only
          omega
        · rw [if_pos c3] at h; simp at h; omega
      · rw [if_pos c2] at h; simp at h; omega
    · rw [if_pos c1] at h; simp at h; omega
theorem fdec_end {b : List Int} (hb : ∀ x ∈ b, 0 ≤ x ∧ x < 256) {o n : Int} (h : (fdec b o n).2.2 = 0) : o ≤ (fdec b o n).2.1 ∧ (fdec b o n).2.1 ≤ (b.length : Int) := by
  unfold fdec at h ⊢
  by_cases c0 : o < 0 ∨ o > b.length ∨ n < 0 ∨ n > 65536
  · rw [if_pos c0] at h; simp at h
  rw [if_neg c0] at h ⊢
  dsimp only at h ⊢
  by_cases c1 : (hdr b o n.toNat).2.2.2.2 = 0
  · have hr := hdr_rng hb c1
    rw [if_neg (show ¬ (hdr b o n.toNat).2.2.2.2 ≠ 0 by omega)] at h ⊢
    by_cases c2 : b.length < (hdr b o n.toNat).2.2.2.1.toNat + pbytes n.toNat (hdr b o n.toNat).2.1
    · rw [if_pos c2] at h; simp at h
    rw [if_neg c2] at h ⊢
    by_cases c3 : (rdp b (hdr b o n.toNat).2.2.1 (((hdr b o n.toNat).2.2.2.1.toNat + pbytes n.toNat (hdr b o n.toNat).2.1 : Nat) : Int)).2.2 = 0
    · have hl := rdp_lo0 hb _ _ (by omega) c3
      rw [if_neg (show ¬ (rdp b (hdr b o n.toNat).2.2.1 (((hdr b o n.toNat).2.2.2.1.toNat + pbytes n.toNat (hdr b o n.toNat).2.1 : Nat) : Int)).2.2 ≠ 0 by omega)] at h ⊢
      split
      · simp only; omega
      · rename_i c4; rw [if_neg c4] at h; simp at h
    · rw [if_pos c3] at h; exact absurd h c3
  · rw [if_pos c1] at h; simp at h; omega
theorem rdl_lo {b : List Int} (hb : ∀ x ∈ b, 0 ≤ x ∧ x < 256) : ∀ (k : Nat) (t : Int), t ≤ (b.length : Int) → (rdl b k t).2.2 = 0 → t ≤ (rdl b k t).2.1 ∧ (rdl b k t).2.1 ≤ (b.length : Int) := by
  intro k
  induction k with
  | zero => intro t ht _; exact ⟨Int.le_refl _, ht⟩
  | succ k ih =>
    intro t ht h
    simp only [rdl] at h ⊢
    by_cases c1 : (vdec b t).2.2 = 0
    · have m1 := vdec_mono hb c1
      have m2 := vdec_rng hb c1
      rw [if_neg (show ¬ (vdec b t).2.2 ≠ 0 by omega)] at h ⊢
      by_cases c3 : (rdl b k (vdec b t).2.1).2.2 = 0
      · rw [if_neg (show ¬ (rdl b k (vdec b t).2.1).2.2 ≠ 0 by omega)]
        have := ih _ m2.2.2.2 c3
        simp only
        omega
      · rw [if_pos c3] at h; simp at h; omega
    · rw [if_pos c1] at h; simp at h; omega
/-- What stands behind the leading numbers. -/
def dfin (b : List Int) (o n : Int) (q : List Int) (t : Int) : List Int × Int × Int :=
  if (fdec b t (n - q.length)).2.2 ≠ 0 then ([], 0, (fdec b t (n - q.length)).2.2) else
  if denc (bld q (fdec b t (n - q.length)).1) = seg b o.toNat ((fdec b t (n - q.length)).2.1.toNat - o.toNat) then (bld q (fdec b t (n - q.length)).1, (fdec b t (n - q.length)).2.1, 0) else ([], 0, 4)
def cml (F : List Int → Int → List Int × Int × Int) (acc : List Int) (r : List Int × Int × Int) : List Int × Int × Int := if r.2.2 ≠ 0 then ([], 0, r.2.2) else F (acc ++ r.1) r.2.1
theorem cml_step (F : List Int → Int → List Int × Int × Int) (acc : List Int) (b : List Int) (d : Nat) (t : Int) (c1 : (vdec b t).2.2 = 0) :
    cml F acc (rdl b (d + 1) t) = cml F (acc ++ [unzig (vdec b t).1]) (rdl b d (vdec b t).2.1) := by
  simp only [rdl, cml]
  rw [if_neg (show ¬ (vdec b t).2.2 ≠ 0 by omega)]
  by_cases c3 : (rdl b d (vdec b t).2.1).2.2 = 0
  · simp [c3]
  · rw [if_pos c3]; simp [c3]
theorem cml_bad (F : List Int → Int → List Int × Int × Int) (acc : List Int) (b : List Int) (d : Nat) (t : Int) (c1 : ¬ (vdec b t).2.2 = 0) : cml F acc (rdl b (d + 1) t) = ([], 0, (vdec b t).2.2) := by
  simp only [rdl, cml]
  rw [if_pos c1]; simp [c1]
theorem ddec_eq {b : List Int} {o n k : Int} (h0 : ¬ (n < 0 ∨ n > 65536 ∨ o < 0)) (h1 : ¬ (b.length : Int) ≤ o) (hk : b.getD o.toNat 0 = k) (h2 : k = 1 ∨ k = 2 ∧ 2 ≤ n) :
    ddec b o n = cml (dfin b o n) [] (rdl b (min k.toNat n.toNat) (o + 1)) := by
  unfold ddec
  rw [if_neg h0, if_neg h1]
  simp only [hk]
  rw [if_neg (by omega)]
  unfold cml dfin
  simp only [List.nil_append]
/-! ### the program's Decode -/
theorem idd_l1 (b : List Int) (hb : ∀ x ∈ b, 0 ≤ x ∧ x < 256) (o e : Int) (q : List Int) (hq : q.length ≤ 2) (out0 : List Int) (h0 : 0 ≤ o) (h1 : o ≤ e) (h2 : e ≤ (b.length : Int)) (hl : (bld q out0).length ≤ 65536) (hI : ∀ x ∈ bld q out0, -9223372036854775808 ≤ x ∧ x < 9223372036854775808) :
    ∀ (j : Nat), j ≤ q.length → Ev (fun k => delta_Decode.l1 k b o e q (bld (q.drop j) out0) ((j : Int) - 1)) (if denc (bld q out0) = seg b o.toNat (e.toNat - o.toNat) then (bld q out0, e, 0) else ([], 0, 4)) := by
  have hlen : ∀ j, (bld (q.drop j) out0).length ≤ 65538 := by
    intro j
    have a1 := (bld_ok (q.drop j) out0).1
    have a2 := (bld_ok q out0).1
    rw [List.length_drop] at a1
    omega
  intro j
  induction j with
  | zero =>
    intro _
    refine Ev.succ ?_
    simp only [delta_Decode.l1]
    refine Ev.neg (by omega) ?_
    rw [List.drop_zero]
    refine Ev.bind (idenc_ev _ hI hl) ?_
    refine Ev.pos h0 ?_
    refine Ev.pos h1 ?_
    refine Ev.pos h2 ?_
    have e2 : (b.take e.toNat).drop o.toNat = seg b o.toNat (e.toNat - o.toNat) := by
      rw [← seg_take b o.toNat (e.toNat - o.toNat), show o.toNat + (e.toNat - o.toNat) = e.toNat by omega]
    rw [e2]
    by_cases c : denc (bld q out0) = seg b o.toNat (e.toNat - o.toNat)
    · rw [if_pos c]
      have hq : bytes_Equal.f (denc (bld q out0)) (seg b o.toNat (e.toNat - o.toNat)) = some true := by unfold bytes_Equal.f; rw [c]; simp
      refine Ev.bind0 hq ?_
      refine Ev.pos rfl ?_
      exact Ev.now _
    · rw [if_neg c]
      have hq : bytes_Equal.f (denc (bld q out0)) (seg b o.toNat (e.toNat - o.toNat)) = some false := by
        unfold bytes_Equal.f
        rw [beq_eq_false_iff_ne.2 (fun h => c (strs_inj (denc_bytes _) (seg_bytes hb _ _) h))]
      refine Ev.bind0 hq ?_
      refine Ev.neg (by decide) ?_
      exact Ev.now _
  | succ j ih =>
    intro hj
    refine Ev.succ ?_
    simp only [delta_Decode.l1]
    refine Ev.pos (by omega) ?_
    refine Ev.pos (by omega) ?_
    refine Ev.pos (by omega) ?_
    rw [show (((j + 1 : Nat) : Int) - 1) = (j : Int) by omega]
    refine Ev.bind0 (ips (rd q (j : Int)) (bld (q.drop (j + 1)) out0) (by have := hlen (j + 1); omega)) ?_
    have eb : psums (rd q (j : Int)) (bld (q.drop (j + 1)) out0) = bld (q.drop j) out0 := by
      rw [List.drop_eq_getElem_cons (show j < q.length by omega)]
      simp only [bld]
      rw [rd_nat, List.getD_eq_getElem?_getD, List.getElem?_eq_getElem (show j < q.length by omega)]
      rfl
    rw [eb, w64 ((j : Int) - 1) (by omega) (by omega)]
    exact ih (by omega)
theorem idd_l0 (b : List Int) (hb : ∀ x ∈ b, 0 ≤ x ∧ x < 256) (hl : b.length ≤ 100000000) (o n : Int) (h0 : 0 ≤ o) (hn0 : 0 ≤ n) (hn : n ≤ 65536) (K : Nat) (hK : K ≤ 2) (hKn : (K : Int) ≤ n) :
    ∀ (d : Nat) (t : Int) (acc : List Int), acc.length + d = K → o < t → t ≤ (b.length : Int) → (∀ x ∈ acc, I64 x) →
      Ev (fun k => delta_Decode.l0 k b o n t acc (K : Int) (acc.length : Int)) (cml (dfin b o n) acc (rdl b d t)) := by
  intro d
  induction d with
  | zero =>
    intro t acc h1 h2 h3 h4
    refine Ev.succ ?_
    simp only [delta_Decode.l0]
    refine Ev.neg (by omega) ?_
    rw [w64 (n - (acc.length : Int)) (by omega) (by omega)]
    refine Ev.bind (frd_ev b hb hl t (n - (acc.length : Int))) ?_
    have e0 : cml (dfin b o n) acc (rdl b 0 t) = dfin b o n acc t := by simp [cml, rdl]
    rw [e0]
    unfold dfin
    by_cases c : (fdec b t (n - (acc.length : Int))).2.2 = 0
    · rw [if_neg (show ¬ (fdec b t (n - (acc.length : Int))).2.2 ≠ 0 by omega)]
      refine Ev.pos c ?_
      obtain ⟨x, y, e, hx⟩ : ∃ x y e, fdec b t (n - (acc.length : Int)) = (x, y, e) := ⟨_, _, _, rfl⟩
      have hend := fdec_end hb c
      rw [hx] at c hend ⊢
      simp only at c hend ⊢
      subst c
      obtain ⟨g1, g2⟩ := fdec_ok hx
      have g3 := bld_ok acc x
      rw [w64 ((acc.length : Int) - 1) (by omega) (by omega)]
      have := idd_l1 b hb o y acc (by omega) x h0 (by omega) hend.2 (by rw [g3.1]; omega) (g3.2 h4 g2) acc.length (Nat.le_refl _)
      rw [List.drop_length] at this
      exact this
    · rw [if_pos c]
      refine Ev.neg c ?_
      exact Ev.now _
  | succ d ih =>
    intro t acc h1 h2 h3 h4
    refine Ev.succ ?_
    simp only [delta_Decode.l0]
    refine Ev.pos (by omega) ?_
    refine Ev.bind (dec_ev b hb (by omega) t) ?_
    by_cases c1 : (vdec b t).2.2 = 0
    · obtain ⟨r1, r2, r3, r4⟩ := vdec_rng hb c1
      have r5 := vdec_mono hb c1
      refine Ev.pos c1 ?_
      refine Ev.bind0 (unzig_f _ r1 r2) ?_
      refine Ev.pos (by omega) ?_
      rw [cml_step _ acc b d t c1]
      have g := ih (vdec b t).2.1 (acc ++ [unzig (vdec b t).1]) (by simp; omega) (by omega) r4 (fun x hx => by
        rcases List.mem_append.1 hx with hx | hx
        · exact h4 x hx
        · rw [List.mem_singleton.1 hx]; exact unzig_I64 r1 r2)
      have e2 : (((acc ++ [unzig (vdec b t).1]).length : Nat) : Int) = wrap64 ((acc.length : Int) + 1) := by
        rw [w64 _ (by omega) (by omega)]; simp
      rw [e2] at g
      exact g
    · refine Ev.neg c1 ?_
      rw [cml_bad _ acc b d t c1]
      exact Ev.now _
theorem idd_ev (b : List Int) (hb : ∀ x ∈ b, 0 ≤ x ∧ x < 256) (hl : b.length ≤ 100000000) (o n : Int) : Ev (fun k => delta_Decode.f k b o n) (ddec b o n) := by
  have bad : (n < 0 ∨ n > 65536 ∨ o < 0) → Ev (fun k => delta_Decode.j0 k b o n true) (ddec b o n) := by
    intro h
    refine Ev.succ ?_
    simp only [delta_Decode.j0]
    refine Ev.pos (by simp) ?_
    refine Ev.eq (Ev.now _) ?_
    unfold ddec; rw [if_pos h]
  unfold delta_Decode.f
  by_cases h1 : n < 0
  · refine Ev.pos h1 ?_; exact bad (.inl h1)
  refine Ev.neg h1 ?_
  by_cases h2 : n > 65536
  · refine Ev.pos h2 ?_; exact bad (.inr (.inl h2))
  refine Ev.neg h2 ?_
  by_cases h3 : o < 0
  · rw [decide_eq_true h3]; exact bad (.inr (.inr h3))
  rw [decide_eq_false h3]
  refine Ev.succ ?_
  simp only [delta_Decode.j0]
  refine Ev.neg (by decide) ?_
  by_cases h4 : (b.length : Int) ≤ o
  · refine Ev.pos h4 ?_
    refine Ev.eq (Ev.now _) ?_
    unfold ddec; rw [if_neg (by omega), if_pos h4]
  refine Ev.neg (by omega) ?_
  refine Ev.pos (by omega) ?_
  refine Ev.pos (by omega) ?_
  obtain ⟨O, rfl⟩ := Int.eq_ofNat_of_zero_le (show 0 ≤ o by omega)
  have hk := getD_range hb (i := O) (by omega)
  obtain ⟨kk, hkk⟩ : ∃ kk, kk = b.getD O 0 := ⟨_, rfl⟩
  rw [rd_nat, ← hkk, w64 kk (by omega) (by omega)]
  have go : (kk = 1 ∨ kk = 2 ∧ 2 ≤ n) → Ev (fun k => delta_Decode.j1 k b (O : Int) n kk false) (ddec b (O : Int) n) := by
    intro hc
    rw [ddec_eq (k := kk) (by omega) (by omega) (by rw [Int.toNat_natCast, ← hkk]) hc]
    refine Ev.succ ?_
    simp only [delta_Decode.j1]
    refine Ev.neg (by decide) ?_
    rw [w64 ((O : Int) + 1) (by omega) (by omega)]
    have em : mn kk n = ((min kk.toNat n.toNat : Nat) : Int) := by unfold mn; split <;> omega
    rw [em]
    exact idd_l0 b hb hl (O : Int) n (by omega) (by omega) (by omega) (min kk.toNat n.toNat) (by omega) (by omega) (min kk.toNat n.toNat) ((O : Int) + 1) [] (by simp) (by omega) (by omega) (fun x hx => by cases hx)
  have no : ¬ (kk = 1 ∨ kk = 2 ∧ 2 ≤ n) → Ev (fun k => delta_Decode.j1 k b (O : Int) n kk true) (ddec b (O : Int) n) := by
    intro hc
    refine Ev.succ ?_
    simp only [delta_Decode.j1]
    refine Ev.pos (by simp) ?_
    refine Ev.eq (Ev.now _) ?_
    unfold ddec
    rw [if_neg (by omega), if_neg (by omega)]
    simp only [Int.toNat_natCast, ← hkk]
    rw [if_pos (by omega)]
  by_cases c1 : kk = 1
  · refine Ev.pos c1 ?_; exact go (.inl c1)
  refine Ev.neg c1 ?_
  by_cases c2 : kk = 2
  · refine Ev.pos c2 ?_
    by_cases c3 : n < 2
    · rw [decide_eq_true c3]; exact no (by omega)
    · rw [decide_eq_false c3]; exact go (.inr ⟨c2, by omega⟩)
  · refine Ev.neg c2 ?_
    exact no (by omega)

/-! ### the reference's Decode -/
theorem rheads_l0 (b : List Int) (hb : ∀ x ∈ b, 0 ≤ x ∧ x < 256) (hl : b.length ≤ 100000000) (K : Nat) (hK : K ≤ 2) :
    ∀ (d : Nat) (t : Int) (acc : List Int), acc.length + d = K → Ev (fun k => laminaref09_heads.l0 k b t (K : Int) acc (acc.length : Int)) (cml (fun q t => (q, t, 0)) acc (rdl b d t)) := by
  intro d
  induction d with
  | zero =>
    intro t acc h1
    refine Ev.succ ?_
    simp only [laminaref09_heads.l0]
    refine Ev.neg (by omega) ?_
    refine Ev.eq (Ev.now _) ?_
    simp [cml, rdl]
  | succ d ih =>
    intro t acc h1
    refine Ev.succ ?_
    simp only [laminaref09_heads.l0]
    refine Ev.pos (by omega) ?_
    refine Ev.bind (rdec_ev b hb (by omega) t) ?_
    by_cases c1 : (vdec b t).2.2 = 0
    · obtain ⟨r1, r2, r3, r4⟩ := vdec_rng hb c1
      refine Ev.pos c1 ?_
      refine Ev.bind0 (runzig_f _ r1 r2) ?_
      refine Ev.pos (by omega) ?_
      rw [cml_step _ acc b d t c1]
      have g := ih (vdec b t).2.1 (acc ++ [unzig (vdec b t).1]) (by simp; omega)
      have e2 : (((acc ++ [unzig (vdec b t).1]).length : Nat) : Int) = wrap64 ((acc.length : Int) + 1) := by
        rw [w64 _ (by omega) (by omega)]; simp
      rw [e2] at g
      exact g
    · refine Ev.neg c1 ?_
      rw [cml_bad _ acc b d t c1]
      exact Ev.now _
theorem rdd_l0 (b : List Int) (hb : ∀ x ∈ b, 0 ≤ x ∧ x < 256) (o e : Int) (q : List Int) (hq : q.length ≤ 2) (out0 : List Int) (h0 : 0 ≤ o) (h1 : o ≤ e) (h2 : e ≤ (b.length : Int)) (hl : (bld q out0).length ≤ 60000) (hI : ∀ x ∈ bld q out0, -9223372036854775808 ≤ x ∧ x < 9223372036854775808) :
    ∀ (j : Nat), j ≤ q.length → Ev (fun k => laminaref09_Decode.l0 k b o q e (bld (q.drop j) out0) ((j : Int) - 1)) (if denc (bld q out0) = seg b o.toNat (e.toNat - o.toNat) then (bld q out0, e, 0) else ([], 0, 4)) := by
  have hlen : ∀ j, (bld (q.drop j) out0).length ≤ 60002 := by
    intro j
    have a1 := (bld_ok (q.drop j) out0).1
    have a2 := (bld_ok q out0).1
    rw [List.length_drop] at a1
    omega
  intro j
  induction j with
  | zero =>
    intro _
    refine Ev.succ ?_
    simp only [laminaref09_Decode.l0]
    refine Ev.neg (by omega) ?_
    rw [List.drop_zero]
    refine Ev.bind (rdenc_ev _ hI hl) ?_
    refine Ev.pos h0 ?_
    refine Ev.pos h1 ?_
    refine Ev.pos h2 ?_
    have e2 : (b.take e.toNat).drop o.toNat = seg b o.toNat (e.toNat - o.toNat) := by
      rw [← seg_take b o.toNat (e.toNat - o.toNat), show o.toNat + (e.toNat - o.toNat) = e.toNat by omega]
    rw [e2]
    by_cases c : denc (bld q out0) = seg b o.toNat (e.toNat - o.toNat)
    · rw [if_pos c]
      refine Ev.pos (by rw [c]) ?_
      exact Ev.now _
    · rw [if_neg c]
      refine Ev.neg (fun h => c (strs_inj (denc_bytes _) (seg_bytes hb _ _) h)) ?_
      exact Ev.now _
  | succ j ih =>
    intro hj
    refine Ev.succ ?_
    simp only [laminaref09_Decode.l0]
    refine Ev.pos (by omega) ?_
    refine Ev.pos (by omega) ?_
    refine Ev.pos (by omega) ?_
    rw [show (((j + 1 : Nat) : Int) - 1) = (j : Int) by omega]
    refine Ev.bind (rpsums_ev (rd q (j : Int)) (bld (q.drop (j + 1)) out0) (by have := hlen (j + 1); omega)) ?_
    have eb : psums (rd q (j : Int)) (bld (q.drop (j + 1)) out0) = bld (q.drop j) out0 := by
      rw [List.drop_eq_getElem_cons (show j < q.length by omega)]
      simp only [bld]
      rw [rd_nat, List.getD_eq_getElem?_getD, List.getElem?_eq_getElem (show j < q.length by omega)]
      rfl
    rw [eb, w64 ((j : Int) - 1) (by omega) (by omega)]
    exact ih (by omega)
theorem rdd_ev (b : List Int) (hb : ∀ x ∈ b, 0 ≤ x ∧ x < 256) (hl : b.length ≤ 100000000) (o n : Int) (hnn : n ≤ 50000 ∨ 65536 < n) : Ev (fun k => laminaref09_Decode.f k b o n) (ddec b o n) := by
  have bad : (n < 0 ∨ n > 65536 ∨ o < 0) → Ev (fun k => laminaref09_Decode.j0 k b o n true) (ddec b o n) := by
    intro h
    refine Ev.succ ?_
    simp only [laminaref09_Decode.j0]
    refine Ev.pos (by simp) ?_
    refine Ev.eq (Ev.now _) ?_
    unfold ddec; rw [if_pos h]
  unfold laminaref09_Decode.f
  by_cases h1 : n < 0
  · refine Ev.pos h1 ?_; exact bad (.inl h1)
  refine Ev.neg h1 ?_
  by_cases h2 : n > 65536
  · refine Ev.pos h2 ?_; exact bad (.inr (.inl h2))
  refine Ev.neg h2 ?_
  by_cases h3 : o < 0
  · rw [decide_eq_true h3]; exact bad (.inr (.inr h3))
  rw [decide_eq_false h3]
  refine Ev.succ ?_
  simp only [laminaref09_Decode.j0]
  refine Ev.neg (by decide) ?_
  by_cases h4 : (b.length : Int) ≤ o
  · refine Ev.pos h4 ?_
    refine Ev.eq (Ev.now _) ?_
    unfold ddec; rw [if_neg (by omega), if_pos h4]
  refine Ev.neg (by omega) ?_
  refine Ev.pos (by omega) ?_
  refine Ev.pos (by omega) ?_
  obtain ⟨O, rfl⟩ := Int.eq_ofNat_of_zero_le (show 0 ≤ o by omega)
  have hk := getD_range hb (i := O) (by omega)
  obtain ⟨kk, hkk⟩ : ∃ kk, kk = b.getD O 0 := ⟨_, rfl⟩
  rw [rd_nat, ← hkk, w64 kk (by omega) (by omega)]
  have go : (kk = 1 ∨ kk = 2 ∧ 2 ≤ n) → Ev (fun k => laminaref09_Decode.j1 k b (O : Int) n kk false) (ddec b (O : Int) n) := by
    intro hc
    rw [ddec_eq (k := kk) (by omega) (by omega) (by rw [Int.toNat_natCast, ← hkk]) hc]
    refine Ev.succ ?_
    simp only [laminaref09_Decode.j1]
    refine Ev.neg (by decide) ?_
    rw [w64 ((O : Int) + 1) (by omega) (by omega)]
    obtain ⟨K, hKe⟩ : ∃ K : Nat, K = min kk.toNat n.toNat := ⟨_, rfl⟩
    have em : mn kk n = (K : Int) := by unfold mn; split <;> omega
    rw [em, ← hKe]
    have hh := rheads_l0 b hb hl K (by omega) K ((O : Int) + 1) [] (by simp)
    refine Ev.bind (a := cml (fun q t => (q, t, 0)) [] (rdl b K ((O : Int) + 1))) (by unfold laminaref09_heads.f; exact hh) ?_
    have hlo := rdl_lo hb K ((O : Int) + 1) (by omega)
    obtain ⟨q, t, e, hx⟩ : ∃ q t e, rdl b K ((O : Int) + 1) = (q, t, e) := ⟨_, _, _, rfl⟩
    rw [hx] at hlo ⊢
    unfold cml
    simp only at hlo ⊢
    by_cases c : e = 0
    · subst c
      have hqr := rdl_range hb K ((O : Int) + 1) q t hx
      have hql := rdl_len K ((O : Int) + 1) q t hx
      have hlo2 := hlo rfl
      rw [if_neg (show ¬ (0 : Int) ≠ 0 by decide), if_neg (show ¬ (0 : Int) ≠ 0 by decide)]
      refine Ev.pos rfl ?_
      simp only [List.nil_append]
      have emx : mx (wrap64 (n - kk)) 0 = n - (q.length : Int) := by
        rw [w64 (n - kk) (by omega) (by omega)]
        unfold mx; split <;> omega
      rw [emx]
      refine Ev.bind (rfd_ev b hb hl t (n - (q.length : Int)) (by omega)) ?_
      unfold dfin
      by_cases c5 : (fdec b t (n - (q.length : Int))).2.2 = 0
      · rw [if_neg (show ¬ (fdec b t (n - (q.length : Int))).2.2 ≠ 0 by omega)]
        refine Ev.pos c5 ?_
        obtain ⟨x, y, e5, hx5⟩ : ∃ x y e, fdec b t (n - (q.length : Int)) = (x, y, e) := ⟨_, _, _, rfl⟩
        have hend := fdec_end hb c5
        rw [hx5] at c5 hend ⊢
        simp only at c5 hend ⊢
        subst c5
        obtain ⟨g1, g2⟩ := fdec_ok hx5
        have g3 := bld_ok q x
        rw [w64 ((q.length : Int) - 1) (by omega) (by omega)]
        have := rdd_l0 b hb (O : Int) y q (by omega) x (by omega) (by omega) hend.2 (by rw [g3.1]; omega) (g3.2 hqr g2) q.length (Nat.le_refl _)
        rw [List.drop_length] at this
        exact this
      · rw [if_pos c5]
        refine Ev.neg c5 ?_
        exact Ev.now _
    · rw [if_pos c, if_pos c]
      refine Ev.neg c ?_
      exact Ev.now _
  have no : ¬ (kk = 1 ∨ kk = 2 ∧ 2 ≤ n) → Ev (fun k => laminaref09_Decode.j1 k b (O : Int) n kk true) (ddec b (O : Int) n) := by
    intro hc
    refine Ev.succ ?_
    simp only [laminaref09_Decode.j1]
    refine Ev.pos (by simp) ?_
    refine Ev.eq (Ev.now _) ?_
    unfold ddec
    rw [if_neg (by omega), if_neg (by omega)]
    simp only [Int.toNat_natCast, ← hkk]
    rw [if_pos (by omega)]
  by_cases c1 : kk = 1
  · refine Ev.pos c1 ?_; exact go (.inl c1)
  refine Ev.neg c1 ?_
  by_cases c2 : kk = 2
  · refine Ev.pos c2 ?_
    by_cases c3 : n < 2
    · rw [decide_eq_true c3]; exact no (by omega)
    · rw [decide_eq_false c3]; exact go (.inr ⟨c2, by omega⟩)
  · refine Ev.neg c2 ?_
    exact no (by omega)
theorem ddec_len (b : List Int) (hb : ∀ x ∈ b, 0 ≤ x ∧ x < 256) (o n : Int) : (ddec b o n).1.length ≤ 65536 := by
  obtain ⟨x, y, e, h⟩ : ∃ x y e, ddec b o n = (x, y, e) := ⟨_, _, _, rfl⟩
  by_cases c : e = 0
  · subst c
    have := ddec_ok hb h
    rw [h]; simp only; omega
  · have hz : ∀ r, ddec b o n = r → r.2.2 ≠ 0 → r.1 = [] := by
      intro r hr hc
      subst hr
      unfold ddec at hc ⊢
      by_cases c1 : n < 0 ∨ n > 65536 ∨ o < 0
      · rw [if_pos c1]
      rw [if_neg c1] at hc ⊢
      by_cases c2 : (b.length : Int) ≤ o
      · rw [if_pos c2]
      rw [if_neg c2] at hc ⊢
      dsimp only at hc ⊢
      split
      · rfl
      · split
        · rfl
        · split
          · rfl
          · split
            · rename_i a1 a2 a3 a4
              rw [if_neg a1, if_neg a2, if_neg a3, if_pos a4] at hc
              exact absurd rfl hc
            · rfl
    have := hz _ h c
    simp only at this
    rw [h, this]; simp

theorem lives_ev : Ev (fun k => laminalaw09_lives.f k) true := Ev.of laminalaw09_lives.mono (k := 100) (by decide +kernel)

theorem DeltaDecode : laminalaw09_DeltaDecode.Pure := by
  intro b o n _ _ hwb ho hn
  have hb := wf_u8s hwb
  have lv : Ev (fun k => (laminalaw09_lives.f k).bind fun t => some t) true := Ev.bind lives_ev (Ev.now _)
  refine Ev.rounds (g := fun k => laminalaw09_DeltaDecode.f k b o n) ?_
  have bad : Ev (fun k => laminalaw09_DeltaDecode.j0 k b o n true) true := by
    refine Ev.succ ?_
    simp only [laminalaw09_DeltaDecode.j0]
    refine Ev.pos (by simp) ?_
    exact lv
  have main : b.length ≤ 1000 → (n ≤ 300 ∨ 65536 < n) → Ev (fun k => laminalaw09_DeltaDecode.j0 k b o n false) true := by
    intro h1 h2
    refine Ev.succ ?_
    simp only [laminalaw09_DeltaDecode.j0]
    refine Ev.neg (by decide) ?_
    refine Ev.bind (idd_ev b hb (by omega) o n) ?_
    refine Ev.bind (rdd_ev b hb (by omega) o n (by omega)) ?_
    refine Ev.bind (deq_ev _ ?_) ?_
    · have := ddec_len b hb o n
      omega
    refine Ev.pos rfl ?_
    refine Ev.pos rfl ?_
    refine Ev.pos rfl ?_
    exact lv
  unfold laminalaw09_DeltaDecode.f
  by_cases h1 : (b.length : Int) > 1000
  · refine Ev.pos h1 ?_; exact bad
  refine Ev.neg h1 ?_
  by_cases h2 : n > 300
  · refine Ev.pos h2 ?_
    by_cases h3 : n ≤ 65536
    · rw [decide_eq_true h3]; exact bad
    · rw [decide_eq_false h3]; exact main (by omega) (by omega)
  · refine Ev.neg h2 ?_
    exact main (by omega) (by omega)

end Go.Proofs.Ytllhbjkkoogeeaa.Pure
