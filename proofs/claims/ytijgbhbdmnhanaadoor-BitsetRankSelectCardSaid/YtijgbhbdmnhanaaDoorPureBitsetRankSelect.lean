/- laminalaw03.BitsetRankSelect returns true for all its arguments (Rank and Select are inverse on the elements), the table of math/bits tied to the program's text. Conditions: none beyond the row's own (slices of at most 2^47 - 4096 bytes). -/
import Derived.Test.YtijgbhbdmnhanaaDoorStBitsetRankSelect
import Derived.Test.YtijgbhbdmnhanaaDoorM01
import Derived.Test.YtijgbhbdmnhanaaDoorM02
import Derived.Test.YtijgbhbdmnhanaaDoorM03
import Derived.Test.YtijgbhbdmnhanaaDoorM08
import Derived.Test.YtijgbhbdmnhanaaDoorM11
import Derived.Test.YtijgbhbdmnhanaaDoorM12
import Derived.Test.YtijgbhbdmnhanaaDoorM13
import Derived.Test.YtijgbhbdmnhanaaDoorM16
import Derived.Test.YtijgbhbdmnhanaaDoorM17
set_option linter.unusedVariables false
set_option linter.unusedSimpArgs false
namespace Go.Proofs.YtijgbhbdmnhanaaDoor.Pure
open Go Go.RowKit Go.Proofs.YtijgbhbdmnhanaaDoor.QBitsetRankSelect Go.Proofs.YtijgbhbdmnhanaaDoorW.PrintWords Go.Proofs.YtijgbhbdmnhanaaDoorW.PrintLast Go.Proofs.YtijgbhbdmnhanaaDoorM

/-! ### the reference's bitset functions -/
theorem tdiv64 (i : Nat) (h : i < 9223372036854775808) : wrap64 (Int.tdiv (i : Int) 64) = ((i / 64 : Nat) : Int) := by
  rw [Int.tdiv_eq_ediv_of_nonneg (by omega), w64 _ (by omega) (by omega)]; omega
theorem tmod64 (i : Nat) : Int.tmod (i : Int) 64 = ((i % 64 : Nat) : Int) := by
  rw [Int.tmod_eq_emod_of_nonneg (by omega)]; omega
theorem utmod64 (i : Nat) : IntKind.u64.wrap (Int.tmod (i : Int) 64) = ((i % 64 : Nat) : Int) := by
  rw [tmod64]; exact wraps_u64 _ (by omega) (by omega)
theorem pow_cast0 (t : Nat) : ((2 ^ t : Nat) : Int) = 2 ^ t := by simp
theorem shl1 (r : Nat) (hr : r < 64) : shl .u64 1 (r : Int) = ((2 ^ r : Nat) : Int) := by
  have h := pow_lt64 r hr
  have h3 : ∀ p : Nat, p < 2 ^ 64 → IntKind.u64.wrap (p : Int) = (p : Int) := fun p hp => wraps_u64 _ (by omega) (by omega)
  unfold shl
  rw [show min ((r : Int).toNat) IntKind.u64.bits = r by simp [IntKind.bits]; omega, Int.one_mul, ← pow_cast0]
  exact h3 _ h
theorem bit_one (y : Int) (h0 : 0 ≤ y) (h1 : y < 18446744073709551616) (r : Nat) (hr : r < 64) : (Go.bits .and .u64 (shr .u64 y (r : Int)) 1 == 1) = y.toNat.testBit r := by
  obtain ⟨m, rfl⟩ := Int.eq_ofNat_of_zero_le h0
  unfold shr
  rw [show min ((r : Int).toNat) IntKind.u64.bits = r by simp [IntKind.bits]; omega, ← pow_cast0, ← Int.natCast_ediv, Int.toNat_natCast, Nat.testBit_eq_decide_div_mod_eq]
  have hqm := Nat.div_le_self m (2 ^ r)
  generalize m / 2 ^ r = q at hqm ⊢
  rw [and_one _ (by omega) (by omega)]
  by_cases hq : q % 2 = 1
  · rw [decide_eq_true hq]; simp; omega
  · rw [decide_eq_false hq]; simp; omega
theorem or_shl (ws : List Int) (hw : wok ws) (i : Nat) : Go.bits .or .u64 (ws.getD (i / 64) 0) (shl .u64 1 (((i % 64 : Nat)) : Int)) = (((ws.getD (i / 64) 0).toNat ||| 2 ^ (i % 64) : Nat) : Int) := by
  have h := wok_get hw (i / 64)
  rw [shl1 _ (Nat.mod_lt _ (by decide))]
  obtain ⟨m, hm⟩ := Int.eq_ofNat_of_zero_le h.1
  rw [hm] at h ⊢
  rw [Int.toNat_natCast]
  exact or_nat m _ (by omega) (pow_lt64 _ (Nat.mod_lt _ (by decide)))

/-! ### valid sets -/
def vset (a : Int) (ws : List Int) : Prop := 0 ≤ a ∧ a ≤ 1048576 ∧ ws.length = wc a.toNat ∧ ∀ j, a.toNat ≤ j → gb ws j = false
theorem last_word {ws : List Int} (hw : wok ws) {n : Nat} (hl : ws.length = wc n) (hn : n % 64 ≠ 0) :
    ((ws.getD (n / 64) 0).toNat / 2 ^ (n % 64) = 0) ↔ ∀ j, n ≤ j → gb ws j = false := by
  have hlt : n / 64 < ws.length := by rw [hl]; unfold wc; omega
  have hp := Nat.two_pow_pos (n % 64)
  constructor
  · intro h j hj
    by_cases hq : j / 64 = n / 64
    · unfold gb
      rw [hq]
      have h1 : (ws.getD (n / 64) 0).toNat < 2 ^ (n % 64) := by
        rcases Nat.div_eq_zero_iff.1 h with h2 | h2
        · omega
        · exact h2
      exact Nat.testBit_lt_two_pow (Nat.lt_of_lt_of_le h1 (Nat.pow_le_pow_right (by decide) (by omega)))
    · exact gb_out (by rw [hl]; unfold wc; omega)
  · intro h
    refine Nat.div_eq_of_lt (Nat.lt_pow_two_of_testBit _ (fun i hi => ?_))
    by_cases h64 : i < 64
    · have := h (64 * (n / 64) + i) (by omega)
      unfold gb at this
      rw [show (64 * (n / 64) + i) / 64 = n / 64 by omega, show (64 * (n / 64) + i) % 64 = i by omega] at this
      exact this
    · have h2 := wok_get hw (n / 64)
      have hp2 : 2 ^ 64 ≤ 2 ^ i := Nat.pow_le_pow_right (by decide) (by omega)
      exact Nat.testBit_lt_two_pow (by omega)
theorem vset_iff {n : Nat} {ws : List Int} : vset (n : Int) ws ↔ n ≤ 1048576 ∧ ws.length = wc n ∧ ∀ j, n ≤ j → gb ws j = false := by
  unfold vset
  rw [Int.toNat_natCast]
  constructor
  · rintro ⟨_, h2, h3, h4⟩; exact ⟨by omega, h3, h4⟩
  · rintro ⟨h2, h3, h4⟩; exact ⟨by omega, by omega, h3, h4⟩
theorem vset_wof (n : Nat) (f : Nat → Bool) (hn : n ≤ 1048576) : vset (n : Int) (wof n f) :=
  vset_iff.2 ⟨hn, wof_length n f, fun j hj => by rw [gb_wof, decide_eq_false (by omega), Bool.false_and]⟩
theorem vset_eq {n : Nat} {ws : List Int} (hw : wok ws) (h : vset (n : Int) ws) : ws = wof n (gb ws) := by
  obtain ⟨_, h2, h3⟩ := vset_iff.1 h
  refine wof_eq h2 hw (fun i => ?_)
  by_cases hi : i < n
  · rw [decide_eq_true hi, Bool.true_and]
  · rw [decide_eq_false hi, Bool.false_and, h3 i (by omega)]
theorem r03val (a : Int) (ws : List Int) (hw : wok ws) (hl : ws.length ≤ 9223372036854775807) : ∃ b, laminaref03_Valid.f a ws = some b ∧ (b = true ↔ vset a ws) := by
  unfold laminaref03_Valid.f
  by_cases h1 : a < 0
  · exact ⟨false, by rw [if_pos h1], by simp [vset]; omega⟩
  by_cases h2 : a > 1048576
  · exact ⟨false, by rw [if_neg h1, if_pos h2], by simp [vset]; omega⟩
  obtain ⟨n, rfl⟩ := Int.eq_ofNat_of_zero_le (show 0 ≤ a by omega)
  rw [if_neg h1, if_neg h2, w64 ((n : Int) + 63) (by omega) (by omega), show (n : Int) + 63 = ((n + 63 : Nat) : Int) by omega, tdiv64 _ (by omega), tmod64]
  have hwc : (n + 63) / 64 = wc n := rfl
  by_cases h3 : ws.length = wc n
  · rw [if_pos (by omega)]
    by_cases h4 : n % 64 = 0
    · refine ⟨true, by rw [if_pos (by omega)], iff_of_true rfl (vset_iff.2 ⟨by omega, h3, fun j hj => gb_out (by rw [h3]; unfold wc; omega)⟩)⟩
    · have e : wrap64 ((ws.length : Int) - 1) = ((n / 64 : Nat) : Int) := by
        rw [w64 _ (by omega) (by omega), h3]; unfold wc; omega
      have hq : n / 64 < ws.length := by rw [h3]; unfold wc; omega
      rw [if_neg (by omega), e, if_pos (by omega), if_pos (by omega), wraps_u64 ((n % 64 : Nat) : Int) (by omega) (by omega), if_pos (by omega), rd_nat]
      refine ⟨_, rfl, ?_⟩
      have hg := wok_get hw (n / 64)
      have hlw := last_word hw h3 h4
      obtain ⟨m, hm⟩ := Int.eq_ofNat_of_zero_le hg.1
      rw [hm] at hlw ⊢
      rw [Int.toNat_natCast] at hlw
      unfold shr
      rw [show min (((n % 64 : Nat) : Int).toNat) IntKind.u64.bits = n % 64 by simp [IntKind.bits]; omega, ← pow_cast0, ← Int.natCast_ediv]
      rw [vset_iff]
      generalize m / 2 ^ (n % 64) = q at hlw ⊢
      constructor
      · intro h; exact ⟨by omega, h3, hlw.1 (by simpa using h)⟩
      · rintro ⟨_, _, h⟩; have := hlw.2 h; simpa using this
  · refine ⟨false, by rw [if_neg (by omega)], ?_⟩
    rw [vset_iff]
    exact iff_of_false (by simp) (fun h => h3 h.2.1)

/-! ### Of, New -/
/-! ### Equal -/
theorem elsI_succ (ws : List Int) (i : Nat) : elsI ws (i + 1) = if gb ws i = true then elsI ws i ++ [(i : Int)] else elsI ws i := by
  unfold elsI
  rw [els_split i 0 1, Nat.zero_add]
  by_cases h : gb ws i = true
  · rw [if_pos h]
    have : els (gb ws) i 1 = [i] := by simp [els, h]
    rw [this, List.map_append]; rfl
  · rw [if_neg h]
    have : els (gb ws) i 1 = [] := by simp [els, h]
    rw [this, List.append_nil]
theorem elsI_cut {ws : List Int} {n m : Nat} (h : n ≤ m) (hz : ∀ j, n ≤ j → gb ws j = false) : elsI ws m = elsI ws n := by
  unfold elsI
  obtain ⟨c, rfl⟩ : ∃ c, m = n + c := ⟨m - n, by omega⟩
  rw [els_split, Nat.zero_add, els_none c n (fun i h1 _ => hz i h1), List.append_nil]
theorem elsI_len (ws : List Int) (n : Nat) : (elsI ws n).length ≤ n := by unfold elsI; rw [List.length_map]; exact els_len_le n 0

theorem gb_word (ws : List Int) (i r : Nat) (hr : r < 64) : gb ws (64 * i + r) = (ws.getD i 0).toNat.testBit r := by
  unfold gb; rw [show (64 * i + r) / 64 = i by omega, show (64 * i + r) % 64 = r by omega]
theorem nat_of {x : Int} (h : 0 ≤ x ∧ x < 18446744073709551616) : ∃ n : Nat, x = (n : Int) ∧ n < 18446744073709551616 := ⟨x.toNat, by omega, by omega⟩
theorem andNot_nat (x y : Nat) (hx : x < 18446744073709551616) (hy : y < 18446744073709551616) : Go.bits .andNot .u64 (x : Int) (y : Int) = ((x &&& (2 ^ 64 - (y + 1)) : Nat) : Int) := by
  have hx' : x % 2 ^ 64 = x := Nat.mod_eq_of_lt (by omega)
  have hy' : y % 2 ^ 64 = y := Nat.mod_eq_of_lt (by omega)
  have h3 : x &&& (2 ^ 64 - (y + 1)) ≤ x := Nat.and_le_left
  have e : (BitVec.ofNat 64 x &&& ~~~BitVec.ofNat 64 y : BitVec 64).toNat = x &&& (2 ^ 64 - (y + 1)) := by
    rw [BitVec.toNat_and, BitVec.toNat_not, BitVec.toNat_ofNat, BitVec.toNat_ofNat, hx', hy']
    congr 1
    omega
  simp only [Go.bits, IntKind.bits, BitVec.ofInt_natCast, wrap_u64]
  exact (congrArg (fun n : Nat => (n : Int) % 18446744073709551616) e).trans (by omega)

/-! ### how many bits: Count, Rank -/
theorem and127_i64 (z : Nat) (hz : z < 9223372036854775808) : Go.bits .and .i64 (z : Int) 127 = ((z % 128 : Nat) : Int) := by
  have h1 : z % 2 ^ IntKind.i64.bits = z := Nat.mod_eq_of_lt (Nat.lt_of_lt_of_le hz (by decide))
  have h2 : BitVec.ofInt IntKind.i64.bits 127 = BitVec.ofNat IntKind.i64.bits 127 := by decide
  have h3 : z &&& 127 = z % 128 := Nat.and_two_pow_sub_one_eq_mod z 7
  have h4 : z % 128 < 128 := Nat.mod_lt _ (by decide)
  have h5 : 127 % 2 ^ IntKind.i64.bits = 127 := by decide
  simp only [Go.bits, BitVec.ofInt_natCast, h2, BitVec.toNat_and, BitVec.toNat_ofNat, h1, h5, h3, IntKind.wrap_i64]
  omega
theorem oc_ev (x : Nat) (hx : x < 18446744073709551616) : bits_OnesCount64.f (x : Int) = some ((cB (fun i => x.testBit i) 0 64 : Nat) : Int) := by
  have hM1 : Mk 0x55 8 = 6148914691236517205 := by decide
  have hM2 : Mk 0x33 8 = 3689348814741910323 := by decide
  have hM3 : Mk 0x0f 8 = 1085102592571150095 := by decide
  unfold bits_OnesCount64.f
  rw [← ones_eq]
  unfold ones
  dsimp only
  have a1 : Go.bits .and .u64 ((x : Int) / 2) 6148914691236517205 = ((x / 2 &&& 6148914691236517205 : Nat) : Int) := by
    rw [show ((x : Int) / 2) = ((x / 2 : Nat) : Int) by omega]
    exact and_nat (x / 2) 6148914691236517205 (by omega) (by decide)
  have a2 : Go.bits .and .u64 (x : Int) 6148914691236517205 = ((x &&& 6148914691236517205 : Nat) : Int) := and_nat x 6148914691236517205 hx (by decide)
  obtain ⟨p, hp⟩ : ∃ p, p = P1 x 8 := ⟨_, rfl⟩
  have hpv : p = (x / 2 &&& 6148914691236517205) + (x &&& 6148914691236517205) := by rw [hp]; unfold P1; rw [hM1]
  have l1 : x / 2 &&& 6148914691236517205 ≤ 6148914691236517205 := Nat.and_le_right
  have l2 : x &&& 6148914691236517205 ≤ 6148914691236517205 := Nat.and_le_right
  have y1 : IntKind.u64.wrap ((Go.bits .and .u64 ((x : Int) / 2) 6148914691236517205) + (Go.bits .and .u64 (x : Int) 6148914691236517205)) = (p : Int) := by
    rw [a1, a2, wraps_u64 _ (by omega) (by omega), hpv]; omega
  rw [y1, ← hp]
  have hp64 : p < 18446744073709551616 := by omega
  clear a1 a2 y1 hpv l1 l2 hp hx
  have b1 : Go.bits .and .u64 ((p : Int) / 4) 3689348814741910323 = ((p / 4 &&& 3689348814741910323 : Nat) : Int) := by
    rw [show ((p : Int) / 4) = ((p / 4 : Nat) : Int) by omega]
    exact and_nat (p / 4) 3689348814741910323 (by omega) (by decide)
  have b2 : Go.bits .and .u64 (p : Int) 3689348814741910323 = ((p &&& 3689348814741910323 : Nat) : Int) := and_nat p 3689348814741910323 hp64 (by decide)
  obtain ⟨q, hq⟩ : ∃ q, q = P2 p 8 := ⟨_, rfl⟩
  have hqv : q = (p / 4 &&& 3689348814741910323) + (p &&& 3689348814741910323) := by rw [hq]; unfold P2; rw [hM2]
  have l1 : p / 4 &&& 3689348814741910323 ≤ 3689348814741910323 := Nat.and_le_right
  have l2 : p &&& 3689348814741910323 ≤ 3689348814741910323 := Nat.and_le_right
  have y2 : IntKind.u64.wrap ((Go.bits .and .u64 ((p : Int) / 4) 3689348814741910323) + (Go.bits .and .u64 (p : Int) 3689348814741910323)) = (q : Int) := by
    rw [b1, b2, wraps_u64 _ (by omega) (by omega), hqv]; omega
  rw [y2, ← hq]
  have hq64 : q ≤ 7378697629483820646 := by omega
  clear b1 b2 y2 hqv l1 l2 hq hp64
  obtain ⟨s, hs⟩ : ∃ s, s = P3 q 8 := ⟨_, rfl⟩
  have hsv : s = (q / 16 + q) &&& 1085102592571150095 := by rw [hs]; unfold P3; rw [hM3]
  have l3 : (q / 16 + q) &&& 1085102592571150095 ≤ 1085102592571150095 := Nat.and_le_right
  have y3 : Go.bits .and .u64 (IntKind.u64.wrap ((q : Int) / 16 + (q : Int))) 1085102592571150095 = (s : Int) := by
    rw [wraps_u64 _ (by omega) (by omega), show (q : Int) / 16 + (q : Int) = ((q / 16 + q : Nat) : Int) by omega, hsv]
    exact and_nat (q / 16 + q) 1085102592571150095 (by omega) (by decide)
  rw [y3, ← hs]
  have hs64 : s ≤ 1085102592571150095 := by omega
  clear y3 hsv l3 hs hq64
  have y4 : IntKind.u64.wrap ((s : Int) + (s : Int) / 256) = ((s + s / 256 : Nat) : Int) := by
    rw [wraps_u64 _ (by omega) (by omega)]; omega
  rw [y4]
  obtain ⟨u, hu⟩ : ∃ u, u = s + s / 256 := ⟨_, rfl⟩
  rw [← hu]
  have hu64 : u ≤ 2000000000000000000 := by omega
  clear y4 hu hs64
  have y5 : IntKind.u64.wrap ((u : Int) + (u : Int) / 65536) = ((u + u / 65536 : Nat) : Int) := by
    rw [wraps_u64 _ (by omega) (by omega)]; omega
  rw [y5]
  obtain ⟨v, hv⟩ : ∃ v, v = u + u / 65536 := ⟨_, rfl⟩
  rw [← hv]
  have hv64 : v ≤ 3000000000000000000 := by omega
  clear y5 hv hu64
  have y6 : wrap64 (IntKind.u64.wrap ((v : Int) + (v : Int) / 4294967296)) = ((v + v / 4294967296 : Nat) : Int) := by
    rw [wraps_u64 _ (by omega) (by omega), w64 _ (by omega) (by omega)]; omega
  rw [y6]
  obtain ⟨z, hz⟩ : ∃ z, z = v + v / 4294967296 := ⟨_, rfl⟩
  rw [← hz]
  have hz64 : z ≤ 4000000000000000000 := by omega
  rw [and127_i64 z (by omega)]
theorem cB_word (ws : List Int) (i : Nat) : cB (fun r => (ws.getD i 0).toNat.testBit r) 0 64 = cB (gb ws) (64 * i) 64 := by
  have h := cB_shift (gb ws) (64 * i) 0 64
  rw [Nat.add_zero] at h
  rw [← h]
  unfold cB
  congr 1
  exact els_congr 64 0 (fun r _ hr => (gb_word ws i r (by omega)).symm)
theorem cB_le (f : Nat → Bool) (lo n : Nat) : cB f lo n ≤ n := els_len_le n lo
theorem icount_l0 (N : Int) (ws : List Int) (hw : wok ws) (hl : ws.length ≤ 1000000) : ∀ (d i acc : Nat), i + d = ws.length → acc ≤ 64 * i → Ev (fun k => bitset_Count.l0 k (acc : Int) ws (ws.length : Int) (i : Int)) ((acc + cB (gb ws) (64 * i) (64 * d) : Nat) : Int) := by
  intro d
  induction d with
  | zero =>
    intro i acc h1 h2
    refine Ev.succ ?_
    simp only [bitset_Count.l0]
    refine Ev.neg (by omega) ?_
    exact Ev.now _
  | succ d ih =>
    intro i acc h1 h2
    refine Ev.succ ?_
    simp only [bitset_Count.l0]
    refine Ev.pos (by omega) ?_
    refine Ev.pos (by omega) ?_
    refine Ev.pos (by omega) ?_
    rw [rd_nat]
    have hr := wok_get hw i
    obtain ⟨x, ex, hx⟩ := nat_of hr
    have hcw := cB_word ws i
    rw [ex, Int.toNat_natCast] at hcw
    rw [ex]
    refine Ev.bind0 (oc_ev x hx) ?_
    rw [hcw]
    have hc := cB_le (gb ws) (64 * i) 64
    rw [w64_add acc _ (by omega), w64_add1 i (by omega)]
    refine Ev.eq (ih (i + 1) (acc + cB (gb ws) (64 * i) 64) (by omega) (by omega)) ?_
    rw [show 64 * (d + 1) = 64 + 64 * d by omega, cB_add, show 64 * i + 64 = 64 * (i + 1) by omega, Nat.add_assoc]
theorem icount_ev (N : Int) (ws : List Int) (hw : wok ws) (hl : ws.length ≤ 1000000) : Ev (fun k => bitset_Count.f k N ws) ((cB (gb ws) 0 (64 * ws.length) : Nat) : Int) := by
  unfold bitset_Count.f
  have := icount_l0 N ws hw hl ws.length 0 0 (by omega) (by omega)
  simpa using this
theorem cB_cut {f : Nat → Bool} {n m : Nat} (h : n ≤ m) (hz : ∀ j, n ≤ j → f j = false) : cB f 0 m = cB f 0 n := by
  obtain ⟨c, rfl⟩ : ∃ c, m = n + c := ⟨m - n, by omega⟩
  rw [cB_add]
  unfold cB
  rw [els_none c (0 + n) (fun i h1 _ => hz i (by omega))]
  simp
/-- min(max(i, 0), N). -/
def cl (a : Int) (N : Nat) : Nat := if a < 0 then 0 else if (N : Int) < a then N else a.toNat
theorem cl_le (a : Int) (N : Nat) : cl a N ≤ N := by
  unfold cl
  split
  · omega
  · split <;> omega
theorem mnmx (a : Int) (N : Nat) : mn (mx a 0) (N : Int) = (cl a N : Int) := by
  unfold mn mx cl
  repeat' split
  all_goals omega
theorem mask_bits (x r : Nat) (hr : r < 64) : cB (fun i => (x % 2 ^ r).testBit i) 0 64 = cB (fun i => x.testBit i) 0 r := by
  obtain ⟨c, hc⟩ : ∃ c, 64 = r + c := ⟨64 - r, by omega⟩
  rw [hc, cB_add]
  have h1 : cB (fun i => (x % 2 ^ r).testBit i) 0 r = cB (fun i => x.testBit i) 0 r := by
    unfold cB
    congr 1
    exact els_congr r 0 (fun i _ hi => by rw [Nat.testBit_mod_two_pow, decide_eq_true (show i < r by omega), Bool.true_and])
  have h2 : cB (fun i => (x % 2 ^ r).testBit i) (0 + r) c = 0 := by
    unfold cB
    rw [els_none c (0 + r) (fun i hi _ => by rw [Nat.testBit_mod_two_pow, decide_eq_false (show ¬ i < r by omega), Bool.false_and])]
    rfl
  rw [h1, h2, Nat.add_zero]
theorem irank_l0 (N m : Nat) (ws : List Int) (hw : wok ws) (hl : ws.length = wc N) (hN : N ≤ 1048576) (hm : m ≤ N) : ∀ (d i acc : Nat), i + d = m / 64 → acc = cB (gb ws) 0 (64 * i) →
    Ev (fun k => bitset_Rank.l0 k (m : Int) (acc : Int) (ws.take (m / 64)) (((ws.take (m / 64)).length : Nat) : Int) (i : Int) (N : Int) ws) ((cB (gb ws) 0 m : Nat) : Int) := by
  have hwc : m / 64 ≤ ws.length := by rw [hl]; unfold wc; omega
  have htl : (ws.take (m / 64)).length = m / 64 := by rw [List.length_take]; omega
  intro d
  induction d with
  | zero =>
    intro i acc h1 h2
    have hi : i = m / 64 := by omega
    have hacc : acc ≤ m := by have := cB_le (gb ws) 0 (64 * i); omega
    refine Ev.succ ?_
    simp only [bitset_Rank.l0, htl]
    refine Ev.neg (by omega) ?_
    rw [tmod64 m]
    by_cases c : m % 64 = 0
    · refine Ev.pos (by omega) ?_
      refine Ev.eq (Ev.now _) ?_
      rw [h2, show 64 * i = m by omega]
    · refine Ev.neg (by omega) ?_
      rw [tdiv64 m (by omega)]
      have hlt : m / 64 < ws.length := by rw [hl]; unfold wc; omega
      refine Ev.pos (by omega) ?_
      refine Ev.pos (by omega) ?_
      refine Ev.pos (by omega) ?_
      rw [rd_nat]
      obtain ⟨x, ex, hx⟩ := nat_of (wok_get hw (m / 64))
      have hr : m % 64 < 64 := Nat.mod_lt _ (by decide)
      have hp := pow_lt64 (m % 64) hr
      have hp1 := Nat.two_pow_pos (m % 64)
      have hmk := bits_mask .u64 64 (by decide) wraps_u64 (m % 64) (by omega) (x : Int) (by omega) (by omega)
      have e1 : Go.bits .and .u64 (x : Int) (IntKind.u64.wrap ((shl .u64 1 ((m % 64 : Nat) : Int)) - 1)) = ((x % 2 ^ (m % 64) : Nat) : Int) := by
        rw [shl1 (m % 64) hr, wraps_u64 _ (by omega) (by omega), pow_cast0, hmk, ← pow_cast0]
        rfl
      have hxm : x % 2 ^ (m % 64) ≤ x := Nat.mod_le _ _
      rw [ex, e1]
      refine Ev.bind0 (oc_ev _ (by omega)) ?_
      rw [mask_bits x (m % 64) hr]
      have hcw : cB (fun i => x.testBit i) 0 (m % 64) = cB (gb ws) (64 * (m / 64)) (m % 64) := by
        have h := cB_shift (gb ws) (64 * (m / 64)) 0 (m % 64)
        rw [Nat.add_zero] at h
        rw [← h]
        unfold cB
        congr 1
        exact els_congr (m % 64) 0 (fun r _ hr2 => by rw [gb_word ws (m / 64) r (by omega), ex, Int.toNat_natCast])
      have hc := cB_le (gb ws) (64 * (m / 64)) (m % 64)
      rw [hcw]
      refine Ev.eq (Ev.now _) ?_
      rw [w64_add acc _ (by omega), h2, hi]
      have := cB_add (gb ws) 0 (64 * (m / 64)) (m % 64)
      rw [Nat.zero_add, show 64 * (m / 64) + m % 64 = m by omega] at this
      rw [this]
  | succ d ih =>
    intro i acc h1 h2
    have hacc : acc ≤ 64 * i := by rw [h2]; exact cB_le _ _ _
    refine Ev.succ ?_
    simp only [bitset_Rank.l0]
    refine Ev.pos (by rw [htl]; omega) ?_
    refine Ev.pos (by omega) ?_
    refine Ev.pos (by rw [htl]; omega) ?_
    have eg : rd (ws.take (m / 64)) (i : Int) = ws.getD i 0 := by
      rw [rd_nat, List.getD_eq_getElem?_getD, List.getElem?_take, if_pos (by omega), ← List.getD_eq_getElem?_getD]
    rw [eg]
    obtain ⟨x, ex, hx⟩ := nat_of (wok_get hw i)
    have hcw := cB_word ws i
    rw [ex, Int.toNat_natCast] at hcw
    rw [ex]
    refine Ev.bind0 (oc_ev x hx) ?_
    rw [hcw]
    have hc := cB_le (gb ws) (64 * i) 64
    rw [w64_add acc _ (by omega), w64_add1 i (by omega)]
    refine ih (i + 1) _ (by omega) ?_
    have := cB_add (gb ws) 0 (64 * i) 64
    rw [Nat.zero_add] at this
    rw [h2, show 64 * (i + 1) = 64 * i + 64 by omega, this]
theorem irank_ev (N : Nat) (ws : List Int) (hw : wok ws) (hl : ws.length = wc N) (hN : N ≤ 1048576) (a : Int) : Ev (fun k => bitset_Rank.f k (N : Int) ws a) ((cB (gb ws) 0 (cl a N) : Nat) : Int) := by
  unfold bitset_Rank.f
  have hm := cl_le a N
  rw [mnmx a N, tdiv64 (cl a N) (by omega)]
  refine Ev.pos (by omega) ?_
  refine Ev.pos (by rw [hl]; unfold wc; omega) ?_
  rw [Int.toNat_natCast]
  exact irank_l0 N (cl a N) ws hw hl hN hm (cl a N / 64) 0 0 (by omega) rfl

theorem cl_self (N : Nat) : cl (N : Int) N = N := by unfold cl; rw [if_neg (by omega), if_neg (by omega), Int.toNat_natCast]
theorem isel (N : Int) (ws : List Int) (hw : wok ws) (hl : ws.length ≤ 1000000) (a : Int) (ha : a < 9223372036854775808) : bitset_Select.f N ws a = some (selI ws a) := by
  unfold bitset_Select.f
  rw [if_pos ⟨wokB_of hw, by omega, ha⟩]

theorem icon (N : Nat) (ws : List Int) (hw : wok ws) (hl : ws.length = wc N) (hN : N ≤ 1048576) (a : Int) : bitset_Contains.f (N : Int) ws a = some (decide (0 ≤ a ∧ a < (N : Int)) && gb ws a.toNat) := by
  unfold bitset_Contains.f
  by_cases c : a ≥ 0
  · rw [if_pos c]
    obtain ⟨i, rfl⟩ := Int.eq_ofNat_of_zero_le c
    by_cases h : (i : Int) < (N : Int)
    · have hq : i / 64 < ws.length := by rw [hl]; unfold wc; omega
      rw [if_pos h, tdiv64 i (by omega), tmod64 i, if_pos (by omega), if_pos (by omega), if_pos (by omega), rd_nat]
      have h2 := wok_get hw (i / 64)
      rw [bit_one _ h2.1 h2.2 _ (Nat.mod_lt _ (by decide)), decide_eq_true ⟨c, h⟩]
      simp [gb]
    · rw [if_neg h, decide_eq_false (by omega)]; rfl
  · rw [if_neg c, decide_eq_false (by omega)]; rfl

/-! ### small -/
theorem wok_of_wf {l : List Int} (h : ∀ x ∈ l, (Lit.int .u64 x).wf = true) : wok l := fun x hx => wf_u64 (h x hx)
theorem sm_ev (a : Int) (l : List Int) (hw : wok l) (hl : l.length ≤ 9223372036854775807) : (∃ n : Nat, a = (n : Int) ∧ n ≤ 3000 ∧ l.length = wc n ∧ (∀ j, n ≤ j → gb l j = false) ∧ laminalaw03_small.f a l = some true) ∨ laminalaw03_small.f a l = some false := by
  unfold laminalaw03_small.f
  by_cases h : a ≤ 3000
  · rw [if_pos h]
    obtain ⟨b, e, i⟩ := r03val a l hw hl
    rw [e]
    cases b with
    | true =>
      left
      have hv := i.1 rfl
      have ha : 0 ≤ a := hv.1
      obtain ⟨n, rfl⟩ := Int.eq_ofNat_of_zero_le ha
      obtain ⟨h1, h2, h3⟩ := vset_iff.1 hv
      exact ⟨n, rfl, by omega, h2, h3, rfl⟩
    | false => right; rfl
  · rw [if_neg h]; right; rfl
theorem lives_ev : Ev (fun _ => laminalaw03_lives.f.bind fun t => some t) true := Ev.now _

theorem els_snoc (f : Nat → Bool) (n : Nat) : els f 0 (n + 1) = els f 0 n ++ (if f n = true then [n] else []) := by
  rw [els_split, Nat.zero_add]
  rfl
theorem els_nth (f : Nat → Bool) : ∀ (n i : Nat) (h : i < (els f 0 n).length), (els f 0 n)[i] < n ∧ f (els f 0 n)[i] = true ∧ cB f 0 (els f 0 n)[i] = i := by
  intro n
  induction n with
  | zero => intro i h; simp [els] at h
  | succ n ih =>
    intro i h
    have e := els_snoc f n
    by_cases c : i < (els f 0 n).length
    · have hi : (els f 0 (n + 1))[i] = (els f 0 n)[i] := by
        have : (els f 0 (n + 1))[i]? = (els f 0 n)[i]? := by rw [e, List.getElem?_append_left c]
        rw [List.getElem?_eq_getElem h, List.getElem?_eq_getElem c] at this
        exact Option.some.inj this
      rw [hi]
      obtain ⟨h1, h2, h3⟩ := ih i c
      exact ⟨by omega, h2, h3⟩
    · by_cases g : f n = true
      · rw [if_pos g] at e
        have hlen : (els f 0 (n + 1)).length = (els f 0 n).length + 1 := by rw [e]; simp
        have hie : i = (els f 0 n).length := by omega
        have hi : (els f 0 (n + 1))[i] = n := by
          have : (els f 0 (n + 1))[i]? = some n := by rw [e, hie]; simp
          rw [List.getElem?_eq_getElem h] at this
          exact Option.some.inj this
        rw [hi]
        exact ⟨by omega, g, hie.symm⟩
      · rw [if_neg g, List.append_nil] at e
        rw [e] at h; omega
theorem els_at (f : Nat → Bool) (n m : Nat) (hm : m < n) (h : f m = true) : (els f 0 n)[cB f 0 m]? = some m := by
  obtain ⟨c, rfl⟩ : ∃ c, n = m + (1 + c) := ⟨n - m - 1, by omega⟩
  rw [els_split, els_split, Nat.zero_add]
  have e1 : els f m 1 = [m] := by simp [els, h]
  rw [e1]
  have : cB f 0 m = (els f 0 m).length := rfl
  rw [this, List.getElem?_append_right (Nat.le_refl _)]
  simp
theorem BitsetRankSelect : laminalaw03_BitsetRankSelect.Pure := by
  intro a l x hok hx
  obtain ⟨_, hl, hw⟩ := hok
  simp only at hl hw
  have hxb := wf_i64 hx
  have hwk := wok_of_wf hw
  refine Ev.rounds (g := fun k => laminalaw03_BitsetRankSelect.f k a l x) ?_
  unfold laminalaw03_BitsetRankSelect.f
  rcases sm_ev a l hwk hl with ⟨n, rfl, hn, h1, h2, e⟩ | e
  rotate_left
  · refine Ev.bind0 e ?_
    refine Ev.neg (by decide) ?_
    exact lives_ev
  refine Ev.bind0 e ?_
  refine Ev.pos rfl ?_
  have hN : n ≤ 1048576 := by omega
  have hwc : wc n ≤ 50 := by unfold wc; omega
  have hel : elsI l (64 * l.length) = elsI l n := elsI_cut (by rw [h1]; exact wc_le n) h2
  have hell := elsI_len l n
  have e3 : laminalaw03_elements.f (n : Int) l = some (elsI l n) := by
    unfold laminalaw03_elements.f
    rw [if_pos ⟨wokB_of hwk, by omega, by rw [hel]; omega⟩, hel]
  have hcnt := icount_ev (n : Int) l hwk (by omega)
  rw [cB_cut (n := n) (by rw [h1]; exact wc_le n) h2] at hcnt
  have hlenE : (elsI l n).length = cB (gb l) 0 n := by unfold elsI cB; rw [List.length_map]
  have hget : ∀ i (h : i < (elsI l n).length), ∃ m : Nat, rd (elsI l n) (i : Int) = (m : Int) ∧ m < n ∧ gb l m = true ∧ cB (gb l) 0 m = i := by
    intro i h
    have h' : i < (els (gb l) 0 n).length := by unfold elsI at h; rw [List.length_map] at h; exact h
    obtain ⟨q1, q2, q3⟩ := els_nth (gb l) n i h'
    refine ⟨(els (gb l) 0 n)[i], ?_, q1, q2, q3⟩
    rw [rd_nat]
    unfold elsI
    rw [List.getD_eq_getElem?_getD, List.getElem?_map, List.getElem?_eq_getElem h']
    rfl
  have hsel : ∀ i, i < (elsI l n).length → selI l (i : Int) = rd (elsI l n) (i : Int) := by
    intro i h
    unfold selI
    rw [if_neg (by omega), hel, Int.toNat_natCast, rd_nat, List.getD_eq_getElem?_getD, List.getElem?_eq_getElem h, List.getD_eq_getElem?_getD, List.getElem?_eq_getElem h]
    rfl
  refine Ev.bind0 e3 ?_
  refine Ev.bind hcnt ?_
  refine Ev.pos (by rw [hlenE]) ?_
  have hrank := fun z => irank_ev n l hwk h1 hN z
  have fin : Ev (fun k => (bitset_Rank.f k (n : Int) l (n : Int)).bind fun t => if t = ((elsI l n).length : Int) then (laminalaw03_lives.f).bind fun t => some t else some false) true := by
    refine Ev.bind (hrank (n : Int)) ?_
    refine Ev.pos (by rw [cl_self, hlenE]) ?_
    exact lives_ev
  have hc : ∀ m : Nat, m < n → bitset_Contains.f (n : Int) l (m : Int) = some (gb l m) := by
    intro m hm
    rw [icon n l hwk h1 hN (m : Int), decide_eq_true (by omega), Bool.true_and, Int.toNat_natCast]
  have loop : ∀ (d i : Nat), i + d = (elsI l n).length → Ev (fun k => laminalaw03_BitsetRankSelect.l0 k x (elsI l n) (i : Int) (n : Int) l) true := by
    intro d
    induction d with
    | zero =>
      intro i h
      refine Ev.succ ?_
      simp only [laminalaw03_BitsetRankSelect.l0]
      refine Ev.neg (by omega) ?_
      refine Ev.bind (hrank x) ?_
      have hcl := cB_le (gb l) 0 (cl x n)
      have hcl2 := cl_le x n
      refine Ev.bind0 (isel _ l hwk (by omega) _ (by omega)) ?_
      by_cases c1 : x < 0
      · refine Ev.pos c1 ?_
        exact fin
      refine Ev.neg c1 ?_
      by_cases c2 : x ≥ (n : Int)
      · refine Ev.pos c2 ?_
        exact fin
      refine Ev.neg c2 ?_
      obtain ⟨m, rfl⟩ := Int.eq_ofNat_of_zero_le (show 0 ≤ x by omega)
      have hm : m < n := by omega
      have hclm : cl (m : Int) n = m := by unfold cl; rw [if_neg (by omega), if_neg (by omega), Int.toNat_natCast]
      refine Ev.bind0 (hc m hm) ?_
      rw [hclm]
      have key : gb l m = (selI l ((cB (gb l) 0 m : Nat) : Int) == (m : Int)) := by
        by_cases g : gb l m = true
        · have h3 := els_at (gb l) n m hm g
          have h4 : selI l ((cB (gb l) 0 m : Nat) : Int) = (m : Int) := by
            unfold selI
            rw [if_neg (by omega), hel, Int.toNat_natCast]
            unfold elsI
            rw [List.getD_eq_getElem?_getD, List.getElem?_map, h3]
            rfl
          rw [h4, g]; simp
        · have g' : gb l m = false := by simpa using g
          rw [g']
          symm
          rw [beq_eq_false_iff_ne]
          intro h4
          unfold selI at h4
          rw [if_neg (by omega), hel, Int.toNat_natCast, List.getD_eq_getElem?_getD] at h4
          by_cases h5 : cB (gb l) 0 m < (elsI l n).length
          · obtain ⟨m2, q1, _, q3, _⟩ := hget _ h5
            rw [rd_nat, List.getD_eq_getElem?_getD] at q1
            rw [List.getElem?_eq_getElem h5] at h4 q1
            simp only [Option.getD_some] at h4 q1
            have : m2 = m := by omega
            rw [this] at q3
            exact g q3
          · rw [List.getElem?_eq_none (by omega)] at h4
            exact absurd h4 (by simp only [Option.getD_none]; omega)
      refine Ev.pos (by rw [← key]; simp) ?_
      exact fin
    | succ d ih =>
      intro i h
      have hi : i < (elsI l n).length := by omega
      obtain ⟨m, q1, q2, q3, q4⟩ := hget i hi
      have ih2 := ih (i + 1) (by omega)
      have body : Ev (fun k => (bitset_Contains.f (n : Int) l (m : Int)).bind fun t => if t = true then (bitset_Rank.f k (n : Int) l (m : Int)).bind fun t => if t = (i : Int) then (bitset_Select.f (n : Int) l (i : Int)).bind fun t => if t = (m : Int) then laminalaw03_BitsetRankSelect.l0 k x (elsI l n) (wrap64 ((i : Int) + 1)) (n : Int) l else some false else some false else some false) true := by
        refine Ev.bind0 (hc m q2) ?_
        refine Ev.pos q3 ?_
        refine Ev.bind (hrank (m : Int)) ?_
        have hclm : cl (m : Int) n = m := by unfold cl; rw [if_neg (by omega), if_neg (by omega), Int.toNat_natCast]
        refine Ev.pos (by rw [hclm, q4]) ?_
        refine Ev.bind0 (isel _ l hwk (by omega) _ (by omega)) ?_
        refine Ev.pos (by rw [hsel i hi, q1]) ?_
        rw [w64_add1 i (by omega)]
        exact ih2
      refine Ev.succ ?_
      simp only [laminalaw03_BitsetRankSelect.l0]
      rw [q1]
      refine Ev.pos (by omega) ?_
      refine Ev.pos (by omega) ?_
      refine Ev.neg (by omega) ?_
      refine Ev.neg (by omega) ?_
      by_cases c0 : i = 0
      · refine Ev.neg (by omega) ?_
        exact body
      · refine Ev.pos (by omega) ?_
        rw [w64_sub1 i (by omega) (by omega)]
        obtain ⟨m2, r1, r2, r3, r4⟩ := hget (i - 1) (by omega)
        rw [r1]
        refine Ev.pos (by omega) ?_
        refine Ev.pos (by omega) ?_
        have hlt : m2 < m := by
          have hp := List.pairwise_iff_getElem.1 (els_pw (gb l) n 0)
          have hi' : i < (els (gb l) 0 n).length := by unfold elsI at hi; rw [List.length_map] at hi; exact hi
          have h7 := hp (i - 1) i (by omega) hi' (by omega)
          rw [rd_nat] at q1 r1
          unfold elsI at q1 r1
          rw [List.getD_eq_getElem?_getD, List.getElem?_map, List.getElem?_eq_getElem (by omega)] at q1 r1
          simp only [Option.map_some, Option.getD_some] at q1 r1
          omega
        refine Ev.neg (by omega) ?_
        exact body
  exact loop _ 0 (Nat.zero_add _)

end Go.Proofs.YtijgbhbdmnhanaaDoor.Pure
