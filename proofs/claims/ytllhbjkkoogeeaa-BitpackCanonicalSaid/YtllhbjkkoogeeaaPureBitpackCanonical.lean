/- laminalaw06.BitpackCanonical returns true for all its arguments (bytes accepted by Unpack are packed to the same bytes again). Conditions: none beyond the row's own (slices of at most 2^47 - 4096 bytes). -/
import Derived.Test.YtllhbjkkoogeeaaQBitpackCanonicalx3
import Derived.Test.YtllhbjkkoogeeaaM01
import Derived.Test.YtllhbjkkoogeeaaM02
import Derived.Test.YtllhbjkkoogeeaaM06
set_option linter.unusedVariables false
set_option linter.unusedSimpArgs false
namespace Go.Proofs.Ytllhbjkkoogeeaa.Pure
open Go Go.RowKit Go.Proofs.Ytllhbjkkoogeeaa.QBitpackCanonical Go.Proofs.YtllhbjkkoogeeaaW.PrintWords Go.Proofs.YtllhbjkkoogeeaaW.PrintLast Go.Proofs.YtllhbjkkoogeeaaM

/-! ### sizes, unpacking -/
def inr (n w : Int) : Bool := decide (0 ≤ n) && decide (n ≤ 1048576) && decide (0 ≤ w) && decide (w ≤ 64)
def psz (n w : Int) : Int := if inr n w = true then ((pbytes n.toNat w.toNat : Nat) : Int) else 0
theorem inr_iff {n w : Int} : inr n w = true ↔ 0 ≤ n ∧ n ≤ 1048576 ∧ 0 ≤ w ∧ w ≤ 64 := by
  simp [inr, and_assoc]
theorem iinr (n w : Int) : bitpack_inRange.f n w = some (inr n w) := by
  unfold bitpack_inRange.f inr
  by_cases h1 : n ≥ 0
  · rw [if_pos h1, decide_eq_true (show 0 ≤ n from h1)]
    by_cases h2 : n ≤ 1048576
    · rw [if_pos h2, decide_eq_true h2]
      by_cases h3 : w ≥ 0
      · rw [if_pos h3, decide_eq_true (show 0 ≤ w from h3)]; simp
      · rw [if_neg h3, decide_eq_false (show ¬ 0 ≤ w from h3)]; simp
    · rw [if_neg h2, decide_eq_false h2]; simp
  · rw [if_neg h1, decide_eq_false (show ¬ 0 ≤ n from h1)]; simp
theorem size_wrap (n w : Int) (h : inr n w = true) : wrap64 (Int.tdiv (wrap64 ((wrap64 (n * w)) + 7)) 8) = ((pbytes n.toNat w.toNat : Nat) : Int) := by
  obtain ⟨h1, h2, h3, h4⟩ := inr_iff.1 h
  obtain ⟨a, rfl⟩ := Int.eq_ofNat_of_zero_le h1
  obtain ⟨b, rfl⟩ := Int.eq_ofNat_of_zero_le h3
  have hm : a * b ≤ 1048576 * 64 := Nat.mul_le_mul (by omega) (by omega)
  have e1 : ((a : Int) * (b : Int)) = ((a * b : Nat) : Int) := by simp
  rw [e1, w64 ((a * b : Nat) : Int) (by omega) (by omega), w64 (((a * b : Nat) : Int) + 7) (by omega) (by omega), Int.tdiv_eq_ediv_of_nonneg (by omega), w64 _ (by omega) (by omega)]
  unfold pbytes
  simp
theorem isz (n w : Int) : bitpack_Size.f n w = some (psz n w) := by
  unfold bitpack_Size.f psz
  rw [iinr]
  simp only [Option.bind_some]
  by_cases h : inr n w = true
  · rw [if_pos h, if_pos h, size_wrap n w h]
  · rw [if_neg h, if_neg h]
theorem psz_nat (n w : Nat) (h : inr n w = true) : psz (n : Int) (w : Int) = ((pbytes n w : Nat) : Int) := by unfold psz; rw [if_pos h]; simp
/-- What Unpack answers. -/
def unp (b : List Int) (n w : Int) : List Int × Int :=
  if inr n w = true then (if (b.length : Int) < psz n w then ([], 2) else if (b.length : Int) > psz n w then ([], 3) else if le b < 2 ^ (n.toNat * w.toNat) then (unpackN w.toNat (le b) n.toNat, 0) else ([], 4)) else ([], 1)
theorem iread (b : List Int) (hb : ∀ x ∈ b, 0 ≤ x ∧ x < 256) (hl : b.length ≤ 100000000) (p w : Nat) (hw : w ≤ 64) (hp : p + w ≤ 8 * b.length) : bitpack_read.f b (p : Int) (w : Int) = some ((le b / 2 ^ p % 2 ^ w : Nat) : Int) := by
  unfold bitpack_read.f
  rw [if_pos]
  · simp
  · refine ⟨?_, by omega, by omega, by omega, by omega, by omega⟩
    simp only [okbytes, List.all_eq_true, Bool.and_eq_true, decide_eq_true_eq]
    exact hb
theorem set_unpack (w N : Nat) : ∀ (n i : Nat), i < n → ((unpackN w N i) ++ List.replicate (n - i) (0 : Int)).set i ((N / 2 ^ (i * w) % 2 ^ w : Nat) : Int) = unpackN w N (i + 1) ++ List.replicate (n - (i + 1)) 0 := by
  intro n i hi
  apply List.ext_getElem
  · simp [unpackN_len]; omega
  · intro j h1 h2
    have g : ∀ (m j : Nat) (hj : j < m), (unpackN w N m)[j]'(by rw [unpackN_len]; exact hj) = ((N / 2 ^ (j * w) % 2 ^ w : Nat) : Int) := by
      intro m j hj
      have := unpackN_get w m N j hj
      rw [List.getD_eq_getElem?_getD, List.getElem?_eq_getElem (by rw [unpackN_len]; exact hj)] at this
      simpa using this
    rw [List.getElem_set]
    by_cases hij : i = j
    · subst hij
      rw [if_pos rfl, List.getElem_append_left (by rw [unpackN_len]; omega), g (i + 1) i (by omega)]
    · rw [if_neg hij]
      by_cases hlt : j < i
      · rw [List.getElem_append_left (by rw [unpackN_len]; exact hlt), List.getElem_append_left (by rw [unpackN_len]; omega), g i j hlt, g (i + 1) j (by omega)]
      · rw [List.getElem_append_right (by rw [unpackN_len]; omega), List.getElem_append_right (by rw [unpackN_len]; omega)]
        simp
theorem iunp_l0 (b : List Int) (hb : ∀ x ∈ b, 0 ≤ x ∧ x < 256) (hl : b.length ≤ 100000000) (n w : Nat) (hn : n ≤ 1048576) (hw : w ≤ 64) (hlen : b.length = pbytes n w) :
    ∀ (d i : Nat), i + d = n → Ev (fun k => bitpack_Unpack.l0 k b (w : Int) (unpackN w (le b) i ++ List.replicate (n - i) 0) (n : Int) (i : Int)) (unpackN w (le b) n, 0) := by
  intro d
  induction d with
  | zero =>
    intro i h
    have : i = n := by omega
    subst this
    refine Ev.succ ?_
    simp only [bitpack_Unpack.l0]
    refine Ev.neg (by omega) ?_
    exact Ev.eq (Ev.now _) (by simp)
  | succ d ih =>
    intro i h
    have hm : i * w ≤ 1048576 * 64 := Nat.mul_le_mul (by omega) hw
    have hm2 : i * w + w ≤ n * w := by rw [← Nat.succ_mul]; exact Nat.mul_le_mul_right _ (by omega)
    have e1 : wrap64 ((i : Int) * (w : Int)) = ((i * w : Nat) : Int) := by
      rw [show ((i : Int) * (w : Int)) = ((i * w : Nat) : Int) by simp, w64 _ (by omega) (by omega)]
    refine Ev.succ ?_
    simp only [bitpack_Unpack.l0, e1, w64_add1 i (by omega)]
    refine Ev.pos (by omega) ?_
    refine Ev.bind0 (iread b hb hl (i * w) w hw (by rw [hlen]; unfold pbytes; omega)) ?_
    refine Ev.pos (by omega) ?_
    refine Ev.pos (by simp [unpackN_len]; omega) ?_
    rw [Int.toNat_natCast, set_unpack w (le b) n i (by omega)]
    exact ih (i + 1) (by omega)
theorem iunp_ev (b : List Int) (hb : ∀ x ∈ b, 0 ≤ x ∧ x < 256) (hl : b.length ≤ 100000000) (n w : Int) : Ev (fun k => bitpack_Unpack.f k b n w) (unp b n w) := by
  unfold bitpack_Unpack.f unp
  refine Ev.bind0 (isz n w) ?_
  refine Ev.bind0 (iinr n w) ?_
  by_cases h : inr n w = true
  · refine Ev.pos h ?_
    rw [if_pos h]
    by_cases h1 : (b.length : Int) < psz n w
    · refine Ev.pos h1 ?_
      rw [if_pos h1]; exact Ev.now _
    refine Ev.neg h1 ?_
    rw [if_neg h1]
    by_cases h2 : (b.length : Int) > psz n w
    · refine Ev.pos h2 ?_
      rw [if_pos h2]; exact Ev.now _
    refine Ev.neg h2 ?_
    rw [if_neg h2]
    obtain ⟨k1, k2, k3, k4⟩ := inr_iff.1 h
    obtain ⟨a, rfl⟩ := Int.eq_ofNat_of_zero_le k1
    obtain ⟨c, rfl⟩ := Int.eq_ofNat_of_zero_le k3
    have hsz := psz_nat a c h
    have hlen : b.length = pbytes a c := by omega
    have hm : a * c ≤ 1048576 * 64 := Nat.mul_le_mul (by omega) (by omega)
    have e1 : wrap64 ((a : Int) * (c : Int)) = ((a * c : Nat) : Int) := by
      rw [show ((a : Int) * (c : Int)) = ((a * c : Nat) : Int) by simp, w64 _ (by omega) (by omega)]
    have hpos : 0 ≤ psz (a : Int) (c : Int) := by rw [hsz]; omega
    have e2 : Int.tmod (wrap64 ((a : Int) * (c : Int))) 8 = ((a * c % 8 : Nat) : Int) := by
      rw [e1, Int.tmod_eq_emod_of_nonneg (by omega)]; omega
    have hlt := le_lt b hb
    rw [pow256] at hlt
    have j0f : le b < 2 ^ (a * c) → Ev (fun k => bitpack_Unpack.j0 k b (a : Int) (c : Int) false) (if le b < 2 ^ ((a : Int).toNat * (c : Int).toNat) then (unpackN (c : Int).toNat (le b) (a : Int).toNat, 0) else ([], 4)) := by
      intro hv
      simp only [Int.toNat_natCast]
      rw [if_pos hv]
      refine Ev.succ ?_
      simp only [bitpack_Unpack.j0]
      refine Ev.neg (by decide) ?_
      refine Ev.pos (by omega) ?_
      refine Ev.pos (by omega) ?_
      have := iunp_l0 b hb hl a c (by omega) (by omega) hlen a 0 (by omega)
      simpa [unpackN] using this
    rw [e2]
    by_cases h3 : ((a * c % 8 : Nat) : Int) = 0
    · refine Ev.pos h3 ?_
      exact j0f (Nat.lt_of_lt_of_le hlt (Nat.pow_le_pow_right (by decide) (by rw [hlen]; unfold pbytes; omega)))
    · refine Ev.neg h3 ?_
      have hs1 : wrap64 (psz (a : Int) (c : Int) - 1) = ((a * c / 8 : Nat) : Int) := by
        rw [hsz, w64 _ (by unfold pbytes; omega) (by unfold pbytes; omega)]; unfold pbytes; omega
      rw [hs1]
      have hq : a * c / 8 < b.length := by rw [hlen]; unfold pbytes; omega
      refine Ev.pos (by omega) ?_
      refine Ev.pos (by omega) ?_
      refine Ev.pos (by omega) ?_
      have hby : shr .u8 (rd b ((a * c / 8 : Nat) : Int)) ((a * c % 8 : Nat) : Int) = ((le b / 2 ^ (a * c) : Nat) : Int) := by
        unfold shr
        rw [rd_nat, le_get b _ hb, Int.toNat_natCast, Nat.min_eq_left (by show a * c % 8 ≤ 8; omega), ← pow_cast, ← Int.natCast_ediv]
        congr 1
        have h5 : le b / 256 ^ (a * c / 8) < 256 := by
          rw [pow256, Nat.div_lt_iff_lt_mul (Nat.two_pow_pos _), show 256 = 2 ^ 8 by rfl, ← Nat.pow_add]
          exact Nat.lt_of_lt_of_le hlt (Nat.pow_le_pow_right (by decide) (by rw [hlen]; unfold pbytes; omega))
        rw [Nat.mod_eq_of_lt h5, pow256, Nat.div_div_eq_div_mul, ← Nat.pow_add, show 8 * (a * c / 8) + a * c % 8 = a * c by omega]
      rw [hby]
      by_cases h4 : le b < 2 ^ (a * c)
      · rw [Nat.div_eq_of_lt h4]
        exact j0f h4
      · have h6 : 1 ≤ le b / 2 ^ (a * c) := (Nat.le_div_iff_mul_le (Nat.two_pow_pos _)).2 (by omega)
        rw [show (((le b / 2 ^ (a * c) : Nat) : Int) != 0) = true by rw [bne_iff_ne]; omega]
        simp only [Int.toNat_natCast]
        rw [if_neg h4]
        refine Ev.succ ?_
        simp only [bitpack_Unpack.j0]
        refine Ev.pos (by decide) ?_
        exact Ev.now _
  · refine Ev.neg h ?_
    rw [if_neg h]; exact Ev.now _
/-- What At answers. -/
def atP (b : List Int) (i w : Int) : Int := if w < 1 ∨ w > 64 ∨ i < 0 ∨ i ≥ ((8 * b.length / w.toNat : Nat) : Int) then 0 else ((le b / 2 ^ (i.toNat * w.toNat) % 2 ^ w.toNat : Nat) : Int)
theorem at_div (b : List Int) (hl : b.length ≤ 100000000) (w : Int) (h1 : 1 ≤ w) (h2 : w ≤ 64) : wrap64 (Int.tdiv (wrap64 (8 * (b.length : Int))) w) = ((8 * b.length / w.toNat : Nat) : Int) := by
  obtain ⟨c, rfl⟩ := Int.eq_ofNat_of_zero_le (show 0 ≤ w by omega)
  have h3 : 8 * b.length / c ≤ 8 * b.length := Nat.div_le_self _ _
  rw [w64 (8 * (b.length : Int)) (by omega) (by omega), Int.tdiv_eq_ediv_of_nonneg (by omega), show (8 * (b.length : Int)) = ((8 * b.length : Nat) : Int) by simp, ← Int.natCast_ediv, Int.toNat_natCast]
  exact w64n _ (by omega)
theorem at_in {b : List Int} {i c : Nat} (h : i < 8 * b.length / c) (hc : 0 < c) : i * c + c ≤ 8 * b.length := by
  have h1 : (i + 1) * c ≤ 8 * b.length := (Nat.le_div_iff_mul_le hc).1 h
  rw [Nat.succ_mul] at h1; exact h1

/-! ### equality of lists -/
theorem eq6_l0 (l : List Int) (hl : l.length ≤ 1000000000) : ∀ (d i : Nat), i + d = l.length → Ev (fun k => laminaref06_Equal.l0 k l l (i : Int)) true := by
  intro d
  induction d with
  | zero =>
    intro i h
    refine Ev.succ ?_
    simp only [laminaref06_Equal.l0]
    refine Ev.neg (by omega) ?_
    refine Ev.succ ?_
    simp only [laminaref06_Equal.j1]
    refine Ev.neg (by decide) ?_
    exact Ev.now _
  | succ d ih =>
    intro i h
    refine Ev.succ ?_
    simp only [laminaref06_Equal.l0]
    refine Ev.pos (by omega) ?_
    rw [decide_eq_true (show (i : Int) < (l.length : Int) by omega)]
    refine Ev.succ ?_
    simp only [laminaref06_Equal.j1, w64_add1 i (by omega)]
    refine Ev.pos (by decide) ?_
    refine Ev.pos (by omega) ?_
    refine Ev.pos (by omega) ?_
    refine Ev.pos (by omega) ?_
    refine Ev.pos trivial ?_
    exact ih (i + 1) (by omega)
theorem eq6_ev (l : List Int) (hl : l.length ≤ 1000000000) : Ev (fun k => laminaref06_Equal.f k l l) true := by
  unfold laminaref06_Equal.f
  refine Ev.pos rfl ?_
  exact eq6_l0 l hl l.length 0 (by omega)
theorem lives_ev : Ev (fun k => laminalaw06_lives.f k) true := Ev.of laminalaw06_lives.mono (k := 200) (by decide +kernel)
theorem unp_len (b : List Int) (n w : Int) : (unp b n w).1.length ≤ 1048576 := by
  unfold unp
  split
  · rename_i h
    have := inr_iff.1 h
    split
    · simp
    · split
      · simp
      · split
        · simp only [unpackN_len]; omega
        · simp
  · simp

/-! ### Pack -/
theorem wf_u64s {l : List Int} (h : ∀ x ∈ l, (Lit.int .u64 x).wf = true) : ∀ x ∈ l, 0 ≤ x ∧ x < 18446744073709551616 := fun x hx => wf_u64 (h x hx)
theorem ipk (l : List Int) (hu : ∀ x ∈ l, 0 ≤ x ∧ x < 18446744073709551616) (w : Int) : bitpack_Pack.f l w = some (if 0 ≤ w ∧ w ≤ 64 ∧ l.length ≤ 1048576 then packed l w.toNat else []) := by
  unfold bitpack_Pack.f
  by_cases h : 0 ≤ w ∧ w ≤ 64 ∧ l.length ≤ 1048576
  · rw [if_pos h, if_pos h, if_pos]
    simp only [List.all_eq_true, Bool.and_eq_true, decide_eq_true_eq]
    exact hu
  · rw [if_neg h, if_neg h]
theorem ipk_in (l : List Int) (hu : ∀ x ∈ l, 0 ≤ x ∧ x < 18446744073709551616) (w : Nat) (hw : w ≤ 64) (hl : l.length ≤ 1048576) : bitpack_Pack.f l (w : Int) = some (packed l w) := by
  rw [ipk l hu, if_pos ⟨by omega, by omega, hl⟩, Int.toNat_natCast]
theorem packed_range (l : List Int) (w : Nat) : ∀ x ∈ packed l w, 0 ≤ x ∧ x < 256 := fixed_range _ _
theorem unpackN_range (w : Nat) (hw : w ≤ 64) : ∀ (n N : Nat), ∀ x ∈ unpackN w N n, 0 ≤ x ∧ x < 18446744073709551616 := by
  intro n
  induction n with
  | zero => intro N x h; cases h
  | succ n ih =>
    intro N x h
    have h1 := mod_lt_pow N w
    have h2 := pow_le_64 w hw
    rcases List.mem_cons.1 h with rfl | h
    · omega
    · exact ih _ x h
theorem unp_packed (l : List Int) (c : Nat) (hc : c ≤ 64) (hl : l.length ≤ 1048576) : unp (packed l c) (l.length : Int) (c : Int) = (unpackN c (packN c l) l.length, 0) := by
  have h0 : inr (l.length : Int) (c : Int) = true := inr_iff.2 ⟨by omega, by omega, by omega, by omega⟩
  unfold unp
  rw [if_pos h0, psz_nat _ _ h0, packed_len, if_neg (by omega), if_neg (by omega), le_packed, if_pos]
  · simp
  · have := packN_lt c l
    rw [Nat.mul_comm] at this
    simpa using this

theorem BitpackCanonical : laminalaw06_BitpackCanonical.Pure := by
  intro b n w hbl hb8 hbw hn hw
  have hb := wf_u8s hbw
  have lv : Ev (fun k => (laminalaw06_lives.f k).bind fun t => some t) true := Ev.bind lives_ev (Ev.now _)
  have lvj : Ev (fun k => laminalaw06_BitpackCanonical.j0 k b n w true) true := by
    refine Ev.succ ?_
    simp only [laminalaw06_BitpackCanonical.j0]
    refine Ev.pos (by decide) ?_
    exact lv
  refine Ev.rounds (g := fun k => laminalaw06_BitpackCanonical.f k b n w) ?_
  unfold laminalaw06_BitpackCanonical.f
  by_cases h1 : (b.length : Int) > 500
  · refine Ev.pos h1 ?_
    exact lvj
  refine Ev.neg h1 ?_
  have main : Ev (fun k => laminalaw06_BitpackCanonical.j0 k b n w false) true := by
    refine Ev.succ ?_
    simp only [laminalaw06_BitpackCanonical.j0]
    refine Ev.neg (by decide) ?_
    refine Ev.bind (iunp_ev b hb (by omega) n w) ?_
    unfold unp
    by_cases k0 : inr n w = true
    · rw [if_pos k0]
      by_cases k1 : (b.length : Int) < psz n w
      · rw [if_pos k1]
        refine Ev.neg (by decide) ?_
        refine Ev.pos (by decide) ?_
        exact lv
      rw [if_neg k1]
      by_cases k2 : (b.length : Int) > psz n w
      · rw [if_pos k2]
        refine Ev.neg (by decide) ?_
        refine Ev.pos (by decide) ?_
        exact lv
      rw [if_neg k2]
      by_cases k3 : le b < 2 ^ (n.toNat * w.toNat)
      · rw [if_pos k3]
        obtain ⟨j1, j2, j3, j4⟩ := inr_iff.1 k0
        obtain ⟨a, rfl⟩ := Int.eq_ofNat_of_zero_le j1
        obtain ⟨c, rfl⟩ := Int.eq_ofNat_of_zero_le j3
        have hsz := psz_nat a c k0
        have hlen : b.length = pbytes a c := by omega
        simp only [Int.toNat_natCast] at k3 ⊢
        have hul : (unpackN c (le b) a).length = a := unpackN_len c a (le b)
        have hp : packed (unpackN c (le b) a) c = b := by
          unfold packed
          rw [packN_unpackN c a (le b) (by rw [Nat.mul_comm]; exact k3), hul, ← hlen, fixed_le b hb]
        refine Ev.pos (c := (0 : Int) = 0) (f := fun k => if ((unpackN c (le b) a).length : Int) = 0 then ((laminalaw06_lives.f k).bind fun t => (some t)) else (some false)) rfl ?_
        refine Ev.pos (c := ((unpackN c (le b) a).length : Int) = (a : Int)) (by rw [hul]) ?_
        refine Ev.bind0 (ipk_in _ (unpackN_range c (by omega) a (le b)) c (by omega) (by rw [hul]; omega)) ?_
        rw [hp]
        refine Ev.pos (c := (strOfNums b).toList = (strOfNums b).toList) rfl ?_
        exact lv
      · rw [if_neg k3]
        refine Ev.neg (by decide) ?_
        refine Ev.pos (by decide) ?_
        exact lv
    · rw [if_neg k0]
      refine Ev.neg (by decide) ?_
      refine Ev.pos (by decide) ?_
      exact lv
  by_cases h2 : w = 0
  · refine Ev.pos h2 ?_
    by_cases h3 : n > 5000
    · rw [decide_eq_true h3]
      exact lvj
    · rw [decide_eq_false h3]
      exact main
  · refine Ev.neg h2 ?_
    exact main

end Go.Proofs.Ytllhbjkkoogeeaa.Pure
