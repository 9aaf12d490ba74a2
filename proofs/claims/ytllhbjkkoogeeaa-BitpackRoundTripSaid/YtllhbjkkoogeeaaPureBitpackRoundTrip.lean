/- laminalaw06.BitpackRoundTrip returns true for all its arguments (packing with a sufficient width is inverted by Unpack, and each number is found by At). Conditions: none beyond the row's own (slices of at most 2^47 - 4096 bytes). -/
import Derived.Test.YtllhbjkkoogeeaaQBitpackRoundTripx3
import Derived.Test.YtllhbjkkoogeeaaM01
import Derived.Test.YtllhbjkkoogeeaaM02
import Derived.Test.YtllhbjkkoogeeaaM06
set_option linter.unusedVariables false
set_option linter.unusedSimpArgs false
namespace Go.Proofs.Ytllhbjkkoogeeaa.Pure
open Go Go.RowKit Go.Proofs.Ytllhbjkkoogeeaa.QBitpackRoundTrip Go.Proofs.YtllhbjkkoogeeaaW.PrintWords Go.Proofs.YtllhbjkkoogeeaaW.PrintLast Go.Proofs.YtllhbjkkoogeeaaM

/-! ### how many bits -/
def IsLen (n r : Nat) : Prop := n < 2 ^ r ∧ (0 < r → 2 ^ (r - 1) ≤ n)
theorem IsLen.shift {n i r : Nat} (h : IsLen (n / 2 ^ i) r) (hn : 2 ^ i ≤ n) : IsLen n (r + i) := by
  obtain ⟨h1, h2⟩ := h
  have hp : 0 < 2 ^ i := Nat.pow_pos (by decide)
  have h3 : 1 ≤ n / 2 ^ i := (Nat.le_div_iff_mul_le hp).2 (by omega)
  refine ⟨?_, fun _ => ?_⟩
  · rw [Nat.pow_add]
    exact (Nat.div_lt_iff_lt_mul hp).1 h1
  · have hr : 0 < r := by
      rcases Nat.eq_zero_or_pos r with e | e
      · subst e; simp at h1; omega
      · exact e
    have := h2 hr
    rw [show r + i - 1 = (r - 1) + i by omega, Nat.pow_add]
    exact (Nat.le_div_iff_mul_le hp).1 this
def T8 : ByteArray := ⟨#[0, 1, 2, 2, 3, 3, 3, 3, 4, 4, 4, 4, 4, 4, 4, 4, 5, 5, 5, 5, 5, 5, 5, 5, 5, 5, 5, 5, 5, 5, 5, 5, 6, 6, 6, 6, 6, 6, 6, 6, 6, 6, 6, 6, 6, 6, 6, 6, 6, 6, 6, 6, 6, 6, 6, 6, 6, 6, 6, 6, 6, 6, 6, 6, 7, 7, 7, 7, 7, 7, 7, 7, 7, 7, 7, 7, 7, 7, 7, 7, 7, 7, 7, 7, 7, 7, 7, 7, 7, 7, 7, 7, 7, 7, 7, 7, 7, 7, 7, 7, 7, 7, 7, 7, 7, 7, 7, 7, 7, 7, 7, 7, 7, 7, 7, 7, 7, 7, 7, 7, 7, 7, 7, 7, 7, 7, 7, 7, 8, 8, 8, 8, 8, 8, 8, 8, 8, 8, 8, 8, 8, 8, 8, 8, 8, 8, 8, 8, 8, 8, 8, 8, 8, 8, 8, 8, 8, 8, 8, 8, 8, 8, 8, 8, 8, 8, 8, 8, 8, 8, 8, 8, 8, 8, 8, 8, 8, 8, 8, 8, 8, 8, 8, 8, 8, 8, 8, 8, 8, 8, 8, 8, 8, 8, 8, 8, 8, 8, 8, 8, 8, 8, 8, 8, 8, 8, 8, 8, 8, 8, 8, 8, 8, 8, 8, 8, 8, 8, 8, 8, 8, 8, 8, 8, 8, 8, 8, 8, 8, 8, 8, 8, 8, 8, 8, 8, 8, 8, 8, 8, 8, 8, 8, 8, 8, 8, 8, 8, 8, 8, 8, 8, 8, 8, 8, 8]⟩
def J8 (T : ByteArray) (x0 x2 : Int) : Option Int := if x0 ≥ 65536 then (if (x0 / 65536) ≥ 256 then (if 0 ≤ (((x0 / 65536) / 256) % 256) then (if (((x0 / 65536) / 256) % 256) < 256 then (some (wrap64 ((wrap64 ((wrap64 (x2 + 16)) + 8)) + (wrap64 (bt T (((x0 / 65536) / 256) % 256)))))) else (none)) else (none)) else (if 0 ≤ ((x0 / 65536) % 256) then (if ((x0 / 65536) % 256) < 256 then (some (wrap64 ((wrap64 (x2 + 16)) + (wrap64 (bt T ((x0 / 65536) % 256)))))) else (none)) else (none))) else (if x0 ≥ 256 then (if 0 ≤ ((x0 / 256) % 256) then (if ((x0 / 256) % 256) < 256 then (some (wrap64 ((wrap64 (x2 + 8)) + (wrap64 (bt T ((x0 / 256) % 256)))))) else (none)) else (none)) else (if 0 ≤ ((x0) % 256) then (if ((x0) % 256) < 256 then (some (wrap64 (x2 + (wrap64 (bt T ((x0) % 256)))))) else (none)) else (none)))
set_option maxRecDepth 100000 in
theorem j8_eq (x0 x2 : Int) : (fun k => bits_Len64.j0 (k + 1) x0 x2) = fun _ => J8 T8 x0 x2 := rfl
theorem t8_all : ∀ c : Fin 256, 0 ≤ bt T8 (c.val : Int) ∧ bt T8 (c.val : Int) ≤ 8 ∧ c.val < 2 ^ (bt T8 (c.val : Int)).toNat ∧ (0 < (bt T8 (c.val : Int)).toNat → 2 ^ ((bt T8 (c.val : Int)).toNat - 1) ≤ c.val) := by
  decide +kernel
theorem t8_key (c : Nat) (hc : c < 256) : ∃ v : Nat, bt T8 (c : Int) = (v : Int) ∧ v ≤ 8 ∧ IsLen c v := by
  obtain ⟨h0, h1, h2, h3⟩ := t8_all ⟨c, hc⟩
  refine ⟨(bt T8 (c : Int)).toNat, (Int.toNat_of_nonneg h0).symm, ?_, h2, h3⟩
  have h1' : bt T8 (c : Int) ≤ 8 := h1
  omega
theorem len_j0 (n : Nat) (hn : n < 4294967296) (s : Nat) (hs : s ≤ 32) : ∃ r : Nat, IsLen n r ∧ Ev (fun k => bits_Len64.j0 k (n : Int) (s : Int)) ((s + r : Nat) : Int) := by
  by_cases h1 : 65536 ≤ n
  · by_cases h2 : 256 ≤ n / 65536
    · obtain ⟨v, hv, hv8, hi⟩ := t8_key (n / 65536 / 256) (by omega)
      have e : ((n : Int) / 65536 / 256) % 256 = ((n / 65536 / 256 : Nat) : Int) := by omega
      have e2 : wrap64 ((wrap64 ((wrap64 ((s : Int) + 16)) + 8)) + (wrap64 (v : Int))) = ((s + (v + 8 + 16) : Nat) : Int) := by
        rw [w64 ((s : Int) + 16) (by omega) (by omega), w64 ((s : Int) + 16 + 8) (by omega) (by omega), w64 (v : Int) (by omega) (by omega), w64 ((s : Int) + 16 + 8 + v) (by omega) (by omega)]; omega
      refine ⟨v + 8 + 16, IsLen.shift (IsLen.shift hi (by omega)) (by omega), Ev.succ ?_⟩
      rw [j8_eq]
      unfold J8
      rw [e, hv, e2]
      clear hv e e2
      refine Ev.pos (by omega) ?_
      refine Ev.pos (by omega) ?_
      refine Ev.pos (by omega) ?_
      refine Ev.pos (by omega) ?_
      exact Ev.now _
    · obtain ⟨v, hv, hv8, hi⟩ := t8_key (n / 65536) (by omega)
      have e : ((n : Int) / 65536) % 256 = ((n / 65536 : Nat) : Int) := by omega
      have e2 : wrap64 ((wrap64 ((s : Int) + 16)) + (wrap64 (v : Int))) = ((s + (v + 16) : Nat) : Int) := by
        rw [w64 ((s : Int) + 16) (by omega) (by omega), w64 (v : Int) (by omega) (by omega), w64 ((s : Int) + 16 + v) (by omega) (by omega)]; omega
      refine ⟨v + 16, IsLen.shift hi (by omega), Ev.succ ?_⟩
      rw [j8_eq]
      unfold J8
      rw [e, hv, e2]
      clear hv e e2
      refine Ev.pos (by omega) ?_
      refine Ev.neg (by omega) ?_
      refine Ev.pos (by omega) ?_
      refine Ev.pos (by omega) ?_
      exact Ev.now _
  · by_cases h2 : 256 ≤ n
    · obtain ⟨v, hv, hv8, hi⟩ := t8_key (n / 256) (by omega)
      have e : ((n : Int) / 256) % 256 = ((n / 256 : Nat) : Int) := by omega
      have e2 : wrap64 ((wrap64 ((s : Int) + 8)) + (wrap64 (v : Int))) = ((s + (v + 8) : Nat) : Int) := by
        rw [w64 ((s : Int) + 8) (by omega) (by omega), w64 (v : Int) (by omega) (by omega), w64 ((s : Int) + 8 + v) (by omega) (by omega)]; omega
      refine ⟨v + 8, IsLen.shift hi (by omega), Ev.succ ?_⟩
      rw [j8_eq]
      unfold J8
      rw [e, hv, e2]
      clear hv e e2
      refine Ev.neg (by omega) ?_
      refine Ev.pos (by omega) ?_
      refine Ev.pos (by omega) ?_
      refine Ev.pos (by omega) ?_
      exact Ev.now _
    · obtain ⟨v, hv, hv8, hi⟩ := t8_key n (by omega)
      have e : (n : Int) % 256 = (n : Int) := by omega
      have e2 : wrap64 ((s : Int) + (wrap64 (v : Int))) = ((s + v : Nat) : Int) := by
        rw [w64 (v : Int) (by omega) (by omega), w64 ((s : Int) + v) (by omega) (by omega)]; omega
      refine ⟨v, hi, Ev.succ ?_⟩
      rw [j8_eq]
      unfold J8
      rw [e, hv, e2]
      clear hv e e2
      refine Ev.neg (by omega) ?_
      refine Ev.neg (by omega) ?_
      refine Ev.pos (by omega) ?_
      refine Ev.pos (by omega) ?_
      exact Ev.now _
theorem len_ev (n : Nat) (hn : n < 18446744073709551616) : ∃ r : Nat, IsLen n r ∧ Ev (fun k => varint_BitWidth.f k (n : Int)) (r : Int) := by
  by_cases h : 4294967296 ≤ n
  · obtain ⟨r, hr, he⟩ := len_j0 (n / 4294967296) (by omega) 32 (by omega)
    refine ⟨r + 32, IsLen.shift hr (by omega), ?_⟩
    unfold varint_BitWidth.f bits_Len64.f
    have e : (n : Int) / 4294967296 = ((n / 4294967296 : Nat) : Int) := by omega
    refine Ev.bind (a := ((r + 32 : Nat) : Int)) ?_ (Ev.now _)
    refine Ev.pos (by omega) ?_
    rw [e, Nat.add_comm]
    exact he
  · obtain ⟨r, hr, he⟩ := len_j0 n (by omega) 0 (by omega)
    refine ⟨r, hr, ?_⟩
    unfold varint_BitWidth.f bits_Len64.f
    refine Ev.bind (a := (r : Int)) ?_ (Ev.now _)
    refine Ev.neg (by omega) ?_
    rw [Nat.zero_add] at he
    exact he
theorem IsLen.le {n r : Nat} (h : IsLen n r) (i : Nat) (hn : n < 2 ^ i) : r ≤ i := by
  rcases Nat.lt_or_ge i r with h1 | h1
  · have := h.2 (by omega)
    have h2 : 2 ^ i ≤ 2 ^ (r - 1) := Nat.pow_le_pow_right (by decide) (by omega)
    omega
  · exact h1
theorem IsLen.div {n r i : Nat} (h : IsLen n r) (hr : i < r) : IsLen (n / 2 ^ i) (r - i) := by
  have hp : 0 < 2 ^ i := Nat.pow_pos (by decide)
  refine ⟨?_, fun h0 => ?_⟩
  · rw [Nat.div_lt_iff_lt_mul hp, ← Nat.pow_add, show r - i + i = r by omega]
    exact h.1
  · rw [Nat.le_div_iff_mul_le hp, ← Nat.pow_add, show r - i - 1 + i = r - 1 by omega]
    exact h.2 (by omega)
theorem venc_bits : ∀ (f n r : Nat), n < 128 ^ f → IsLen n r → (venc n).length = max 1 ((r + 6) / 7) := by
  intro f
  induction f with
  | zero =>
    intro n r hn h
    have : n = 0 := by simpa using hn
    subst this
    have := h.le 0 (by decide)
    rw [venc_lt (by decide), List.length_singleton]
    omega
  | succ f ih =>
    intro n r hn h
    by_cases c : n < 128
    · have := h.le 7 (by simpa using c)
      rw [venc_lt c, List.length_singleton]
      omega
    · have hr : 7 < r := by
        rcases Nat.lt_or_ge 7 r with h1 | h1
        · exact h1
        · have h2 : 2 ^ r ≤ 2 ^ 7 := Nat.pow_le_pow_right (by decide) h1
          have h3 := h.1
          have h4 : (2 : Nat) ^ 7 = 128 := by decide
          omega
      have hd := h.div hr
      have := ih (n / 128) (r - 7) (by rw [Nat.div_lt_iff_lt_mul (by decide), ← Nat.pow_succ]; exact hn) hd
      rw [venc_ge c, List.length_cons, this]
      omega

/-! ### the reference's BitWidth -/
theorem IsLen.half {n r : Nat} (h : IsLen (n / 2) r) (hn : 0 < n) : IsLen n (r + 1) := by
  obtain ⟨h1, h2⟩ := h
  refine ⟨by rw [Nat.pow_succ]; omega, fun _ => ?_⟩
  rw [Nat.add_sub_cancel]
  rcases Nat.eq_zero_or_pos r with e | e
  · subst e; simp; omega
  · have := h2 e
    have e2 : 2 ^ r = 2 ^ (r - 1) * 2 := by rw [← Nat.pow_succ]; congr 1; omega
    omega
theorem IsLen.uniq {n r s : Nat} (h : IsLen n r) (g : IsLen n s) : r = s := by
  have a := h.le s g.1
  have b := g.le r h.1
  omega

/-! ### widths -/
def bl (n : Nat) : Nat := if n = 0 then 0 else Nat.log2 n + 1
theorem bl_is (n : Nat) : IsLen n (bl n) := by
  unfold bl
  by_cases h : n = 0
  · rw [if_pos h]; exact ⟨by rw [h]; decide, fun h => absurd h (by decide)⟩
  · rw [if_neg h]; exact ⟨Nat.lt_log2_self, fun _ => by rw [Nat.add_sub_cancel]; exact Nat.log2_self_le h⟩
theorem mx_nat (a b : Nat) : mx (a : Int) (b : Int) = ((max a b : Nat) : Int) := by unfold mx; omega
def widF (a : Nat) (l : List Int) : Nat := l.foldl (fun a x => max a (bl x.toNat)) a
def wid (l : List Int) : Nat := widF 0 l
theorem widF_le (B : Nat) : ∀ (l : List Int) (a : Nat), a ≤ B → (∀ x ∈ l, x.toNat < 2 ^ B) → widF a l ≤ B := by
  intro l
  induction l with
  | nil => intro a h _; exact h
  | cons x l ih =>
    intro a h hx
    have := (bl_is x.toNat).le B (hx x List.mem_cons_self)
    exact ih (max a (bl x.toNat)) (by omega) (fun y hy => hx y (List.mem_cons_of_mem _ hy))
theorem widF_ge : ∀ (l : List Int) (a : Nat), a ≤ widF a l ∧ ∀ x ∈ l, x.toNat < 2 ^ widF a l := by
  intro l
  induction l with
  | nil => intro a; exact ⟨Nat.le_refl _, fun x hx => by cases hx⟩
  | cons x l ih =>
    intro a
    obtain ⟨h1, h2⟩ := ih (max a (bl x.toNat))
    refine ⟨by show a ≤ widF (max a (bl x.toNat)) l; omega, fun y hy => ?_⟩
    rcases List.mem_cons.1 hy with rfl | hy
    · exact Nat.lt_of_lt_of_le (bl_is y.toNat).1 (Nat.pow_le_pow_right (by decide) (by show bl y.toNat ≤ widF (max a (bl y.toNat)) l; omega))
    · exact h2 y hy
theorem rd_u64 {l : List Int} (h : ∀ x ∈ l, 0 ≤ x ∧ x < 18446744073709551616) {i : Nat} (hi : i < l.length) : ∃ n : Nat, l.getD i 0 = (n : Int) ∧ n < 18446744073709551616 := by
  have := getD_range h hi
  exact ⟨(l.getD i 0).toNat, by omega, by omega⟩
theorem dropN {α : Type} {l r : List α} {i : Nat} {x : α} (h : l.drop i = x :: r) : i < l.length ∧ l.drop (i + 1) = r := by
  refine ⟨?_, by rw [← List.drop_drop, h]; rfl⟩
  rcases Nat.lt_or_ge i l.length with h1 | h1
  · exact h1
  · rw [List.drop_of_length_le h1] at h; cases h
theorem getD_drop {l r : List Int} {i : Nat} {x : Int} (h : l.drop i = x :: r) : l.getD i 0 = x := by
  rw [List.getD_eq_getElem?_getD, ← List.head?_drop, h]; rfl
theorem iwid_l0 (l : List Int) (hl : l.length ≤ 1000000) (hu : ∀ x ∈ l, 0 ≤ x ∧ x < 18446744073709551616) : ∀ (r : List Int) (i a : Nat), l.drop i = r → Ev (fun k => bitpack_Width.l0 k l (a : Int) (l.length : Int) (i : Int)) ((widF a r : Nat) : Int) := by
  intro r
  induction r with
  | nil =>
    intro i a h
    rw [List.drop_eq_nil_iff] at h
    refine Ev.succ ?_
    simp only [bitpack_Width.l0]
    refine Ev.neg (by omega) ?_
    exact Ev.now _
  | cons x r ih =>
    intro i a h
    obtain ⟨hlt, hn⟩ := dropN h
    obtain ⟨n, hn1, hn2⟩ := rd_u64 hu hlt
    obtain ⟨s, hs, hev⟩ := len_ev n hn2
    have hx := getD_drop h
    have hs2 : s = bl x.toNat := by
      have : x.toNat = n := by omega
      rw [this]; exact hs.uniq (bl_is n)
    refine Ev.succ ?_
    simp only [bitpack_Width.l0, rd_nat, hn1, w64_add1 i (by omega)]
    refine Ev.pos (by omega) ?_
    refine Ev.pos (by omega) ?_
    refine Ev.pos (by omega) ?_
    refine Ev.bind hev ?_
    rw [mx_nat, hs2]
    exact ih (i + 1) _ hn
theorem iwid_ev (l : List Int) (hl : l.length ≤ 1000000) (hu : ∀ x ∈ l, 0 ≤ x ∧ x < 18446744073709551616) : Ev (fun k => bitpack_Width.f k l) ((wid l : Nat) : Int) := iwid_l0 l hl hu l 0 0 rfl
theorem wid_le64 (l : List Int) (hu : ∀ x ∈ l, 0 ≤ x ∧ x < 18446744073709551616) : wid l ≤ 64 := widF_le 64 l 0 (by decide) (fun x hx => by have := hu x hx; omega)

/-! ### sizes, unpacking -/
def inr (n w : Int) : Bool := decide (0 ≤ n) && decide (n ≤ 1048576) && decide (0 ≤ w) && decide (w ≤ 64)
def psz (n w : Int) : Int := if inr n w = true then ((pbytes n.toNat w.toNat : Nat) : Int) else 0
theorem inr_iff {n w : Int} : inr n w = true ↔ 0 ≤ n ∧ n ≤ 1048576 ∧ 0 ≤ w ∧ w ≤ 64 := by
  simp [inr, and_assoc]
theorem iinr (n w : Int) : bitpack_inRange.f n w = some (inr n w) := by
  unfold bitpack_inRange.f inr
  by_cases h1 : n ≥ 0
  · rw [if_pos h1, decide_eq_true (show 0 ≤ n from h1)]
    by_cases h2 : n ≤ 1048576
    · rw [if_pos h2, decide_eq_true h2]
      by_cases h3 : w ≥ 0
      · rw [if_pos h3, decide_eq_true (show 0 ≤ w from h3)]; simp
      · rw [if_neg h3, decide_eq_false (show ¬ 0 ≤ w from h3)]; simp
    · rw [if_neg h2, decide_eq_false h2]; simp
  · rw [if_neg h1, decide_eq_false (show ¬ 0 ≤ n from h1)]; simp
theorem size_wrap (n w : Int) (h : inr n w = true) : wrap64 (Int.tdiv (wrap64 ((wrap64 (n * w)) + 7)) 8) = ((pbytes n.toNat w.toNat : Nat) : Int) := by
  obtain ⟨h1, h2, h3, h4⟩ := inr_iff.1 h
  obtain ⟨a, rfl⟩ := Int.eq_ofNat_of_zero_le h1
  obtain ⟨b, rfl⟩ := Int.eq_ofNat_of_zero_le h3
  have hm : a * b ≤ 1048576 * 64 := Nat.mul_le_mul (by omega) (by omega)
  have e1 : ((a : Int) * (b : Int)) = ((a * b : Nat) : Int) := by simp
  rw [e1, w64 ((a * b : Nat) : Int) (by omega) (by omega), w64 (((a * b : Nat) : Int) + 7) (by omega) (by omega), Int.tdiv_eq_ediv_of_nonneg (by omega), w64 _ (by omega) (by omega)]
  unfold pbytes
  simp
theorem isz (n w : Int) : bitpack_Size.f n w = some (psz n w) := by
  unfold bitpack_Size.f psz
  rw [iinr]
  simp only [Option.bind_some]
  by_cases h : inr n w = true
  · rw [if_pos h, if_pos h, size_wrap n w h]
  · rw [if_neg h, if_neg h]
theorem psz_nat (n w : Nat) (h : inr n w = true) : psz (n : Int) (w : Int) = ((pbytes n w : Nat) : Int) := by unfold psz; rw [if_pos h]; simp
/-- What Unpack answers. -/
def unp (b : List Int) (n w : Int) : List Int × Int :=
  if inr n w = true then (if (b.length : Int) < psz n w then ([], 2) else if (b.length : Int) > psz n w then ([], 3) else if le b < 2 ^ (n.toNat * w.toNat) then (unpackN w.toNat (le b) n.toNat, 0) else ([], 4)) else ([], 1)
theorem iread (b : List Int) (hb : ∀ x ∈ b, 0 ≤ x ∧ x < 256) (hl : b.length ≤ 100000000) (p w : Nat) (hw : w ≤ 64) (hp : p + w ≤ 8 * b.length) : bitpack_read.f b (p : Int) (w : Int) = some ((le b / 2 ^ p % 2 ^ w : Nat) : Int) := by
  unfold bitpack_read.f
  rw [if_pos]
  · simp
  · refine ⟨?_, by omega, by omega, by omega, by omega, by omega⟩
    simp only [okbytes, List.all_eq_true, Bool.and_eq_true, decide_eq_true_eq]
    exact hb
theorem set_unpack (w N : Nat) : ∀ (n i : Nat), i < n → ((unpackN w N i) ++ List.replicate (n - i) (0 : Int)).set i ((N / 2 ^ (i * w) % 2 ^ w : Nat) : Int) = unpackN w N (i + 1) ++ List.replicate (n - (i + 1)) 0 := by
  intro n i hi
  apply List.ext_getElem
  · simp [unpackN_len]; omega
  · intro j h1 h2
    have g : ∀ (m j : Nat) (hj : j < m), (unpackN w N m)[j]'(by rw [unpackN_len]; exact hj) = ((N / 2 ^ (j * w) % 2 ^ w : Nat) : Int) := by
      intro m j hj
      have := unpackN_get w m N j hj
      rw [List.getD_eq_getElem?_getD, List.getElem?_eq_getElem (by rw [unpackN_len]; exact hj)] at this
      simpa using this
    rw [List.getElem_set]
    by_cases hij : i = j
    · subst hij
      rw [if_pos rfl, List.getElem_append_left (by rw [unpackN_len]; omega), g (i + 1) i (by omega)]
    · rw [if_neg hij]
      by_cases hlt : j < i
      · rw [List.getElem_append_left (by rw [unpackN_len]; exact hlt), List.getElem_append_left (by rw [unpackN_len]; omega), g i j hlt, g (i + 1) j (by omega)]
      · rw [List.getElem_append_right (by rw [unpackN_len]; omega), List.getElem_append_right (by rw [unpackN_len]; omega)]
        simp
theorem iunp_l0 (b : List Int) (hb : ∀ x ∈ b, 0 ≤ x ∧ x < 256) (hl : b.length ≤ 100000000) (n w : Nat) (hn : n ≤ 1048576) (hw : w ≤ 64) (hlen : b.length = pbytes n w) :
    ∀ (d i : Nat), i + d = n → Ev (fun k => bitpack_Unpack.l0 k b (w : Int) (unpackN w (le b) i ++ List.replicate (n - i) 0) (n : Int) (i : Int)) (unpackN w (le b) n, 0) := by
  intro d
  induction d with
  | zero =>
    intro i h
    have : i = n := by omega
    subst this
    refine Ev.succ ?_
    simp only [bitpack_Unpack.l0]
    refine Ev.neg (by omega) ?_
    exact Ev.eq (Ev.now _) (by simp)
  | succ d ih =>
    intro i h
    have hm : i * w ≤ 1048576 * 64 := Nat.mul_le_mul (by omega) hw
    have hm2 : i * w + w ≤ n * w := by rw [← Nat.succ_mul]; exact Nat.mul_le_mul_right _ (by omega)
    have e1 : wrap64 ((i : Int) * (w : Int)) = ((i * w : Nat) : Int) := by
      rw [show ((i : Int) * (w : Int)) = ((i * w : Nat) : Int) by simp, w64 _ (by omega) (by omega)]
    refine Ev.succ ?_
    simp only [bitpack_Unpack.l0, e1, w64_add1 i (by omega)]
    refine Ev.pos (by omega) ?_
    refine Ev.bind0 (iread b hb hl (i * w) w hw (by rw [hlen]; unfold pbytes; omega)) ?_
    refine Ev.pos (by omega) ?_
    refine Ev.pos (by simp [unpackN_len]; omega) ?_
    rw [Int.toNat_natCast, set_unpack w (le b) n i (by omega)]
    exact ih (i + 1) (by omega)
theorem iunp_ev (b : List Int) (hb : ∀ x ∈ b, 0 ≤ x ∧ x < 256) (hl : b.length ≤ 100000000) (n w : Int) : Ev (fun k => bitpack_Unpack.f k b n w) (unp b n w) := by
  unfold bitpack_Unpack.f unp
  refine Ev.bind0 (isz n w) ?_
  refine Ev.bind0 (iinr n w) ?_
  by_cases h : inr n w = true
  · refine Ev.pos h ?_
    rw [if_pos h]
    by_cases h1 : (b.length : Int) < psz n w
    · refine Ev.pos h1 ?_
      rw [if_pos h1]; exact Ev.now _
    refine Ev.neg h1 ?_
    rw [if_neg h1]
    by_cases h2 : (b.length : Int) > psz n w
    · refine Ev.pos h2 ?_
      rw [if_pos h2]; exact Ev.now _
    refine Ev.neg h2 ?_
    rw [if_neg h2]
    obtain ⟨k1, k2, k3, k4⟩ := inr_iff.1 h
    obtain ⟨a, rfl⟩ := Int.eq_ofNat_of_zero_le k1
    obtain ⟨c, rfl⟩ := Int.eq_ofNat_of_zero_le k3
    have hsz := psz_nat a c h
    have hlen : b.length = pbytes a c := by omega
    have hm : a * c ≤ 1048576 * 64 := Nat.mul_le_mul (by omega) (by omega)
    have e1 : wrap64 ((a : Int) * (c : Int)) = ((a * c : Nat) : Int) := by
      rw [show ((a : Int) * (c : Int)) = ((a * c : Nat) : Int) by simp, w64 _ (by omega) (by omega)]
    have hpos : 0 ≤ psz (a : Int) (c : Int) := by rw [hsz]; omega
    have e2 : Int.tmod (wrap64 ((a : Int) * (c : Int))) 8 = ((a * c % 8 : Nat) : Int) := by
      rw [e1, Int.tmod_eq_emod_of_nonneg (by omega)]; omega
    have hlt := le_lt b hb
    rw [pow256] at hlt
    have j0f : le b < 2 ^ (a * c) → Ev (fun k => bitpack_Unpack.j0 k b (a : Int) (c : Int) false) (if le b < 2 ^ ((a : Int).toNat * (c : Int).toNat) then (unpackN (c : Int).toNat (le b) (a : Int).toNat, 0) else ([], 4)) := by
      intro hv
      simp only [Int.toNat_natCast]
      rw [if_pos hv]
      refine Ev.succ ?_
      simp only [bitpack_Unpack.j0]
      refine Ev.neg (by decide) ?_
      refine Ev.pos (by omega) ?_
      refine Ev.pos (by omega) ?_
      have := iunp_l0 b hb hl a c (by omega) (by omega) hlen a 0 (by omega)
      simpa [unpackN] using this
    rw [e2]
    by_cases h3 : ((a * c % 8 : Nat) : Int) = 0
    · refine Ev.pos h3 ?_
      exact j0f (Nat.lt_of_lt_of_le hlt (Nat.pow_le_pow_right (by decide) (by rw [hlen]; unfold pbytes; omega)))
    · refine Ev.neg h3 ?_
      have hs1 : wrap64 (psz (a : Int) (c : Int) - 1) = ((a * c / 8 : Nat) : Int) := by
        rw [hsz, w64 _ (by unfold pbytes; omega) (by unfold pbytes; omega)]; unfold pbytes; omega
      rw [hs1]
      have hq : a * c / 8 < b.length := by rw [hlen]; unfold pbytes; omega
      refine Ev.pos (by omega) ?_
      refine Ev.pos (by omega) ?_
      refine Ev.pos (by omega) ?_
      have hby : shr .u8 (rd b ((a * c / 8 : Nat) : Int)) ((a * c % 8 : Nat) : Int) = ((le b / 2 ^ (a * c) : Nat) : Int) := by
        unfold shr
        rw [rd_nat, le_get b _ hb, Int.toNat_natCast, Nat.min_eq_left (by show a * c % 8 ≤ 8; omega), ← pow_cast, ← Int.natCast_ediv]
        congr 1
        have h5 : le b / 256 ^ (a * c / 8) < 256 := by
          rw [pow256, Nat.div_lt_iff_lt_mul (Nat.two_pow_pos _), show 256 = 2 ^ 8 by rfl, ← Nat.pow_add]
          exact Nat.lt_of_lt_of_le hlt (Nat.pow_le_pow_right (by decide) (by rw [hlen]; unfold pbytes; omega))
        rw [Nat.mod_eq_of_lt h5, pow256, Nat.div_div_eq_div_mul, ← Nat.pow_add, show 8 * (a * c / 8) + a * c % 8 = a * c by omega]
      rw [hby]
      by_cases h4 : le b < 2 ^ (a * c)
      · rw [Nat.div_eq_of_lt h4]
        exact j0f h4
      · have h6 : 1 ≤ le b / 2 ^ (a * c) := (Nat.le_div_iff_mul_le (Nat.two_pow_pos _)).2 (by omega)
        rw [show (((le b / 2 ^ (a * c) : Nat) : Int) != 0) = true by rw [bne_iff_ne]; omega]
        simp only [Int.toNat_natCast]
        rw [if_neg h4]
        refine Ev.succ ?_
        simp only [bitpack_Unpack.j0]
        refine Ev.pos (by decide) ?_
        exact Ev.now _
  · refine Ev.neg h ?_
    rw [if_neg h]; exact Ev.now _
/-- What At answers. -/
def atP (b : List Int) (i w : Int) : Int := if w < 1 ∨ w > 64 ∨ i < 0 ∨ i ≥ ((8 * b.length / w.toNat : Nat) : Int) then 0 else ((le b / 2 ^ (i.toNat * w.toNat) % 2 ^ w.toNat : Nat) : Int)
theorem at_div (b : List Int) (hl : b.length ≤ 100000000) (w : Int) (h1 : 1 ≤ w) (h2 : w ≤ 64) : wrap64 (Int.tdiv (wrap64 (8 * (b.length : Int))) w) = ((8 * b.length / w.toNat : Nat) : Int) := by
  obtain ⟨c, rfl⟩ := Int.eq_ofNat_of_zero_le (show 0 ≤ w by omega)
  have h3 : 8 * b.length / c ≤ 8 * b.length := Nat.div_le_self _ _
  rw [w64 (8 * (b.length : Int)) (by omega) (by omega), Int.tdiv_eq_ediv_of_nonneg (by omega), show (8 * (b.length : Int)) = ((8 * b.length : Nat) : Int) by simp, ← Int.natCast_ediv, Int.toNat_natCast]
  exact w64n _ (by omega)
theorem at_in {b : List Int} {i c : Nat} (h : i < 8 * b.length / c) (hc : 0 < c) : i * c + c ≤ 8 * b.length := by
  have h1 : (i + 1) * c ≤ 8 * b.length := (Nat.le_div_iff_mul_le hc).1 h
  rw [Nat.succ_mul] at h1; exact h1

theorem iat_ev (b : List Int) (hb : ∀ x ∈ b, 0 ≤ x ∧ x < 256) (hl : b.length ≤ 100000000) (i w : Int) : bitpack_At.f b i w = some (atP b i w) := by
  unfold bitpack_At.f atP
  by_cases h1 : w < 1
  · rw [if_pos h1, if_pos (.inl h1)]
  rw [if_neg h1]
  by_cases h2 : w > 64
  · rw [if_pos h2, if_pos (.inr (.inl h2))]
  rw [if_neg h2]
  by_cases h3 : i < 0
  · rw [if_pos h3, if_pos (.inr (.inr (.inl h3)))]
  rw [if_neg h3, if_neg (show ¬ w = 0 by omega), at_div b hl w (by omega) (by omega)]
  by_cases h4 : i ≥ ((8 * b.length / w.toNat : Nat) : Int)
  · rw [if_pos h4, if_pos (.inr (.inr (.inr h4)))]
  rw [if_neg h4, if_neg (by omega)]
  obtain ⟨a, rfl⟩ := Int.eq_ofNat_of_zero_le (show 0 ≤ i by omega)
  obtain ⟨c, rfl⟩ := Int.eq_ofNat_of_zero_le (show 0 ≤ w by omega)
  have hin := at_in (b := b) (i := a) (c := c) (Int.ofNat_lt.1 (by have h5 := Int.not_le.1 h4; rwa [Int.toNat_natCast] at h5)) (by omega)
  have e1 : wrap64 ((a : Int) * (c : Int)) = ((a * c : Nat) : Int) := by
    rw [show ((a : Int) * (c : Int)) = ((a * c : Nat) : Int) by simp, w64 _ (by omega) (by omega)]
  rw [e1, iread b hb hl (a * c) c (by omega) hin]
  simp

/-! ### equality of lists -/
theorem eq6_l0 (l : List Int) (hl : l.length ≤ 1000000000) : ∀ (d i : Nat), i + d = l.length → Ev (fun k => laminaref06_Equal.l0 k l l (i : Int)) true := by
  intro d
  induction d with
  | zero =>
    intro i h
    refine Ev.succ ?_
    simp only [laminaref06_Equal.l0]
    refine Ev.neg (by omega) ?_
    refine Ev.succ ?_
    simp only [laminaref06_Equal.j1]
    refine Ev.neg (by decide) ?_
    exact Ev.now _
  | succ d ih =>
    intro i h
    refine Ev.succ ?_
    simp only [laminaref06_Equal.l0]
    refine Ev.pos (by omega) ?_
    rw [decide_eq_true (show (i : Int) < (l.length : Int) by omega)]
    refine Ev.succ ?_
    simp only [laminaref06_Equal.j1, w64_add1 i (by omega)]
    refine Ev.pos (by decide) ?_
    refine Ev.pos (by omega) ?_
    refine Ev.pos (by omega) ?_
    refine Ev.pos (by omega) ?_
    refine Ev.pos trivial ?_
    exact ih (i + 1) (by omega)
theorem eq6_ev (l : List Int) (hl : l.length ≤ 1000000000) : Ev (fun k => laminaref06_Equal.f k l l) true := by
  unfold laminaref06_Equal.f
  refine Ev.pos rfl ?_
  exact eq6_l0 l hl l.length 0 (by omega)
theorem lives_ev : Ev (fun k => laminalaw06_lives.f k) true := Ev.of laminalaw06_lives.mono (k := 200) (by decide +kernel)
theorem unp_len (b : List Int) (n w : Int) : (unp b n w).1.length ≤ 1048576 := by
  unfold unp
  split
  · rename_i h
    have := inr_iff.1 h
    split
    · simp
    · split
      · simp
      · split
        · simp only [unpackN_len]; omega
        · simp
  · simp

/-! ### Pack -/
theorem wf_u64s {l : List Int} (h : ∀ x ∈ l, (Lit.int .u64 x).wf = true) : ∀ x ∈ l, 0 ≤ x ∧ x < 18446744073709551616 := fun x hx => wf_u64 (h x hx)
theorem ipk (l : List Int) (hu : ∀ x ∈ l, 0 ≤ x ∧ x < 18446744073709551616) (w : Int) : bitpack_Pack.f l w = some (if 0 ≤ w ∧ w ≤ 64 ∧ l.length ≤ 1048576 then packed l w.toNat else []) := by
  unfold bitpack_Pack.f
  by_cases h : 0 ≤ w ∧ w ≤ 64 ∧ l.length ≤ 1048576
  · rw [if_pos h, if_pos h, if_pos]
    simp only [List.all_eq_true, Bool.and_eq_true, decide_eq_true_eq]
    exact hu
  · rw [if_neg h, if_neg h]
theorem ipk_in (l : List Int) (hu : ∀ x ∈ l, 0 ≤ x ∧ x < 18446744073709551616) (w : Nat) (hw : w ≤ 64) (hl : l.length ≤ 1048576) : bitpack_Pack.f l (w : Int) = some (packed l w) := by
  rw [ipk l hu, if_pos ⟨by omega, by omega, hl⟩, Int.toNat_natCast]
theorem packed_range (l : List Int) (w : Nat) : ∀ x ∈ packed l w, 0 ≤ x ∧ x < 256 := fixed_range _ _
theorem unpackN_range (w : Nat) (hw : w ≤ 64) : ∀ (n N : Nat), ∀ x ∈ unpackN w N n, 0 ≤ x ∧ x < 18446744073709551616 := by
  intro n
  induction n with
  | zero => intro N x h; cases h
  | succ n ih =>
    intro N x h
    have h1 := mod_lt_pow N w
    have h2 := pow_le_64 w hw
    rcases List.mem_cons.1 h with rfl | h
    · omega
    · exact ih _ x h
theorem unp_packed (l : List Int) (c : Nat) (hc : c ≤ 64) (hl : l.length ≤ 1048576) : unp (packed l c) (l.length : Int) (c : Int) = (unpackN c (packN c l) l.length, 0) := by
  have h0 : inr (l.length : Int) (c : Int) = true := inr_iff.2 ⟨by omega, by omega, by omega, by omega⟩
  unfold unp
  rw [if_pos h0, psz_nat _ _ h0, packed_len, if_neg (by omega), if_neg (by omega), le_packed, if_pos]
  · simp
  · have := packN_lt c l
    rw [Nat.mul_comm] at this
    simpa using this

theorem at_packed (l : List Int) (c i : Nat) (hi : i < l.length) (hu : ∀ x ∈ l, 0 ≤ x ∧ x < 18446744073709551616) (hc : c ≤ 64) (hx : ∀ x ∈ l, x.toNat < 2 ^ c) : atP (packed l c) (i : Int) (c : Int) = l.getD i 0 := by
  have hm : l.getD i 0 ∈ l := by rw [List.getD_eq_getElem?_getD, List.getElem?_eq_getElem hi]; exact List.getElem_mem _
  have h1 := hu _ hm
  have h2 := hx _ hm
  unfold atP
  rcases Nat.eq_zero_or_pos c with h0 | h0
  · subst h0
    rw [if_pos (by omega)]
    rw [Nat.pow_zero] at h2
    omega
  · rw [if_neg, le_packed]
    · rw [Int.toNat_natCast, Int.toNat_natCast, packN_get c l i hi, Nat.mod_eq_of_lt h2]
      omega
    · have h3 : i + 1 ≤ 8 * (packed l c).length / c := by
        rw [Nat.le_div_iff_mul_le h0, packed_len]
        have : (i + 1) * c ≤ l.length * c := Nat.mul_le_mul_right _ hi
        unfold pbytes; omega
      rw [Int.toNat_natCast]
      generalize 8 * (packed l c).length / c = q at h3 ⊢
      omega
theorem BitpackRoundTrip : laminalaw06_BitpackRoundTrip.Pure := by
  intro l a hll hl8 hlw ha
  have hu := wf_u64s hlw
  have lv : Ev (fun k => (laminalaw06_lives.f k).bind fun t => some t) true := Ev.bind lives_ev (Ev.now _)
  refine Ev.rounds (g := fun k => laminalaw06_BitpackRoundTrip.f k l a) ?_
  unfold laminalaw06_BitpackRoundTrip.f
  by_cases h1 : (l.length : Int) > 500
  · refine Ev.pos h1 ?_
    exact lv
  refine Ev.neg h1 ?_
  refine Ev.bind (iwid_ev l (by omega) hu) ?_
  have hw := wid_le64 l hu
  have hge : ∀ x ∈ l, x.toNat < 2 ^ wid l := (widF_ge l 0).2
  have ha' := wf_u8 ha
  obtain ⟨m, rfl⟩ := Int.eq_ofNat_of_zero_le ha'.1
  have ec : mn (wrap64 (((wid l : Nat) : Int) + wrap64 (Int.tmod (m : Int) 8))) 64 = ((min (wid l + m % 8) 64 : Nat) : Int) := by
    rw [Int.tmod_eq_emod_of_nonneg (by omega), w64 ((m : Int) % 8) (by omega) (by omega), w64 _ (by omega) (by omega)]
    unfold mn; omega
  rw [ec]
  obtain ⟨c, hc⟩ : ∃ c : Nat, c = min (wid l + m % 8) 64 := ⟨_, rfl⟩
  rw [← hc]
  have hc64 : c ≤ 64 := by omega
  have hx : ∀ x ∈ l, x.toNat < 2 ^ c := fun x h => Nat.lt_of_lt_of_le (hge x h) (Nat.pow_le_pow_right (by decide) (by omega))
  clear ec hc hge ha' ha
  have hln : (packed l c).length ≤ 100000000 := by
    have hm : l.length * c ≤ 500 * 64 := Nat.mul_le_mul (by omega) hc64
    rw [packed_len]; unfold pbytes; omega
  refine Ev.bind0 (ipk_in l hu c hc64 (by omega)) ?_
  refine Ev.bind (iunp_ev _ (packed_range l c) hln _ _) ?_
  rw [unp_packed l c hc64 (by omega), unpackN_packN c l (fun x h => by have h5 := hu x h; have h6 := hx x h; have := pow_cast c; omega)]
  refine Ev.pos rfl ?_
  refine Ev.bind (eq6_ev l (by omega)) ?_
  refine Ev.pos rfl ?_
  refine Ev.bind0 (isz _ _) ?_
  rw [psz_nat _ _ (inr_iff.2 ⟨by omega, by omega, by omega, by omega⟩), packed_len]
  have hb : ((((pbytes l.length c : Nat) : Int) != ((pbytes l.length c : Nat) : Int)) = false) := by simp
  rw [hb]
  have loop : ∀ (d i : Nat), i + d = l.length → Ev (fun k => laminalaw06_BitpackRoundTrip.l0 k l (c : Int) (packed l c) (i : Int)) true := by
    intro d
    induction d with
    | zero =>
      intro i h
      refine Ev.succ ?_
      simp only [laminalaw06_BitpackRoundTrip.l0]
      refine Ev.neg (by omega) ?_
      exact lv
    | succ d ih =>
      intro i h
      refine Ev.succ ?_
      simp only [laminalaw06_BitpackRoundTrip.l0, w64_add1 i (by omega), rd_nat]
      refine Ev.pos (by omega) ?_
      refine Ev.bind0 (iat_ev _ (packed_range l c) hln _ _) ?_
      refine Ev.pos (by omega) ?_
      refine Ev.pos (at_packed l c i (by omega) hu hc64 hx) ?_
      exact ih (i + 1) (by omega)
  refine Ev.succ ?_
  simp only [laminalaw06_BitpackRoundTrip.j0]
  refine Ev.neg (by decide) ?_
  exact loop l.length 0 (by omega)

end Go.Proofs.Ytllhbjkkoogeeaa.Pure
