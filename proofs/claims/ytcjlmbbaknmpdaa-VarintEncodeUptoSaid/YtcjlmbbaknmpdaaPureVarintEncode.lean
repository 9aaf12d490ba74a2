/- laminalaw01.VarintEncode returns true for all its arguments of bulk at most 1048576 (Encode, Concat and BitWidth return the reference's results). Conditions: the statement's own bound on the bulk. -/
import Derived.Test.YtcjlmbbaknmpdaaStVarintEncode
import Derived.Test.YtcjlmbbaknmpdaaM01
import Derived.Test.YtcjlmbbaknmpdaaM02
import Derived.Test.YtcjlmbbaknmpdaaM03
import Derived.Test.YtcjlmbbaknmpdaaM05
set_option linter.unusedVariables false
set_option linter.unusedSimpArgs false
namespace Go.Proofs.Ytcjlmbbaknmpdaa.Pure
open Go Go.RowKit Go.Proofs.Ytcjlmbbaknmpdaa.QVarintEncode Go.Proofs.YtcjlmbbaknmpdaaW.PrintWords Go.Proofs.YtcjlmbbaknmpdaaW.PrintLast Go.Proofs.YtcjlmbbaknmpdaaM

theorem drop_lt {α : Type} {l r : List α} {i : Nat} {x : α} (h : l.drop i = x :: r) : i < l.length := by
  rcases Nat.lt_or_ge i l.length with h1 | h1
  · exact h1
  · rw [List.drop_of_length_le h1] at h; cases h
theorem drop_ge {α : Type} {l : List α} {i : Nat} (h : l.drop i = []) : l.length ≤ i := by
  rwa [List.drop_eq_nil_iff] at h
theorem drop_next {α : Type} {l r : List α} {i : Nat} {x : α} (h : l.drop i = x :: r) : l.drop (i + 1) = r := by
  rw [← List.drop_drop, h]; rfl
theorem drop_mem {α : Type} {l r : List α} {i : Nat} {x : α} (h : l.drop i = x :: r) : x ∈ l := List.mem_of_mem_drop (h ▸ List.mem_cons_self)

/-! ### varint.Encode -/
theorem enc_l0 : ∀ (f n : Nat) (acc : List Int), n < 128 ^ (f + 1) → acc.length + f < 1000 → Ev (fun k => varint_Encode.l0 k (n : Int) acc) (acc ++ venc n) := by
  intro f
  induction f with
  | zero =>
    intro n acc hn ha
    have h : n < 128 := by simpa using hn
    refine Ev.succ ?_
    simp only [varint_Encode.l0]
    refine Ev.neg (by omega) ?_
    refine Ev.pos (by omega) ?_
    exact Ev.eq (Ev.now _) (by rw [venc_lt h, show (n : Int) % 256 = n by omega])
  | succ f ih =>
    intro n acc hn ha
    have hn2 : n / 128 < 128 ^ (f + 1) := by
      rw [Nat.div_lt_iff_lt_mul (by decide), ← Nat.pow_succ]; exact hn
    clear hn
    refine Ev.succ ?_
    simp only [varint_Encode.l0]
    by_cases h : n < 128
    · refine Ev.neg (by omega) ?_
      refine Ev.pos (by omega) ?_
      exact Ev.eq (Ev.now _) (by rw [venc_lt h, show (n : Int) % 256 = n by omega])
    · refine Ev.pos (by omega) ?_
      refine Ev.pos (by omega) ?_
      have e : bits .or .u8 ((n : Int) % 256) 128 = ((128 + n % 128 : Nat) : Int) := by
        rw [or_128 _ (by omega) (by omega)]; omega
      have e2 : (n : Int) / 128 = ((n / 128 : Nat) : Int) := by omega
      rw [e, e2]
      have := ih (n / 128) (acc ++ [((128 + n % 128 : Nat) : Int)]) hn2 (by simp; omega)
      rw [venc_ge h]
      simpa using this
theorem enc_ev (n : Nat) (h : n < 18446744073709551616) : Ev (fun k => varint_Encode.f k (n : Int)) (venc n) := by
  have hp : (128 : Nat) ^ (9 + 1) = 1180591620717411303424 := by decide
  have := enc_l0 9 n [] (by omega) (by decide)
  unfold varint_Encode.f
  simpa using this

/-! ### the reference's Encode and Concat -/
theorem renc_l0 : ∀ (f n : Nat) (acc : List Int), n < 128 ^ (f + 1) → n < 18446744073709551616 → acc.length + f < 1000 → Ev (fun k => laminaref01_Encode.l0 k (n : Int) acc) (acc ++ venc n) := by
  intro f
  induction f with
  | zero =>
    intro n acc hn hn6 ha
    have h : n < 128 := by simpa using hn
    refine Ev.succ ?_
    simp only [laminaref01_Encode.l0]
    refine Ev.neg (by omega) ?_
    refine Ev.pos (by omega) ?_
    exact Ev.eq (Ev.now _) (by rw [venc_lt h, show (n : Int) % 256 = n by omega])
  | succ f ih =>
    intro n acc hn hn6 ha
    have hn2 : n / 128 < 128 ^ (f + 1) := by
      rw [Nat.div_lt_iff_lt_mul (by decide), ← Nat.pow_succ]; exact hn
    clear hn
    refine Ev.succ ?_
    simp only [laminaref01_Encode.l0, Int.tdiv_eq_ediv_of_nonneg (show (0 : Int) ≤ n by omega), Int.tmod_eq_emod_of_nonneg (show (0 : Int) ≤ n by omega)]
    by_cases h : n < 128
    · refine Ev.neg (by omega) ?_
      refine Ev.pos (by omega) ?_
      exact Ev.eq (Ev.now _) (by rw [venc_lt h, show (n : Int) % 256 = n by omega])
    · refine Ev.pos (by omega) ?_
      refine Ev.pos (by omega) ?_
      have e : IntKind.u64.wrap (128 + (n : Int) % 128) % 256 = ((128 + n % 128 : Nat) : Int) := by
        rw [wrap_u64_of _ (by omega) (by omega)]; omega
      have e2 : IntKind.u64.wrap ((n : Int) / 128) = ((n / 128 : Nat) : Int) := by rw [wrap_u64_of _ (by omega) (by omega)]; omega
      rw [e, e2]
      have := ih (n / 128) (acc ++ [((128 + n % 128 : Nat) : Int)]) hn2 (by omega) (by simp; omega)
      rw [venc_ge h]
      simpa using this
theorem renc_ev (n : Nat) (h : n < 18446744073709551616) : Ev (fun k => laminaref01_Encode.f k (n : Int)) (venc n) := by
  have hp : (128 : Nat) ^ (9 + 1) = 1180591620717411303424 := by decide
  have := renc_l0 9 n [] (by omega) h (by decide)
  unfold laminaref01_Encode.f
  simpa using this

theorem drop_getD (x : List Int) (j : Nat) (h : j < x.length) : x.drop j = x.getD j 0 :: x.drop (j + 1) := by
  rw [List.drop_eq_getElem_cons h, List.getD_eq_getElem?_getD, List.getElem?_eq_getElem h]
  rfl
theorem rcat_l1 (l : List (List Int)) (i : Nat) (hi : i < l.length) (hx : (l.getD i []).length < 1000000000) (R : List Int) : ∀ (d j : Nat) (acc : List Int), j + d = (l.getD i []).length → acc.length + d < 1000000000 →
    Ev (fun k => laminaref01_Concat.l0 k l (acc ++ (l.getD i []).drop j) (wrap64 ((i : Int) + 1))) R → Ev (fun k => laminaref01_Concat.l1 k l acc i j) R := by
  have hrd : rd_L1 l (i : Int) = l.getD i [] := by simp [rd_L1]
  intro d
  induction d with
  | zero =>
    intro j acc hj ha h
    refine Ev.succ ?_
    simp only [laminaref01_Concat.l1, hrd]
    refine Ev.pos (by omega) ?_
    refine Ev.pos (by omega) ?_
    refine Ev.neg (by omega) ?_
    rw [List.drop_of_length_le (by omega), List.append_nil] at h
    exact h
  | succ d ih =>
    intro j acc hj ha h
    refine Ev.succ ?_
    simp only [laminaref01_Concat.l1, hrd, w64_add1 j (by omega), rd_nat]
    refine Ev.pos (by omega) ?_
    refine Ev.pos (by omega) ?_
    refine Ev.pos (by omega) ?_
    refine Ev.pos (by omega) ?_
    refine Ev.pos (by omega) ?_
    refine ih (j + 1) _ (by omega) (by simp; omega) ?_
    have e : (l.getD i []).drop j = (l.getD i []).getD j 0 :: (l.getD i []).drop (j + 1) := drop_getD _ j (by omega)
    rw [List.append_assoc, List.singleton_append, ← e]
    exact h
theorem rcat_l0 (l : List (List Int)) (hl : l.length < 1000000000) (hx : ∀ x ∈ l, x.length < 1000000000) : ∀ (r : List (List Int)) (i : Nat) (acc : List Int), l.drop i = r → acc.length + r.flatten.length < 1000000000 →
    Ev (fun k => laminaref01_Concat.l0 k l acc i) (acc ++ r.flatten) := by
  intro r
  induction r with
  | nil =>
    intro i acc h ha
    have := drop_ge h
    refine Ev.succ ?_
    simp only [laminaref01_Concat.l0]
    refine Ev.neg (by omega) ?_
    exact Ev.eq (Ev.now _) (by simp)
  | cons x r ih =>
    intro i acc h ha
    have hlt := drop_lt h
    have hx1 := hx x (drop_mem h)
    have hg : l.getD i [] = x := by rw [List.getD_eq_getElem?_getD, ← List.head?_drop, h]; rfl
    simp only [List.flatten_cons, List.length_append] at ha
    refine Ev.succ ?_
    simp only [laminaref01_Concat.l0]
    refine Ev.pos (by omega) ?_
    refine rcat_l1 l i hlt (by rw [hg]; exact hx1) _ x.length 0 acc (by rw [hg]; omega) (by omega) ?_
    rw [w64_add1 i (by omega), hg, List.drop_zero]
    have := ih (i + 1) (acc ++ x) (drop_next h) (by rw [List.length_append]; omega)
    simpa using this
theorem rcat_ev (l : List (List Int)) (hl : l.length < 1000000000) (hx : ∀ x ∈ l, x.length < 1000000000) (hf : l.flatten.length < 1000000000) : Ev (fun k => laminaref01_Concat.f k l) l.flatten := by
  unfold laminaref01_Concat.f
  have := rcat_l0 l hl hx l 0 [] rfl (by simpa using hf)
  simpa using this

/-! ### varint.Concat -/
theorem cat_l0 (l : List (List Int)) (hl : l.length < 1000000000) : ∀ (r : List (List Int)) (i : Nat) (acc : List Int), l.drop i = r → acc.length + r.flatten.length < 1000000000 →
    Ev (fun k => varint_Concat.l0 k acc l (l.length : Int) i) (acc ++ r.flatten) := by
  intro r
  induction r with
  | nil =>
    intro i acc h ha
    have := drop_ge h
    refine Ev.succ ?_
    simp only [varint_Concat.l0]
    refine Ev.neg (by omega) ?_
    exact Ev.eq (Ev.now _) (by simp)
  | cons x r ih =>
    intro i acc h ha
    have hlt := drop_lt h
    have hg : rd_L1 l (i : Int) = x := by
      have : rd_L1 l (i : Int) = l.getD i [] := by simp [rd_L1]
      rw [this, List.getD_eq_getElem?_getD, ← List.head?_drop, h]; rfl
    simp only [List.flatten_cons, List.length_append] at ha
    refine Ev.succ ?_
    simp only [varint_Concat.l0, hg, w64_add1 i (by omega)]
    refine Ev.pos (by omega) ?_
    refine Ev.pos (by omega) ?_
    refine Ev.pos (by omega) ?_
    refine Ev.pos (by omega) ?_
    have := ih (i + 1) (acc ++ x) (drop_next h) (by rw [List.length_append]; omega)
    simpa using this
theorem cat_ev (l : List (List Int)) (hl : l.length < 1000000000) (hf : l.flatten.length < 1000000000) : Ev (fun k => varint_Concat.f k l) l.flatten := by
  unfold varint_Concat.f
  have := cat_l0 l hl l 0 [] rfl (by simpa using hf)
  simpa using this

/-! ### how many bits -/
def IsLen (n r : Nat) : Prop := n < 2 ^ r ∧ (0 < r → 2 ^ (r - 1) ≤ n)
theorem IsLen.shift {n i r : Nat} (h : IsLen (n / 2 ^ i) r) (hn : 2 ^ i ≤ n) : IsLen n (r + i) := by
  obtain ⟨h1, h2⟩ := h
  have hp : 0 < 2 ^ i := Nat.pow_pos (by decide)
  have h3 : 1 ≤ n / 2 ^ i := (Nat.le_div_iff_mul_le hp).2 (by omega)
  refine ⟨?_, fun _ => ?_⟩
  · rw [Nat.pow_add]
    exact (Nat.div_lt_iff_lt_mul hp).1 h1
  · have hr : 0 < r := by
      rcases Nat.eq_zero_or_pos r with e | e
      · subst e; simp at h1; omega
      · exact e
    have := h2 hr
    rw [show r + i - 1 = (r - 1) + i by omega, Nat.pow_add]
    exact (Nat.le_div_iff_mul_le hp).1 this
def T8 : ByteArray := ⟨#[0, 1, 2, 2, 3, 3, 3, 3, 4, 4, 4, 4, 4, 4, 4, 4, 5, 5, 5, 5, 5, 5, 5, 5, 5, 5, 5, 5, 5, 5, 5, 5, 6, 6, 6, 6, 6, 6, 6, 6, 6, 6, 6, 6, 6, 6, 6, 6, 6, 6, 6, 6, 6, 6, 6, 6, 6, 6, 6, 6, 6, 6, 6, 6, 7, 7, 7, 7, 7, 7, 7, 7, 7, 7, 7, 7, 7, 7, 7, 7, 7, 7, 7, 7, 7, 7, 7, 7, 7, 7, 7, 7, 7, 7, 7, 7, 7, 7, 7, 7, 7, 7, 7, 7, 7, 7, 7, 7, 7, 7, 7, 7, 7, 7, 7, 7, 7, 7, 7, 7, 7, 7, 7, 7, 7, 7, 7, 7, 8, 8, 8, 8, 8, 8, 8, 8, 8, 8, 8, 8, 8, 8, 8, 8, 8, 8, 8, 8, 8, 8, 8, 8, 8, 8, 8, 8, 8, 8, 8, 8, 8, 8, 8, 8, 8, 8, 8, 8, 8, 8, 8, 8, 8, 8, 8, 8, 8, 8, 8, 8, 8, 8, 8, 8, 8, 8, 8, 8, 8, 8, 8, 8, 8, 8, 8, 8, 8, 8, 8, 8, 8, 8, 8, 8, 8, 8, 8, 8, 8, 8, 8, 8, 8, 8, 8, 8, 8, 8, 8, 8, 8, 8, 8, 8, 8, 8, 8, 8, 8, 8, 8, 8, 8, 8, 8, 8, 8, 8, 8, 8, 8, 8, 8, 8, 8, 8, 8, 8, 8, 8, 8, 8, 8, 8, 8, 8]⟩
def J8 (T : ByteArray) (x0 x2 : Int) : Option Int := if x0 ≥ 65536 then (if (x0 / 65536) ≥ 256 then (if 0 ≤ (((x0 / 65536) / 256) % 256) then (if (((x0 / 65536) / 256) % 256) < 256 then (some (wrap64 ((wrap64 ((wrap64 (x2 + 16)) + 8)) + (wrap64 (bt T (((x0 / 65536) / 256) % 256)))))) else (none)) else (none)) else (if 0 ≤ ((x0 / 65536) % 256) then (if ((x0 / 65536) % 256) < 256 then (some (wrap64 ((wrap64 (x2 + 16)) + (wrap64 (bt T ((x0 / 65536) % 256)))))) else (none)) else (none))) else (if x0 ≥ 256 then (if 0 ≤ ((x0 / 256) % 256) then (if ((x0 / 256) % 256) < 256 then (some (wrap64 ((wrap64 (x2 + 8)) + (wrap64 (bt T ((x0 / 256) % 256)))))) else (none)) else (none)) else (if 0 ≤ ((x0) % 256) then (if ((x0) % 256) < 256 then (some (wrap64 (x2 + (wrap64 (bt T ((x0) % 256)))))) else (none)) else (none)))
set_option maxRecDepth 100000 in
theorem j8_eq (x0 x2 : Int) : (fun k => bits_Len64.j0 (k + 1) x0 x2) = fun _ => J8 T8 x0 x2 := rfl
theorem t8_all : ∀ c : Fin 256, 0 ≤ bt T8 (c.val : Int) ∧ bt T8 (c.val : Int) ≤ 8 ∧ c.val < 2 ^ (bt T8 (c.val : Int)).toNat ∧ (0 < (bt T8 (c.val : Int)).toNat → 2 ^ ((bt T8 (c.val : Int)).toNat - 1) ≤ c.val) := by
  decide +kernel
theorem t8_key (c : Nat) (hc : c < 256) : ∃ v : Nat, bt T8 (c : Int) = (v : Int) ∧ v ≤ 8 ∧ IsLen c v := by
  obtain ⟨h0, h1, h2, h3⟩ := t8_all ⟨c, hc⟩
  refine ⟨(bt T8 (c : Int)).toNat, (Int.toNat_of_nonneg h0).symm, ?_, h2, h3⟩
  have h1' : bt T8 (c : Int) ≤ 8 := h1
  omega
theorem len_j0 (n : Nat) (hn : n < 4294967296) (s : Nat) (hs : s ≤ 32) : ∃ r : Nat, IsLen n r ∧ Ev (fun k => bits_Len64.j0 k (n : Int) (s : Int)) ((s + r : Nat) : Int) := by
  by_cases h1 : 65536 ≤ n
  · by_cases h2 : 256 ≤ n / 65536
    · obtain ⟨v, hv, hv8, hi⟩ := t8_key (n / 65536 / 256) (by omega)
      have e : ((n : Int) / 65536 / 256) % 256 = ((n / 65536 / 256 : Nat) : Int) := by omega
      have e2 : wrap64 ((wrap64 ((wrap64 ((s : Int) + 16)) + 8)) + (wrap64 (v : Int))) = ((s + (v + 8 + 16) : Nat) : Int) := by
        rw [w64 ((s : Int) + 16) (by omega) (by omega), w64 ((s : Int) + 16 + 8) (by omega) (by omega), w64 (v : Int) (by omega) (by omega), w64 ((s : Int) + 16 + 8 + v) (by omega) (by omega)]; omega
      refine ⟨v + 8 + 16, IsLen.shift (IsLen.shift hi (by omega)) (by omega), Ev.succ ?_⟩
      rw [j8_eq]
      unfold J8
      rw [e, hv, e2]
      clear hv e e2
      refine Ev.pos (by omega) ?_
      refine Ev.pos (by omega) ?_
      refine Ev.pos (by omega) ?_
      refine Ev.pos (by omega) ?_
      exact Ev.now _
    · obtain ⟨v, hv, hv8, hi⟩ := t8_key (n / 65536) (by omega)
      have e : ((n : Int) / 65536) % 256 = ((n / 65536 : Nat) : Int) := by omega
      have e2 : wrap64 ((wrap64 ((s : Int) + 16)) + (wrap64 (v : Int))) = ((s + (v + 16) : Nat) : Int) := by
        rw [w64 ((s : Int) + 16) (by omega) (by omega), w64 (v : Int) (by omega) (by omega), w64 ((s : Int) + 16 + v) (by omega) (by omega)]; omega
      refine ⟨v + 16, IsLen.shift hi (by omega), Ev.succ ?_⟩
      rw [j8_eq]
      unfold J8
      rw [e, hv, e2]
      clear hv e e2
      refine Ev.pos (by omega) ?_
      refine Ev.neg (by omega) ?_
      refine Ev.pos (by omega) ?_
      refine Ev.pos (by omega) ?_
      exact Ev.now _
  · by_cases h2 : 256 ≤ n
    · obtain ⟨v, hv, hv8, hi⟩ := t8_key (n / 256) (by omega)
      have e : ((n : Int) / 256) % 256 = ((n / 256 : Nat) : Int) := by omega
      have e2 : wrap64 ((wrap64 ((s : Int) + 8)) + (wrap64 (v : Int))) = ((s + (v + 8) : Nat) : Int) := by
        rw [w64 ((s : Int) + 8) (by omega) (by omega), w64 (v : Int) (by omega) (by omega), w64 ((s : Int) + 8 + v) (by omega) (by omega)]; omega
      refine ⟨v + 8, IsLen.shift hi (by omega), Ev.succ ?_⟩
      rw [j8_eq]
      unfold J8
      rw [e, hv, e2]
      clear hv e e2
      refine Ev.neg (by omega) ?_
      refine Ev.pos (by omega) ?_
      refine Ev.pos (by omega) ?_
      refine Ev.pos (by omega) ?_
      exact Ev.now _
    · obtain ⟨v, hv, hv8, hi⟩ := t8_key n (by omega)
      have e : (n : Int) % 256 = (n : Int) := by omega
      have e2 : wrap64 ((s : Int) + (wrap64 (v : Int))) = ((s + v : Nat) : Int) := by
        rw [w64 (v : Int) (by omega) (by omega), w64 ((s : Int) + v) (by omega) (by omega)]; omega
      refine ⟨v, hi, Ev.succ ?_⟩
      rw [j8_eq]
      unfold J8
      rw [e, hv, e2]
      clear hv e e2
      refine Ev.neg (by omega) ?_
      refine Ev.neg (by omega) ?_
      refine Ev.pos (by omega) ?_
      refine Ev.pos (by omega) ?_
      exact Ev.now _
theorem len_ev (n : Nat) (hn : n < 18446744073709551616) : ∃ r : Nat, IsLen n r ∧ Ev (fun k => varint_BitWidth.f k (n : Int)) (r : Int) := by
  by_cases h : 4294967296 ≤ n
  · obtain ⟨r, hr, he⟩ := len_j0 (n / 4294967296) (by omega) 32 (by omega)
    refine ⟨r + 32, IsLen.shift hr (by omega), ?_⟩
    unfold varint_BitWidth.f bits_Len64.f
    have e : (n : Int) / 4294967296 = ((n / 4294967296 : Nat) : Int) := by omega
    refine Ev.bind (a := ((r + 32 : Nat) : Int)) ?_ (Ev.now _)
    refine Ev.pos (by omega) ?_
    rw [e, Nat.add_comm]
    exact he
  · obtain ⟨r, hr, he⟩ := len_j0 n (by omega) 0 (by omega)
    refine ⟨r, hr, ?_⟩
    unfold varint_BitWidth.f bits_Len64.f
    refine Ev.bind (a := (r : Int)) ?_ (Ev.now _)
    refine Ev.neg (by omega) ?_
    rw [Nat.zero_add] at he
    exact he
theorem IsLen.le {n r : Nat} (h : IsLen n r) (i : Nat) (hn : n < 2 ^ i) : r ≤ i := by
  rcases Nat.lt_or_ge i r with h1 | h1
  · have := h.2 (by omega)
    have h2 : 2 ^ i ≤ 2 ^ (r - 1) := Nat.pow_le_pow_right (by decide) (by omega)
    omega
  · exact h1
theorem IsLen.div {n r i : Nat} (h : IsLen n r) (hr : i < r) : IsLen (n / 2 ^ i) (r - i) := by
  have hp : 0 < 2 ^ i := Nat.pow_pos (by decide)
  refine ⟨?_, fun h0 => ?_⟩
  · rw [Nat.div_lt_iff_lt_mul hp, ← Nat.pow_add, show r - i + i = r by omega]
    exact h.1
  · rw [Nat.le_div_iff_mul_le hp, ← Nat.pow_add, show r - i - 1 + i = r - 1 by omega]
    exact h.2 (by omega)
theorem venc_bits : ∀ (f n r : Nat), n < 128 ^ f → IsLen n r → (venc n).length = max 1 ((r + 6) / 7) := by
  intro f
  induction f with
  | zero =>
    intro n r hn h
    have : n = 0 := by simpa using hn
    subst this
    have := h.le 0 (by decide)
    rw [venc_lt (by decide), List.length_singleton]
    omega
  | succ f ih =>
    intro n r hn h
    by_cases c : n < 128
    · have := h.le 7 (by simpa using c)
      rw [venc_lt c, List.length_singleton]
      omega
    · have hr : 7 < r := by
        rcases Nat.lt_or_ge 7 r with h1 | h1
        · exact h1
        · have h2 : 2 ^ r ≤ 2 ^ 7 := Nat.pow_le_pow_right (by decide) h1
          have h3 := h.1
          have h4 : (2 : Nat) ^ 7 = 128 := by decide
          omega
      have hd := h.div hr
      have := ih (n / 128) (r - 7) (by rw [Nat.div_lt_iff_lt_mul (by decide), ← Nat.pow_succ]; exact hn) hd
      rw [venc_ge c, List.length_cons, this]
      omega

/-! ### the reference's BitWidth -/
theorem IsLen.half {n r : Nat} (h : IsLen (n / 2) r) (hn : 0 < n) : IsLen n (r + 1) := by
  obtain ⟨h1, h2⟩ := h
  refine ⟨by rw [Nat.pow_succ]; omega, fun _ => ?_⟩
  rw [Nat.add_sub_cancel]
  rcases Nat.eq_zero_or_pos r with e | e
  · subst e; simp; omega
  · have := h2 e
    have e2 : 2 ^ r = 2 ^ (r - 1) * 2 := by rw [← Nat.pow_succ]; congr 1; omega
    omega
theorem IsLen.uniq {n r s : Nat} (h : IsLen n r) (g : IsLen n s) : r = s := by
  have a := h.le s g.1
  have b := g.le r h.1
  omega

/-! ### BitWidth by the reference -/
theorem rbw_l0 : ∀ (f n : Nat) (acc : Nat), n < 2 ^ f → f ≤ 64 → acc + f ≤ 1000 → ∃ r : Nat, IsLen n r ∧ Ev (fun k => laminaref01_BitWidth.l0 k (n : Int) (acc : Int)) ((acc + r : Nat) : Int) := by
  intro f
  induction f with
  | zero =>
    intro n acc hn hf ha
    have h0 : n = 0 := by simpa using hn
    subst h0
    refine ⟨0, ⟨by decide, fun h => absurd h (by decide)⟩, Ev.succ ?_⟩
    simp only [laminaref01_BitWidth.l0]
    refine Ev.neg (by omega) ?_
    exact Ev.now _
  | succ f ih =>
    intro n acc hn hf ha
    rcases Nat.eq_zero_or_pos n with h0 | h0
    · subst h0
      refine ⟨0, ⟨by decide, fun h => absurd h (by decide)⟩, Ev.succ ?_⟩
      simp only [laminaref01_BitWidth.l0]
      refine Ev.neg (by omega) ?_
      exact Ev.now _
    · have hn2 : n / 2 < 2 ^ f := by rw [Nat.pow_succ] at hn; omega
      have h64 : n < 18446744073709551616 := by
        have : 2 ^ (f + 1) ≤ 2 ^ 64 := Nat.pow_le_pow_right (by decide) hf
        have e : (2 : Nat) ^ 64 = 18446744073709551616 := by decide
        omega
      clear hn
      obtain ⟨r, hr, he⟩ := ih (n / 2) (acc + 1) hn2 (by omega) (by omega)
      refine ⟨r + 1, hr.half h0, Ev.succ ?_⟩
      have e : IntKind.u64.wrap ((n : Int) / 2) = ((n / 2 : Nat) : Int) := by rw [wrap_u64_of _ (by omega) (by omega)]; omega
      simp only [laminaref01_BitWidth.l0, Int.tdiv_eq_ediv_of_nonneg (show (0 : Int) ≤ n by omega), e, w64_add1 acc (by omega)]
      clear e
      refine Ev.pos (by omega) ?_
      refine Ev.eq he ?_
      rw [show acc + 1 + r = acc + (r + 1) by omega]
theorem rbw_ev (n : Nat) (hn : n < 18446744073709551616) : ∃ r : Nat, IsLen n r ∧ Ev (fun k => laminaref01_BitWidth.f k (n : Int)) (r : Int) := by
  obtain ⟨r, hr, he⟩ := rbw_l0 64 n 0 hn (Nat.le_refl _) (by decide)
  refine ⟨r, hr, ?_⟩
  unfold laminaref01_BitWidth.f
  rw [Nat.zero_add] at he
  exact he

theorem awake_ev : Ev (fun k => laminalaw01_awake.f k) true := Ev.of laminalaw01_awake.mono (k := 20) (by decide +kernel)
theorem VarintEncode : laminalaw01_VarintEncode.Pure := by
  intro n0 a b wn ⟨h1l, h1w⟩ h18 ⟨h2l, h2w⟩ h28 hk
  have hn0 := wf_u64 wn
  obtain ⟨n, rfl⟩ := Int.eq_ofNat_of_zero_le hn0.1
  have hn : n < 18446744073709551616 := by omega
  refine Ev.rounds (g := fun k => laminalaw01_VarintEncode.f k n a b) ?_
  unfold laminalaw01_VarintEncode.f
  have hfl : ([a, b, a] : List (List Int)).flatten.length < 1000000000 := by simp; omega
  refine Ev.bind (enc_ev n hn) ?_
  refine Ev.bind (renc_ev n hn) ?_
  refine Ev.pos rfl ?_
  refine Ev.bind (cat_ev [a, b, a] (by simp) hfl) ?_
  refine Ev.bind (rcat_ev [a, b, a] (by simp) (fun x hx => by
    simp only [List.mem_cons, List.not_mem_nil, or_false] at hx
    rcases hx with rfl | rfl | rfl <;> omega) hfl) ?_
  refine Ev.pos rfl ?_
  refine Ev.bind (cat_ev [] (by decide) (by decide)) ?_
  refine Ev.pos (by decide) ?_
  obtain ⟨r, hr, he⟩ := len_ev n hn
  obtain ⟨s, hs, hf⟩ := rbw_ev n hn
  have hrs := hr.uniq hs
  subst hrs
  refine Ev.bind he ?_
  refine Ev.bind hf ?_
  refine Ev.pos rfl ?_
  exact Ev.bind awake_ev (Ev.now _)

end Go.Proofs.Ytcjlmbbaknmpdaa.Pure
