/- laminalaw11.FrontcodeEncode returns true for all its arguments (CommonPrefix, Encode and Size return the reference's results). Conditions: none beyond the row's own. -/
import Derived.Test.YteamkjphdiajeaaStFrontcodeEncode
import Derived.Test.YteamkjphdiajeaaM01
import Derived.Test.YteamkjphdiajeaaM02
import Derived.Test.YteamkjphdiajeaaM03
set_option linter.unusedVariables false
set_option linter.unusedSimpArgs false
namespace Go.Proofs.Yteamkjphdiajeaa.Pure
open Go Go.RowKit Go.Proofs.Yteamkjphdiajeaa.QFrontcodeEncode Go.Proofs.YteamkjphdiajeaaW.PrintWords Go.Proofs.YteamkjphdiajeaaW.PrintLast Go.Proofs.YteamkjphdiajeaaM

/-! ### varint.Encode -/
theorem enc_l0 : ∀ (f n : Nat) (acc : List Int), n < 128 ^ (f + 1) → acc.length + f < 1000 → Ev (fun k => varint_Encode.l0 k (n : Int) acc) (acc ++ venc n) := by
  intro f
  induction f with
  | zero =>
    intro n acc hn ha
    have h : n < 128 := by simpa using hn
    refine Ev.succ ?_
    simp only [varint_Encode.l0]
    refine Ev.neg (by omega) ?_
    refine Ev.pos (by omega) ?_
    exact Ev.eq (Ev.now _) (by rw [venc_lt h, show (n : Int) % 256 = n by omega])
  | succ f ih =>
    intro n acc hn ha
    have hn2 : n / 128 < 128 ^ (f + 1) := by
      rw [Nat.div_lt_iff_lt_mul (by decide), ← Nat.pow_succ]; exact hn
    clear hn
    refine Ev.succ ?_
    simp only [varint_Encode.l0]
    by_cases h : n < 128
    · refine Ev.neg (by omega) ?_
      refine Ev.pos (by omega) ?_
      exact Ev.eq (Ev.now _) (by rw [venc_lt h, show (n : Int) % 256 = n by omega])
    · refine Ev.pos (by omega) ?_
      refine Ev.pos (by omega) ?_
      have e : bits .or .u8 ((n : Int) % 256) 128 = ((128 + n % 128 : Nat) : Int) := by
        rw [or_128 _ (by omega) (by omega)]; omega
      have e2 : (n : Int) / 128 = ((n / 128 : Nat) : Int) := by omega
      rw [e, e2]
      have := ih (n / 128) (acc ++ [((128 + n % 128 : Nat) : Int)]) hn2 (by simp; omega)
      rw [venc_ge h]
      simpa using this
theorem enc_ev (n : Nat) (h : n < 18446744073709551616) : Ev (fun k => varint_Encode.f k (n : Int)) (venc n) := by
  have hp : (128 : Nat) ^ (9 + 1) = 1180591620717411303424 := by decide
  have := enc_l0 9 n [] (by omega) (by decide)
  unfold varint_Encode.f
  simpa using this

/-! ### the reference's Encode and Concat -/
theorem renc_l0 : ∀ (f n : Nat) (acc : List Int), n < 128 ^ (f + 1) → n < 18446744073709551616 → acc.length + f < 1000 → Ev (fun k => laminaref01_Encode.l0 k (n : Int) acc) (acc ++ venc n) := by
  intro f
  induction f with
  | zero =>
    intro n acc hn hn6 ha
    have h : n < 128 := by simpa using hn
    refine Ev.succ ?_
    simp only [laminaref01_Encode.l0]
    refine Ev.neg (by omega) ?_
    refine Ev.pos (by omega) ?_
    exact Ev.eq (Ev.now _) (by rw [venc_lt h, show (n : Int) % 256 = n by omega])
  | succ f ih =>
    intro n acc hn hn6 ha
    have hn2 : n / 128 < 128 ^ (f + 1) := by
      rw [Nat.div_lt_iff_lt_mul (by decide), ← Nat.pow_succ]; exact hn
    clear hn
    refine Ev.succ ?_
    simp only [laminaref01_Encode.l0, Int.tdiv_eq_ediv_of_nonneg (show (0 : Int) ≤ n by omega), Int.tmod_eq_emod_of_nonneg (show (0 : Int) ≤ n by omega)]
    by_cases h : n < 128
    · refine Ev.neg (by omega) ?_
      refine Ev.pos (by omega) ?_
      exact Ev.eq (Ev.now _) (by rw [venc_lt h, show (n : Int) % 256 = n by omega])
    · refine Ev.pos (by omega) ?_
      refine Ev.pos (by omega) ?_
      have e : IntKind.u64.wrap (128 + (n : Int) % 128) % 256 = ((128 + n % 128 : Nat) : Int) := by
        rw [wrap_u64_of _ (by omega) (by omega)]; omega
      have e2 : IntKind.u64.wrap ((n : Int) / 128) = ((n / 128 : Nat) : Int) := by rw [wrap_u64_of _ (by omega) (by omega)]; omega
      rw [e, e2]
      have := ih (n / 128) (acc ++ [((128 + n % 128 : Nat) : Int)]) hn2 (by omega) (by simp; omega)
      rw [venc_ge h]
      simpa using this
theorem renc_ev (n : Nat) (h : n < 18446744073709551616) : Ev (fun k => laminaref01_Encode.f k (n : Int)) (venc n) := by
  have hp : (128 : Nat) ^ (9 + 1) = 1180591620717411303424 := by decide
  have := renc_l0 9 n [] (by omega) h (by decide)
  unfold laminaref01_Encode.f
  simpa using this

/-! ### common prefixes -/
def cp : List Int → List Int → Nat
  | x :: a, y :: b => if x = y then cp a b + 1 else 0
  | _, _ => 0
theorem cp_nil (b : List Int) : cp [] b = 0 := rfl
theorem cp_nil2 (a : List Int) : cp a [] = 0 := by cases a <;> rfl
theorem cp_le : ∀ (a b : List Int), cp a b ≤ a.length ∧ cp a b ≤ b.length := by
  intro a
  induction a with
  | nil => intro b; simp [cp]
  | cons x a ih =>
    intro b
    cases b with
    | nil => simp [cp]
    | cons y b =>
      have := ih b
      simp only [cp]
      split <;> simp <;> omega
theorem cp_take : ∀ (a r : List Int) (k : Nat), k ≤ a.length → k ≤ cp a (a.take k ++ r) := by
  intro a
  induction a with
  | nil => intro r k h; simp at h; omega
  | cons x a ih =>
    intro r k h
    cases k with
    | zero => exact Nat.zero_le _
    | succ k =>
      have := ih r k (by simpa using h)
      simp only [List.take_succ_cons, List.cons_append, cp, if_true]
      omega
theorem bt_nat (s : ByteArray) (i : Nat) : bt s (i : Int) = (bytesOf s).getD i 0 := by rw [← rd_bytesOf, rd_nat]
theorem drop_at {l : List Int} {i : Nat} (h : i < l.length) : l.drop i = l.getD i 0 :: l.drop (i + 1) := by
  rw [List.drop_eq_getElem_cons h]; simp [List.getD_eq_getElem?_getD, List.getElem?_eq_getElem h]
theorem tm16 (i : Nat) : Int.tmod (i : Int) 16 = ((i % 16 : Nat) : Int) := by rw [Int.tmod_eq_emod_of_nonneg (by omega)]; omega

theorem icp_l0 (a b : ByteArray) (ha : a.size ≤ 4000000000) : ∀ (d i : Nat), i + d = a.size → Ev (fun k => frontcode_CommonPrefix.l0 k a b (i : Int)) ((i + cp ((bytesOf a).drop i) ((bytesOf b).drop i) : Nat) : Int) := by
  have hA := bytesOf_length a
  have hB := bytesOf_length b
  intro d
  induction d with
  | zero =>
    intro i h
    rw [List.drop_of_length_le (show (bytesOf a).length ≤ i by omega), cp_nil]
    refine Ev.succ ?_
    simp only [frontcode_CommonPrefix.l0]
    refine Ev.neg (by omega) ?_
    exact Ev.now _
  | succ d ih =>
    intro i h
    rw [drop_at (show i < (bytesOf a).length by omega)]
    refine Ev.succ ?_
    simp only [frontcode_CommonPrefix.l0, w64_add1 i (by omega), bt_nat]
    refine Ev.pos (by omega) ?_
    by_cases h1 : i < b.size
    · rw [drop_at (show i < (bytesOf b).length by omega)]
      refine Ev.pos (by omega) ?_
      refine Ev.pos (by omega) ?_
      by_cases h2 : (bytesOf a).getD i 0 = (bytesOf b).getD i 0
      · refine Ev.pos h2 ?_
        refine Ev.eq (ih (i + 1) (by omega)) ?_
        simp only [cp, h2, if_true]
        congr 1; omega
      · refine Ev.neg h2 ?_
        simp only [cp]
        rw [if_neg h2]
        exact Ev.now _
    · refine Ev.neg (by omega) ?_
      rw [List.drop_of_length_le (show (bytesOf b).length ≤ i by omega), cp_nil2]
      exact Ev.now _
theorem icp_ev (a b : ByteArray) (ha : a.size ≤ 4000000000) : Ev (fun k => frontcode_CommonPrefix.f k a b) ((cp (bytesOf a) (bytesOf b) : Nat) : Int) := by
  have := icp_l0 a b ha a.size 0 (by omega)
  unfold frontcode_CommonPrefix.f
  simpa using this

theorem rcp_l0 (a b : ByteArray) (ha : a.size ≤ 4000000000) : ∀ (d i : Nat), i + d = a.size → Ev (fun k => laminaref11_CommonPrefix.l0 k a b (i : Int)) ((i + cp ((bytesOf a).drop i) ((bytesOf b).drop i) : Nat) : Int) := by
  have hA := bytesOf_length a
  have hB := bytesOf_length b
  intro d
  induction d with
  | zero =>
    intro i h
    rw [List.drop_of_length_le (show (bytesOf a).length ≤ i by omega), cp_nil]
    refine Ev.succ ?_
    simp only [laminaref11_CommonPrefix.l0]
    refine Ev.neg (by omega) ?_
    exact Ev.now _
  | succ d ih =>
    intro i h
    rw [drop_at (show i < (bytesOf a).length by omega)]
    refine Ev.succ ?_
    simp only [laminaref11_CommonPrefix.l0, w64_add1 i (by omega), bt_nat]
    refine Ev.pos (by omega) ?_
    by_cases h1 : i < b.size
    · rw [drop_at (show i < (bytesOf b).length by omega)]
      refine Ev.pos (by omega) ?_
      refine Ev.pos (by omega) ?_
      by_cases h2 : (bytesOf a).getD i 0 = (bytesOf b).getD i 0
      · refine Ev.pos h2 ?_
        refine Ev.eq (ih (i + 1) (by omega)) ?_
        simp only [cp, h2, if_true]
        congr 1; omega
      · refine Ev.neg h2 ?_
        simp only [cp]
        rw [if_neg h2]
        exact Ev.now _
    · refine Ev.neg (by omega) ?_
      rw [List.drop_of_length_le (show (bytesOf b).length ≤ i by omega), cp_nil2]
      exact Ev.now _
theorem rcp_ev (a b : ByteArray) (ha : a.size ≤ 4000000000) : Ev (fun k => laminaref11_CommonPrefix.f k a b) ((cp (bytesOf a) (bytesOf b) : Nat) : Int) := by
  have := rcp_l0 a b ha a.size 0 (by omega)
  unfold laminaref11_CommonPrefix.f
  simpa using this

/-! ### encoding -/
def gs (l : List ByteArray) (i : Nat) : ByteArray := rdOf ByteArray.empty l (i : Int)
theorem gs_mem {l : List ByteArray} {i : Nat} (h : i < l.length) : gs l i ∈ l := by
  unfold gs rdOf
  rw [Int.toNat_natCast, List.getD_eq_getElem?_getD, List.getElem?_eq_getElem h]
  exact List.getElem_mem _
theorem gs_drop {l : List ByteArray} {i : Nat} (h : i < l.length) : l.drop i = gs l i :: l.drop (i + 1) := by
  rw [List.drop_eq_getElem_cons h]
  simp [gs, rdOf, List.getD_eq_getElem?_getD, List.getElem?_eq_getElem h]
def shr (l : List ByteArray) (i : Nat) : Nat := if i % 16 = 0 then 0 else cp (bytesOf (gs l (i - 1))) (bytesOf (gs l i))
theorem shr_le (l : List ByteArray) (i : Nat) : shr l i ≤ (gs l i).size := by
  unfold shr
  split
  · exact Nat.zero_le _
  · have := (cp_le (bytesOf (gs l (i - 1))) (bytesOf (gs l i))).2
    rwa [bytesOf_length] at this
def enc1 (l : List ByteArray) (i : Nat) : List Int := venc (shr l i) ++ venc ((gs l i).size - shr l i) ++ (bytesOf (gs l i)).drop (shr l i)
def encN (l : List ByteArray) : Nat → Nat → List Int
  | 0, _ => []
  | d + 1, i => enc1 l i ++ encN l d (i + 1)
def encL (l : List ByteArray) : List Int := encN l l.length 0
structure Sm (l : List ByteArray) : Prop where
  len : l.length ≤ 1000
  size : ∀ s ∈ l, s.size ≤ 1000000
theorem enc1_len {l : List ByteArray} (h : Sm l) {i : Nat} (hi : i < l.length) : (enc1 l i).length ≤ 1000020 := by
  have h1 := h.size _ (gs_mem hi)
  have h2 := shr_le l i
  have h3 := venc_len10 (shr l i) (by omega)
  have h4 := venc_len10 ((gs l i).size - shr l i) (by omega)
  unfold enc1
  rw [List.length_append, List.length_append, List.length_drop, bytesOf_length]
  omega
theorem encN_len {l : List ByteArray} (h : Sm l) : ∀ (d i : Nat), i + d = l.length → (encN l d i).length ≤ d * 1000020 := by
  intro d
  induction d with
  | zero => intro i _; exact Nat.le_refl _
  | succ d ih =>
    intro i hi
    have h1 := enc1_len h (show i < l.length by omega)
    have h2 := ih (i + 1) (by omega)
    simp only [encN, List.length_append]
    omega

theorem ishr_ev {l : List ByteArray} (h : Sm l) {i : Nat} (hi : i < l.length) : Ev (fun k => frontcode_shared.f k l (i : Int)) ((shr l i : Nat) : Int) := by
  have hl := h.len
  unfold frontcode_shared.f shr
  rw [tm16]
  by_cases h1 : i % 16 = 0
  · rw [if_pos h1]
    refine Ev.pos (by omega) ?_
    exact Ev.now _
  · rw [if_neg h1, w64_sub1 i (by omega) (by omega)]
    refine Ev.neg (by omega) ?_
    refine Ev.pos (by omega) ?_
    refine Ev.pos (by omega) ?_
    refine Ev.pos (by omega) ?_
    refine Ev.pos (by omega) ?_
    have h2 := h.size _ (gs_mem (show i - 1 < l.length by omega))
    exact Ev.bind (icp_ev (gs l (i - 1)) (gs l i) (by omega)) (Ev.now _)

theorem rshr_ev {l : List ByteArray} (h : Sm l) {i : Nat} (hi : i < l.length) : Ev (fun k => laminaref11_shared.f k l (i : Int)) ((shr l i : Nat) : Int) := by
  have hl := h.len
  unfold laminaref11_shared.f shr
  rw [tm16]
  by_cases h1 : i % 16 = 0
  · rw [if_pos h1]
    refine Ev.pos (by omega) ?_
    exact Ev.now _
  · rw [if_neg h1, w64_sub1 i (by omega) (by omega)]
    refine Ev.neg (by omega) ?_
    refine Ev.pos (by omega) ?_
    refine Ev.pos (by omega) ?_
    refine Ev.pos (by omega) ?_
    refine Ev.pos (by omega) ?_
    have h2 := h.size _ (gs_mem (show i - 1 < l.length by omega))
    exact Ev.bind (rcp_ev (gs l (i - 1)) (gs l i) (by omega)) (Ev.now _)

theorem ienc_g {l : List ByteArray} (h : Sm l) : ∀ (d i : Nat) (acc : List Int), i + d = l.length → acc.length ≤ i * 1000020 → Ev (fun k => frontcode_Encode.g k l (l.drop i) i acc) (acc ++ encN l d i) := by
  have hl := h.len
  intro d
  induction d with
  | zero =>
    intro i acc hi ha
    rw [List.drop_of_length_le (by omega)]
    simp only [frontcode_Encode.g, encN, List.append_nil]
    exact Ev.now _
  | succ d ih =>
    intro i acc hi ha
    have hlt : i < l.length := by omega
    have h1 := h.size _ (gs_mem hlt)
    have h2 := shr_le l i
    have h3 := venc_len10 (shr l i) (by omega)
    have h4 := venc_len10 ((gs l i).size - shr l i) (by omega)
    have h5 := enc1_len h hlt
    rw [gs_drop hlt]
    simp only [frontcode_Encode.g, encN]
    refine Ev.bind (ishr_ev h hlt) ?_
    refine Ev.pos ⟨by omega, by omega, by omega, by omega⟩ ?_
    refine Ev.bind (enc_ev _ (by omega)) ?_
    rw [show ((gs l i).size : Int) - ((shr l i : Nat) : Int) = (((gs l i).size - shr l i : Nat) : Int) by omega]
    refine Ev.bind (enc_ev _ (by omega)) ?_
    refine Ev.pos ⟨by omega, by omega⟩ ?_
    rw [Int.toNat_natCast]
    refine Ev.eq (ih (i + 1) _ (by omega) ?_) ?_
    · have : (acc ++ venc (shr l i) ++ venc ((gs l i).size - shr l i) ++ (bytesOf (gs l i)).drop (shr l i)) = acc ++ enc1 l i := by simp [enc1]
      rw [this, List.length_append]
      omega
    · simp [enc1]
theorem ienc_ev {l : List ByteArray} (h : Sm l) : Ev (fun k => frontcode_Encode.f k l) (encL l) := by
  have hl := h.len
  unfold frontcode_Encode.f
  refine Ev.pos (by omega) ?_
  exact ienc_g h l.length 0 [] (by omega) (Nat.zero_le _)
theorem isize_l0 {l : List ByteArray} (h : Sm l) : ∀ (d i a : Nat), i + d = l.length → a ≤ i * 1000020 → Ev (fun k => frontcode_Size.l0 k l (a : Int) l (l.length : Int) (i : Int)) ((a + (encN l d i).length : Nat) : Int) := by
  have hl := h.len
  intro d
  induction d with
  | zero =>
    intro i a hi ha
    refine Ev.succ ?_
    simp only [frontcode_Size.l0, encN]
    refine Ev.neg (by omega) ?_
    exact Ev.now _
  | succ d ih =>
    intro i a hi ha
    have hlt : i < l.length := by omega
    have h1 := h.size _ (gs_mem hlt)
    have h2 := shr_le l i
    have h3 := venc_len10 (shr l i) (by omega)
    have h4 := venc_len10 ((gs l i).size - shr l i) (by omega)
    have h5 := enc1_len h hlt
    have he : (enc1 l i).length = (venc (shr l i)).length + (venc ((gs l i).size - shr l i)).length + ((gs l i).size - shr l i) := by
      unfold enc1
      rw [List.length_append, List.length_append, List.length_drop, bytesOf_length]
    have hg : rdOf ByteArray.empty l (i : Int) = gs l i := rfl
    refine Ev.succ ?_
    simp only [frontcode_Size.l0, encN, w64_add1 i (by omega), hg]
    refine Ev.pos (by omega) ?_
    refine Ev.pos (by omega) ?_
    refine Ev.pos (by omega) ?_
    refine Ev.bind (ishr_ev h hlt) ?_
    rw [wraps_u64 ((shr l i : Nat) : Int) (by omega) (by omega)]
    refine Ev.bind (enc_ev _ (by omega)) ?_
    rw [w64 (((gs l i).size : Int) - ((shr l i : Nat) : Int)) (by omega) (by omega), show ((gs l i).size : Int) - ((shr l i : Nat) : Int) = (((gs l i).size - shr l i : Nat) : Int) by omega, wraps_u64 ((((gs l i).size - shr l i : Nat)) : Int) (by omega) (by omega)]
    refine Ev.bind (enc_ev _ (by omega)) ?_
    rw [w64 (((venc (shr l i)).length : Int) + ((venc ((gs l i).size - shr l i)).length : Int)) (by omega) (by omega), w64 (((venc (shr l i)).length : Int) + ((venc ((gs l i).size - shr l i)).length : Int) + ((gs l i).size : Int)) (by omega) (by omega), w64 (((venc (shr l i)).length : Int) + ((venc ((gs l i).size - shr l i)).length : Int) + ((gs l i).size : Int) - ((shr l i : Nat) : Int)) (by omega) (by omega), w64 ((a : Int) + _) (by omega) (by omega)]
    rw [show (a : Int) + (((venc (shr l i)).length : Int) + ((venc ((gs l i).size - shr l i)).length : Int) + ((gs l i).size : Int) - ((shr l i : Nat) : Int)) = ((a + (enc1 l i).length : Nat) : Int) by omega]
    refine Ev.eq (ih (i + 1) (a + (enc1 l i).length) (by omega) (by omega)) ?_
    rw [List.length_append]
    congr 1
    omega
theorem isize_ev {l : List ByteArray} (h : Sm l) : Ev (fun k => frontcode_Size.f k l) (((encL l).length : Nat) : Int) := by
  unfold frontcode_Size.f
  have := isize_l0 h l.length 0 0 (by omega) (Nat.zero_le _)
  rw [Nat.zero_add] at this
  exact this

theorem renc_l {l : List ByteArray} (h : Sm l) : ∀ (d i : Nat) (acc : List Int), i + d = l.length → acc.length ≤ i * 1000020 → Ev (fun k => laminaref11_Encode.l0 k l acc (i : Int)) (acc ++ encN l d i) := by
  have hl := h.len
  intro d
  induction d with
  | zero =>
    intro i acc hi ha
    refine Ev.succ ?_
    simp only [laminaref11_Encode.l0, encN, List.append_nil]
    refine Ev.neg (by omega) ?_
    exact Ev.now _
  | succ d ih =>
    intro i acc hi ha
    have hlt : i < l.length := by omega
    have h1 := h.size _ (gs_mem hlt)
    have h2 := shr_le l i
    have h3 := venc_len10 (shr l i) (by omega)
    have h4 := venc_len10 ((gs l i).size - shr l i) (by omega)
    have h5 := enc1_len h hlt
    have hg : rdOf ByteArray.empty l (i : Int) = gs l i := rfl
    have hB := bytesOf_length (gs l i)
    have inner : ∀ (e j : Nat) (x : List Int), j + e = (gs l i).size → x.length ≤ 100000000000 + j → Ev (fun k => laminaref11_Encode.l1 k l x (i : Int) (j : Int)) (x ++ (bytesOf (gs l i)).drop j ++ encN l d (i + 1)) ∨ ¬ (x ++ (bytesOf (gs l i)).drop j).length ≤ (i + 1) * 1000020 := by
      intro e
      induction e with
      | zero =>
        intro j x hj hx
        by_cases hq : (x ++ (bytesOf (gs l i)).drop j).length ≤ (i + 1) * 1000020
        · left
          rw [List.drop_of_length_le (by omega), List.append_nil] at hq ⊢
          refine Ev.succ ?_
          simp only [laminaref11_Encode.l1, hg, w64_add1 i (by omega)]
          refine Ev.pos (by omega) ?_
          refine Ev.pos (by omega) ?_
          refine Ev.neg (by omega) ?_
          exact ih (i + 1) x (by omega) hq
        · exact .inr hq
      | succ e ihe =>
        intro j x hj hx
        have hd := drop_at (show j < (bytesOf (gs l i)).length by omega)
        rcases ihe (j + 1) (x ++ [(bytesOf (gs l i)).getD j 0]) (by omega) (by simp; omega) with h6 | h6
        · left
          rw [hd]
          refine Ev.succ ?_
          simp only [laminaref11_Encode.l1, hg, w64_add1 j (by omega), bt_nat]
          refine Ev.pos (by omega) ?_
          refine Ev.pos (by omega) ?_
          refine Ev.pos (by omega) ?_
          refine Ev.pos (by omega) ?_
          refine Ev.pos (by omega) ?_
          refine Ev.eq h6 ?_
          simp
        · right
          rw [hd]
          simpa using h6
    refine Ev.succ ?_
    simp only [laminaref11_Encode.l0, encN, hg]
    refine Ev.pos (by omega) ?_
    refine Ev.bind (rshr_ev h hlt) ?_
    rw [wraps_u64 ((shr l i : Nat) : Int) (by omega) (by omega)]
    refine Ev.bind (renc_ev _ (by omega)) ?_
    refine Ev.pos (by omega) ?_
    simp only [Option.bind_some]
    refine Ev.pos (by omega) ?_
    rw [w64 (((gs l i).size : Int) - ((shr l i : Nat) : Int)) (by omega) (by omega), show ((gs l i).size : Int) - ((shr l i : Nat) : Int) = (((gs l i).size - shr l i : Nat) : Int) by omega, wraps_u64 ((((gs l i).size - shr l i : Nat)) : Int) (by omega) (by omega)]
    refine Ev.bind (renc_ev _ (by omega)) ?_
    refine Ev.pos (by rw [List.length_append]; omega) ?_
    have hlen : (acc ++ venc (shr l i) ++ venc ((gs l i).size - shr l i)).length ≤ 100000000000 + shr l i := by rw [List.length_append, List.length_append]; omega
    rcases inner ((gs l i).size - shr l i) (shr l i) (acc ++ venc (shr l i) ++ venc ((gs l i).size - shr l i)) (by omega) hlen with h6 | h6
    · refine Ev.eq h6 ?_
      simp [enc1]
    · exfalso
      apply h6
      have : (acc ++ venc (shr l i) ++ venc ((gs l i).size - shr l i) ++ (bytesOf (gs l i)).drop (shr l i)) = acc ++ enc1 l i := by simp [enc1]
      rw [this, List.length_append]
      omega
theorem rencL_ev {l : List ByteArray} (h : Sm l) : Ev (fun k => laminaref11_Encode.f k l) (encL l) := by
  unfold laminaref11_Encode.f
  exact renc_l h l.length 0 [] (by omega) (Nat.zero_le _)
theorem rsize_ev {l : List ByteArray} (h : Sm l) : Ev (fun k => laminaref11_Size.f k l) (((encL l).length : Nat) : Int) := by
  unfold laminaref11_Size.f
  exact Ev.bind (rencL_ev h) (Ev.now _)

theorem small_l0 (l : List ByteArray) (hl : l.length ≤ 100) : ∀ (d i : Nat), i + d = l.length → ∃ r : Bool, Ev (fun k => laminalaw11_small.l0 k l (l.length : Int) (i : Int)) r ∧ (r = true → ∀ s ∈ l.drop i, s.size ≤ 100) := by
  intro d
  induction d with
  | zero =>
    intro i h
    refine ⟨true, Ev.succ ?_, fun _ s hs => by rw [List.drop_of_length_le (by omega)] at hs; cases hs⟩
    simp only [laminalaw11_small.l0]
    refine Ev.neg (by omega) ?_
    exact Ev.now _
  | succ d ih =>
    intro i h
    have hg : rdOf ByteArray.empty l (i : Int) = gs l i := rfl
    by_cases h1 : ((gs l i).size : Int) > 100
    · refine ⟨false, Ev.succ ?_, fun h => by cases h⟩
      simp only [laminalaw11_small.l0, hg]
      refine Ev.pos (by omega) ?_
      refine Ev.pos (by omega) ?_
      refine Ev.pos (by omega) ?_
      refine Ev.pos h1 ?_
      exact Ev.now _
    · obtain ⟨r, hr, hp⟩ := ih (i + 1) (by omega)
      refine ⟨r, Ev.succ ?_, fun hq s hs => ?_⟩
      · simp only [laminalaw11_small.l0, hg, w64_add1 i (by omega)]
        refine Ev.pos (by omega) ?_
        refine Ev.pos (by omega) ?_
        refine Ev.pos (by omega) ?_
        refine Ev.neg h1 ?_
        exact hr
      · rw [gs_drop (by omega)] at hs
        rcases List.mem_cons.1 hs with rfl | hs
        · omega
        · exact hp hq s hs
theorem small_ev (l : List ByteArray) : ∃ r : Bool, Ev (fun k => laminalaw11_small.f k l) r ∧ (r = true → l.length ≤ 100 ∧ ∀ s ∈ l, s.size ≤ 100) := by
  by_cases h : (l.length : Int) > 100
  · refine ⟨false, ?_, fun h => by cases h⟩
    unfold laminalaw11_small.f
    refine Ev.pos h ?_
    exact Ev.now _
  · obtain ⟨r, hr, hp⟩ := small_l0 l (by omega) l.length 0 (by omega)
    refine ⟨r, ?_, fun hq => ⟨by omega, by simpa using hp hq⟩⟩
    unfold laminalaw11_small.f
    refine Ev.neg h ?_
    exact hr

theorem FrontcodeEncode : laminalaw11_FrontcodeEncode.Pure := by
  intro l a b _ ha _ hb _
  have lv : Ev (fun _ => (laminalaw11_awake.f).bind fun t => some t) true := Ev.now _
  have lvj : Ev (fun k => laminalaw11_FrontcodeEncode.j0 k l a b true) true := by
    refine Ev.succ ?_
    simp only [laminalaw11_FrontcodeEncode.j0]
    refine Ev.pos (by decide) ?_
    exact lv
  refine Ev.rounds (g := fun k => laminalaw11_FrontcodeEncode.f k l a b) ?_
  unfold laminalaw11_FrontcodeEncode.f
  obtain ⟨r, hr, hp⟩ := small_ev l
  refine Ev.bind hr ?_
  cases r with
  | false =>
    refine Ev.neg (by decide) ?_
    exact lvj
  | true =>
    obtain ⟨h1, h2⟩ := hp rfl
    have hS : Sm l := ⟨by omega, fun s hs => by have := h2 s hs; omega⟩
    refine Ev.pos rfl ?_
    by_cases h3 : (a.size : Int) > 100
    · refine Ev.pos h3 ?_
      exact lvj
    refine Ev.neg h3 ?_
    by_cases h4 : (b.size : Int) > 100
    · rw [decide_eq_true h4]
      exact lvj
    rw [decide_eq_false h4]
    refine Ev.succ ?_
    simp only [laminalaw11_FrontcodeEncode.j0]
    refine Ev.neg (by decide) ?_
    refine Ev.bind (icp_ev a b (by omega)) ?_
    refine Ev.bind (rcp_ev a b (by omega)) ?_
    refine Ev.pos rfl ?_
    refine Ev.bind (ienc_ev hS) ?_
    refine Ev.bind (rencL_ev hS) ?_
    refine Ev.pos rfl ?_
    refine Ev.bind (isize_ev hS) ?_
    refine Ev.bind (rsize_ev hS) ?_
    refine Ev.pos rfl ?_
    exact lv

end Go.Proofs.Yteamkjphdiajeaa.Pure
