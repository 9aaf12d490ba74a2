/- laminalaw11.FrontcodeCanonical returns true for all its arguments (encoding what Decode returns reproduces the bytes read; Encode of a list is the concatenation of its parts' encodings). Conditions: none beyond the row's own. -/
import Derived.Test.YteamkjphdiajeaaStFrontcodeCanonical
import Derived.Test.YteamkjphdiajeaaM01
import Derived.Test.YteamkjphdiajeaaM02
import Derived.Test.YteamkjphdiajeaaM03
set_option linter.unusedVariables false
set_option linter.unusedSimpArgs false
namespace Go.Proofs.Yteamkjphdiajeaa.Pure
open Go Go.RowKit Go.Proofs.Yteamkjphdiajeaa.QFrontcodeCanonical Go.Proofs.YteamkjphdiajeaaW.PrintWords Go.Proofs.YteamkjphdiajeaaW.PrintLast Go.Proofs.YteamkjphdiajeaaM

/-! ### varint.Decode and the reference's -/
theorem pow_shl (i : Nat) (hi : i ≤ 9) (c : Int) (h0 : 0 ≤ c) (h1 : c * 128 ^ i < 18446744073709551616) : shl .u64 c (7 * (i : Int)) = c * 128 ^ i := by
  have e : min (7 * (i : Int)).toNat 64 = 7 * i := by omega
  have e2 : (2 : Int) ^ (7 * i) = 128 ^ i := by rw [Int.pow_mul]; rfl
  unfold shl
  rw [show IntKind.u64.bits = 64 from rfl, e, e2]
  exact wrap_u64_of _ (Int.mul_nonneg h0 (Int.pow_nonneg (by decide))) h1
theorem dec_j2 (b : List Int) (hlen : b.length < 4611686018427387904) (o i acc c : Nat) (hi : i ≤ 9) (ho : o + i < b.length) (hc : c < 256) (hacc : acc < 128 ^ i) (f : Nat) (hf : i + f = 9)
    (h9 : ¬ (i = 9 ∧ 1 < c))
    (ih : i < 9 → acc + c % 128 * 128 ^ i < 128 ^ (i + 1) → Ev (fun k => varint_Decode.l0 k b o ((acc + c % 128 * 128 ^ i : Nat) : Int) ((i + 1 : Nat) : Int)) (vd b o f (i + 1) (acc + c % 128 * 128 ^ i))) :
    Ev (fun k => varint_Decode.j2 k b o acc i c i false)
      (if i = 9 ∧ 1 < c ∨ 0 < i ∧ c = 0 then (0, 0, 4) else if c < 128 then (((acc + c * 128 ^ i : Nat) : Int), ((o + i + 1 : Nat) : Int), 0) else vd b o f (i + 1) (acc + c % 128 * 128 ^ i)) := by
  have hp : 0 < 128 ^ i := Nat.pow_pos (by decide)
  have hple : 128 ^ i ≤ 128 ^ 9 := Nat.pow_le_pow_right (by decide) hi
  have h9v : (128 : Nat) ^ 9 = 9223372036854775808 := by decide
  have hm : c % 128 * 128 ^ i < 18446744073709551616 := by
    by_cases e : i = 9
    · subst e
      have : c ≤ 1 := by omega
      have : c % 128 ≤ 1 := by omega
      have := Nat.mul_le_mul_right (128 ^ 9) this
      omega
    · have h8 : 128 ^ i ≤ 128 ^ 8 := Nat.pow_le_pow_right (by decide) (by omega)
      have : (128 : Nat) ^ 8 = 72057594037927936 := by decide
      have : c % 128 * 128 ^ i ≤ 127 * 72057594037927936 := Nat.mul_le_mul (by omega) (by omega)
      omega
  have hlow : c % 128 * 128 ^ i + 128 ^ i ≤ 128 ^ (i + 1) := by
    rw [pow128, ← Nat.succ_mul]
    exact Nat.mul_le_mul_right _ (by omega)
  have hs : shl .u64 (IntKind.u64.wrap (Go.bits .and .u8 c 127)) (wrap64 (7 * (i : Int))) = ((c % 128 * 128 ^ i : Nat) : Int) := by
    rw [and_127 _ (by omega) (by omega), w64 _ (by omega) (by omega), wrap_u64_of _ (by omega) (by omega), pow_shl i hi _ (by omega)]
    · push_cast; rfl
    · have : ((c % 128 * 128 ^ i : Nat) : Int) < 18446744073709551616 := by omega
      push_cast at this
      exact this
  have hor : Go.bits .or .u64 acc ((c % 128 * 128 ^ i : Nat) : Int) = ((acc + c % 128 * 128 ^ i : Nat) : Int) := by
    rw [or_add (7 * i) _ _ (by omega) ?_ (by omega) (by omega) (by omega) ?_]
    · push_cast; rfl
    · have e2 : (2 : Int) ^ (7 * i) = ((128 ^ i : Nat) : Int) := by rw [Int.pow_mul]; simp
      rw [e2]; omega
    · have e2 : (2 : Int) ^ (7 * i) = ((128 ^ i : Nat) : Int) := by rw [Int.pow_mul]; simp
      rw [e2]
      push_cast
      exact Int.mul_emod_left _ _
  refine Ev.succ ?_
  simp only [varint_Decode.j2, hs, hor, w64_add1 i (by omega), w64_add_1 o i (by omega)]
  clear hs hor
  refine Ev.neg (by decide) ?_
  refine Ev.pos (by rw [w64 _ (by omega) (by omega)]; omega) ?_
  by_cases h2 : c < 128
  · refine Ev.neg (by omega) ?_
    have hcm : c % 128 = c := Nat.mod_eq_of_lt h2
    by_cases h0 : c = 0
    · refine Ev.pos (by omega) ?_
      by_cases hi0 : 0 < i
      · refine Ev.pos (by omega) ?_
        exact Ev.eq (Ev.now _) (by rw [if_pos (Or.inr ⟨hi0, h0⟩)])
      · refine Ev.neg (by omega) ?_
        exact Ev.eq (Ev.now _) (by rw [if_neg (by omega), if_pos h2, hcm])
    · refine Ev.neg (by omega) ?_
      exact Ev.eq (Ev.now _) (by rw [if_neg (by omega), if_pos h2, hcm])
  · refine Ev.pos (by omega) ?_
    exact Ev.eq (ih (by omega) (by omega)) (by rw [if_neg (by omega), if_neg h2])
theorem dec_l0 (b : List Int) (hb : ∀ x ∈ b, 0 ≤ x ∧ x < 256) (hlen : b.length < 4611686018427387904) (o : Nat) (ho : o ≤ b.length) :
    ∀ (f i acc : Nat), i + f = 10 → acc < 128 ^ i → Ev (fun k => varint_Decode.l0 k b o acc i) (vd b o f i acc) := by
  intro f
  induction f with
  | zero =>
    intro i acc hi ha
    refine Ev.succ ?_
    simp only [varint_Decode.l0]
    refine Ev.neg (by omega) ?_
    exact Ev.now _
  | succ f ih =>
    intro i acc hi ha
    refine Ev.succ ?_
    simp only [varint_Decode.l0, w64_add o i (by omega), rd_nat]
    refine Ev.pos (by omega) ?_
    unfold vd
    by_cases hl : b.length ≤ o + i
    · refine Ev.pos (by omega) ?_
      exact Ev.eq (Ev.now _) (by rw [if_pos hl])
    refine Ev.neg (by omega) ?_
    refine Ev.pos (by omega) ?_
    refine Ev.pos (by omega) ?_
    rw [if_neg hl]
    have hr := getD_range hb (i := o + i) (by omega)
    obtain ⟨c, hc⟩ := Int.eq_ofNat_of_zero_le hr.1
    simp only [hc, Int.toNat_natCast]
    rw [hc] at hr
    have hstep : ¬ (i = 9 ∧ 1 < c) → Ev (fun k => varint_Decode.j2 k b o acc i c i false) (if i = 9 ∧ 1 < c ∨ 0 < i ∧ c = 0 then (0, 0, 4) else if c < 128 then (((acc + c * 128 ^ i : Nat) : Int), ((o + i + 1 : Nat) : Int), 0) else vd b o f (i + 1) (acc + c % 128 * 128 ^ i)) := fun h =>
      dec_j2 b hlen o i acc c (by omega) (by omega) (by omega) ha f (by omega) h (fun h1 h2 => ih (i + 1) _ (by omega) h2)
    by_cases h9 : i = 9
    · refine Ev.pos (by omega) ?_
      by_cases h1 : 1 < c
      · have : decide ((c : Int) > 1) = true := by simp; omega
        rw [this, if_pos (Or.inl ⟨h9, h1⟩)]
        refine Ev.succ ?_
        simp only [varint_Decode.j2]
        refine Ev.pos (by decide) ?_
        exact Ev.now _
      · have : decide ((c : Int) > 1) = false := by simp; omega
        rw [this]
        exact hstep (by omega)
    · refine Ev.neg (by omega) ?_
      exact hstep (by omega)
theorem dec_ev (b : List Int) (hb : ∀ x ∈ b, 0 ≤ x ∧ x < 256) (hlen : b.length < 4611686018427387904) (o : Int) : Ev (fun k => varint_Decode.f k b o) (vdec b o) := by
  unfold varint_Decode.f vdec
  by_cases h0 : o < 0
  · refine Ev.pos h0 ?_
    rw [if_pos (Or.inl h0)]
    refine Ev.succ ?_
    simp only [varint_Decode.j0]
    refine Ev.pos (by decide) ?_
    exact Ev.now _
  refine Ev.neg h0 ?_
  refine Ev.succ ?_
  simp only [varint_Decode.j0]
  by_cases h1 : (b.length : Int) < o
  · refine Ev.pos (by simpa using h1) ?_
    exact Ev.eq (Ev.now _) (by rw [if_pos (Or.inr h1)])
  · refine Ev.neg (by simpa using h1) ?_
    obtain ⟨n, rfl⟩ := Int.eq_ofNat_of_zero_le (show 0 ≤ o by omega)
    rw [if_neg (by omega), Int.toNat_natCast]
    exact dec_l0 b hb hlen n (by omega) 10 0 0 rfl (by decide)

/-! ### varint.Encode -/
theorem enc_l0 : ∀ (f n : Nat) (acc : List Int), n < 128 ^ (f + 1) → acc.length + f < 1000 → Ev (fun k => varint_Encode.l0 k (n : Int) acc) (acc ++ venc n) := by
  intro f
  induction f with
  | zero =>
    intro n acc hn ha
    have h : n < 128 := by simpa using hn
    refine Ev.succ ?_
    simp only [varint_Encode.l0]
    refine Ev.neg (by omega) ?_
    refine Ev.pos (by omega) ?_
    exact Ev.eq (Ev.now _) (by rw [venc_lt h, show (n : Int) % 256 = n by omega])
  | succ f ih =>
    intro n acc hn ha
    have hn2 : n / 128 < 128 ^ (f + 1) := by
      rw [Nat.div_lt_iff_lt_mul (by decide), ← Nat.pow_succ]; exact hn
    clear hn
    refine Ev.succ ?_
    simp only [varint_Encode.l0]
    by_cases h : n < 128
    · refine Ev.neg (by omega) ?_
      refine Ev.pos (by omega) ?_
      exact Ev.eq (Ev.now _) (by rw [venc_lt h, show (n : Int) % 256 = n by omega])
    · refine Ev.pos (by omega) ?_
      refine Ev.pos (by omega) ?_
      have e : bits .or .u8 ((n : Int) % 256) 128 = ((128 + n % 128 : Nat) : Int) := by
        rw [or_128 _ (by omega) (by omega)]; omega
      have e2 : (n : Int) / 128 = ((n / 128 : Nat) : Int) := by omega
      rw [e, e2]
      have := ih (n / 128) (acc ++ [((128 + n % 128 : Nat) : Int)]) hn2 (by simp; omega)
      rw [venc_ge h]
      simpa using this
theorem enc_ev (n : Nat) (h : n < 18446744073709551616) : Ev (fun k => varint_Encode.f k (n : Int)) (venc n) := by
  have hp : (128 : Nat) ^ (9 + 1) = 1180591620717411303424 := by decide
  have := enc_l0 9 n [] (by omega) (by decide)
  unfold varint_Encode.f
  simpa using this

/-! ### common prefixes -/
def cp : List Int → List Int → Nat
  | x :: a, y :: b => if x = y then cp a b + 1 else 0
  | _, _ => 0
theorem cp_nil (b : List Int) : cp [] b = 0 := rfl
theorem cp_nil2 (a : List Int) : cp a [] = 0 := by cases a <;> rfl
theorem cp_le : ∀ (a b : List Int), cp a b ≤ a.length ∧ cp a b ≤ b.length := by
  intro a
  induction a with
  | nil => intro b; simp [cp]
  | cons x a ih =>
    intro b
    cases b with
    | nil => simp [cp]
    | cons y b =>
      have := ih b
      simp only [cp]
      split <;> simp <;> omega
theorem cp_take : ∀ (a r : List Int) (k : Nat), k ≤ a.length → k ≤ cp a (a.take k ++ r) := by
  intro a
  induction a with
  | nil => intro r k h; simp at h; omega
  | cons x a ih =>
    intro r k h
    cases k with
    | zero => exact Nat.zero_le _
    | succ k =>
      have := ih r k (by simpa using h)
      simp only [List.take_succ_cons, List.cons_append, cp, if_true]
      omega
theorem bt_nat (s : ByteArray) (i : Nat) : bt s (i : Int) = (bytesOf s).getD i 0 := by rw [← rd_bytesOf, rd_nat]
theorem drop_at {l : List Int} {i : Nat} (h : i < l.length) : l.drop i = l.getD i 0 :: l.drop (i + 1) := by
  rw [List.drop_eq_getElem_cons h]; simp [List.getD_eq_getElem?_getD, List.getElem?_eq_getElem h]
theorem tm16 (i : Nat) : Int.tmod (i : Int) 16 = ((i % 16 : Nat) : Int) := by rw [Int.tmod_eq_emod_of_nonneg (by omega)]; omega

theorem icp_l0 (a b : ByteArray) (ha : a.size ≤ 4000000000) : ∀ (d i : Nat), i + d = a.size → Ev (fun k => frontcode_CommonPrefix.l0 k a b (i : Int)) ((i + cp ((bytesOf a).drop i) ((bytesOf b).drop i) : Nat) : Int) := by
  have hA := bytesOf_length a
  have hB := bytesOf_length b
  intro d
  induction d with
  | zero =>
    intro i h
    rw [List.drop_of_length_le (show (bytesOf a).length ≤ i by omega), cp_nil]
    refine Ev.succ ?_
    simp only [frontcode_CommonPrefix.l0]
    refine Ev.neg (by omega) ?_
    exact Ev.now _
  | succ d ih =>
    intro i h
    rw [drop_at (show i < (bytesOf a).length by omega)]
    refine Ev.succ ?_
    simp only [frontcode_CommonPrefix.l0, w64_add1 i (by omega), bt_nat]
    refine Ev.pos (by omega) ?_
    by_cases h1 : i < b.size
    · rw [drop_at (show i < (bytesOf b).length by omega)]
      refine Ev.pos (by omega) ?_
      refine Ev.pos (by omega) ?_
      by_cases h2 : (bytesOf a).getD i 0 = (bytesOf b).getD i 0
      · refine Ev.pos h2 ?_
        refine Ev.eq (ih (i + 1) (by omega)) ?_
        simp only [cp, h2, if_true]
        congr 1; omega
      · refine Ev.neg h2 ?_
        simp only [cp]
        rw [if_neg h2]
        exact Ev.now _
    · refine Ev.neg (by omega) ?_
      rw [List.drop_of_length_le (show (bytesOf b).length ≤ i by omega), cp_nil2]
      exact Ev.now _
theorem icp_ev (a b : ByteArray) (ha : a.size ≤ 4000000000) : Ev (fun k => frontcode_CommonPrefix.f k a b) ((cp (bytesOf a) (bytesOf b) : Nat) : Int) := by
  have := icp_l0 a b ha a.size 0 (by omega)
  unfold frontcode_CommonPrefix.f
  simpa using this

/-! ### one string -/
theorem vdec_ok {b : List Int} (hb : ∀ x ∈ b, 0 ≤ x ∧ x < 256) {o v t : Int} (h : vdec b o = (v, t, 0)) : ∃ n : Nat, v = (n : Int) ∧ n < 18446744073709551616 ∧ 0 ≤ o ∧ t = o + ((venc n).length : Int) ∧ t ≤ (b.length : Int) ∧ (b.drop o.toNat).take (venc n).length = venc n := by
  unfold vdec at h
  split at h
  · cases h
  · rename_i ho
    obtain ⟨n, h1, h2, _, h3, h4, h5⟩ := vd_ok o.toNat b hb 10 0 0 v t rfl h
    refine ⟨n, by simpa using h1, by simpa using h2, by omega, by omega, by omega, by simpa using h5⟩
def txt (b : List Int) (s : ByteArray) (k m at_ : Int) : ByteArray := strOfNums ((bytesOf s).take k.toNat ++ (b.drop at_.toNat).take m.toNat)
def nx (b : List Int) (o : Int) (i : Nat) (s : ByteArray) : ByteArray × Int × Int :=
  let d1 := vdec b o
  if d1.2.2 = 0 then
    (if d1.1 > (s.size : Int) ∨ (i % 16 = 0 ∧ d1.1 > 0) then (⟨#[]⟩, 0, 4) else
      let d2 := vdec b d1.2.1
      if d2.2.2 = 0 then
        (if d2.1 > (b.length : Int) - d2.2.1 then (⟨#[]⟩, 0, 2) else
          if i % 16 = 0 then (txt b s d1.1 d2.1 d2.2.1, d2.2.1 + d2.1, 0) else
            if (cp (bytesOf s) (bytesOf (txt b s d1.1 d2.1 d2.2.1)) : Int) > d1.1 then (⟨#[]⟩, 0, 4) else (txt b s d1.1 d2.1 d2.2.1, d2.2.1 + d2.1, 0))
      else (⟨#[]⟩, 0, d2.2.2))
  else (⟨#[]⟩, 0, d1.2.2)
theorem vdec_rng {b : List Int} (hb : ∀ x ∈ b, 0 ≤ x ∧ x < 256) {o : Int} (h : (vdec b o).2.2 = 0) : 0 ≤ (vdec b o).1 ∧ (vdec b o).1 < 18446744073709551616 ∧ 0 ≤ (vdec b o).2.1 ∧ (vdec b o).2.1 ≤ (b.length : Int) := by
  obtain ⟨v, t, e, hv⟩ : ∃ v t e, vdec b o = (v, t, e) := ⟨_, _, _, rfl⟩
  rw [hv] at h ⊢
  simp only at h
  subst h
  obtain ⟨n, h1, h2, h3, h4, h5, _⟩ := vdec_ok hb hv
  refine ⟨by omega, by omega, by simp only; omega, by simpa using h5⟩
theorem str_data (l : List Int) : bytesOf (strOfNums l) = l.map fun n => (((UInt8.ofNat n.toNat).toNat : Nat) : Int) := by
  unfold bytesOf
  rw [strOfNums_data, List.map_map]; rfl
theorem bytes_str (l : List Int) (h : ∀ x ∈ l, 0 ≤ x ∧ x < 256) : bytesOf (strOfNums l) = l := by
  rw [str_data]
  induction l with
  | nil => rfl
  | cons c l ih =>
    have hc := h c List.mem_cons_self
    rw [List.map_cons, ih (fun x hx => h x (List.mem_cons_of_mem _ hx))]
    congr 1
    simp [UInt8.ofNat, UInt8.toNat]
    omega
theorem bytesOf_range (s : ByteArray) : ∀ x ∈ bytesOf s, 0 ≤ x ∧ x < 256 := by
  intro x hx
  unfold bytesOf at hx
  obtain ⟨c, _, rfl⟩ := List.mem_map.1 hx
  have := c.toNat_lt
  omega
theorem ba_ext {a b : ByteArray} (h : bytesOf a = bytesOf b) : a = b := by
  have hinj : ∀ (x y : List UInt8), (x.map fun c => (c.toNat : Int)) = (y.map fun c => (c.toNat : Int)) → x = y := by
    intro x
    induction x with
    | nil => intro y h; cases y with
      | nil => rfl
      | cons c y => simp at h
    | cons c x ih => intro y h; cases y with
      | nil => simp at h
      | cons d y =>
        simp only [List.map_cons, List.cons.injEq] at h
        have h1 := h.1
        rw [ih y h.2, show c = d from UInt8.toNat_inj.1 (by omega)]
  obtain ⟨a⟩ := a
  obtain ⟨b⟩ := b
  have := hinj a.toList b.toList h
  rw [Array.toList_inj.1 this]
theorem txt_range (b : List Int) (hb : ∀ x ∈ b, 0 ≤ x ∧ x < 256) (s : ByteArray) (k m at_ : Int) : bytesOf (txt b s k m at_) = (bytesOf s).take k.toNat ++ (b.drop at_.toNat).take m.toNat := by
  unfold txt
  refine bytes_str _ (fun x hx => ?_)
  rcases List.mem_append.1 hx with h | h
  · exact bytesOf_range s x (List.mem_of_mem_take h)
  · exact hb x (List.mem_of_mem_drop (List.mem_of_mem_take h))
theorem txt_size (b : List Int) (s : ByteArray) (k m at_ : Int) : (txt b s k m at_).size ≤ s.size + b.length := by
  unfold txt
  rw [strOfNums_size, List.length_append, List.length_take, List.length_take, List.length_drop, bytesOf_length]
  omega
theorem nx_size (b : List Int) (o : Int) (i : Nat) (s : ByteArray) : (nx b o i s).1.size ≤ s.size + b.length := by
  have h := txt_size b s
  unfold nx
  simp only
  split
  · split
    · exact Nat.zero_le _
    · split
      · split
        · exact Nat.zero_le _
        · split
          · exact h _ _ _
          · split
            · exact Nat.zero_le _
            · exact h _ _ _
      · exact Nat.zero_le _
  · exact Nat.zero_le _

theorem inx_ev (b : List Int) (hb : ∀ x ∈ b, 0 ≤ x ∧ x < 256) (hl : b.length ≤ 1000000) (o : Int) (i : Nat) (hi : i ≤ 1000000) (s : ByteArray) (hs : s.size ≤ 900000000) : Ev (fun k => frontcode_next.f k b o (i : Int) s) (nx b o i s) := by
  unfold frontcode_next.f nx
  refine Ev.pos ⟨by omega, by omega, by omega, by omega⟩ ?_
  simp only [tm16]
  refine Ev.bind (dec_ev b hb (by omega) o) ?_
  by_cases h1 : (vdec b o).2.2 = 0
  · obtain ⟨r1, r2, r3, r4⟩ := vdec_rng hb h1
    refine Ev.pos h1 ?_
    rw [if_pos h1]
    refine Ev.pos ⟨r1, r2⟩ ?_
    by_cases h2 : (vdec b o).1 > (s.size : Int) ∨ (i % 16 = 0 ∧ (vdec b o).1 > 0)
    · rw [if_pos h2]
      refine Ev.pos (by omega) ?_
      exact Ev.now _
    · rw [if_neg h2]
      refine Ev.neg (by omega) ?_
      refine Ev.bind (dec_ev b hb (by omega) _) ?_
      by_cases h3 : (vdec b (vdec b o).2.1).2.2 = 0
      · obtain ⟨q1, q2, q3, q4⟩ := vdec_rng hb h3
        refine Ev.pos h3 ?_
        rw [if_pos h3]
        refine Ev.pos ⟨q1, q2, q3, q4⟩ ?_
        by_cases h4 : (vdec b (vdec b o).2.1).1 > (b.length : Int) - (vdec b (vdec b o).2.1).2.1
        · refine Ev.pos h4 ?_
          rw [if_pos h4]
          exact Ev.now _
        · refine Ev.neg h4 ?_
          rw [if_neg h4]
          by_cases h5 : i % 16 = 0
          · refine Ev.pos (by omega) ?_
            rw [if_pos h5]
            exact Ev.now _
          · refine Ev.neg (by omega) ?_
            rw [if_neg h5]
            refine Ev.bind (icp_ev s _ (by omega)) ?_
            by_cases h6 : (cp (bytesOf s) (bytesOf (txt b s (vdec b o).1 (vdec b (vdec b o).2.1).1 (vdec b (vdec b o).2.1).2.1)) : Int) > (vdec b o).1
            · rw [if_pos h6]
              refine Ev.pos h6 ?_
              exact Ev.now _
            · rw [if_neg h6]
              refine Ev.neg h6 ?_
              exact Ev.now _
      · refine Ev.neg h3 ?_
        rw [if_neg h3]
        exact Ev.now _
  · refine Ev.neg h1 ?_
    rw [if_neg h1]
    exact Ev.now _

/-! ### lists of strings -/
def dl (b : List Int) : Nat → Nat → Int → ByteArray → List ByteArray → List ByteArray × Int × Int
  | 0, _, o, _, acc => (acc, o, 0)
  | d + 1, i, o, s, acc => if (nx b o i s).2.2 = 0 then dl b d (i + 1) (nx b o i s).2.1 (nx b o i s).1 (acc ++ [(nx b o i s).1]) else ([], 0, (nx b o i s).2.2)
def dcd (b : List Int) (o n : Int) : List ByteArray × Int × Int := if 0 ≤ o ∧ o ≤ (b.length : Int) ∧ 0 ≤ n ∧ n ≤ 65536 then dl b n.toNat 0 o ⟨#[]⟩ [] else ([], 0, 1)
theorem dl_len (b : List Int) : ∀ (d i : Nat) (o : Int) (s : ByteArray) (acc : List ByteArray), (dl b d i o s acc).1.length ≤ acc.length + d := by
  intro d
  induction d with
  | zero => intro i o s acc; exact Nat.le_refl _
  | succ d ih =>
    intro i o s acc
    simp only [dl]
    split
    · have := ih (i + 1) (nx b o i s).2.1 (nx b o i s).1 (acc ++ [(nx b o i s).1])
      simp only [List.length_append, List.length_cons, List.length_nil] at this
      omega
    · exact Nat.zero_le _
theorem dcd_len (b : List Int) (o n : Int) : (dcd b o n).1.length ≤ 65536 := by
  unfold dcd
  split
  · have := dl_len b n.toNat 0 o ⟨#[]⟩ []
    simp only [List.length_nil] at this
    omega
  · exact Nat.zero_le _
theorem step_size (b : List Int) (hl : b.length ≤ 13000) (o : Int) (i : Nat) (s : ByteArray) (hs : s.size ≤ i * 13000) : (nx b o i s).1.size ≤ (i + 1) * 13000 := by
  have := nx_size b o i s
  omega

theorem idl_ev (b : List Int) (hb : ∀ x ∈ b, 0 ≤ x ∧ x < 256) (hl : b.length ≤ 13000) (n : Nat) (hn : n ≤ 65536) : ∀ (d i : Nat) (o : Int) (s : ByteArray) (acc : List ByteArray), i + d = n → s.size ≤ i * 13000 → acc.length = i →
    Ev (fun k => frontcode_Decode.l0 k b o acc s (n : Int) (i : Int)) (dl b d i o s acc) := by
  intro d
  induction d with
  | zero =>
    intro i o s acc h hs ha
    refine Ev.succ ?_
    simp only [frontcode_Decode.l0]
    refine Ev.neg (by omega) ?_
    exact Ev.now _
  | succ d ih =>
    intro i o s acc h hs ha
    have hst := step_size b hl o i s hs
    refine Ev.succ ?_
    simp only [frontcode_Decode.l0, w64_add1 i (by omega), dl]
    refine Ev.pos (by omega) ?_
    refine Ev.bind (inx_ev b hb (by omega) o i (by omega) s (by omega)) ?_
    by_cases h1 : (nx b o i s).2.2 = 0
    · rw [if_pos h1]
      refine Ev.pos h1 ?_
      refine Ev.pos (by omega) ?_
      exact ih (i + 1) _ _ _ (by omega) hst (by simp [ha])
    · rw [if_neg h1]
      refine Ev.neg h1 ?_
      exact Ev.now _
theorem ival (b : List Int) (o n : Int) : frontcode_valid.f b o n = some (decide (0 ≤ o ∧ o ≤ (b.length : Int) ∧ 0 ≤ n ∧ n ≤ 65536)) := by
  unfold frontcode_valid.f
  by_cases h1 : o ≥ 0
  · rw [if_pos h1]
    by_cases h2 : o ≤ (b.length : Int)
    · rw [if_pos h2]
      by_cases h3 : n ≥ 0
      · rw [if_pos h3]
        congr 1
        exact decide_eq_decide.2 ⟨fun h => ⟨h1, h2, h3, h⟩, fun h => h.2.2.2⟩
      · rw [if_neg h3, decide_eq_false (fun h => h3 h.2.2.1)]
    · rw [if_neg h2, decide_eq_false (fun h => h2 h.2.1)]
  · rw [if_neg h1, decide_eq_false (fun h => h1 h.1)]
theorem idcd_ev (b : List Int) (hb : ∀ x ∈ b, 0 ≤ x ∧ x < 256) (hl : b.length ≤ 13000) (o n : Int) : Ev (fun k => frontcode_Decode.f k b o n) (dcd b o n) := by
  unfold frontcode_Decode.f dcd
  refine Ev.bind0 (ival b o n) ?_
  by_cases h : 0 ≤ o ∧ o ≤ (b.length : Int) ∧ 0 ≤ n ∧ n ≤ 65536
  · rw [if_pos h]
    refine Ev.pos (decide_eq_true h) ?_
    obtain ⟨m, rfl⟩ := Int.eq_ofNat_of_zero_le h.2.2.1
    rw [Int.toNat_natCast]
    exact idl_ev b hb hl m (by omega) m 0 o _ [] (by omega) (Nat.zero_le _) rfl
  · rw [if_neg h]
    refine Ev.neg (by rw [decide_eq_false h]; decide) ?_
    exact Ev.now _

/-! ### encoding -/
def gs (l : List ByteArray) (i : Nat) : ByteArray := rdOf ByteArray.empty l (i : Int)
theorem gs_mem {l : List ByteArray} {i : Nat} (h : i < l.length) : gs l i ∈ l := by
  unfold gs rdOf
  rw [Int.toNat_natCast, List.getD_eq_getElem?_getD, List.getElem?_eq_getElem h]
  exact List.getElem_mem _
theorem gs_drop {l : List ByteArray} {i : Nat} (h : i < l.length) : l.drop i = gs l i :: l.drop (i + 1) := by
  rw [List.drop_eq_getElem_cons h]
  simp [gs, rdOf, List.getD_eq_getElem?_getD, List.getElem?_eq_getElem h]
def shr (l : List ByteArray) (i : Nat) : Nat := if i % 16 = 0 then 0 else cp (bytesOf (gs l (i - 1))) (bytesOf (gs l i))
theorem shr_le (l : List ByteArray) (i : Nat) : shr l i ≤ (gs l i).size := by
  unfold shr
  split
  · exact Nat.zero_le _
  · have := (cp_le (bytesOf (gs l (i - 1))) (bytesOf (gs l i))).2
    rwa [bytesOf_length] at this
def enc1 (l : List ByteArray) (i : Nat) : List Int := venc (shr l i) ++ venc ((gs l i).size - shr l i) ++ (bytesOf (gs l i)).drop (shr l i)
def encN (l : List ByteArray) : Nat → Nat → List Int
  | 0, _ => []
  | d + 1, i => enc1 l i ++ encN l d (i + 1)
def encL (l : List ByteArray) : List Int := encN l l.length 0
structure Sm (l : List ByteArray) : Prop where
  len : l.length ≤ 1000
  size : ∀ s ∈ l, s.size ≤ 1000000
theorem enc1_len {l : List ByteArray} (h : Sm l) {i : Nat} (hi : i < l.length) : (enc1 l i).length ≤ 1000020 := by
  have h1 := h.size _ (gs_mem hi)
  have h2 := shr_le l i
  have h3 := venc_len10 (shr l i) (by omega)
  have h4 := venc_len10 ((gs l i).size - shr l i) (by omega)
  unfold enc1
  rw [List.length_append, List.length_append, List.length_drop, bytesOf_length]
  omega
theorem encN_len {l : List ByteArray} (h : Sm l) : ∀ (d i : Nat), i + d = l.length → (encN l d i).length ≤ d * 1000020 := by
  intro d
  induction d with
  | zero => intro i _; exact Nat.le_refl _
  | succ d ih =>
    intro i hi
    have h1 := enc1_len h (show i < l.length by omega)
    have h2 := ih (i + 1) (by omega)
    simp only [encN, List.length_append]
    omega

theorem ishr_ev {l : List ByteArray} (h : Sm l) {i : Nat} (hi : i < l.length) : Ev (fun k => frontcode_shared.f k l (i : Int)) ((shr l i : Nat) : Int) := by
  have hl := h.len
  unfold frontcode_shared.f shr
  rw [tm16]
  by_cases h1 : i % 16 = 0
  · rw [if_pos h1]
    refine Ev.pos (by omega) ?_
    exact Ev.now _
  · rw [if_neg h1, w64_sub1 i (by omega) (by omega)]
    refine Ev.neg (by omega) ?_
    refine Ev.pos (by omega) ?_
    refine Ev.pos (by omega) ?_
    refine Ev.pos (by omega) ?_
    refine Ev.pos (by omega) ?_
    have h2 := h.size _ (gs_mem (show i - 1 < l.length by omega))
    exact Ev.bind (icp_ev (gs l (i - 1)) (gs l i) (by omega)) (Ev.now _)

theorem ienc_g {l : List ByteArray} (h : Sm l) : ∀ (d i : Nat) (acc : List Int), i + d = l.length → acc.length ≤ i * 1000020 → Ev (fun k => frontcode_Encode.g k l (l.drop i) i acc) (acc ++ encN l d i) := by
  have hl := h.len
  intro d
  induction d with
  | zero =>
    intro i acc hi ha
    rw [List.drop_of_length_le (by omega)]
    simp only [frontcode_Encode.g, encN, List.append_nil]
    exact Ev.now _
  | succ d ih =>
    intro i acc hi ha
    have hlt : i < l.length := by omega
    have h1 := h.size _ (gs_mem hlt)
    have h2 := shr_le l i
    have h3 := venc_len10 (shr l i) (by omega)
    have h4 := venc_len10 ((gs l i).size - shr l i) (by omega)
    have h5 := enc1_len h hlt
    rw [gs_drop hlt]
    simp only [frontcode_Encode.g, encN]
    refine Ev.bind (ishr_ev h hlt) ?_
    refine Ev.pos ⟨by omega, by omega, by omega, by omega⟩ ?_
    refine Ev.bind (enc_ev _ (by omega)) ?_
    rw [show ((gs l i).size : Int) - ((shr l i : Nat) : Int) = (((gs l i).size - shr l i : Nat) : Int) by omega]
    refine Ev.bind (enc_ev _ (by omega)) ?_
    refine Ev.pos ⟨by omega, by omega⟩ ?_
    rw [Int.toNat_natCast]
    refine Ev.eq (ih (i + 1) _ (by omega) ?_) ?_
    · have : (acc ++ venc (shr l i) ++ venc ((gs l i).size - shr l i) ++ (bytesOf (gs l i)).drop (shr l i)) = acc ++ enc1 l i := by simp [enc1]
      rw [this, List.length_append]
      omega
    · simp [enc1]
theorem ienc_ev {l : List ByteArray} (h : Sm l) : Ev (fun k => frontcode_Encode.f k l) (encL l) := by
  have hl := h.len
  unfold frontcode_Encode.f
  refine Ev.pos (by omega) ?_
  exact ienc_g h l.length 0 [] (by omega) (Nat.zero_le _)

theorem small_l0 (l : List ByteArray) (hl : l.length ≤ 100) : ∀ (d i : Nat), i + d = l.length → ∃ r : Bool, Ev (fun k => laminalaw11_small.l0 k l (l.length : Int) (i : Int)) r ∧ (r = true → ∀ s ∈ l.drop i, s.size ≤ 100) := by
  intro d
  induction d with
  | zero =>
    intro i h
    refine ⟨true, Ev.succ ?_, fun _ s hs => by rw [List.drop_of_length_le (by omega)] at hs; cases hs⟩
    simp only [laminalaw11_small.l0]
    refine Ev.neg (by omega) ?_
    exact Ev.now _
  | succ d ih =>
    intro i h
    have hg : rdOf ByteArray.empty l (i : Int) = gs l i := rfl
    by_cases h1 : ((gs l i).size : Int) > 100
    · refine ⟨false, Ev.succ ?_, fun h => by cases h⟩
      simp only [laminalaw11_small.l0, hg]
      refine Ev.pos (by omega) ?_
      refine Ev.pos (by omega) ?_
      refine Ev.pos (by omega) ?_
      refine Ev.pos h1 ?_
      exact Ev.now _
    · obtain ⟨r, hr, hp⟩ := ih (i + 1) (by omega)
      refine ⟨r, Ev.succ ?_, fun hq s hs => ?_⟩
      · simp only [laminalaw11_small.l0, hg, w64_add1 i (by omega)]
        refine Ev.pos (by omega) ?_
        refine Ev.pos (by omega) ?_
        refine Ev.pos (by omega) ?_
        refine Ev.neg h1 ?_
        exact hr
      · rw [gs_drop (by omega)] at hs
        rcases List.mem_cons.1 hs with rfl | hs
        · omega
        · exact hp hq s hs
theorem small_ev (l : List ByteArray) : ∃ r : Bool, Ev (fun k => laminalaw11_small.f k l) r ∧ (r = true → l.length ≤ 100 ∧ ∀ s ∈ l, s.size ≤ 100) := by
  by_cases h : (l.length : Int) > 100
  · refine ⟨false, ?_, fun h => by cases h⟩
    unfold laminalaw11_small.f
    refine Ev.pos h ?_
    exact Ev.now _
  · obtain ⟨r, hr, hp⟩ := small_l0 l (by omega) l.length 0 (by omega)
    refine ⟨r, ?_, fun hq => ⟨by omega, by simpa using hp hq⟩⟩
    unfold laminalaw11_small.f
    refine Ev.neg h ?_
    exact hr

theorem gs_app {A B : List ByteArray} {i : Nat} (h : i < A.length) : gs (A ++ B) i = gs A i := by
  unfold gs rdOf
  rw [Int.toNat_natCast, List.getD_eq_getElem?_getD, List.getD_eq_getElem?_getD, List.getElem?_append_left h]
theorem gs_app2 {A B : List ByteArray} {j : Nat} : gs (A ++ B) (A.length + j) = gs B j := by
  unfold gs rdOf
  rw [Int.toNat_natCast, Int.toNat_natCast, List.getD_eq_getElem?_getD, List.getD_eq_getElem?_getD, List.getElem?_append_right (by omega), Nat.add_sub_cancel_left]
theorem shr_app {A B : List ByteArray} {i : Nat} (h : i < A.length) : shr (A ++ B) i = shr A i := by
  unfold shr
  rw [gs_app h, gs_app (show i - 1 < A.length by omega)]
theorem shr_app2 {A B : List ByteArray} (hA : A.length % 16 = 0) {j : Nat} : shr (A ++ B) (A.length + j) = shr B j := by
  unfold shr
  by_cases h : j % 16 = 0
  · rw [if_pos h, if_pos (by omega)]
  · rw [if_neg h, if_neg (by omega), show A.length + j - 1 = A.length + (j - 1) by omega, gs_app2, gs_app2]
theorem encN_app {A B : List ByteArray} : ∀ (d i : Nat), i + d ≤ A.length → encN (A ++ B) d i = encN A d i := by
  intro d
  induction d with
  | zero => intro i _; rfl
  | succ d ih =>
    intro i h
    simp only [encN, enc1]
    rw [shr_app (show i < A.length by omega), gs_app (show i < A.length by omega), ih (i + 1) (by omega)]
theorem encN_app2 {A B : List ByteArray} (hA : A.length % 16 = 0) : ∀ (d j : Nat), encN (A ++ B) d (A.length + j) = encN B d j := by
  intro d
  induction d with
  | zero => intro j; rfl
  | succ d ih =>
    intro j
    have := ih (j + 1)
    rw [← Nat.add_assoc] at this
    simp only [encN, enc1]
    rw [shr_app2 hA, gs_app2, this]
theorem encN_add (l : List ByteArray) : ∀ (d e i : Nat), encN l (d + e) i = encN l d i ++ encN l e (i + d) := by
  intro d
  induction d with
  | zero => intro e i; simp [encN]
  | succ d ih =>
    intro e i
    rw [show d + 1 + e = (d + e) + 1 by omega]
    simp only [encN]
    rw [ih e (i + 1), List.append_assoc, show i + 1 + d = i + (d + 1) by omega]
theorem encL_app (A B : List ByteArray) (hA : A.length % 16 = 0) : encL (A ++ B) = encL A ++ encL B := by
  unfold encL
  rw [List.length_append, encN_add, encN_app _ _ (by omega), Nat.zero_add]
  congr 1
  have := encN_app2 (B := B) hA B.length 0
  rwa [Nat.add_zero] at this
theorem nx_ok {b : List Int} (hb : ∀ x ∈ b, 0 ≤ x ∧ x < 256) {o : Nat} (ho : o ≤ b.length) {i : Nat} {s : ByteArray} (h : (nx b (o : Int) i s).2.2 = 0) :
    ∃ k m o1 : Nat, k = (if i % 16 = 0 then 0 else cp (bytesOf s) (bytesOf (nx b (o : Int) i s).1)) ∧ (nx b (o : Int) i s).2.1 = (o1 : Int) ∧ o ≤ o1 ∧ o1 ≤ b.length ∧ m = (nx b (o : Int) i s).1.size - k ∧
      (b.drop o).take (o1 - o) = venc k ++ venc m ++ (bytesOf (nx b (o : Int) i s).1).drop k := by
  revert h
  unfold nx
  obtain ⟨v1, t1, x1, hv1⟩ : ∃ v t e, vdec b (o : Int) = (v, t, e) := ⟨_, _, _, rfl⟩
  rw [hv1]
  simp only
  by_cases c1 : x1 = 0
  · subst c1
    obtain ⟨k, rfl, hk64, _, rfl, hl1, ht1⟩ := vdec_ok hb hv1
    rw [if_pos rfl]
    by_cases c2 : (k : Int) > (s.size : Int) ∨ (i % 16 = 0 ∧ (k : Int) > 0)
    · rw [if_pos c2]; intro h; simp at h
    · rw [if_neg c2]
      obtain ⟨v2, t2, x2, hv2⟩ : ∃ v t e, vdec b ((o : Int) + ((venc k).length : Int)) = (v, t, e) := ⟨_, _, _, rfl⟩
      rw [hv2]
      simp only
      by_cases c3 : x2 = 0
      · subst c3
        obtain ⟨m, rfl, hm64, _, rfl, hl2, ht2⟩ := vdec_ok hb hv2
        rw [if_pos rfl]
        by_cases c4 : (m : Int) > (b.length : Int) - ((o : Int) + ((venc k).length : Int) + ((venc m).length : Int))
        · rw [if_pos c4]; intro h; simp at h
        · rw [if_neg c4]
          obtain ⟨a, ha⟩ : ∃ a : Nat, a = o + (venc k).length + (venc m).length := ⟨_, rfl⟩
          have ha2 : (o : Int) + ((venc k).length : Int) + ((venc m).length : Int) = (a : Int) := by omega
          rw [ha2]
          have hT := txt_range b hb s (k : Int) (m : Int) (a : Int)
          simp only [Int.toNat_natCast] at hT ht1 ht2
          have hsl := bytesOf_length s
          have hlen1 : ((bytesOf s).take k).length = k := by rw [List.length_take]; omega
          have hlen2 : ((b.drop a).take m).length = m := by rw [List.length_take, List.length_drop]; omega
          have hTs : (txt b s (k : Int) (m : Int) (a : Int)).size = k + m := by rw [← bytesOf_length, hT, List.length_append, hlen1, hlen2]
          have hdk : (bytesOf (txt b s (k : Int) (m : Int) (a : Int))).drop k = (b.drop a).take m := by
            rw [hT]
            have := List.drop_left (l₁ := (bytesOf s).take k) (l₂ := (b.drop a).take m)
            rwa [hlen1] at this
          have hbody : (b.drop o).take ((venc k).length + ((venc m).length + m)) = venc k ++ venc m ++ (b.drop a).take m := by
            rw [show ((o : Int) + ((venc k).length : Int)).toNat = o + (venc k).length by omega] at ht2
            rw [List.take_add, ht1, List.drop_drop, List.take_add, ht2, List.drop_drop, ← ha, List.append_assoc]
          have fin : ∀ kk : Nat, kk = k → ∃ k' m' o1 : Nat, k' = kk ∧ ((a : Int) + (m : Int)) = (o1 : Int) ∧ o ≤ o1 ∧ o1 ≤ b.length ∧ m' = (txt b s (k : Int) (m : Int) (a : Int)).size - k' ∧ (b.drop o).take (o1 - o) = venc k' ++ venc m' ++ (bytesOf (txt b s (k : Int) (m : Int) (a : Int))).drop k' := by
            intro kk hkk
            refine ⟨k, m, a + m, hkk.symm, by omega, by omega, by omega, by omega, ?_⟩
            rw [hdk, ← hbody]
            congr 1
            omega
          by_cases c5 : i % 16 = 0
          · rw [if_pos c5]
            intro _
            simp only [if_pos c5]
            exact fin 0 (by omega)
          · rw [if_neg c5]
            by_cases c6 : (cp (bytesOf s) (bytesOf (txt b s (k : Int) (m : Int) (a : Int))) : Int) > (k : Int)
            · rw [if_pos c6]; intro h; simp at h
            · rw [if_neg c6]
              intro _
              simp only [if_neg c5]
              refine fin _ ?_
              have hge := cp_take (bytesOf s) ((b.drop a).take m) k (by omega)
              rw [← hT] at hge
              omega
      · rw [if_neg c3]; intro h; exact absurd h c3
  · rw [if_neg c1]; intro h; exact absurd h c1
theorem dl_ok {b : List Int} (hb : ∀ x ∈ b, 0 ≤ x ∧ x < 256) (hbl : b.length ≤ 1000) : ∀ (d i o : Nat) (s : ByteArray) (acc : List ByteArray), acc.length = i → o ≤ b.length → (i % 16 ≠ 0 → s = gs acc (i - 1)) → s.size ≤ i * 1000 → (∀ z ∈ acc, z.size ≤ (i + d) * 1000) → (dl b d i (o : Int) s acc).2.2 = 0 →
    ∃ (M : List ByteArray) (o2 : Nat), (dl b d i (o : Int) s acc).1 = acc ++ M ∧ M.length = d ∧ (dl b d i (o : Int) s acc).2.1 = (o2 : Int) ∧ o ≤ o2 ∧ o2 ≤ b.length ∧ (b.drop o).take (o2 - o) = encN (acc ++ M) d i ∧ ∀ z ∈ acc ++ M, z.size ≤ (i + d) * 1000 := by
  intro d
  induction d with
  | zero =>
    intro i o s acc ha ho hs hsz hz h
    refine ⟨[], o, by simp [dl], rfl, rfl, Nat.le_refl _, ho, by simp [encN], by simpa using hz⟩
  | succ d ih =>
    intro i o s acc ha ho hs hsz hz h
    simp only [dl] at h ⊢
    by_cases c : (nx b (o : Int) i s).2.2 = 0
    · rw [if_pos c] at h ⊢
      obtain ⟨k, m, o1, hk, h1, h2, h3, hm, h4⟩ := nx_ok hb ho c
      rw [h1] at h ⊢
      have hts := nx_size b (o : Int) i s
      obtain ⟨t, ht⟩ : ∃ t, t = (nx b (o : Int) i s).1 := ⟨_, rfl⟩
      rw [← ht] at h hk hm h4 hts ⊢
      obtain ⟨M, o2, q1, q2, q3, q4, q5, q6, q7⟩ := ih (i + 1) o1 t (acc ++ [t]) (by simp [ha]) h3 (fun _ => by
        rw [Nat.add_sub_cancel, ← ha]
        have := gs_app2 (A := acc) (B := [t]) (j := 0)
        rw [Nat.add_zero] at this
        rw [this]; rfl) (by omega) (fun z hz2 => by
        rcases List.mem_append.1 hz2 with h9 | h9
        · rw [Nat.add_assoc, Nat.add_comm 1 d]; exact hz z h9
        · have : z = t := by simpa using h9
          subst this
          have : s.size + b.length ≤ (i + 1) * 1000 := by omega
          have : (i + 1) * 1000 ≤ (i + 1 + d) * 1000 := by omega
          omega) h
      have hL : acc ++ [t] ++ M = acc ++ (t :: M) := by simp
      rw [hL] at q1 q6 q7
      refine ⟨t :: M, o2, q1, by simp [q2], q3, by omega, q5, ?_, fun z hz2 => by have := q7 z hz2; rw [show i + (d + 1) = i + 1 + d by omega]; exact this⟩
      have hgt : gs (acc ++ (t :: M)) i = t := by
        rw [← ha]
        have := gs_app2 (A := acc) (B := t :: M) (j := 0)
        rw [Nat.add_zero] at this
        rw [this]; rfl
      have hsh : shr (acc ++ (t :: M)) i = k := by
        unfold shr
        rw [hk, hgt]
        by_cases c2 : i % 16 = 0
        · rw [if_pos c2, if_pos c2]
        · rw [if_neg c2, if_neg c2, hs c2, gs_app (show i - 1 < acc.length by omega)]
      simp only [encN, enc1]
      rw [hsh, hgt, ← hm, ← h4, ← q6]
      rw [show o2 - o = (o1 - o) + (o2 - o1) by omega, List.take_add, List.drop_drop, show o + (o1 - o) = o1 by omega]
    · rw [if_neg c] at h
      exact absurd h c
theorem strs_app (x y : List Int) : strOfNums (x ++ y) = strOfNums x ++ strOfNums y := by
  have happ : ∀ u v : ByteArray, bytesOf (u ++ v) = bytesOf u ++ bytesOf v := by
    intro u v
    unfold bytesOf
    rw [ByteArray.data_append]
    simp
  refine ba_ext ?_
  rw [happ, str_data, str_data, str_data, List.map_append]
theorem sm_of {l : List ByteArray} (h1 : l.length ≤ 200) (h2 : ∀ s ∈ l, s.size ≤ 100) : Sm l := ⟨by omega, fun s hs => by have := h2 s hs; omega⟩
theorem FrontcodeCanonical : laminalaw11_FrontcodeCanonical.Pure := by
  intro b n f g ⟨_, hbw⟩ _ hn _ _
  have hb := wf_u8s hbw
  have hn' := wf_u8 hn
  have lv : Ev (fun _ => (laminalaw11_awake.f).bind fun t => some t) true := Ev.now _
  have lvj : Ev (fun k => laminalaw11_FrontcodeCanonical.j0 k b n f g true) true := by
    refine Ev.succ ?_
    simp only [laminalaw11_FrontcodeCanonical.j0]
    refine Ev.pos (by decide) ?_
    exact lv
  refine Ev.rounds (g := fun k => laminalaw11_FrontcodeCanonical.f k b n f g) ?_
  unfold laminalaw11_FrontcodeCanonical.f
  by_cases h0 : (b.length : Int) > 1000
  · refine Ev.pos h0 ?_
    exact lvj
  refine Ev.neg h0 ?_
  obtain ⟨r, hr, hp⟩ := small_ev f
  refine Ev.bind hr ?_
  cases r with
  | false =>
    refine Ev.neg (by decide) ?_
    exact lvj
  | true =>
    obtain ⟨f1, f2⟩ := hp rfl
    refine Ev.pos rfl ?_
    obtain ⟨r2, hr2, hp2⟩ := small_ev g
    refine Ev.bind hr2 ?_
    cases r2 with
    | false => exact lvj
    | true =>
      obtain ⟨g1, g2⟩ := hp2 rfl
      have j1 : Ev (fun k => laminalaw11_FrontcodeCanonical.j1 k f g false) true := by
        obtain ⟨q, hq⟩ : ∃ q : Nat, q = f.length / 16 * 16 := ⟨_, rfl⟩
        have e1 : wrap64 (wrap64 ((f.length : Int) / 16) * 16) = (q : Int) := by
          rw [w64 ((f.length : Int) / 16) (by omega) (by omega), w64 _ (by omega) (by omega)]; omega
        have hql : (f.take q).length = q := by rw [List.length_take]; omega
        have sA : Sm (f.take q) := sm_of (by omega) (fun s hs => f2 s (List.mem_of_mem_take hs))
        have sB : Sm g := sm_of (by omega) g2
        have sAB : Sm (f.take q ++ g) := sm_of (by rw [List.length_append]; omega) (fun s hs => by
          rcases List.mem_append.1 hs with h | h
          · exact f2 s (List.mem_of_mem_take h)
          · exact g2 s h)
        have lA := encN_len sA q 0 (by omega)
        have lB := encN_len sB g.length 0 (by omega)
        refine Ev.succ ?_
        simp only [laminalaw11_FrontcodeCanonical.j1, e1, Int.toNat_natCast, List.nil_append, Option.bind_some]
        refine Ev.neg (by decide) ?_
        refine Ev.pos (by omega) ?_
        refine Ev.pos (by omega) ?_
        refine Ev.pos (by simp only [List.length_nil, hql]; omega) ?_
        refine Ev.pos (by rw [hql]; omega) ?_
        refine Ev.bind (ienc_ev sAB) ?_
        refine Ev.bind (ienc_ev sA) ?_
        refine Ev.bind (ienc_ev sB) ?_
        refine Ev.pos ?_ ?_
        · rw [strOfNums_size, strOfNums_size]
          unfold encL
          rw [hql]
          omega
        refine Ev.pos ?_ ?_
        · rw [encL_app _ _ (by rw [hql]; omega), strs_app]
        exact lv
      show Ev (fun k => laminalaw11_FrontcodeCanonical.j0 k b n f g false) true
      obtain ⟨c, rfl⟩ := Int.eq_ofNat_of_zero_le hn'.1
      refine Ev.succ ?_
      simp only [laminalaw11_FrontcodeCanonical.j0, w64 (c : Int) (by omega) (by omega)]
      refine Ev.neg (by decide) ?_
      refine Ev.bind (idcd_ev b hb (by omega) 0 (c : Int)) ?_
      by_cases h1 : (dcd b 0 (c : Int)).2.2 = 0
      · refine Ev.pos h1 ?_
        have hd : dcd b 0 (c : Int) = dl b c 0 ((0 : Nat) : Int) ⟨#[]⟩ [] := by
          unfold dcd
          rw [if_pos (by omega), Int.toNat_natCast]; rfl
        rw [hd] at h1 ⊢
        obtain ⟨M, o2, q1, q2, q3, q4, q5, q6, q7⟩ := dl_ok hb (by omega) c 0 0 ⟨#[]⟩ [] rfl (Nat.zero_le _) (fun hz => absurd rfl hz) (Nat.zero_le _) (fun z hz => by cases hz) h1
        rw [q1, q3]
        rw [List.nil_append] at q1 q6 q7 ⊢
        have hSm : Sm M := ⟨by omega, fun s hs => by have := q7 s hs; omega⟩
        refine Ev.neg (by omega) ?_
        refine Ev.neg (by omega) ?_
        refine Ev.bind (ienc_ev hSm) ?_
        refine Ev.pos (by omega) ?_
        refine Ev.pos (by omega) ?_
        have he : b.take o2 = encL M := by
          have := q6
          rw [List.drop_zero, Nat.sub_zero] at this
          rw [this, encL, q2]
        rw [Int.toNat_natCast, he]
        have hbne : ((strOfNums (encL M)).toList != (strOfNums (encL M)).toList) = false := by simp
        rw [hbne]
        exact j1
      · refine Ev.neg h1 ?_
        exact j1

end Go.Proofs.Yteamkjphdiajeaa.Pure
