/- laminalaw02.ChecksumCRC returns true for all its arguments (CRC, Update and Seal return the reference's results). Conditions: none beyond the row's own (slices that can be read, each of at most 2^47 - 4096 bytes). -/
import Derived.Test.YtfonjlolliiaeaaStChecksumCRC
import Derived.Test.YtfonjlolliiaeaaM01
import Derived.Test.YtfonjlolliiaeaaM02
import Derived.Test.YtfonjlolliiaeaaM03
import Derived.Test.YtfonjlolliiaeaaM06
import Derived.Test.YtfonjlolliiaeaaM07
set_option linter.unusedVariables false
set_option linter.unusedSimpArgs false
namespace Go.Proofs.Ytfonjlolliiaeaa.Pure
open Go Go.RowKit Go.Proofs.Ytfonjlolliiaeaa.QChecksumCRC Go.Proofs.YtfonjlolliiaeaaW.PrintWords Go.Proofs.YtfonjlolliiaeaaW.PrintLast Go.Proofs.YtfonjlolliiaeaaM

theorem drop_lt {α : Type} {l r : List α} {i : Nat} {x : α} (h : l.drop i = x :: r) : i < l.length := by
  rcases Nat.lt_or_ge i l.length with h1 | h1
  · exact h1
  · rw [List.drop_of_length_le h1] at h; cases h
theorem drop_ge {α : Type} {l : List α} {i : Nat} (h : l.drop i = []) : l.length ≤ i := by
  rwa [List.drop_eq_nil_iff] at h
theorem drop_next {α : Type} {l r : List α} {i : Nat} {x : α} (h : l.drop i = x :: r) : l.drop (i + 1) = r := by
  rw [← List.drop_drop, h]; rfl
theorem drop_mem {α : Type} {l r : List α} {i : Nat} {x : α} (h : l.drop i = x :: r) : x ∈ l := List.mem_of_mem_drop (h ▸ List.mem_cons_self)

/-! ### laminaref02: step, Update, Same -/
theorem ck_step_l0 : ∀ (d j r : Nat), j + d = 8 → r < 4294967296 → Ev (fun k => laminaref02_step.l0 k (r : Int) (j : Int)) ((Tn d r : Nat) : Int) := by
  intro d
  induction d with
  | zero =>
    intro j r hj hr
    refine Ev.succ ?_
    simp only [laminaref02_step.l0]
    refine Ev.neg (by omega) ?_
    exact Ev.now _
  | succ d ih =>
    intro j r hj hr
    refine Ev.succ ?_
    simp only [laminaref02_step.l0, w64_add1 j (by omega)]
    refine Ev.pos (by omega) ?_
    have hT : T r < 4294967296 := T_lt r hr
    have e1 : ((r : Int) / 2) = ((r / 2 : Nat) : Int) := by omega
    by_cases ho : r % 2 = 1
    · refine Ev.pos (by rw [and1_32 r (by omega), ho]; rfl) ?_
      have e2 : bits .xor .u32 ((r : Int) / 2) 2197175160 = ((T r : Nat) : Int) := by
        rw [e1]
        have h3 := xor_nat32 (r / 2) 2197175160 (by omega) (by decide)
        unfold T
        rw [if_pos ho]
        exact h3
      simp only [e2]
      exact ih (j + 1) (T r) (by omega) hT
    · refine Ev.neg (by rw [and1_32 r (by omega)]; omega) ?_
      have e2 : r / 2 = T r := by unfold T; rw [if_neg ho]
      simp only [e1, e2]
      exact ih (j + 1) (T r) (by omega) hT
theorem ck_step_ev (r : Nat) (x : Int) (hr : r < 4294967296) (hx : 0 ≤ x ∧ x < 256) : Ev (fun k => laminaref02_step.f k (r : Int) x) ((stp r x : Nat) : Int) := by
  unfold laminaref02_step.f
  obtain ⟨y, rfl⟩ := Int.eq_ofNat_of_zero_le hx.1
  have e1 : ((y : Int) % 4294967296) = (y : Int) := by omega
  rw [e1, xor_nat32 r y hr (by omega)]
  have := ck_step_l0 8 0 (r ^^^ y) rfl (Nat.xor_lt_two_pow (n := 32) hr (by omega))
  simpa [stp] using this
theorem ck_upd_l0 (b : List Int) (hb : ∀ x ∈ b, 0 ≤ x ∧ x < 256) (hlen : b.length < 4611686018427387904) : ∀ (s : List Int) (i r : Nat), b.drop i = s → r < 4294967296 → Ev (fun k => laminaref02_Update.l0 k (r : Int) b (i : Int)) ((4294967295 ^^^ crcR r s : Nat) : Int) := by
  intro s
  induction s with
  | nil =>
    intro i r h hr
    have := drop_ge h
    refine Ev.succ ?_
    simp only [laminaref02_Update.l0]
    refine Ev.neg (by omega) ?_
    refine Ev.eq (Ev.now _) ?_
    exact not32 r hr
  | cons x s ih =>
    intro i r h hr
    have hlt := drop_lt h
    have hg : rd b (i : Int) = x := by
      rw [rd_nat, List.getD_eq_getElem?_getD, ← List.head?_drop, h]; rfl
    have hx : 0 ≤ x ∧ x < 256 := hb x (by have : x ∈ b.drop i := by rw [h]; exact List.mem_cons_self
                                          exact List.mem_of_mem_drop this)
    refine Ev.succ ?_
    simp only [laminaref02_Update.l0, hg, w64_add1 i (by omega)]
    refine Ev.pos (by omega) ?_
    refine Ev.pos (by omega) ?_
    refine Ev.bind (ck_step_ev r x hr hx) ?_
    exact ih (i + 1) (stp r x) (drop_next h) (stp_lt r x hr hx)
theorem ck_upd_ev (c : Nat) (hc : c < 4294967296) (b : List Int) (hb : ∀ x ∈ b, 0 ≤ x ∧ x < 256) (hlen : b.length < 4611686018427387904) : Ev (fun k => laminaref02_Update.f k (c : Int) b) ((4294967295 ^^^ crcR (4294967295 ^^^ c) b : Nat) : Int) := by
  unfold laminaref02_Update.f
  have e1 : bits .xor .u32 IntKind.u32.max (c : Int) = ((4294967295 ^^^ c : Nat) : Int) := not32 c hc
  rw [e1]
  exact ck_upd_l0 b hb hlen b 0 _ rfl (Nat.xor_lt_two_pow (n := 32) (by decide) hc)
/-- The checksum of a list of bytes. -/
def cks (b : List Int) : Nat := 4294967295 ^^^ crcR 4294967295 b
theorem cks_lt (b : List Int) (hb : ∀ x ∈ b, 0 ≤ x ∧ x < 256) : cks b < 4294967296 :=
  Nat.xor_lt_two_pow (n := 32) (by decide) (crcR_lt b _ (by decide) hb)
theorem ck_upd0_ev (b : List Int) (hb : ∀ x ∈ b, 0 ≤ x ∧ x < 256) (hlen : b.length < 4611686018427387904) : Ev (fun k => laminaref02_Update.f k 0 b) ((cks b : Nat) : Int) := ck_upd_ev 0 (by decide) b hb hlen
theorem ck_all {b : List Int} (hb : ∀ x ∈ b, 0 ≤ x ∧ x < 256) : (b.all fun x => decide (0 ≤ x) && decide (x < 256)) = true := by
  simp only [List.all_eq_true, Bool.and_eq_true, decide_eq_true_eq]; exact hb
theorem ck_crc (ls : List (List Int)) (hb : ∀ l ∈ ls, ∀ x ∈ l, 0 ≤ x ∧ x < 256) : checksum_CRC.f ls = some ((4294967295 ^^^ crcF 4294967295 ls : Nat) : Int) := by
  unfold checksum_CRC.f
  rw [if_pos]
  rw [List.all_eq_true]
  exact fun l hl => ck_all (hb l hl)
theorem ck_crc1 (b : List Int) (hb : ∀ x ∈ b, 0 ≤ x ∧ x < 256) : checksum_CRC.f [b] = some ((cks b : Nat) : Int) :=
  ck_crc [b] (by intro l hl; obtain rfl := List.mem_singleton.1 hl; exact hb)
theorem shr32_256 (n i : Nat) (hi : i ≤ 3) : (shr .u32 (n : Int) (IntKind.u64.wrap (wrap64 (8 * (i : Int))))) % 256 = ((n / 256 ^ i % 256 : Nat) : Int) := by
  have e : min (8 * (i : Int)).toNat 32 = 8 * i := by omega
  have e2 : (2 : Int) ^ (8 * i) = ((256 ^ i : Nat) : Int) := by rw [Int.pow_mul]; simp
  rw [w64 _ (by omega) (by omega), wraps_u64 _ (by omega) (by omega)]
  unfold shr
  rw [show IntKind.u32.bits = 32 from rfl, e, e2, ← Int.natCast_ediv]
  rfl

theorem ck_same_l0 (l : List Int) (hl : l.length < 9223372036854775807) : ∀ (s : List Int) (i : Nat), l.drop i = s → Ev (fun k => laminaref02_Same.l0 k l l (i : Int)) true := by
  intro s
  induction s with
  | nil =>
    intro i h
    have := drop_ge h
    refine Ev.succ ?_
    simp only [laminaref02_Same.l0]
    refine Ev.neg (by omega) ?_
    exact Ev.now _
  | cons x s ih =>
    intro i h
    have hlt := drop_lt h
    refine Ev.succ ?_
    simp only [laminaref02_Same.l0, w64_add1 i (by omega)]
    refine Ev.pos (by omega) ?_
    refine Ev.pos (by omega) ?_
    refine Ev.pos (by omega) ?_
    refine Ev.pos trivial ?_
    exact ih (i + 1) (drop_next h)
theorem ck_same_ev (l : List Int) (hl : l.length < 9223372036854775807) : Ev (fun k => laminaref02_Same.f k l l) true := by
  unfold laminaref02_Same.f
  refine Ev.pos (show (l.length : Int) = (l.length : Int) from rfl) ?_
  exact ck_same_l0 l hl l 0 rfl

/-! ### fixed numbers -/
theorem shr_256 (n i : Nat) (hi : i ≤ 7) (hn : n < 18446744073709551616) : (shr .u64 (n : Int) (wrap64 (8 * (i : Int)))) % 256 = ((n / 256 ^ i % 256 : Nat) : Int) := by
  have e : min (8 * (i : Int)).toNat 64 = 8 * i := by omega
  have e2 : (2 : Int) ^ (8 * i) = ((256 ^ i : Nat) : Int) := by rw [Int.pow_mul]; simp
  rw [w64 _ (by omega) (by omega)]
  unfold shr
  rw [show IntKind.u64.bits = 64 from rfl, e, e2, ← Int.natCast_ediv]
  rfl
theorem fix_l0 (n s : Nat) (hs : s ≤ 8) (hn : n < 18446744073709551616) : ∀ (f i : Nat) (l : List Int), i + f = s → l.length = s → l.take i = (fixed n s).take i → 
    Ev (fun k => varint_Fixed.l0 k n l s i) (fixed n s) := by
  intro f
  induction f with
  | zero =>
    intro i l hi hl ht
    refine Ev.succ ?_
    simp only [varint_Fixed.l0]
    refine Ev.neg (by omega) ?_
    refine Ev.eq (Ev.now _) ?_
    rw [List.take_of_length_le (by omega), List.take_of_length_le (by rw [fixed_len]; omega)] at ht
    exact ht
  | succ f ih =>
    intro i l hi hl ht
    refine Ev.succ ?_
    simp only [varint_Fixed.l0, shr_256 n i (by omega) hn, w64_add1 i (by omega), Int.toNat_natCast]
    refine Ev.pos (by omega) ?_
    refine Ev.pos (by rw [w64 _ (by omega) (by omega)]; omega) ?_
    refine Ev.pos (by omega) ?_
    refine Ev.pos (by omega) ?_
    refine ih (i + 1) _ (by omega) (by rw [List.length_set, hl]) ?_
    have hlt : i < (fixed n s).length := by rw [fixed_len]; omega
    rw [List.take_succ_eq_append_getElem (by rw [List.length_set]; omega), List.take_succ_eq_append_getElem hlt, List.getElem_set_self, List.take_set_of_le (by omega), ht]
    congr 2
    rw [fixed_get n s i (by omega)]
theorem fix_ev (n : Nat) (hn : n < 18446744073709551616) (s : Int) : Ev (fun k => varint_Fixed.f k n s) (if s < 1 ∨ 8 < s then [] else fixed n s.toNat) := by
  unfold varint_Fixed.f
  have bad : (s < 1 ∨ 8 < s) → Ev (fun k => varint_Fixed.j0 k n s true) (if s < 1 ∨ 8 < s then [] else fixed n s.toNat) := fun h => by
    rw [if_pos h]
    refine Ev.succ ?_
    simp only [varint_Fixed.j0]
    refine Ev.pos (by decide) ?_
    exact Ev.now _
  by_cases h1 : s < 1
  · refine Ev.pos h1 ?_
    exact bad (.inl h1)
  refine Ev.neg h1 ?_
  by_cases h8 : 8 < s
  · rw [show decide (s > 8) = true by simpa using h8]
    exact bad (.inr h8)
  · rw [show decide (s > 8) = false by simpa using h8, if_neg (by omega)]
    refine Ev.succ ?_
    simp only [varint_Fixed.j0]
    refine Ev.neg (by decide) ?_
    refine Ev.pos (by omega) ?_
    refine Ev.pos (by omega) ?_
    obtain ⟨m, rfl⟩ := Int.eq_ofNat_of_zero_le (show 0 ≤ s by omega)
    rw [Int.toNat_natCast]
    exact fix_l0 n m (by omega) hn m 0 _ (by omega) (by rw [List.length_replicate]) (by simp)

/-! ### varint.Concat -/
theorem cat_l0 (l : List (List Int)) (hl : l.length < 1000000000) : ∀ (r : List (List Int)) (i : Nat) (acc : List Int), l.drop i = r → acc.length + r.flatten.length < 1000000000 →
    Ev (fun k => varint_Concat.l0 k acc l (l.length : Int) i) (acc ++ r.flatten) := by
  intro r
  induction r with
  | nil =>
    intro i acc h ha
    have := drop_ge h
    refine Ev.succ ?_
    simp only [varint_Concat.l0]
    refine Ev.neg (by omega) ?_
    exact Ev.eq (Ev.now _) (by simp)
  | cons x r ih =>
    intro i acc h ha
    have hlt := drop_lt h
    have hg : rd_L2 l (i : Int) = x := by
      have : rd_L2 l (i : Int) = l.getD i [] := by simp [rd_L2]
      rw [this, List.getD_eq_getElem?_getD, ← List.head?_drop, h]; rfl
    simp only [List.flatten_cons, List.length_append] at ha
    refine Ev.succ ?_
    simp only [varint_Concat.l0, hg, w64_add1 i (by omega)]
    refine Ev.pos (by omega) ?_
    refine Ev.pos (by omega) ?_
    refine Ev.pos (by omega) ?_
    refine Ev.pos (by omega) ?_
    have := ih (i + 1) (acc ++ x) (drop_next h) (by rw [List.length_append]; omega)
    simpa using this
theorem cat_ev (l : List (List Int)) (hl : l.length < 1000000000) (hf : l.flatten.length < 1000000000) : Ev (fun k => varint_Concat.f k l) l.flatten := by
  unfold varint_Concat.f
  have := cat_l0 l hl l 0 [] rfl (by simpa using hf)
  simpa using this

/-! ### Seal -/
theorem ck_seal_ev (b : List Int) (hb : ∀ x ∈ b, 0 ≤ x ∧ x < 256) (hl : b.length < 100000000) : Ev (fun k => checksum_Seal.f k b) (b ++ fixed (cks b) 4) := by
  unfold checksum_Seal.f
  have hc := cks_lt b hb
  refine Ev.bind0 (ck_crc1 b hb) ?_
  rw [wraps_u64 _ (by omega) (by omega)]
  have h1 := fix_ev (cks b) (by omega) 4
  rw [if_neg (by decide)] at h1
  refine Ev.bind h1 ?_
  have h2 := cat_ev [b, fixed (cks b) 4] (show 2 < 1000000000 by decide) (by simp only [List.flatten_cons, List.flatten_nil, List.append_nil, List.length_append, fixed_len]; omega)
  rw [show ([b, fixed (cks b) 4] : List (List Int)).flatten = b ++ fixed (cks b) 4 by simp] at h2
  exact Ev.bind h2 (Ev.now _)

theorem ck_rseal_l0 (c : Nat) (hc : c < 4294967296) : ∀ (d i : Nat) (acc : List Int), i + d = 4 → acc.length < 1000000000 + i →
    Ev (fun k => laminaref02_Seal.l0 k acc (c : Int) (i : Int)) (acc ++ fixed (c / 256 ^ i) d) := by
  intro d
  induction d with
  | zero =>
    intro i acc hi ha
    refine Ev.succ ?_
    simp only [laminaref02_Seal.l0]
    refine Ev.neg (by omega) ?_
    exact Ev.eq (Ev.now _) (by simp [fixed])
  | succ d ih =>
    intro i acc hi ha
    refine Ev.succ ?_
    simp only [laminaref02_Seal.l0, w64_add1 i (by omega), shr32_256 c i (by omega)]
    refine Ev.pos (by omega) ?_
    refine Ev.pos (by rw [w64 _ (by omega) (by omega), wraps_u64 _ (by omega) (by omega)]; omega) ?_
    refine Ev.pos (by omega) ?_
    have := ih (i + 1) (acc ++ [((c / 256 ^ i % 256 : Nat) : Int)]) (by omega) (by rw [List.length_append]; simp; omega)
    rw [show c / 256 ^ (i + 1) = c / 256 ^ i / 256 by rw [Nat.pow_succ, Nat.div_div_eq_div_mul], List.append_assoc] at this
    exact this
theorem ck_rseal_ev (b : List Int) (hb : ∀ x ∈ b, 0 ≤ x ∧ x < 256) (hl : b.length < 100000000) : Ev (fun k => laminaref02_Seal.f k b) (b ++ fixed (cks b) 4) := by
  unfold laminaref02_Seal.f
  refine Ev.pos (by simp only [List.length_nil]; omega) ?_
  refine Ev.bind (ck_upd0_ev b hb (by omega)) ?_
  have := ck_rseal_l0 (cks b) (cks_lt b hb) 4 0 ([] ++ b) rfl (by simp only [List.nil_append]; omega)
  simpa using this

theorem xor_cancel (F a : Nat) : F ^^^ (F ^^^ a) = a := by rw [← Nat.xor_assoc, Nat.xor_self, Nat.zero_xor]
theorem rcrc2_ev (a b : List Int) (ha : ∀ x ∈ a, 0 ≤ x ∧ x < 256) (hb : ∀ x ∈ b, 0 ≤ x ∧ x < 256) (hla : a.length < 100000000) (hlb : b.length < 100000000) : Ev (fun k => laminaref02_CRC.f k [a, b]) ((4294967295 ^^^ crcF 4294967295 [a, b] : Nat) : Int) := by
  unfold laminaref02_CRC.f
  have g0 : rd_L2 [a, b] 0 = a := rfl
  have g1 : rd_L2 [a, b] 1 = b := rfl
  have e1 : wrap64 (0 + 1) = 1 := w64 _ (by omega) (by omega)
  have e2 : wrap64 (1 + 1) = 2 := w64 _ (by omega) (by omega)
  have el : (([a, b] : List (List Int)).length : Int) = 2 := rfl
  refine Ev.succ ?_
  simp only [laminaref02_CRC.l0, g0, e1, el]
  refine Ev.pos (by omega) ?_
  refine Ev.pos (by omega) ?_
  refine Ev.bind (ck_upd0_ev a ha (by omega)) ?_
  refine Ev.succ ?_
  simp only [laminaref02_CRC.l0, g1, e2]
  refine Ev.pos (by omega) ?_
  refine Ev.pos (by omega) ?_
  have h := ck_upd_ev (cks a) (cks_lt a ha) b hb (by omega)
  refine Ev.bind h ?_
  refine Ev.succ ?_
  simp only [laminaref02_CRC.l0]
  refine Ev.neg (by omega) ?_
  refine Ev.eq (Ev.now _) ?_
  unfold cks
  rw [xor_cancel]
  rfl
theorem ChecksumCRC : laminalaw02_ChecksumCRC.Pure := by
  intro a b c ha _ hb _ hc
  have hA : ∀ x ∈ a, 0 ≤ x ∧ x < 256 := fun x hx => wf_u8 (ha.2 x hx)
  have hB : ∀ x ∈ b, 0 ≤ x ∧ x < 256 := fun x hx => wf_u8 (hb.2 x hx)
  have hc2 := bounds_u32 hc
  obtain ⟨n, rfl⟩ := Int.eq_ofNat_of_zero_le hc2.1
  have hn : n < 4294967296 := by omega
  refine Ev.rounds (g := fun k => laminalaw02_ChecksumCRC.f k a b (n : Int)) ?_
  unfold laminalaw02_ChecksumCRC.f
  by_cases h1 : (a.length : Int) > 5000
  · refine Ev.pos h1 ?_
    refine Ev.succ ?_
    simp only [laminalaw02_ChecksumCRC.j0]
    refine Ev.pos (by first | exact True.intro | rfl) ?_
    exact Ev.bind0 rfl (Ev.now _)
  · refine Ev.neg h1 ?_
    refine Ev.succ ?_
    simp only [laminalaw02_ChecksumCRC.j0]
    by_cases h2 : (b.length : Int) > 5000
    · refine Ev.pos (by simpa using h2) ?_
      exact Ev.bind0 rfl (Ev.now _)
    · refine Ev.neg (by simpa using h2) ?_
      refine Ev.bind0 (ck_crc [a, b] ?_) ?_
      · intro l hl
        rcases List.mem_cons.1 hl with rfl | hl
        · exact hA
        · obtain rfl := List.mem_singleton.1 hl
          exact hB
      refine Ev.bind (rcrc2_ev a b hA hB (by omega) (by omega)) ?_
      refine Ev.pos (by first | exact True.intro | rfl) ?_
      have hu : checksum_Update.f (n : Int) a = some ((4294967295 ^^^ crcR (4294967295 ^^^ n) a : Nat) : Int) := by
        unfold checksum_Update.f
        rw [if_pos ⟨by omega, by omega, ck_all hA⟩, Int.toNat_natCast]
      refine Ev.bind0 hu ?_
      refine Ev.bind (ck_upd_ev n hn a hA (by omega)) ?_
      refine Ev.pos (by first | exact True.intro | rfl) ?_
      refine Ev.bind (ck_seal_ev a hA (by omega)) ?_
      refine Ev.bind (ck_rseal_ev a hA (by omega)) ?_
      refine Ev.bind (ck_same_ev _ ?_) ?_
      · rw [List.length_append, fixed_len]; omega
      · refine Ev.pos (by first | exact True.intro | rfl) ?_
        exact Ev.bind0 rfl (Ev.now _)

end Go.Proofs.Ytfonjlolliiaeaa.Pure
