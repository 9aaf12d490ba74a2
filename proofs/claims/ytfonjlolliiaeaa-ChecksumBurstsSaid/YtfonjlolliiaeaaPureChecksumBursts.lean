/- laminalaw02.ChecksumBursts returns true for all its arguments (Open detects all flipped bits of a sealed slice that lie within 32 consecutive bits). Conditions: none beyond the row's own (the slice is readable and takes at most 2^47 - 4096 bytes). -/
import Derived.Test.YtfonjlolliiaeaaQChecksumBurstsx3
import Derived.Test.YtfonjlolliiaeaaM01
import Derived.Test.YtfonjlolliiaeaaM02
import Derived.Test.YtfonjlolliiaeaaM06
import Derived.Test.YtfonjlolliiaeaaM07
set_option linter.unusedVariables false
set_option linter.unusedSimpArgs false
namespace Go.Proofs.Ytfonjlolliiaeaa.Pure
open Go Go.RowKit Go.Proofs.Ytfonjlolliiaeaa.QChecksumBursts Go.Proofs.YtfonjlolliiaeaaW.PrintWords Go.Proofs.YtfonjlolliiaeaaW.PrintLast Go.Proofs.YtfonjlolliiaeaaM

theorem drop_lt {α : Type} {l r : List α} {i : Nat} {x : α} (h : l.drop i = x :: r) : i < l.length := by
  rcases Nat.lt_or_ge i l.length with h1 | h1
  · exact h1
  · rw [List.drop_of_length_le h1] at h; cases h
theorem drop_ge {α : Type} {l : List α} {i : Nat} (h : l.drop i = []) : l.length ≤ i := by
  rwa [List.drop_eq_nil_iff] at h
theorem drop_next {α : Type} {l r : List α} {i : Nat} {x : α} (h : l.drop i = x :: r) : l.drop (i + 1) = r := by
  rw [← List.drop_drop, h]; rfl
theorem drop_mem {α : Type} {l r : List α} {i : Nat} {x : α} (h : l.drop i = x :: r) : x ∈ l := List.mem_of_mem_drop (h ▸ List.mem_cons_self)

/-- The checksum of a list of bytes. -/
def cks (b : List Int) : Nat := 4294967295 ^^^ crcR 4294967295 b
theorem cks_lt (b : List Int) (hb : ∀ x ∈ b, 0 ≤ x ∧ x < 256) : cks b < 4294967296 :=
  Nat.xor_lt_two_pow (n := 32) (by decide) (crcR_lt b _ (by decide) hb)
theorem ck_all {b : List Int} (hb : ∀ x ∈ b, 0 ≤ x ∧ x < 256) : (b.all fun x => decide (0 ≤ x) && decide (x < 256)) = true := by
  simp only [List.all_eq_true, Bool.and_eq_true, decide_eq_true_eq]; exact hb
theorem ck_crc (ls : List (List Int)) (hb : ∀ l ∈ ls, ∀ x ∈ l, 0 ≤ x ∧ x < 256) : checksum_CRC.f ls = some ((4294967295 ^^^ crcF 4294967295 ls : Nat) : Int) := by
  unfold checksum_CRC.f
  rw [if_pos]
  rw [List.all_eq_true]
  exact fun l hl => ck_all (hb l hl)
theorem ck_crc1 (b : List Int) (hb : ∀ x ∈ b, 0 ≤ x ∧ x < 256) : checksum_CRC.f [b] = some ((cks b : Nat) : Int) :=
  ck_crc [b] (by intro l hl; obtain rfl := List.mem_singleton.1 hl; exact hb)

/-! ### reading fixed numbers -/
def rfx (b : List Int) (o s : Int) : Int × Int :=
  if s < 1 ∨ 8 < s ∨ o < 0 ∨ (b.length : Int) < o then (0, 1) else if (b.length : Int) - o < s then (0, 2) else (((le ((b.drop o.toNat).take s.toNat) : Nat) : Int), 0)
theorem rdf_l0 (b : List Int) (hb : ∀ x ∈ b, 0 ≤ x ∧ x < 256) (hlen : b.length < 4611686018427387904) (o s : Nat) (hs : s ≤ 8) (ho : o + s ≤ b.length) :
    ∀ (f i : Nat), i + f = s → Ev (fun k => varint_ReadFixed.l0 k b o ((le ((b.drop o).take i) : Nat) : Int) s i) (((le ((b.drop o).take s) : Nat) : Int), 0) := by
  intro f
  induction f with
  | zero =>
    intro i hi
    refine Ev.succ ?_
    simp only [varint_ReadFixed.l0]
    refine Ev.neg (by omega) ?_
    rw [show i = s by omega]
    exact Ev.now _
  | succ f ih =>
    intro i hi
    have hlt : o + i < b.length := by omega
    have hr := getD_range hb hlt
    obtain ⟨c, hc⟩ := Int.eq_ofNat_of_zero_le hr.1
    rw [hc] at hr
    have hl : ((b.drop o).take i).length = i := by rw [List.length_take, List.length_drop]; omega
    have hall : ∀ x ∈ (b.drop o).take i, 0 ≤ x ∧ x < 256 := fun x hx => hb x (List.mem_of_mem_drop (List.mem_of_mem_take hx))
    have hle := le_lt ((b.drop o).take i) hall
    rw [hl] at hle
    have htake : (b.drop o).take (i + 1) = (b.drop o).take i ++ [(c : Int)] := by
      rw [List.take_succ_eq_append_getElem (by rw [List.length_drop]; omega)]
      congr 2
      rw [List.getElem_drop]
      rw [← hc, List.getD_eq_getElem?_getD, List.getElem?_eq_getElem hlt]; rfl
    have hle2 : le ((b.drop o).take (i + 1)) = le ((b.drop o).take i) + c * 256 ^ i := by
      rw [htake, le_append, hl]; simp [le, Nat.mul_comm]
    have hp7 : 256 ^ i ≤ 256 ^ 7 := Nat.pow_le_pow_right (by decide) (by omega)
    have h7 : (256 : Nat) ^ 7 = 72057594037927936 := by decide
    have hcb : c * 256 ^ i ≤ 255 * 72057594037927936 := Nat.mul_le_mul (by omega) (by omega)
    have e1 : shl .u64 (IntKind.u64.wrap (rd b (((o + i : Nat)) : Int))) (wrap64 (8 * (i : Int))) = ((c * 256 ^ i : Nat) : Int) := by
      have e : min (8 * (i : Int)).toNat 64 = 8 * i := by omega
      have e2 : (2 : Int) ^ (8 * i) = ((256 ^ i : Nat) : Int) := by rw [Int.pow_mul]; simp
      rw [rd_nat, hc, wrap_u64_of (c : Int) (by omega) (by omega), w64 _ (by omega) (by omega)]
      unfold shl
      rw [show IntKind.u64.bits = 64 from rfl, e, e2, show (c : Int) * ((256 ^ i : Nat) : Int) = ((c * 256 ^ i : Nat) : Int) by simp]
      exact wrap_u64_of _ (by omega) (by omega)
    have e2 : bits .or .u64 ((le ((b.drop o).take i) : Nat) : Int) ((c * 256 ^ i : Nat) : Int) = ((le ((b.drop o).take (i + 1)) : Nat) : Int) := by
      have e2 : (2 : Int) ^ (8 * i) = ((256 ^ i : Nat) : Int) := by rw [Int.pow_mul]; simp
      rw [or_add (8 * i) _ _ (by omega) (by rw [e2]; omega) (by omega) (by omega) (by omega) ?_, hle2]
      · omega
      · rw [e2, show ((c * 256 ^ i : Nat) : Int) = (c : Int) * ((256 ^ i : Nat) : Int) from Int.natCast_mul _ _]; exact Int.mul_emod_left _ _
    refine Ev.succ ?_
    simp only [varint_ReadFixed.l0, w64_add o i (by omega), e1, e2, w64_add1 i (by omega)]
    clear e1 e2
    refine Ev.pos (by omega) ?_
    refine Ev.pos (by omega) ?_
    refine Ev.pos (by omega) ?_
    refine Ev.pos (by rw [w64 _ (by omega) (by omega)]; omega) ?_
    exact ih (i + 1) (by omega)
theorem rdf_ev (b : List Int) (hb : ∀ x ∈ b, 0 ≤ x ∧ x < 256) (hlen : b.length < 4611686018427387904) (o s : Int) : Ev (fun k => varint_ReadFixed.f k b o s) (rfx b o s) := by
  unfold varint_ReadFixed.f
  have bad : (s < 1 ∨ 8 < s ∨ o < 0 ∨ (b.length : Int) < o) → Ev (fun k => varint_ReadFixed.j0 k b o s true) (rfx b o s) := fun h => by
    unfold rfx
    rw [if_pos h]
    refine Ev.succ ?_
    simp only [varint_ReadFixed.j0]
    refine Ev.pos (by decide) ?_
    exact Ev.now _
  by_cases h1 : s < 1
  · refine Ev.pos h1 ?_
    exact bad (by omega)
  refine Ev.neg h1 ?_
  by_cases h8 : 8 < s
  · refine Ev.pos h8 ?_
    exact bad (by omega)
  refine Ev.neg h8 ?_
  by_cases h0 : o < 0
  · refine Ev.pos h0 ?_
    exact bad (by omega)
  refine Ev.neg h0 ?_
  by_cases hl : (b.length : Int) < o
  · rw [show decide (o > (b.length : Int)) = true by simpa using hl]
    exact bad (by omega)
  rw [show decide (o > (b.length : Int)) = false by simpa using hl]
  unfold rfx
  rw [if_neg (by omega)]
  obtain ⟨m, rfl⟩ := Int.eq_ofNat_of_zero_le (show 0 ≤ s by omega)
  obtain ⟨n, rfl⟩ := Int.eq_ofNat_of_zero_le (show 0 ≤ o by omega)
  refine Ev.succ ?_
  simp only [varint_ReadFixed.j0, w64 ((b.length : Int) - (n : Int)) (by omega) (by omega)]
  refine Ev.neg (by decide) ?_
  by_cases hsh : (b.length : Int) - n < m
  · refine Ev.pos hsh ?_
    exact Ev.eq (Ev.now _) (by rw [if_pos hsh])
  · refine Ev.neg hsh ?_
    rw [if_neg hsh, Int.toNat_natCast, Int.toNat_natCast]
    have := rdf_l0 b hb hlen n m (by omega) (by omega) m 0 (by omega)
    simpa [le] using this

/-! ### Open -/
def copn (b : List Int) : List Int × Int :=
  if b.length < 4 then ([], 2) else if cks (b.take (b.length - 4)) = le (b.drop (b.length - 4)) then (b.take (b.length - 4), 0) else ([], 5)
theorem ck_open_ev (b : List Int) (hb : ∀ x ∈ b, 0 ≤ x ∧ x < 256) (hl : b.length < 1000000000) : Ev (fun k => checksum_Open.f k b) (copn b) := by
  unfold checksum_Open.f copn
  rw [w64 _ (by omega) (by omega)]
  by_cases h4 : b.length < 4
  · rw [if_pos h4]
    refine Ev.pos (by omega) ?_
    exact Ev.now _
  · rw [if_neg h4]
    refine Ev.neg (by omega) ?_
    obtain ⟨n, hn⟩ : ∃ n, n = b.length - 4 := ⟨_, rfl⟩
    have e1 : (b.length : Int) - 4 = (n : Int) := by omega
    rw [e1, ← hn, Int.toNat_natCast]
    have hr := rdf_ev b hb (by omega) (n : Int) 4
    have e2 : rfx b (n : Int) 4 = (((le (b.drop n) : Nat) : Int), 0) := by
      unfold rfx
      rw [if_neg (by omega), if_neg (by omega), Int.toNat_natCast, List.take_of_length_le (by rw [List.length_drop]; show _ ≤ (4 : Int).toNat; have : (4 : Int).toNat = 4 := rfl; omega)]
    rw [e2] at hr
    refine Ev.bind hr ?_
    refine Ev.pos rfl ?_
    refine Ev.pos (by omega) ?_
    refine Ev.pos (by omega) ?_
    have hbt : ∀ x ∈ b.take n, 0 ≤ x ∧ x < 256 := fun x hx => hb x (List.mem_of_mem_take hx)
    refine Ev.bind0 (ck_crc1 _ hbt) ?_
    have hc := cks_lt _ hbt
    rw [wraps_u64 _ (by omega) (by omega)]
    by_cases he : cks (b.take n) = le (b.drop n)
    · rw [if_pos he]
      refine Ev.pos (by rw [he]) ?_
      refine Ev.bind0 rfl ?_
      refine Ev.pos (by simp only [List.length_nil, List.length_take]; omega) ?_
      exact Ev.eq (Ev.now _) (by simp)
    · rw [if_neg he]
      refine Ev.neg (by omega) ?_
      exact Ev.now _

/-! ### fixed numbers -/
theorem shr_256 (n i : Nat) (hi : i ≤ 7) (hn : n < 18446744073709551616) : (shr .u64 (n : Int) (wrap64 (8 * (i : Int)))) % 256 = ((n / 256 ^ i % 256 : Nat) : Int) := by
  have e : min (8 * (i : Int)).toNat 64 = 8 * i := by omega
  have e2 : (2 : Int) ^ (8 * i) = ((256 ^ i : Nat) : Int) := by rw [Int.pow_mul]; simp
  rw [w64 _ (by omega) (by omega)]
  unfold shr
  rw [show IntKind.u64.bits = 64 from rfl, e, e2, ← Int.natCast_ediv]
  rfl
theorem fix_l0 (n s : Nat) (hs : s ≤ 8) (hn : n < 18446744073709551616) : ∀ (f i : Nat) (l : List Int), i + f = s → l.length = s → l.take i = (fixed n s).take i → 
    Ev (fun k => varint_Fixed.l0 k n l s i) (fixed n s) := by
  intro f
  induction f with
  | zero =>
    intro i l hi hl ht
    refine Ev.succ ?_
    simp only [varint_Fixed.l0]
    refine Ev.neg (by omega) ?_
    refine Ev.eq (Ev.now _) ?_
    rw [List.take_of_length_le (by omega), List.take_of_length_le (by rw [fixed_len]; omega)] at ht
    exact ht
  | succ f ih =>
    intro i l hi hl ht
    refine Ev.succ ?_
    simp only [varint_Fixed.l0, shr_256 n i (by omega) hn, w64_add1 i (by omega), Int.toNat_natCast]
    refine Ev.pos (by omega) ?_
    refine Ev.pos (by rw [w64 _ (by omega) (by omega)]; omega) ?_
    refine Ev.pos (by omega) ?_
    refine Ev.pos (by omega) ?_
    refine ih (i + 1) _ (by omega) (by rw [List.length_set, hl]) ?_
    have hlt : i < (fixed n s).length := by rw [fixed_len]; omega
    rw [List.take_succ_eq_append_getElem (by rw [List.length_set]; omega), List.take_succ_eq_append_getElem hlt, List.getElem_set_self, List.take_set_of_le (by omega), ht]
    congr 2
    rw [fixed_get n s i (by omega)]
theorem fix_ev (n : Nat) (hn : n < 18446744073709551616) (s : Int) : Ev (fun k => varint_Fixed.f k n s) (if s < 1 ∨ 8 < s then [] else fixed n s.toNat) := by
  unfold varint_Fixed.f
  have bad : (s < 1 ∨ 8 < s) → Ev (fun k => varint_Fixed.j0 k n s true) (if s < 1 ∨ 8 < s then [] else fixed n s.toNat) := fun h => by
    rw [if_pos h]
    refine Ev.succ ?_
    simp only [varint_Fixed.j0]
    refine Ev.pos (by decide) ?_
    exact Ev.now _
  by_cases h1 : s < 1
  · refine Ev.pos h1 ?_
    exact bad (.inl h1)
  refine Ev.neg h1 ?_
  by_cases h8 : 8 < s
  · rw [show decide (s > 8) = true by simpa using h8]
    exact bad (.inr h8)
  · rw [show decide (s > 8) = false by simpa using h8, if_neg (by omega)]
    refine Ev.succ ?_
    simp only [varint_Fixed.j0]
    refine Ev.neg (by decide) ?_
    refine Ev.pos (by omega) ?_
    refine Ev.pos (by omega) ?_
    obtain ⟨m, rfl⟩ := Int.eq_ofNat_of_zero_le (show 0 ≤ s by omega)
    rw [Int.toNat_natCast]
    exact fix_l0 n m (by omega) hn m 0 _ (by omega) (by rw [List.length_replicate]) (by simp)

/-! ### varint.Concat -/
theorem cat_l0 (l : List (List Int)) (hl : l.length < 1000000000) : ∀ (r : List (List Int)) (i : Nat) (acc : List Int), l.drop i = r → acc.length + r.flatten.length < 1000000000 →
    Ev (fun k => varint_Concat.l0 k acc l (l.length : Int) i) (acc ++ r.flatten) := by
  intro r
  induction r with
  | nil =>
    intro i acc h ha
    have := drop_ge h
    refine Ev.succ ?_
    simp only [varint_Concat.l0]
    refine Ev.neg (by omega) ?_
    exact Ev.eq (Ev.now _) (by simp)
  | cons x r ih =>
    intro i acc h ha
    have hlt := drop_lt h
    have hg : rd_L2 l (i : Int) = x := by
      have : rd_L2 l (i : Int) = l.getD i [] := by simp [rd_L2]
      rw [this, List.getD_eq_getElem?_getD, ← List.head?_drop, h]; rfl
    simp only [List.flatten_cons, List.length_append] at ha
    refine Ev.succ ?_
    simp only [varint_Concat.l0, hg, w64_add1 i (by omega)]
    refine Ev.pos (by omega) ?_
    refine Ev.pos (by omega) ?_
    refine Ev.pos (by omega) ?_
    refine Ev.pos (by omega) ?_
    have := ih (i + 1) (acc ++ x) (drop_next h) (by rw [List.length_append]; omega)
    simpa using this
theorem cat_ev (l : List (List Int)) (hl : l.length < 1000000000) (hf : l.flatten.length < 1000000000) : Ev (fun k => varint_Concat.f k l) l.flatten := by
  unfold varint_Concat.f
  have := cat_l0 l hl l 0 [] rfl (by simpa using hf)
  simpa using this

/-! ### Seal -/
theorem ck_seal_ev (b : List Int) (hb : ∀ x ∈ b, 0 ≤ x ∧ x < 256) (hl : b.length < 100000000) : Ev (fun k => checksum_Seal.f k b) (b ++ fixed (cks b) 4) := by
  unfold checksum_Seal.f
  have hc := cks_lt b hb
  refine Ev.bind0 (ck_crc1 b hb) ?_
  rw [wraps_u64 _ (by omega) (by omega)]
  have h1 := fix_ev (cks b) (by omega) 4
  rw [if_neg (by decide)] at h1
  refine Ev.bind h1 ?_
  have h2 := cat_ev [b, fixed (cks b) 4] (show 2 < 1000000000 by decide) (by simp only [List.flatten_cons, List.flatten_nil, List.append_nil, List.length_append, fixed_len]; omega)
  rw [show ([b, fixed (cks b) 4] : List (List Int)).flatten = b ++ fixed (cks b) 4 by simp] at h2
  exact Ev.bind h2 (Ev.now _)

/-! ### bursts -/
theorem shr32_pow (n i : Nat) (hi : i ≤ 32) : shr .u32 (n : Int) (IntKind.u64.wrap (i : Int)) = ((n / 2 ^ i : Nat) : Int) := by
  have e : min ((i : Int)).toNat 32 = i := by omega
  rw [wraps_u64 _ (by omega) (by omega)]
  unfold shr
  rw [show IntKind.u32.bits = 32 from rfl, e, ← pow_cast i, ← Int.natCast_ediv]
theorem shl8_one (r : Nat) (hr : r < 8) : shl .u8 1 (IntKind.u64.wrap (r : Int)) = ((2 ^ r : Nat) : Int) := by
  rw [wraps_u64 _ (by omega) (by omega)]
  have h : ∀ j : Fin 8, shl .u8 1 ((j.val : Nat) : Int) = ((2 ^ j.val : Nat) : Int) := by decide +kernel
  exact h ⟨r, hr⟩
theorem two_pow_xor (f a b : Nat) : 2 ^ f * (a ^^^ b) = (2 ^ f * a) ^^^ (2 ^ f * b) := by
  apply Nat.eq_of_testBit_eq
  intro i
  simp only [Nat.testBit_xor, Nat.testBit_two_pow_mul]
  by_cases hi : i ≥ f <;> simp [hi]
theorem ck_seal_check (b : List Int) (hb : ∀ x ∈ b, 0 ≤ x ∧ x < 256) : Tn (8 * b.length) (4294967295 ^^^ le (b ++ fixed (cks b) 4)) = 4294967295 := by
  refine (check_iff b (fixed (cks b) 4) hb).1 ?_
  rw [le_fixed 4 _ (cks_lt b hb)]
  rfl
theorem copn_flip (b s : List Int) (W f : Nat) (hb : ∀ x ∈ b, 0 ≤ x ∧ x < 256) (hs : ∀ x ∈ s, 0 ≤ x ∧ x < 256) (hl : s.length = b.length + 4) (hle : le s = le (b ++ fixed (cks b) 4) ^^^ 2 ^ f * W) (hW : W < 4294967296) :
    (W = 0 → (copn s).2 = 0) ∧ (W ≠ 0 → copn s = ([], 5)) := by
  have hd : ∀ x ∈ s.take b.length, 0 ≤ x ∧ x < 256 := fun x hx => hs x (List.mem_of_mem_take hx)
  have hlt : (s.take b.length).length = b.length := by rw [List.length_take]; omega
  have hc := check_iff (s.take b.length) (s.drop b.length) hd
  rw [List.take_append_drop, hlt, hle, ← Nat.xor_assoc, Tn_xor _ (4294967295 ^^^ le (b ++ fixed (cks b) 4)), ck_seal_check b hb] at hc
  have e4 : s.length - 4 = b.length := by omega
  unfold copn
  rw [if_neg (by omega), e4]
  constructor
  · intro h0
    have : cks (s.take b.length) = le (s.drop b.length) := by
      refine hc.2 ?_
      rw [h0, Nat.mul_zero, Tn_zero, Nat.xor_zero]
    rw [if_pos this]
  · intro h0
    rw [if_neg]
    intro h
    have h1 := hc.1 h
    have h2 := burst W f (8 * b.length) hW h0
    apply h2
    have h3 : 4294967295 ^^^ (4294967295 ^^^ Tn (8 * b.length) (2 ^ f * W)) = 4294967295 ^^^ 4294967295 := by rw [h1]
    rw [← Nat.xor_assoc, Nat.xor_self, Nat.zero_xor] at h3
    exact h3
theorem burst_fin (b s : List Int) (B W f : Nat) (fl : Bool) (x10 : Int) (hb : ∀ x ∈ b, 0 ≤ x ∧ x < 256) (hs : ∀ x ∈ s, 0 ≤ x ∧ x < 256) (hl : s.length = b.length + 4) (hbl : b.length ≤ 5000) (hle : le s = le (b ++ fixed (cks b) 4) ^^^ 2 ^ f * W) (hW : W < 4294967296) (hf : fl = decide (W ≠ 0)) :
    Ev (fun k => laminalaw02_ChecksumBursts.j2 k (B : Int) s (f : Int) fl x10 false) true := by
  obtain ⟨h1, h2⟩ := copn_flip b s W f hb hs hl hle hW
  refine Ev.succ ?_
  simp only [laminalaw02_ChecksumBursts.j2]
  refine Ev.neg (by simp) ?_
  refine Ev.bind (ck_open_ev s hs (by omega)) ?_
  by_cases h0 : W = 0
  · refine Ev.neg (by rw [hf]; simp [h0]) ?_
    refine Ev.pos (h1 h0) ?_
    exact Ev.bind0 rfl (Ev.now _)
  · refine Ev.pos (by rw [hf]; simp [h0]) ?_
    rw [h2 h0]
    refine Ev.pos (by rfl) ?_
    refine Ev.pos (by rfl) ?_
    exact Ev.bind0 rfl (Ev.now _)
theorem burst_l0 (b : List Int) (B f : Nat) (hb : ∀ x ∈ b, 0 ≤ x ∧ x < 256) (hbl : b.length ≤ 5000) (hB : B < 4294967296) (hf : f < 8 * (b.length + 4)) : ∀ (d i : Nat) (s : List Int) (fl : Bool), i + d = 32 → f + i ≤ 8 * (b.length + 4) → (∀ x ∈ s, 0 ≤ x ∧ x < 256) → s.length = b.length + 4 →
    le s = le (b ++ fixed (cks b) 4) ^^^ 2 ^ f * (B % 2 ^ i) → fl = decide (B % 2 ^ i ≠ 0) → Ev (fun k => laminalaw02_ChecksumBursts.l0 k (B : Int) s (f : Int) fl (i : Int)) true := by
  have hWlt : ∀ i, B % 2 ^ i < 4294967296 := fun i => Nat.lt_of_le_of_lt (Nat.mod_le _ _) hB
  intro d
  induction d with
  | zero =>
    intro i s fl hi hfi hs hl hle hfl
    refine Ev.succ ?_
    simp only [laminalaw02_ChecksumBursts.l0]
    refine Ev.neg (by omega) ?_
    exact burst_fin b s B _ f fl _ hb hs hl hbl hle (hWlt i) hfl
  | succ d ih =>
    intro i s fl hi hfi hs hl hle hfl
    refine Ev.succ ?_
    have e8 : wrap64 (8 * (s.length : Int)) = ((8 * (b.length + 4) : Nat) : Int) := by rw [hl, w64 _ (by omega) (by omega)]; omega
    simp only [laminalaw02_ChecksumBursts.l0, w64_add f i (by omega), e8]
    refine Ev.pos (by omega) ?_
    by_cases hlt : f + i < 8 * (b.length + 4)
    · rw [show decide (((f + i : Nat) : Int) < ((8 * (b.length + 4) : Nat) : Int)) = true from decide_eq_true (by omega)]
      have et : Int.tdiv ((f + i : Nat) : Int) 8 = (((f + i) / 8 : Nat) : Int) := by rw [Int.tdiv_eq_ediv_of_nonneg (by omega)]; omega
      have em : Int.tmod ((f + i : Nat) : Int) 8 = (((f + i) % 8 : Nat) : Int) := by rw [Int.tmod_eq_emod_of_nonneg (by omega)]; omega
      refine Ev.succ ?_
      simp only [laminalaw02_ChecksumBursts.j2, w64_add f i (by omega), et, em, shr32_pow B i (by omega), w64n ((f + i) / 8) (by omega), shl8_one ((f + i) % 8) (by omega), w64_add1 i (by omega), Int.toNat_natCast, rd_nat]
      refine Ev.pos trivial ?_
      refine Ev.pos (by rw [wraps_u64 _ (by omega) (by omega)]; omega) ?_
      have hB2 : B / 2 ^ i < 4294967296 := Nat.lt_of_le_of_lt (Nat.div_le_self _ _) hB
      have hsucc : B % 2 ^ (i + 1) = B % 2 ^ i + 2 ^ i * (B / 2 ^ i % 2) := Nat.mod_pow_succ
      by_cases hbit : B / 2 ^ i % 2 = 1
      · refine Ev.pos (by rw [and1_32 _ hB2, hbit]; rfl) ?_
        refine Ev.pos (by omega) ?_
        refine Ev.pos (by omega) ?_
        refine Ev.pos (by rw [wraps_u64 _ (by omega) (by omega)]; omega) ?_
        have hj : (f + i) / 8 < s.length := by omega
        have hx := getD_range hs hj
        obtain ⟨x, hxe⟩ : ∃ x : Nat, s.getD ((f + i) / 8) 0 = (x : Int) := ⟨(s.getD ((f + i) / 8) 0).toNat, by omega⟩
        have hp8 : 2 ^ ((f + i) % 8) < 2 ^ 8 := Nat.pow_lt_pow_right (by decide) (Nat.mod_lt _ (by decide))
        have ev : bits .xor .u8 (s.getD ((f + i) / 8) 0) ((2 ^ ((f + i) % 8) : Nat) : Int) = (((s.getD ((f + i) / 8) 0).toNat ^^^ 2 ^ ((f + i) % 8) : Nat) : Int) := by
          rw [hxe, Int.toNat_natCast, xor_nat8 x _ (by omega) hp8]
        rw [ev]
        have hfl2 := le_flip s (f + i) (by omega) hs
        have hWi : B % 2 ^ i < 2 ^ i := Nat.mod_lt _ (Nat.two_pow_pos i)
        have hW : B % 2 ^ (i + 1) = B % 2 ^ i ^^^ 2 ^ i := by
          rw [hsucc, hbit, add_eq_xor _ _ i hWi, Nat.mul_one]
        refine ih (i + 1) _ true (by omega) (by omega) ?_ (by rw [List.length_set]; exact hl) ?_ ?_
        · intro y hy
          rcases List.mem_or_eq_of_mem_set hy with h | rfl
          · exact hs y h
          · have : (s.getD ((f + i) / 8) 0).toNat ^^^ 2 ^ ((f + i) % 8) < 2 ^ 8 := Nat.xor_lt_two_pow (by omega) hp8
            omega
        · rw [hfl2, hle, hW, two_pow_xor, ← Nat.pow_add, Nat.xor_assoc]
        · have : 0 < 2 ^ i := Nat.two_pow_pos i
          rw [hsucc, hbit]
          symm
          exact decide_eq_true (by omega)
      · have h0 : B / 2 ^ i % 2 = 0 := by omega
        refine Ev.neg (by rw [and1_32 _ hB2, h0]; decide) ?_
        have hW : B % 2 ^ (i + 1) = B % 2 ^ i := by rw [hsucc, h0, Nat.mul_zero, Nat.add_zero]
        exact ih (i + 1) s fl (by omega) (by omega) hs hl (by rw [hW]; exact hle) (by rw [hW]; exact hfl)
    · rw [show decide (((f + i : Nat) : Int) < ((8 * (b.length + 4) : Nat) : Int)) = false from decide_eq_false (by omega)]
      exact burst_fin b s B _ f fl _ hb hs hl hbl hle (hWlt i) hfl
theorem ChecksumBursts : laminalaw02_ChecksumBursts.Pure := by
  intro b a c _ _ hwf ha hc
  have hb : ∀ x ∈ b, 0 ≤ x ∧ x < 256 := fun x hx => wf_u8 (hwf x hx)
  have hc2 := bounds_u32 hc
  have ha2 := bounds_u16 ha
  obtain ⟨B, rfl⟩ := Int.eq_ofNat_of_zero_le hc2.1
  obtain ⟨p, rfl⟩ := Int.eq_ofNat_of_zero_le ha2.1
  refine Ev.rounds (g := fun k => laminalaw02_ChecksumBursts.f k b (p : Int) (B : Int)) ?_
  unfold laminalaw02_ChecksumBursts.f
  have yes : Ev (fun k => laminalaw02_ChecksumBursts.j0 k b (p : Int) (B : Int) true) true := by
    refine Ev.succ ?_
    simp only [laminalaw02_ChecksumBursts.j0]
    refine Ev.pos trivial ?_
    exact Ev.bind0 rfl (Ev.now _)
  by_cases h5 : (b.length : Int) > 5000
  · exact Ev.pos h5 yes
  · refine Ev.neg h5 ?_
    by_cases h0 : B = 0
    · subst h0; exact yes
    · rw [show (((B : Nat) : Int) == 0) = false from beq_eq_false_iff_ne.mpr (by omega)]
      refine Ev.succ ?_
      simp only [laminalaw02_ChecksumBursts.j0]
      refine Ev.neg (by simp) ?_
      refine Ev.bind (ck_seal_ev b hb (by omega)) ?_
      refine Ev.pos (by simp only [List.length_nil, List.length_append, fixed_len]; omega) ?_
      refine Ev.bind0 rfl ?_
      have hl : ([] ++ (b ++ fixed (cks b) 4) : List Int).length = b.length + 4 := by simp [fixed_len]
      have e8 : wrap64 (8 * ((([] ++ (b ++ fixed (cks b) 4) : List Int)).length : Int)) = ((8 * (b.length + 4) : Nat) : Int) := by rw [hl, w64 _ (by omega) (by omega)]; omega
      rw [e8]
      refine Ev.pos (by rw [hl, w64 _ (by omega) (by omega)]; omega) ?_
      refine Ev.neg (by omega) ?_
      have em : Int.tmod (wrap64 (p : Int)) ((8 * (b.length + 4) : Nat) : Int) = ((p % (8 * (b.length + 4)) : Nat) : Int) := by
        rw [w64n p (by omega), Int.tmod_eq_emod_of_nonneg (by omega)]; omega
      rw [em]
      refine burst_l0 b B _ hb (by omega) (by omega) (Nat.mod_lt _ (by omega)) 32 0 _ false rfl (by have := Nat.mod_lt p (show 0 < 8 * (b.length + 4) by omega); omega) ?_ hl ?_ ?_
      · intro x hx
        rw [List.nil_append] at hx
        rcases List.mem_append.1 hx with h | h
        · exact hb x h
        · exact fixed_range _ _ x h
      · rw [Nat.pow_zero, Nat.mod_one, Nat.mul_zero, Nat.xor_zero, List.nil_append]
      · simp [Nat.mod_one]

end Go.Proofs.Ytfonjlolliiaeaa.Pure
