/- laminalaw02.ChecksumOpen returns true for every byte slice (Open returns the reference's contents and error), and leaves its argument as it was. Conditions: none beyond the row's own (the slice is readable and takes at most 2^47 - 4096 bytes). -/
import Derived.Test.YtfonjlolliiaeaaQChecksumOpenx3
import Derived.Test.YtfonjlolliiaeaaM01
import Derived.Test.YtfonjlolliiaeaaM02
import Derived.Test.YtfonjlolliiaeaaM06
import Derived.Test.YtfonjlolliiaeaaM07
set_option linter.unusedVariables false
set_option linter.unusedSimpArgs false
namespace Go.Proofs.Ytfonjlolliiaeaa.Pure
open Go Go.RowKit Go.Proofs.Ytfonjlolliiaeaa.QChecksumOpen Go.Proofs.YtfonjlolliiaeaaW.PrintWords Go.Proofs.YtfonjlolliiaeaaW.PrintLast Go.Proofs.YtfonjlolliiaeaaM

theorem drop_lt {α : Type} {l r : List α} {i : Nat} {x : α} (h : l.drop i = x :: r) : i < l.length := by
  rcases Nat.lt_or_ge i l.length with h1 | h1
  · exact h1
  · rw [List.drop_of_length_le h1] at h; cases h
theorem drop_ge {α : Type} {l : List α} {i : Nat} (h : l.drop i = []) : l.length ≤ i := by
  rwa [List.drop_eq_nil_iff] at h
theorem drop_next {α : Type} {l r : List α} {i : Nat} {x : α} (h : l.drop i = x :: r) : l.drop (i + 1) = r := by
  rw [← List.drop_drop, h]; rfl
theorem drop_mem {α : Type} {l r : List α} {i : Nat} {x : α} (h : l.drop i = x :: r) : x ∈ l := List.mem_of_mem_drop (h ▸ List.mem_cons_self)

/-! ### laminaref02: step, Update, Same -/
theorem ck_step_l0 : ∀ (d j r : Nat), j + d = 8 → r < 4294967296 → Ev (fun k => laminaref02_step.l0 k (r : Int) (j : Int)) ((Tn d r : Nat) : Int) := by
  intro d
  induction d with
  | zero =>
    intro j r hj hr
    refine Ev.succ ?_
    simp only [laminaref02_step.l0]
    refine Ev.neg (by omega) ?_
    exact Ev.now _
  | succ d ih =>
    intro j r hj hr
    refine Ev.succ ?_
    simp only [laminaref02_step.l0, w64_add1 j (by omega)]
    refine Ev.pos (by omega) ?_
    have hT : T r < 4294967296 := T_lt r hr
    have e1 : ((r : Int) / 2) = ((r / 2 : Nat) : Int) := by omega
    by_cases ho : r % 2 = 1
    · refine Ev.pos (by rw [and1_32 r (by omega), ho]; rfl) ?_
      have e2 : bits .xor .u32 ((r : Int) / 2) 2197175160 = ((T r : Nat) : Int) := by
        rw [e1]
        have h3 := xor_nat32 (r / 2) 2197175160 (by omega) (by decide)
        unfold T
        rw [if_pos ho]
        exact h3
      simp only [e2]
      exact ih (j + 1) (T r) (by omega) hT
    · refine Ev.neg (by rw [and1_32 r (by omega)]; omega) ?_
      have e2 : r / 2 = T r := by unfold T; rw [if_neg ho]
      simp only [e1, e2]
      exact ih (j + 1) (T r) (by omega) hT
theorem ck_step_ev (r : Nat) (x : Int) (hr : r < 4294967296) (hx : 0 ≤ x ∧ x < 256) : Ev (fun k => laminaref02_step.f k (r : Int) x) ((stp r x : Nat) : Int) := by
  unfold laminaref02_step.f
  obtain ⟨y, rfl⟩ := Int.eq_ofNat_of_zero_le hx.1
  have e1 : ((y : Int) % 4294967296) = (y : Int) := by omega
  rw [e1, xor_nat32 r y hr (by omega)]
  have := ck_step_l0 8 0 (r ^^^ y) rfl (Nat.xor_lt_two_pow (n := 32) hr (by omega))
  simpa [stp] using this
theorem ck_upd_l0 (b : List Int) (hb : ∀ x ∈ b, 0 ≤ x ∧ x < 256) (hlen : b.length < 4611686018427387904) : ∀ (s : List Int) (i r : Nat), b.drop i = s → r < 4294967296 → Ev (fun k => laminaref02_Update.l0 k (r : Int) b (i : Int)) ((4294967295 ^^^ crcR r s : Nat) : Int) := by
  intro s
  induction s with
  | nil =>
    intro i r h hr
    have := drop_ge h
    refine Ev.succ ?_
    simp only [laminaref02_Update.l0]
    refine Ev.neg (by omega) ?_
    refine Ev.eq (Ev.now _) ?_
    exact not32 r hr
  | cons x s ih =>
    intro i r h hr
    have hlt := drop_lt h
    have hg : rd b (i : Int) = x := by
      rw [rd_nat, List.getD_eq_getElem?_getD, ← List.head?_drop, h]; rfl
    have hx : 0 ≤ x ∧ x < 256 := hb x (by have : x ∈ b.drop i := by rw [h]; exact List.mem_cons_self
                                          exact List.mem_of_mem_drop this)
    refine Ev.succ ?_
    simp only [laminaref02_Update.l0, hg, w64_add1 i (by omega)]
    refine Ev.pos (by omega) ?_
    refine Ev.pos (by omega) ?_
    refine Ev.bind (ck_step_ev r x hr hx) ?_
    exact ih (i + 1) (stp r x) (drop_next h) (stp_lt r x hr hx)
theorem ck_upd_ev (c : Nat) (hc : c < 4294967296) (b : List Int) (hb : ∀ x ∈ b, 0 ≤ x ∧ x < 256) (hlen : b.length < 4611686018427387904) : Ev (fun k => laminaref02_Update.f k (c : Int) b) ((4294967295 ^^^ crcR (4294967295 ^^^ c) b : Nat) : Int) := by
  unfold laminaref02_Update.f
  have e1 : bits .xor .u32 IntKind.u32.max (c : Int) = ((4294967295 ^^^ c : Nat) : Int) := not32 c hc
  rw [e1]
  exact ck_upd_l0 b hb hlen b 0 _ rfl (Nat.xor_lt_two_pow (n := 32) (by decide) hc)
/-- The checksum of a list of bytes. -/
def cks (b : List Int) : Nat := 4294967295 ^^^ crcR 4294967295 b
theorem cks_lt (b : List Int) (hb : ∀ x ∈ b, 0 ≤ x ∧ x < 256) : cks b < 4294967296 :=
  Nat.xor_lt_two_pow (n := 32) (by decide) (crcR_lt b _ (by decide) hb)
theorem ck_upd0_ev (b : List Int) (hb : ∀ x ∈ b, 0 ≤ x ∧ x < 256) (hlen : b.length < 4611686018427387904) : Ev (fun k => laminaref02_Update.f k 0 b) ((cks b : Nat) : Int) := ck_upd_ev 0 (by decide) b hb hlen
theorem ck_all {b : List Int} (hb : ∀ x ∈ b, 0 ≤ x ∧ x < 256) : (b.all fun x => decide (0 ≤ x) && decide (x < 256)) = true := by
  simp only [List.all_eq_true, Bool.and_eq_true, decide_eq_true_eq]; exact hb
theorem ck_crc (ls : List (List Int)) (hb : ∀ l ∈ ls, ∀ x ∈ l, 0 ≤ x ∧ x < 256) : checksum_CRC.f ls = some ((4294967295 ^^^ crcF 4294967295 ls : Nat) : Int) := by
  unfold checksum_CRC.f
  rw [if_pos]
  rw [List.all_eq_true]
  exact fun l hl => ck_all (hb l hl)
theorem ck_crc1 (b : List Int) (hb : ∀ x ∈ b, 0 ≤ x ∧ x < 256) : checksum_CRC.f [b] = some ((cks b : Nat) : Int) :=
  ck_crc [b] (by intro l hl; obtain rfl := List.mem_singleton.1 hl; exact hb)
theorem shr32_256 (n i : Nat) (hi : i ≤ 3) : (shr .u32 (n : Int) (IntKind.u64.wrap (wrap64 (8 * (i : Int))))) % 256 = ((n / 256 ^ i % 256 : Nat) : Int) := by
  have e : min (8 * (i : Int)).toNat 32 = 8 * i := by omega
  have e2 : (2 : Int) ^ (8 * i) = ((256 ^ i : Nat) : Int) := by rw [Int.pow_mul]; simp
  rw [w64 _ (by omega) (by omega), wraps_u64 _ (by omega) (by omega)]
  unfold shr
  rw [show IntKind.u32.bits = 32 from rfl, e, e2, ← Int.natCast_ediv]
  rfl

theorem ck_same_l0 (l : List Int) (hl : l.length < 9223372036854775807) : ∀ (s : List Int) (i : Nat), l.drop i = s → Ev (fun k => laminaref02_Same.l0 k l l (i : Int)) true := by
  intro s
  induction s with
  | nil =>
    intro i h
    have := drop_ge h
    refine Ev.succ ?_
    simp only [laminaref02_Same.l0]
    refine Ev.neg (by omega) ?_
    exact Ev.now _
  | cons x s ih =>
    intro i h
    have hlt := drop_lt h
    refine Ev.succ ?_
    simp only [laminaref02_Same.l0, w64_add1 i (by omega)]
    refine Ev.pos (by omega) ?_
    refine Ev.pos (by omega) ?_
    refine Ev.pos (by omega) ?_
    refine Ev.pos trivial ?_
    exact ih (i + 1) (drop_next h)
theorem ck_same_ev (l : List Int) (hl : l.length < 9223372036854775807) : Ev (fun k => laminaref02_Same.f k l l) true := by
  unfold laminaref02_Same.f
  refine Ev.pos (show (l.length : Int) = (l.length : Int) from rfl) ?_
  exact ck_same_l0 l hl l 0 rfl

/-! ### reading fixed numbers -/
def rfx (b : List Int) (o s : Int) : Int × Int :=
  if s < 1 ∨ 8 < s ∨ o < 0 ∨ (b.length : Int) < o then (0, 1) else if (b.length : Int) - o < s then (0, 2) else (((le ((b.drop o.toNat).take s.toNat) : Nat) : Int), 0)
theorem rdf_l0 (b : List Int) (hb : ∀ x ∈ b, 0 ≤ x ∧ x < 256) (hlen : b.length < 4611686018427387904) (o s : Nat) (hs : s ≤ 8) (ho : o + s ≤ b.length) :
    ∀ (f i : Nat), i + f = s → Ev (fun k => varint_ReadFixed.l0 k b o ((le ((b.drop o).take i) : Nat) : Int) s i) (((le ((b.drop o).take s) : Nat) : Int), 0) := by
  intro f
  induction f with
  | zero =>
    intro i hi
    refine Ev.succ ?_
    simp only [varint_ReadFixed.l0]
    refine Ev.neg (by omega) ?_
    rw [show i = s by omega]
    exact Ev.now _
  | succ f ih =>
    intro i hi
    have hlt : o + i < b.length := by omega
    have hr := getD_range hb hlt
    obtain ⟨c, hc⟩ := Int.eq_ofNat_of_zero_le hr.1
    rw [hc] at hr
    have hl : ((b.drop o).take i).length = i := by rw [List.length_take, List.length_drop]; omega
    have hall : ∀ x ∈ (b.drop o).take i, 0 ≤ x ∧ x < 256 := fun x hx => hb x (List.mem_of_mem_drop (List.mem_of_mem_take hx))
    have hle := le_lt ((b.drop o).take i) hall
    rw [hl] at hle
    have htake : (b.drop o).take (i + 1) = (b.drop o).take i ++ [(c : Int)] := by
      rw [List.take_succ_eq_append_getElem (by rw [List.length_drop]; omega)]
      congr 2
      rw [List.getElem_drop]
      rw [← hc, List.getD_eq_getElem?_getD, List.getElem?_eq_getElem hlt]; rfl
    have hle2 : le ((b.drop o).take (i + 1)) = le ((b.drop o).take i) + c * 256 ^ i := by
      rw [htake, le_append, hl]; simp [le, Nat.mul_comm]
    have hp7 : 256 ^ i ≤ 256 ^ 7 := Nat.pow_le_pow_right (by decide) (by omega)
    have h7 : (256 : Nat) ^ 7 = 72057594037927936 := by decide
    have hcb : c * 256 ^ i ≤ 255 * 72057594037927936 := Nat.mul_le_mul (by omega) (by omega)
    have e1 : shl .u64 (IntKind.u64.wrap (rd b (((o + i : Nat)) : Int))) (wrap64 (8 * (i : Int))) = ((c * 256 ^ i : Nat) : Int) := by
      have e : min (8 * (i : Int)).toNat 64 = 8 * i := by omega
      have e2 : (2 : Int) ^ (8 * i) = ((256 ^ i : Nat) : Int) := by rw [Int.pow_mul]; simp
      rw [rd_nat, hc, wrap_u64_of (c : Int) (by omega) (by omega), w64 _ (by omega) (by omega)]
      unfold shl
      rw [show IntKind.u64.bits = 64 from rfl, e, e2, show (c : Int) * ((256 ^ i : Nat) : Int) = ((c * 256 ^ i : Nat) : Int) by simp]
      exact wrap_u64_of _ (by omega) (by omega)
    have e2 : bits .or .u64 ((le ((b.drop o).take i) : Nat) : Int) ((c * 256 ^ i : Nat) : Int) = ((le ((b.drop o).take (i + 1)) : Nat) : Int) := by
      have e2 : (2 : Int) ^ (8 * i) = ((256 ^ i : Nat) : Int) := by rw [Int.pow_mul]; simp
      rw [or_add (8 * i) _ _ (by omega) (by rw [e2]; omega) (by omega) (by omega) (by omega) ?_, hle2]
      · omega
      · rw [e2, show ((c * 256 ^ i : Nat) : Int) = (c : Int) * ((256 ^ i : Nat) : Int) from Int.natCast_mul _ _]; exact Int.mul_emod_left _ _
    refine Ev.succ ?_
    simp only [varint_ReadFixed.l0, w64_add o i (by omega), e1, e2, w64_add1 i (by omega)]
    clear e1 e2
    refine Ev.pos (by omega) ?_
    refine Ev.pos (by omega) ?_
    refine Ev.pos (by omega) ?_
    refine Ev.pos (by rw [w64 _ (by omega) (by omega)]; omega) ?_
    exact ih (i + 1) (by omega)
theorem rdf_ev (b : List Int) (hb : ∀ x ∈ b, 0 ≤ x ∧ x < 256) (hlen : b.length < 4611686018427387904) (o s : Int) : Ev (fun k => varint_ReadFixed.f k b o s) (rfx b o s) := by
  unfold varint_ReadFixed.f
  have bad : (s < 1 ∨ 8 < s ∨ o < 0 ∨ (b.length : Int) < o) → Ev (fun k => varint_ReadFixed.j0 k b o s true) (rfx b o s) := fun h => by
    unfold rfx
    rw [if_pos h]
    refine Ev.succ ?_
    simp only [varint_ReadFixed.j0]
    refine Ev.pos (by decide) ?_
    exact Ev.now _
  by_cases h1 : s < 1
  · refine Ev.pos h1 ?_
    exact bad (by omega)
  refine Ev.neg h1 ?_
  by_cases h8 : 8 < s
  · refine Ev.pos h8 ?_
    exact bad (by omega)
  refine Ev.neg h8 ?_
  by_cases h0 : o < 0
  · refine Ev.pos h0 ?_
    exact bad (by omega)
  refine Ev.neg h0 ?_
  by_cases hl : (b.length : Int) < o
  · rw [show decide (o > (b.length : Int)) = true by simpa using hl]
    exact bad (by omega)
  rw [show decide (o > (b.length : Int)) = false by simpa using hl]
  unfold rfx
  rw [if_neg (by omega)]
  obtain ⟨m, rfl⟩ := Int.eq_ofNat_of_zero_le (show 0 ≤ s by omega)
  obtain ⟨n, rfl⟩ := Int.eq_ofNat_of_zero_le (show 0 ≤ o by omega)
  refine Ev.succ ?_
  simp only [varint_ReadFixed.j0, w64 ((b.length : Int) - (n : Int)) (by omega) (by omega)]
  refine Ev.neg (by decide) ?_
  by_cases hsh : (b.length : Int) - n < m
  · refine Ev.pos hsh ?_
    exact Ev.eq (Ev.now _) (by rw [if_pos hsh])
  · refine Ev.neg hsh ?_
    rw [if_neg hsh, Int.toNat_natCast, Int.toNat_natCast]
    have := rdf_l0 b hb hlen n m (by omega) (by omega) m 0 (by omega)
    simpa [le] using this

/-! ### Open -/
def copn (b : List Int) : List Int × Int :=
  if b.length < 4 then ([], 2) else if cks (b.take (b.length - 4)) = le (b.drop (b.length - 4)) then (b.take (b.length - 4), 0) else ([], 5)
theorem ck_open_ev (b : List Int) (hb : ∀ x ∈ b, 0 ≤ x ∧ x < 256) (hl : b.length < 1000000000) : Ev (fun k => checksum_Open.f k b) (copn b) := by
  unfold checksum_Open.f copn
  rw [w64 _ (by omega) (by omega)]
  by_cases h4 : b.length < 4
  · rw [if_pos h4]
    refine Ev.pos (by omega) ?_
    exact Ev.now _
  · rw [if_neg h4]
    refine Ev.neg (by omega) ?_
    obtain ⟨n, hn⟩ : ∃ n, n = b.length - 4 := ⟨_, rfl⟩
    have e1 : (b.length : Int) - 4 = (n : Int) := by omega
    rw [e1, ← hn, Int.toNat_natCast]
    have hr := rdf_ev b hb (by omega) (n : Int) 4
    have e2 : rfx b (n : Int) 4 = (((le (b.drop n) : Nat) : Int), 0) := by
      unfold rfx
      rw [if_neg (by omega), if_neg (by omega), Int.toNat_natCast, List.take_of_length_le (by rw [List.length_drop]; show _ ≤ (4 : Int).toNat; have : (4 : Int).toNat = 4 := rfl; omega)]
    rw [e2] at hr
    refine Ev.bind hr ?_
    refine Ev.pos rfl ?_
    refine Ev.pos (by omega) ?_
    refine Ev.pos (by omega) ?_
    have hbt : ∀ x ∈ b.take n, 0 ≤ x ∧ x < 256 := fun x hx => hb x (List.mem_of_mem_take hx)
    refine Ev.bind0 (ck_crc1 _ hbt) ?_
    have hc := cks_lt _ hbt
    rw [wraps_u64 _ (by omega) (by omega)]
    by_cases he : cks (b.take n) = le (b.drop n)
    · rw [if_pos he]
      refine Ev.pos (by rw [he]) ?_
      refine Ev.bind0 rfl ?_
      refine Ev.pos (by simp only [List.length_nil, List.length_take]; omega) ?_
      exact Ev.eq (Ev.now _) (by simp)
    · rw [if_neg he]
      refine Ev.neg (by omega) ?_
      exact Ev.now _
theorem ck_ropen_l0 (b : List Int) (hb : ∀ x ∈ b, 0 ≤ x ∧ x < 256) (hl : b.length < 1000000000) (n c : Nat) (hn : n + 4 = b.length) (hc : c < 4294967296) : ∀ (d i : Nat), i + d = 4 →
    Ev (fun k => laminaref02_Open.l0 k b (n : Int) (c : Int) (i : Int)) (if c / 256 ^ i = le (b.drop (n + i)) then (b.take n, 0) else ([], 5)) := by
  intro d
  induction d with
  | zero =>
    intro i hi
    obtain rfl : i = 4 := by omega
    rw [List.drop_of_length_le (by omega), if_pos (by show c / 4294967296 = 0; omega)]
    refine Ev.succ ?_
    simp only [laminaref02_Open.l0, Int.toNat_natCast]
    refine Ev.neg (by decide) ?_
    refine Ev.pos (by omega) ?_
    refine Ev.pos (by omega) ?_
    refine Ev.pos (by simp only [List.length_nil, List.length_take]; omega) ?_
    exact Ev.eq (Ev.now _) (by simp)
  | succ d ih =>
    intro i hi
    have hlt : n + i < b.length := by omega
    have hx := hb (b[n + i]) (List.getElem_mem hlt)
    have hd : b.drop (n + i) = b[n + i] :: b.drop (n + (i + 1)) := List.drop_eq_getElem_cons hlt
    have hg : rd b ((n + i : Nat) : Int) = b[n + i] := by
      rw [rd_nat, List.getD_eq_getElem?_getD, List.getElem?_eq_getElem hlt]; rfl
    refine Ev.succ ?_
    simp only [laminaref02_Open.l0, w64_add1 i (by omega), w64_add n i (by omega), hg, shr32_256 c i (by omega)]
    refine Ev.pos (by omega) ?_
    refine Ev.pos (by omega) ?_
    refine Ev.pos (by omega) ?_
    refine Ev.pos (by rw [w64 _ (by omega) (by omega), wraps_u64 _ (by omega) (by omega)]; omega) ?_
    have hle : le (b.drop (n + i)) = (b[n + i]).toNat + 256 * le (b.drop (n + (i + 1))) := by rw [hd]; rfl
    have hdv : c / 256 ^ (i + 1) = c / 256 ^ i / 256 := by rw [Nat.pow_succ, Nat.div_div_eq_div_mul]
    by_cases he : b[n + i] = ((c / 256 ^ i % 256 : Nat) : Int)
    · refine Ev.pos he ?_
      refine Ev.eq (ih (i + 1) (by omega)) ?_
      rw [hle, hdv]
      by_cases h2 : c / 256 ^ i / 256 = le (b.drop (n + (i + 1)))
      · rw [if_pos h2, if_pos (by omega)]
      · rw [if_neg h2, if_neg (by omega)]
    · refine Ev.neg he ?_
      rw [if_neg (by rw [hle]; omega)]
      exact Ev.now _
theorem ck_ropen_ev (b : List Int) (hb : ∀ x ∈ b, 0 ≤ x ∧ x < 256) (hl : b.length < 1000000000) : Ev (fun k => laminaref02_Open.f k b) (copn b) := by
  unfold laminaref02_Open.f copn
  rw [w64 _ (by omega) (by omega)]
  by_cases h4 : b.length < 4
  · rw [if_pos h4]
    refine Ev.pos (by omega) ?_
    exact Ev.now _
  · rw [if_neg h4]
    refine Ev.neg (by omega) ?_
    obtain ⟨n, hn⟩ : ∃ n, n = b.length - 4 := ⟨_, rfl⟩
    have e1 : (b.length : Int) - 4 = (n : Int) := by omega
    rw [e1, ← hn, Int.toNat_natCast]
    refine Ev.pos (by omega) ?_
    refine Ev.pos (by omega) ?_
    have hbt : ∀ x ∈ b.take n, 0 ≤ x ∧ x < 256 := fun x hx => hb x (List.mem_of_mem_take hx)
    refine Ev.bind (ck_upd0_ev _ hbt (by rw [List.length_take]; omega)) ?_
    have := ck_ropen_l0 b hb hl n (cks (b.take n)) (by omega) (cks_lt _ hbt) 4 0 rfl
    simpa using this

theorem ChecksumOpen : laminalaw02_ChecksumOpen.Pure := by
  intro b _ _ hwf
  have hb : ∀ x ∈ b, 0 ≤ x ∧ x < 256 := fun x hx => wf_u8 (hwf x hx)
  refine Ev.rounds (g := fun k => laminalaw02_ChecksumOpen.f k b) ?_
  unfold laminalaw02_ChecksumOpen.f
  by_cases h5 : (b.length : Int) > 5000
  · refine Ev.pos h5 ?_
    exact Ev.bind0 rfl (Ev.now _)
  · refine Ev.neg h5 ?_
    refine Ev.bind (ck_open_ev b hb (by omega)) ?_
    refine Ev.bind (ck_ropen_ev b hb (by omega)) ?_
    refine Ev.pos rfl ?_
    refine Ev.bind (ck_same_ev _ ?_) ?_
    · unfold copn
      split
      · exact (by decide)
      · split
        · simp only [List.length_take]; omega
        · exact (by decide)
    · refine Ev.pos rfl ?_
      exact Ev.bind0 rfl (Ev.now _)

end Go.Proofs.Ytfonjlolliiaeaa.Pure
