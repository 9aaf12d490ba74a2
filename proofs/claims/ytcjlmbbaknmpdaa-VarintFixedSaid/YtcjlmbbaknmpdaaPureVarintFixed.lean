/- laminalaw01.VarintFixed returns true for all its arguments (Fixed and ReadFixed return the reference's results). Conditions: none beyond the row's own (a slice of at most 2^47 - 4096 bytes). -/
import Derived.Test.YtcjlmbbaknmpdaaQVarintFixedx3
import Derived.Test.YtcjlmbbaknmpdaaM01
import Derived.Test.YtcjlmbbaknmpdaaM02
set_option linter.unusedVariables false
set_option linter.unusedSimpArgs false
namespace Go.Proofs.Ytcjlmbbaknmpdaa.Pure
open Go Go.RowKit Go.Proofs.Ytcjlmbbaknmpdaa.QVarintFixed Go.Proofs.YtcjlmbbaknmpdaaW.PrintWords Go.Proofs.YtcjlmbbaknmpdaaW.PrintLast Go.Proofs.YtcjlmbbaknmpdaaM

/-! ### fixed numbers -/
theorem shr_256 (n i : Nat) (hi : i ≤ 7) (hn : n < 18446744073709551616) : (shr .u64 (n : Int) (wrap64 (8 * (i : Int)))) % 256 = ((n / 256 ^ i % 256 : Nat) : Int) := by
  have e : min (8 * (i : Int)).toNat 64 = 8 * i := by omega
  have e2 : (2 : Int) ^ (8 * i) = ((256 ^ i : Nat) : Int) := by rw [Int.pow_mul]; simp
  rw [w64 _ (by omega) (by omega)]
  unfold shr
  rw [show IntKind.u64.bits = 64 from rfl, e, e2, ← Int.natCast_ediv]
  rfl
theorem fix_l0 (n s : Nat) (hs : s ≤ 8) (hn : n < 18446744073709551616) : ∀ (f i : Nat) (l : List Int), i + f = s → l.length = s → l.take i = (fixed n s).take i → 
    Ev (fun k => varint_Fixed.l0 k n l s i) (fixed n s) := by
  intro f
  induction f with
  | zero =>
    intro i l hi hl ht
    refine Ev.succ ?_
    simp only [varint_Fixed.l0]
    refine Ev.neg (by omega) ?_
    refine Ev.eq (Ev.now _) ?_
    rw [List.take_of_length_le (by omega), List.take_of_length_le (by rw [fixed_len]; omega)] at ht
    exact ht
  | succ f ih =>
    intro i l hi hl ht
    refine Ev.succ ?_
    simp only [varint_Fixed.l0, shr_256 n i (by omega) hn, w64_add1 i (by omega), Int.toNat_natCast]
    refine Ev.pos (by omega) ?_
    refine Ev.pos (by rw [w64 _ (by omega) (by omega)]; omega) ?_
    refine Ev.pos (by omega) ?_
    refine Ev.pos (by omega) ?_
    refine ih (i + 1) _ (by omega) (by rw [List.length_set, hl]) ?_
    have hlt : i < (fixed n s).length := by rw [fixed_len]; omega
    rw [List.take_succ_eq_append_getElem (by rw [List.length_set]; omega), List.take_succ_eq_append_getElem hlt, List.getElem_set_self, List.take_set_of_le (by omega), ht]
    congr 2
    rw [fixed_get n s i (by omega)]
theorem fix_ev (n : Nat) (hn : n < 18446744073709551616) (s : Int) : Ev (fun k => varint_Fixed.f k n s) (if s < 1 ∨ 8 < s then [] else fixed n s.toNat) := by
  unfold varint_Fixed.f
  have bad : (s < 1 ∨ 8 < s) → Ev (fun k => varint_Fixed.j0 k n s true) (if s < 1 ∨ 8 < s then [] else fixed n s.toNat) := fun h => by
    rw [if_pos h]
    refine Ev.succ ?_
    simp only [varint_Fixed.j0]
    refine Ev.pos (by decide) ?_
    exact Ev.now _
  by_cases h1 : s < 1
  · refine Ev.pos h1 ?_
    exact bad (.inl h1)
  refine Ev.neg h1 ?_
  by_cases h8 : 8 < s
  · rw [show decide (s > 8) = true by simpa using h8]
    exact bad (.inr h8)
  · rw [show decide (s > 8) = false by simpa using h8, if_neg (by omega)]
    refine Ev.succ ?_
    simp only [varint_Fixed.j0]
    refine Ev.neg (by decide) ?_
    refine Ev.pos (by omega) ?_
    refine Ev.pos (by omega) ?_
    obtain ⟨m, rfl⟩ := Int.eq_ofNat_of_zero_le (show 0 ≤ s by omega)
    rw [Int.toNat_natCast]
    exact fix_l0 n m (by omega) hn m 0 _ (by omega) (by rw [List.length_replicate]) (by simp)

theorem rfix_l0 (s : Nat) (hs : s ≤ 8) : ∀ (f i n : Nat) (l : List Int), i + f = s → l.length ≤ 100 → l.length + f ≤ 100 → n < 18446744073709551616 → Ev (fun k => laminaref01_Fixed.l0 k n s l i) (l ++ fixed n f) := by
  intro f
  induction f with
  | zero =>
    intro i n l hi hl hl2 hn
    refine Ev.succ ?_
    simp only [laminaref01_Fixed.l0]
    refine Ev.neg (by omega) ?_
    simp only [fixed, List.append_nil]
    exact Ev.now _
  | succ f ih =>
    intro i n l hi hl hl2 hn
    refine Ev.succ ?_
    have e1 : IntKind.u64.wrap (Int.tdiv (n : Int) 256) = ((n / 256 : Nat) : Int) := by
      rw [Int.tdiv_eq_ediv_of_nonneg (by omega), wrap_u64_of _ (by omega) (by omega)]; rfl
    have e2 : Int.tmod (n : Int) 256 % 256 = ((n % 256 : Nat) : Int) := by
      rw [Int.tmod_eq_emod_of_nonneg (by omega)]; omega
    simp only [laminaref01_Fixed.l0, e1, e2, w64_add1 i (by omega)]
    clear e1 e2
    refine Ev.pos (by omega) ?_
    refine Ev.pos (by omega) ?_
    refine Ev.eq (ih (i + 1) (n / 256) (l ++ [((n % 256 : Nat) : Int)]) (by omega) (by simp; omega) (by simp; omega) (by omega)) ?_
    simp [fixed]
theorem rfix_ev (n : Nat) (hn : n < 18446744073709551616) (s : Int) : Ev (fun k => laminaref01_Fixed.f k n s) (if s < 1 ∨ 8 < s then [] else fixed n s.toNat) := by
  unfold laminaref01_Fixed.f
  have bad : (s < 1 ∨ 8 < s) → Ev (fun k => laminaref01_Fixed.j0 k n s true) (if s < 1 ∨ 8 < s then [] else fixed n s.toNat) := fun h => by
    rw [if_pos h]
    refine Ev.succ ?_
    simp only [laminaref01_Fixed.j0]
    refine Ev.pos (by decide) ?_
    exact Ev.now _
  by_cases h1 : s < 1
  · refine Ev.pos h1 ?_
    exact bad (.inl h1)
  refine Ev.neg h1 ?_
  by_cases h8 : 8 < s
  · rw [show decide (s > 8) = true by simpa using h8]
    exact bad (.inr h8)
  · rw [show decide (s > 8) = false by simpa using h8, if_neg (by omega)]
    refine Ev.succ ?_
    simp only [laminaref01_Fixed.j0]
    refine Ev.neg (by decide) ?_
    obtain ⟨m, rfl⟩ := Int.eq_ofNat_of_zero_le (show 0 ≤ s by omega)
    rw [Int.toNat_natCast]
    refine Ev.eq (rfix_l0 m (by omega) m 0 n [] (by omega) (by simp) (by simp; omega) hn) ?_
    simp

/-! ### reading fixed numbers -/
def rfx (b : List Int) (o s : Int) : Int × Int :=
  if s < 1 ∨ 8 < s ∨ o < 0 ∨ (b.length : Int) < o then (0, 1) else if (b.length : Int) - o < s then (0, 2) else (((le ((b.drop o.toNat).take s.toNat) : Nat) : Int), 0)
theorem rdf_l0 (b : List Int) (hb : ∀ x ∈ b, 0 ≤ x ∧ x < 256) (hlen : b.length < 4611686018427387904) (o s : Nat) (hs : s ≤ 8) (ho : o + s ≤ b.length) :
    ∀ (f i : Nat), i + f = s → Ev (fun k => varint_ReadFixed.l0 k b o ((le ((b.drop o).take i) : Nat) : Int) s i) (((le ((b.drop o).take s) : Nat) : Int), 0) := by
  intro f
  induction f with
  | zero =>
    intro i hi
    refine Ev.succ ?_
    simp only [varint_ReadFixed.l0]
    refine Ev.neg (by omega) ?_
    rw [show i = s by omega]
    exact Ev.now _
  | succ f ih =>
    intro i hi
    have hlt : o + i < b.length := by omega
    have hr := getD_range hb hlt
    obtain ⟨c, hc⟩ := Int.eq_ofNat_of_zero_le hr.1
    rw [hc] at hr
    have hl : ((b.drop o).take i).length = i := by rw [List.length_take, List.length_drop]; omega
    have hall : ∀ x ∈ (b.drop o).take i, 0 ≤ x ∧ x < 256 := fun x hx => hb x (List.mem_of_mem_drop (List.mem_of_mem_take hx))
    have hle := le_lt ((b.drop o).take i) hall
    rw [hl] at hle
    have htake : (b.drop o).take (i + 1) = (b.drop o).take i ++ [(c : Int)] := by
      rw [List.take_succ_eq_append_getElem (by rw [List.length_drop]; omega)]
      congr 2
      rw [List.getElem_drop]
      rw [← hc, List.getD_eq_getElem?_getD, List.getElem?_eq_getElem hlt]; rfl
    have hle2 : le ((b.drop o).take (i + 1)) = le ((b.drop o).take i) + c * 256 ^ i := by
      rw [htake, le_append, hl]; simp [le, Nat.mul_comm]
    have hp7 : 256 ^ i ≤ 256 ^ 7 := Nat.pow_le_pow_right (by decide) (by omega)
    have h7 : (256 : Nat) ^ 7 = 72057594037927936 := by decide
    have hcb : c * 256 ^ i ≤ 255 * 72057594037927936 := Nat.mul_le_mul (by omega) (by omega)
    have e1 : shl .u64 (IntKind.u64.wrap (rd b (((o + i : Nat)) : Int))) (wrap64 (8 * (i : Int))) = ((c * 256 ^ i : Nat) : Int) := by
      have e : min (8 * (i : Int)).toNat 64 = 8 * i := by omega
      have e2 : (2 : Int) ^ (8 * i) = ((256 ^ i : Nat) : Int) := by rw [Int.pow_mul]; simp
      rw [rd_nat, hc, wrap_u64_of (c : Int) (by omega) (by omega), w64 _ (by omega) (by omega)]
      unfold shl
      rw [show IntKind.u64.bits = 64 from rfl, e, e2, show (c : Int) * ((256 ^ i : Nat) : Int) = ((c * 256 ^ i : Nat) : Int) by simp]
      exact wrap_u64_of _ (by omega) (by omega)
    have e2 : bits .or .u64 ((le ((b.drop o).take i) : Nat) : Int) ((c * 256 ^ i : Nat) : Int) = ((le ((b.drop o).take (i + 1)) : Nat) : Int) := by
      have e2 : (2 : Int) ^ (8 * i) = ((256 ^ i : Nat) : Int) := by rw [Int.pow_mul]; simp
      rw [or_add (8 * i) _ _ (by omega) (by rw [e2]; omega) (by omega) (by omega) (by omega) ?_, hle2]
      · omega
      · rw [e2, show ((c * 256 ^ i : Nat) : Int) = (c : Int) * ((256 ^ i : Nat) : Int) from Int.natCast_mul _ _]; exact Int.mul_emod_left _ _
    refine Ev.succ ?_
    simp only [varint_ReadFixed.l0, w64_add o i (by omega), e1, e2, w64_add1 i (by omega)]
    clear e1 e2
    refine Ev.pos (by omega) ?_
    refine Ev.pos (by omega) ?_
    refine Ev.pos (by omega) ?_
    refine Ev.pos (by rw [w64 _ (by omega) (by omega)]; omega) ?_
    exact ih (i + 1) (by omega)
theorem rdf_ev (b : List Int) (hb : ∀ x ∈ b, 0 ≤ x ∧ x < 256) (hlen : b.length < 4611686018427387904) (o s : Int) : Ev (fun k => varint_ReadFixed.f k b o s) (rfx b o s) := by
  unfold varint_ReadFixed.f
  have bad : (s < 1 ∨ 8 < s ∨ o < 0 ∨ (b.length : Int) < o) → Ev (fun k => varint_ReadFixed.j0 k b o s true) (rfx b o s) := fun h => by
    unfold rfx
    rw [if_pos h]
    refine Ev.succ ?_
    simp only [varint_ReadFixed.j0]
    refine Ev.pos (by decide) ?_
    exact Ev.now _
  by_cases h1 : s < 1
  · refine Ev.pos h1 ?_
    exact bad (by omega)
  refine Ev.neg h1 ?_
  by_cases h8 : 8 < s
  · refine Ev.pos h8 ?_
    exact bad (by omega)
  refine Ev.neg h8 ?_
  by_cases h0 : o < 0
  · refine Ev.pos h0 ?_
    exact bad (by omega)
  refine Ev.neg h0 ?_
  by_cases hl : (b.length : Int) < o
  · rw [show decide (o > (b.length : Int)) = true by simpa using hl]
    exact bad (by omega)
  rw [show decide (o > (b.length : Int)) = false by simpa using hl]
  unfold rfx
  rw [if_neg (by omega)]
  obtain ⟨m, rfl⟩ := Int.eq_ofNat_of_zero_le (show 0 ≤ s by omega)
  obtain ⟨n, rfl⟩ := Int.eq_ofNat_of_zero_le (show 0 ≤ o by omega)
  refine Ev.succ ?_
  simp only [varint_ReadFixed.j0, w64 ((b.length : Int) - (n : Int)) (by omega) (by omega)]
  refine Ev.neg (by decide) ?_
  by_cases hsh : (b.length : Int) - n < m
  · refine Ev.pos hsh ?_
    exact Ev.eq (Ev.now _) (by rw [if_pos hsh])
  · refine Ev.neg hsh ?_
    rw [if_neg hsh, Int.toNat_natCast, Int.toNat_natCast]
    have := rdf_l0 b hb hlen n m (by omega) (by omega) m 0 (by omega)
    simpa [le] using this

theorem rrdf_l0 (b : List Int) (hb : ∀ x ∈ b, 0 ≤ x ∧ x < 256) (hlen : b.length < 4611686018427387904) (o s : Nat) (hs : s ≤ 8) (ho : o + s ≤ b.length) :
    ∀ (i : Nat), i ≤ s → Ev (fun k => laminaref01_ReadFixed.l0 k b o ((le (((b.drop o).take s).drop i) : Nat) : Int) ((i : Int) - 1)) (((le ((b.drop o).take s) : Nat) : Int), 0) := by
  intro i
  induction i with
  | zero =>
    intro hi
    refine Ev.succ ?_
    simp only [laminaref01_ReadFixed.l0]
    refine Ev.neg (by omega) ?_
    rw [List.drop_zero]
    exact Ev.now _
  | succ i ih =>
    intro hi
    have hlt : o + i < b.length := by omega
    have hr := getD_range hb hlt
    obtain ⟨c, hc⟩ := Int.eq_ofNat_of_zero_le hr.1
    rw [hc] at hr
    have hl : ((b.drop o).take s).length = s := by rw [List.length_take, List.length_drop]; omega
    have hall : ∀ x ∈ ((b.drop o).take s).drop (i + 1), 0 ≤ x ∧ x < 256 := fun x hx => hb x (List.mem_of_mem_drop (List.mem_of_mem_take (List.mem_of_mem_drop hx)))
    have hle := le_lt _ hall
    have hl2 : (((b.drop o).take s).drop (i + 1)).length = s - (i + 1) := by rw [List.length_drop, hl]
    rw [hl2] at hle
    have hdrop : ((b.drop o).take s).drop i = (c : Int) :: ((b.drop o).take s).drop (i + 1) := by
      rw [List.drop_eq_getElem_cons (by omega)]
      congr 1
      rw [List.getElem_take, List.getElem_drop, ← hc, List.getD_eq_getElem?_getD, List.getElem?_eq_getElem hlt]; rfl
    have hle2 : le (((b.drop o).take s).drop i) = c + 256 * le (((b.drop o).take s).drop (i + 1)) := by rw [hdrop]; simp [le]
    have hp7 : 256 ^ (s - (i + 1)) ≤ 256 ^ 7 := Nat.pow_le_pow_right (by decide) (by omega)
    have h7 : (256 : Nat) ^ 7 = 72057594037927936 := by decide
    have e1 : IntKind.u64.wrap ((IntKind.u64.wrap (((le (((b.drop o).take s).drop (i + 1)) : Nat) : Int) * 256)) + (IntKind.u64.wrap (rd b (((o + i : Nat)) : Int)))) = ((le (((b.drop o).take s).drop i) : Nat) : Int) := by
      rw [rd_nat, hc, wrap_u64_of (c : Int) (by omega) (by omega), wrap_u64_of (_ * 256) (by omega) (by omega), wrap_u64_of _ (by omega) (by omega), hle2]
      omega
    have e0 : ((i + 1 : Nat) : Int) - 1 = (i : Int) := by omega
    have e3 : wrap64 ((i : Int) - 1) = (i : Int) - 1 := w64 _ (by omega) (by omega)
    rw [e0]
    refine Ev.succ ?_
    simp only [laminaref01_ReadFixed.l0, w64_add o i (by omega), e1, e3]
    clear e1 e3 e0
    refine Ev.pos (by omega) ?_
    refine Ev.pos (by omega) ?_
    refine Ev.pos (by omega) ?_
    exact ih (by omega)
theorem rrdf_ev (b : List Int) (hb : ∀ x ∈ b, 0 ≤ x ∧ x < 256) (hlen : b.length < 4611686018427387904) (o s : Int) : Ev (fun k => laminaref01_ReadFixed.f k b o s) (rfx b o s) := by
  unfold laminaref01_ReadFixed.f
  have bad : (s < 1 ∨ 8 < s ∨ o < 0 ∨ (b.length : Int) < o) → Ev (fun k => laminaref01_ReadFixed.j0 k b o s true) (rfx b o s) := fun h => by
    unfold rfx
    rw [if_pos h]
    refine Ev.succ ?_
    simp only [laminaref01_ReadFixed.j0]
    refine Ev.pos (by decide) ?_
    exact Ev.now _
  by_cases h1 : s < 1
  · refine Ev.pos h1 ?_
    exact bad (by omega)
  refine Ev.neg h1 ?_
  by_cases h8 : 8 < s
  · refine Ev.pos h8 ?_
    exact bad (by omega)
  refine Ev.neg h8 ?_
  by_cases h0 : o < 0
  · refine Ev.pos h0 ?_
    exact bad (by omega)
  refine Ev.neg h0 ?_
  by_cases hl : (b.length : Int) < o
  · rw [show decide (o > (b.length : Int)) = true by simpa using hl]
    exact bad (by omega)
  rw [show decide (o > (b.length : Int)) = false by simpa using hl]
  unfold rfx
  rw [if_neg (by omega)]
  obtain ⟨m, rfl⟩ := Int.eq_ofNat_of_zero_le (show 0 ≤ s by omega)
  obtain ⟨n, rfl⟩ := Int.eq_ofNat_of_zero_le (show 0 ≤ o by omega)
  refine Ev.succ ?_
  simp only [laminaref01_ReadFixed.j0, w64 ((b.length : Int) - (n : Int)) (by omega) (by omega), w64 ((m : Int) - 1) (by omega) (by omega)]
  refine Ev.neg (by decide) ?_
  by_cases hsh : (b.length : Int) - n < m
  · refine Ev.pos hsh ?_
    exact Ev.eq (Ev.now _) (by rw [if_pos hsh])
  · refine Ev.neg hsh ?_
    rw [if_neg hsh, Int.toNat_natCast, Int.toNat_natCast]
    have := rrdf_l0 b hb hlen n m (by omega) (by omega) m (by omega)
    rw [List.drop_of_length_le (by rw [List.length_take, List.length_drop]; omega)] at this
    simpa [le] using this

theorem awake_ev : Ev (fun k => laminalaw01_awake.f k) true := Ev.of laminalaw01_awake.mono (k := 20) (by decide +kernel)
theorem VarintFixed : laminalaw01_VarintFixed.Pure := by
  intro n s b o wn ws hl hl2 wb wo
  have hn := wf_u64 wn
  have hb := wf_u8s wb
  obtain ⟨m, rfl⟩ := Int.eq_ofNat_of_zero_le hn.1
  refine Ev.rounds (g := fun k => laminalaw01_VarintFixed.f k m s b o) ?_
  unfold laminalaw01_VarintFixed.f
  refine Ev.bind (rdf_ev b hb (by omega) o s) ?_
  refine Ev.bind (rrdf_ev b hb (by omega) o s) ?_
  refine Ev.bind (fix_ev m (by omega) s) ?_
  refine Ev.bind (rfix_ev m (by omega) s) ?_
  refine Ev.pos (by rfl) ?_
  refine Ev.pos (by rfl) ?_
  refine Ev.pos (by rfl) ?_
  exact Ev.bind awake_ev (Ev.now _)

end Go.Proofs.Ytcjlmbbaknmpdaa.Pure
