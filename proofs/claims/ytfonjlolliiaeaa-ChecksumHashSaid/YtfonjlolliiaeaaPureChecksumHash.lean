/- laminalaw02.ChecksumHash returns true for all its arguments (Hash returns the reference's result). Conditions: none beyond the row's own (a slice of at most 2^47 - 4096 bytes). -/
import Derived.Test.YtfonjlolliiaeaaQChecksumHashx3
import Derived.Test.YtfonjlolliiaeaaM01
import Derived.Test.YtfonjlolliiaeaaM02
import Derived.Test.YtfonjlolliiaeaaM06
import Derived.Test.YtfonjlolliiaeaaM07
set_option linter.unusedVariables false
set_option linter.unusedSimpArgs false
namespace Go.Proofs.Ytfonjlolliiaeaa.Pure
open Go Go.RowKit Go.Proofs.Ytfonjlolliiaeaa.QChecksumHash Go.Proofs.YtfonjlolliiaeaaW.PrintWords Go.Proofs.YtfonjlolliiaeaaW.PrintLast Go.Proofs.YtfonjlolliiaeaaM

/-! ### Hash -/
theorem or_low (a x : Nat) (ha : a < 72057594037927936) (hx : x < 256) : bits .or .u64 ((a * 256 : Nat) : Int) (x : Int) = ((x + 256 * a : Nat) : Int) := by
  have h := or_u64 8 x a (by omega) (by omega) (by omega)
  rw [bits_or_comm]
  have e : a * 2 ^ 8 = a * 256 := rfl
  rw [e] at h
  rw [h]
  omega
theorem word_l0 (b : List Int) (hb : ∀ x ∈ b, 0 ≤ x ∧ x < 256) (hl : b.length < 1000000000) (i : Nat) (hi : i < 1000000000) : ∀ (d : Nat), d ≤ 8 →
    Ev (fun k => laminaref02_word.l0 k b (i : Int) ((le ((b.drop (i + d)).take (8 - d)) : Nat) : Int) ((d : Int) - 1)) ((le ((b.drop i).take 8) : Nat) : Int) := by
  intro d
  induction d with
  | zero =>
    intro _
    refine Ev.succ ?_
    simp only [laminaref02_word.l0]
    refine Ev.neg (by omega) ?_
    exact Ev.now _
  | succ d ih =>
    intro hd
    refine Ev.succ ?_
    have e1 : (((d + 1 : Nat) : Int) - 1) = (d : Int) := by omega
    have e2 : wrap64 ((d : Int) - 1) = (d : Int) - 1 := w64 _ (by omega) (by omega)
    simp only [laminaref02_word.l0, e1, e2, w64_add i d (by omega)]
    refine Ev.pos (by omega) ?_
    obtain ⟨acc, hacc⟩ : ∃ acc, acc = le ((b.drop (i + (d + 1))).take (8 - (d + 1))) := ⟨_, rfl⟩
    rw [← hacc]
    have hlt : acc < 72057594037927936 := by
      have h1 := le_lt ((b.drop (i + (d + 1))).take (8 - (d + 1))) (fun y hy => hb y (List.mem_of_mem_drop (List.mem_of_mem_take hy)))
      rw [← hacc] at h1
      have h2 : (256 : Nat) ^ ((b.drop (i + (d + 1))).take (8 - (d + 1))).length ≤ 256 ^ 7 := Nat.pow_le_pow_right (by decide) (by rw [List.length_take]; omega)
      exact Nat.lt_of_lt_of_le h1 h2
    have ew : IntKind.u64.wrap ((acc : Int) * 256) = ((acc * 256 : Nat) : Int) := by rw [wraps_u64 _ (by omega) (by omega)]; omega
    by_cases h : i + d < b.length
    · refine Ev.pos (by omega) ?_
      refine Ev.pos (by omega) ?_
      have hx := hb (b[i + d]) (List.getElem_mem h)
      have hg : rd b ((i + d : Nat) : Int) = b[i + d] := by
        rw [rd_nat, List.getD_eq_getElem?_getD, List.getElem?_eq_getElem h]; rfl
      obtain ⟨x, hxe⟩ : ∃ x : Nat, b[i + d] = (x : Int) := ⟨(b[i + d]).toNat, by omega⟩
      have e3 : le ((b.drop (i + d)).take (8 - d)) = x + 256 * acc := by
        rw [List.drop_eq_getElem_cons h, show 8 - d = (8 - (d + 1)) + 1 by omega, List.take_succ_cons, hacc]
        show (b[i + d]).toNat + 256 * _ = _
        rw [hxe, Int.toNat_natCast]
        rfl
      have e4 : bits .or .u64 (IntKind.u64.wrap ((acc : Int) * 256)) (IntKind.u64.wrap (rd b ((i + d : Nat) : Int))) = ((le ((b.drop (i + d)).take (8 - d)) : Nat) : Int) := by
        rw [ew, hg, hxe, wraps_u64 _ (by omega) (by omega), or_low acc x hlt (by omega), e3]
      rw [e4]
      exact ih (by omega)
    · refine Ev.neg (by omega) ?_
      have h0 : acc = 0 := by rw [hacc, List.drop_of_length_le (by omega), List.take_nil]; rfl
      have e4 : IntKind.u64.wrap ((acc : Int) * 256) = ((le ((b.drop (i + d)).take (8 - d)) : Nat) : Int) := by
        rw [ew, h0, List.drop_of_length_le (by omega), List.take_nil]; rfl
      rw [e4]
      exact ih (by omega)
theorem word_ev (b : List Int) (hb : ∀ x ∈ b, 0 ≤ x ∧ x < 256) (hl : b.length < 1000000000) (i : Nat) (hi : i < 1000000000) : Ev (fun k => laminaref02_word.f k b (i : Int)) ((le ((b.drop i).take 8) : Nat) : Int) := by
  unfold laminaref02_word.f
  have := word_l0 b hb hl i hi 8 (Nat.le_refl 8)
  simpa [le] using this
theorem rhash_l0 (b : List Int) (hb : ∀ x ∈ b, 0 ≤ x ∧ x < 256) (hl : b.length < 100000000) : ∀ (m i : Nat) (h : Int), m = (b.length + 7) / 8 - i → i ≤ (b.length + 7) / 8 →
    Ev (fun k => laminaref02_Hash.l0 k b h ((8 * i : Nat) : Int)) (hashI m h (b.drop (8 * i))) := by
  intro m
  induction m with
  | zero =>
    intro i h hm hi
    refine Ev.succ ?_
    simp only [laminaref02_Hash.l0]
    refine Ev.neg (by omega) ?_
    exact Ev.now _
  | succ m ih =>
    intro i h hm hi
    refine Ev.succ ?_
    simp only [laminaref02_Hash.l0]
    refine Ev.pos (by omega) ?_
    refine Ev.bind (word_ev b hb (by omega) (8 * i) (by omega)) ?_
    refine Ev.bind0 (mix_some _) ?_
    have e1 : wrap64 (((8 * i : Nat) : Int) + 8) = ((8 * (i + 1) : Nat) : Int) := by rw [w64 _ (by omega) (by omega)]; omega
    rw [e1]
    have := ih (i + 1) (mixI (bits .xor .u64 h ((le ((b.drop (8 * i)).take 8) : Nat) : Int))) (by omega) (by omega)
    rw [show 8 * (i + 1) = 8 * i + 8 by omega, ← List.drop_drop] at this
    rw [show 8 * (i + 1) = 8 * i + 8 by omega]
    exact this
theorem rhash_ev (s : Int) (b : List Int) (hb : ∀ x ∈ b, 0 ≤ x ∧ x < 256) (hl : b.length < 100000000) : Ev (fun k => laminaref02_Hash.f k s b) (hashI ((b.length + 7) / 8) (mixI (bits .xor .u64 s (b.length : Int))) b) := by
  unfold laminaref02_Hash.f
  rw [wraps_u64 _ (by omega) (by omega)]
  refine Ev.bind0 (mix_some _) ?_
  exact rhash_l0 b hb hl _ 0 _ rfl (Nat.zero_le _)
theorem ihash (s : Int) (b : List Int) (hb : ∀ x ∈ b, 0 ≤ x ∧ x < 256) (hl : b.length < 100000000) : checksum_Hash.f s b = some (hashI ((b.length + 7) / 8) (mixI (bits .xor .u64 s (b.length : Int))) b) := by
  unfold checksum_Hash.f
  rw [if_pos]
  exact ⟨by simp only [List.all_eq_true, Bool.and_eq_true, decide_eq_true_eq]; exact hb, by omega⟩

theorem ChecksumHash : laminalaw02_ChecksumHash.Pure := by
  intro s b hs _ _ hwf
  have hb : ∀ x ∈ b, 0 ≤ x ∧ x < 256 := fun x hx => wf_u8 (hwf x hx)
  refine Ev.rounds (g := fun k => laminalaw02_ChecksumHash.f k s b) ?_
  unfold laminalaw02_ChecksumHash.f
  by_cases h5 : (b.length : Int) > 5000
  · refine Ev.pos h5 ?_
    refine Ev.bind0 rfl ?_
    refine Ev.pos rfl ?_
    exact Ev.now _
  · refine Ev.neg h5 ?_
    refine Ev.pos (by omega) ?_
    refine Ev.bind0 (ihash s b hb (by omega)) ?_
    refine Ev.bind (rhash_ev s b hb (by omega)) ?_
    refine Ev.pos rfl ?_
    exact Ev.bind0 rfl (Ev.now _)

end Go.Proofs.Ytfonjlolliiaeaa.Pure
