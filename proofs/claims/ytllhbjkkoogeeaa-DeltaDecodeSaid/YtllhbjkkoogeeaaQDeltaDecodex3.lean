-- Written by a program of this session (wip/pr2.sh): the walk of the Go text, function by function.
import Derived.Test.YtllhbjkkoogeeaaQDeltaDecodex0
import Derived.Test.YtllhbjkkoogeeaaQDeltaDecodex1
import Derived.Test.YtllhbjkkoogeeaaQDeltaDecodex2
namespace Go.Proofs.Ytllhbjkkoogeeaa.QDeltaDecode
open Go.RowKit Go.Proofs.YtllhbjkkoogeeaaW.PrintWords Go.Proofs.YtllhbjkkoogeeaaW.PrintLast Go.Proofs.YtllhbjkkoogeeaaW.PrintMore
open Go.Proofs.YtllhbjkkoogeeaaM
attribute [local go_sem] max2_int min2_int max_two min_two max_three min_three max_four min_four   -- for this text's walks alone
set_option linter.unusedVariables false
set_option linter.unusedSimpArgs false

/-! ### frameref_sizes: function 75 -/
/-! ### how many bits -/
def IsLen (n r : Nat) : Prop := n < 2 ^ r ∧ (0 < r → 2 ^ (r - 1) ≤ n)
theorem IsLen.shift {n i r : Nat} (h : IsLen (n / 2 ^ i) r) (hn : 2 ^ i ≤ n) : IsLen n (r + i) := by
  obtain ⟨h1, h2⟩ := h
  have hp : 0 < 2 ^ i := Nat.pow_pos (by decide)
  have h3 : 1 ≤ n / 2 ^ i := (Nat.le_div_iff_mul_le hp).2 (by omega)
  refine ⟨?_, fun _ => ?_⟩
  · rw [Nat.pow_add]
    exact (Nat.div_lt_iff_lt_mul hp).1 h1
  · have hr : 0 < r := by
      rcases Nat.eq_zero_or_pos r with e | e
      · subst e; simp at h1; omega
      · exact e
    have := h2 hr
    rw [show r + i - 1 = (r - 1) + i by omega, Nat.pow_add]
    exact (Nat.le_div_iff_mul_le hp).1 this
def T8 : ByteArray := ⟨#[0, 1, 2, 2, 3, 3, 3, 3, 4, 4, 4, 4, 4, 4, 4, 4, 5, 5, 5, 5, 5, 5, 5, 5, 5, 5, 5, 5, 5, 5, 5, 5, 6, 6, 6, 6, 6, 6, 6, 6, 6, 6, 6, 6, 6, 6, 6, 6, 6, 6, 6, 6, 6, 6, 6, 6, 6, 6, 6, 6, 6, 6, 6, 6, 7, 7, 7, 7, 7, 7, 7, 7, 7, 7, 7, 7, 7, 7, 7, 7, 7, 7, 7, 7, 7, 7, 7, 7, 7, 7, 7, 7, 7, 7, 7, 7, 7, 7, 7, 7, 7, 7, 7, 7, 7, 7, 7, 7, 7, 7, 7, 7, 7, 7, 7, 7, 7, 7, 7, 7, 7, 7, 7, 7, 7, 7, 7, 7, 8, 8, 8, 8, 8, 8, 8, 8, 8, 8, 8, 8, 8, 8, 8, 8, 8, 8, 8, 8, 8, 8, 8, 8, 8, 8, 8, 8, 8, 8, 8, 8, 8, 8, 8, 8, 8, 8, 8, 8, 8, 8, 8, 8, 8, 8, 8, 8, 8, 8, 8, 8, 8, 8, 8, 8, 8, 8, 8, 8, 8, 8, 8, 8, 8, 8, 8, 8, 8, 8, 8, 8, 8, 8, 8, 8, 8, 8, 8, 8, 8, 8, 8, 8, 8, 8, 8, 8, 8, 8, 8, 8, 8, 8, 8, 8, 8, 8, 8, 8, 8, 8, 8, 8, 8, 8, 8, 8, 8, 8, 8, 8, 8, 8, 8, 8, 8, 8, 8, 8, 8, 8, 8, 8, 8, 8, 8, 8]⟩
def J8 (T : ByteArray) (x0 x2 : Int) : Option Int := if x0 ≥ 65536 then (if (x0 / 65536) ≥ 256 then (if 0 ≤ (((x0 / 65536) / 256) % 256) then (if (((x0 / 65536) / 256) % 256) < 256 then (some (wrap64 ((wrap64 ((wrap64 (x2 + 16)) + 8)) + (wrap64 (bt T (((x0 / 65536) / 256) % 256)))))) else (none)) else (none)) else (if 0 ≤ ((x0 / 65536) % 256) then (if ((x0 / 65536) % 256) < 256 then (some (wrap64 ((wrap64 (x2 + 16)) + (wrap64 (bt T ((x0 / 65536) % 256)))))) else (none)) else (none))) else (if x0 ≥ 256 then (if 0 ≤ ((x0 / 256) % 256) then (if ((x0 / 256) % 256) < 256 then (some (wrap64 ((wrap64 (x2 + 8)) + (wrap64 (bt T ((x0 / 256) % 256)))))) else (none)) else (none)) else (if 0 ≤ ((x0) % 256) then (if ((x0) % 256) < 256 then (some (wrap64 (x2 + (wrap64 (bt T ((x0) % 256)))))) else (none)) else (none)))
set_option maxRecDepth 100000 in
theorem j8_eq (x0 x2 : Int) : (fun k => bits_Len64.j0 (k + 1) x0 x2) = fun _ => J8 T8 x0 x2 := rfl
theorem t8_all : ∀ c : Fin 256, 0 ≤ bt T8 (c.val : Int) ∧ bt T8 (c.val : Int) ≤ 8 ∧ c.val < 2 ^ (bt T8 (c.val : Int)).toNat ∧ (0 < (bt T8 (c.val : Int)).toNat → 2 ^ ((bt T8 (c.val : Int)).toNat - 1) ≤ c.val) := by
  decide +kernel
theorem t8_key (c : Nat) (hc : c < 256) : ∃ v : Nat, bt T8 (c : Int) = (v : Int) ∧ v ≤ 8 ∧ IsLen c v := by
  obtain ⟨h0, h1, h2, h3⟩ := t8_all ⟨c, hc⟩
  refine ⟨(bt T8 (c : Int)).toNat, (Int.toNat_of_nonneg h0).symm, ?_, h2, h3⟩
  have h1' : bt T8 (c : Int) ≤ 8 := h1
  omega
theorem len_j0 (n : Nat) (hn : n < 4294967296) (s : Nat) (hs : s ≤ 32) : ∃ r : Nat, IsLen n r ∧ Ev (fun k => bits_Len64.j0 k (n : Int) (s : Int)) ((s + r : Nat) : Int) := by
  by_cases h1 : 65536 ≤ n
  · by_cases h2 : 256 ≤ n / 65536
    · obtain ⟨v, hv, hv8, hi⟩ := t8_key (n / 65536 / 256) (by omega)
      have e : ((n : Int) / 65536 / 256) % 256 = ((n / 65536 / 256 : Nat) : Int) := by omega
      have e2 : wrap64 ((wrap64 ((wrap64 ((s : Int) + 16)) + 8)) + (wrap64 (v : Int))) = ((s + (v + 8 + 16) : Nat) : Int) := by
        rw [w64 ((s : Int) + 16) (by omega) (by omega), w64 ((s : Int) + 16 + 8) (by omega) (by omega), w64 (v : Int) (by omega) (by omega), w64 ((s : Int) + 16 + 8 + v) (by omega) (by omega)]; omega
      refine ⟨v + 8 + 16, IsLen.shift (IsLen.shift hi (by omega)) (by omega), Ev.succ ?_⟩
      rw [j8_eq]
      unfold J8
      rw [e, hv, e2]
      clear hv e e2
      refine Ev.pos (by omega) ?_
      refine Ev.pos (by omega) ?_
      refine Ev.pos (by omega) ?_
      refine Ev.pos (by omega) ?_
      exact Ev.now _
    · obtain ⟨v, hv, hv8, hi⟩ := t8_key (n / 65536) (by omega)
      have e : ((n : Int) / 65536) % 256 = ((n / 65536 : Nat) : Int) := by omega
      have e2 : wrap64 ((wrap64 ((s : Int) + 16)) + (wrap64 (v : Int))) = ((s + (v + 16) : Nat) : Int) := by
        rw [w64 ((s : Int) + 16) (by omega) (by omega), w64 (v : Int) (by omega) (by omega), w64 ((s : Int) + 16 + v) (by omega) (by omega)]; omega
      refine ⟨v + 16, IsLen.shift hi (by omega), Ev.succ ?_⟩
      rw [j8_eq]
      unfold J8
      rw [e, hv, e2]
      clear hv e e2
      refine Ev.pos (by omega) ?_
      refine Ev.neg (by omega) ?_
      refine Ev.pos (by omega) ?_
      refine Ev.pos (by omega) ?_
      exact Ev.now _
  · by_cases h2 : 256 ≤ n
    · obtain ⟨v, hv, hv8, hi⟩ := t8_key (n / 256) (by omega)
      have e : ((n : Int) / 256) % 256 = ((n / 256 : Nat) : Int) := by omega
      have e2 : wrap64 ((wrap64 ((s : Int) + 8)) + (wrap64 (v : Int))) = ((s + (v + 8) : Nat) : Int) := by
        rw [w64 ((s : Int) + 8) (by omega) (by omega), w64 (v : Int) (by omega) (by omega), w64 ((s : Int) + 8 + v) (by omega) (by omega)]; omega
      refine ⟨v + 8, IsLen.shift hi (by omega), Ev.succ ?_⟩
      rw [j8_eq]
      unfold J8
      rw [e, hv, e2]
      clear hv e e2
      refine Ev.neg (by omega) ?_
      refine Ev.pos (by omega) ?_
      refine Ev.pos (by omega) ?_
      refine Ev.pos (by omega) ?_
      exact Ev.now _
    · obtain ⟨v, hv, hv8, hi⟩ := t8_key n (by omega)
      have e : (n : Int) % 256 = (n : Int) := by omega
      have e2 : wrap64 ((s : Int) + (wrap64 (v : Int))) = ((s + v : Nat) : Int) := by
        rw [w64 (v : Int) (by omega) (by omega), w64 ((s : Int) + v) (by omega) (by omega)]; omega
      refine ⟨v, hi, Ev.succ ?_⟩
      rw [j8_eq]
      unfold J8
      rw [e, hv, e2]
      clear hv e e2
      refine Ev.neg (by omega) ?_
      refine Ev.neg (by omega) ?_
      refine Ev.pos (by omega) ?_
      refine Ev.pos (by omega) ?_
      exact Ev.now _
theorem len_ev (n : Nat) (hn : n < 18446744073709551616) : ∃ r : Nat, IsLen n r ∧ Ev (fun k => varint_BitWidth.f k (n : Int)) (r : Int) := by
  by_cases h : 4294967296 ≤ n
  · obtain ⟨r, hr, he⟩ := len_j0 (n / 4294967296) (by omega) 32 (by omega)
    refine ⟨r + 32, IsLen.shift hr (by omega), ?_⟩
    unfold varint_BitWidth.f bits_Len64.f
    have e : (n : Int) / 4294967296 = ((n / 4294967296 : Nat) : Int) := by omega
    refine Ev.bind (a := ((r + 32 : Nat) : Int)) ?_ (Ev.now _)
    refine Ev.pos (by omega) ?_
    rw [e, Nat.add_comm]
    exact he
  · obtain ⟨r, hr, he⟩ := len_j0 n (by omega) 0 (by omega)
    refine ⟨r, hr, ?_⟩
    unfold varint_BitWidth.f bits_Len64.f
    refine Ev.bind (a := (r : Int)) ?_ (Ev.now _)
    refine Ev.neg (by omega) ?_
    rw [Nat.zero_add] at he
    exact he
theorem IsLen.le {n r : Nat} (h : IsLen n r) (i : Nat) (hn : n < 2 ^ i) : r ≤ i := by
  rcases Nat.lt_or_ge i r with h1 | h1
  · have := h.2 (by omega)
    have h2 : 2 ^ i ≤ 2 ^ (r - 1) := Nat.pow_le_pow_right (by decide) (by omega)
    omega
  · exact h1
theorem IsLen.div {n r i : Nat} (h : IsLen n r) (hr : i < r) : IsLen (n / 2 ^ i) (r - i) := by
  have hp : 0 < 2 ^ i := Nat.pow_pos (by decide)
  refine ⟨?_, fun h0 => ?_⟩
  · rw [Nat.div_lt_iff_lt_mul hp, ← Nat.pow_add, show r - i + i = r by omega]
    exact h.1
  · rw [Nat.le_div_iff_mul_le hp, ← Nat.pow_add, show r - i - 1 + i = r - 1 by omega]
    exact h.2 (by omega)
theorem venc_bits : ∀ (f n r : Nat), n < 128 ^ f → IsLen n r → (venc n).length = max 1 ((r + 6) / 7) := by
  intro f
  induction f with
  | zero =>
    intro n r hn h
    have : n = 0 := by simpa using hn
    subst this
    have := h.le 0 (by decide)
    rw [venc_lt (by decide), List.length_singleton]
    omega
  | succ f ih =>
    intro n r hn h
    by_cases c : n < 128
    · have := h.le 7 (by simpa using c)
      rw [venc_lt c, List.length_singleton]
      omega
    · have hr : 7 < r := by
        rcases Nat.lt_or_ge 7 r with h1 | h1
        · exact h1
        · have h2 : 2 ^ r ≤ 2 ^ 7 := Nat.pow_le_pow_right (by decide) h1
          have h3 := h.1
          have h4 : (2 : Nat) ^ 7 = 128 := by decide
          omega
      have hd := h.div hr
      have := ih (n / 128) (r - 7) (by rw [Nat.div_lt_iff_lt_mul (by decide), ← Nat.pow_succ]; exact hn) hd
      rw [venc_ge c, List.length_cons, this]
      omega

/-! ### sizes, unpacking -/
def inr (n w : Int) : Bool := decide (0 ≤ n) && decide (n ≤ 1048576) && decide (0 ≤ w) && decide (w ≤ 64)
def psz (n w : Int) : Int := if inr n w = true then ((pbytes n.toNat w.toNat : Nat) : Int) else 0
theorem inr_iff {n w : Int} : inr n w = true ↔ 0 ≤ n ∧ n ≤ 1048576 ∧ 0 ≤ w ∧ w ≤ 64 := by
  simp [inr, and_assoc]
theorem iinr (n w : Int) : bitpack_inRange.f n w = some (inr n w) := by
  unfold bitpack_inRange.f inr
  by_cases h1 : n ≥ 0
  · rw [if_pos h1, decide_eq_true (show 0 ≤ n from h1)]
    by_cases h2 : n ≤ 1048576
    · rw [if_pos h2, decide_eq_true h2]
      by_cases h3 : w ≥ 0
      · rw [if_pos h3, decide_eq_true (show 0 ≤ w from h3)]; simp
      · rw [if_neg h3, decide_eq_false (show ¬ 0 ≤ w from h3)]; simp
    · rw [if_neg h2, decide_eq_false h2]; simp
  · rw [if_neg h1, decide_eq_false (show ¬ 0 ≤ n from h1)]; simp
theorem size_wrap (n w : Int) (h : inr n w = true) : wrap64 (Int.tdiv (wrap64 ((wrap64 (n * w)) + 7)) 8) = ((pbytes n.toNat w.toNat : Nat) : Int) := by
  obtain ⟨h1, h2, h3, h4⟩ := inr_iff.1 h
  obtain ⟨a, rfl⟩ := Int.eq_ofNat_of_zero_le h1
  obtain ⟨b, rfl⟩ := Int.eq_ofNat_of_zero_le h3
  have hm : a * b ≤ 1048576 * 64 := Nat.mul_le_mul (by omega) (by omega)
  have e1 : ((a : Int) * (b : Int)) = ((a * b : Nat) : Int) := by simp
  rw [e1, w64 ((a * b : Nat) : Int) (by omega) (by omega), w64 (((a * b : Nat) : Int) + 7) (by omega) (by omega), Int.tdiv_eq_ediv_of_nonneg (by omega), w64 _ (by omega) (by omega)]
  unfold pbytes
  simp
theorem isz (n w : Int) : bitpack_Size.f n w = some (psz n w) := by
  unfold bitpack_Size.f psz
  rw [iinr]
  simp only [Option.bind_some]
  by_cases h : inr n w = true
  · rw [if_pos h, if_pos h, size_wrap n w h]
  · rw [if_neg h, if_neg h]
theorem psz_nat (n w : Nat) (h : inr n w = true) : psz (n : Int) (w : Int) = ((pbytes n w : Nat) : Int) := by unfold psz; rw [if_pos h]; simp
def frameref_sizes.f : Option Unit := some ()
theorem fsize (n : Nat) (hn : n < 18446744073709551616) : ∃ k, frameref_size.f k (n : Int) = some (((venc n).length : Nat) : Int) ∧ (venc n).length ≤ 10 := by
  obtain ⟨r, hr, K, h⟩ := len_ev n hn
  have hr64 := hr.le 64 hn
  have hv := venc_bits 10 n r (Nat.lt_of_lt_of_le hn (by decide)) hr
  refine ⟨K, ?_, by omega⟩
  unfold frameref_size.f
  have h2 := h K (Nat.le_refl _)
  simp only at h2
  rw [h2, Option.bind_some, w64 ((r : Int) + 6) (by omega) (by omega), Int.tdiv_eq_ediv_of_nonneg (by omega), w64 _ (by omega) (by omega)]
  congr 1
  unfold mx
  split <;> omega
theorem fhigh (d w : Nat) (hd : d < 18446744073709551616) (hw : w ≤ 64) : frameref_high.f (d : Int) (w : Int) = some ((hi (d : Int) w : Nat) : Int) := by
  unfold frameref_high.f hi
  rw [Int.toNat_natCast]
  by_cases h : w = 64
  · subst h
    rw [if_pos (by omega), Nat.div_eq_of_lt (by simpa using hd)]
    rfl
  · rw [if_neg (by omega), wraps_u64 _ (by omega) (by omega), if_pos (by omega)]
    have e : min ((w : Int)).toNat 64 = w := by omega
    unfold shr
    rw [show IntKind.u64.bits = 64 from rfl, e, ← pow_cast w, ← Int.natCast_ediv]
theorem fpsize (n w : Nat) (hn : n ≤ 1048576) (hw : w ≤ 64) : bitpack_Size.f (n : Int) (w : Int) = some ((pbytes n w : Nat) : Int) := by
  rw [isz, psz_nat n w (inr_iff.2 ⟨by omega, by omega, by omega, by omega⟩)]
theorem exc_app (w : Nat) : ∀ (a b : List Int) (i : Nat), exc w i (a ++ b) = exc w i a ++ exc w (i + a.length) b := by
  intro a
  induction a with
  | nil => intro b i; rfl
  | cons d a ih =>
    intro b i
    simp only [List.cons_append, exc, List.length_cons]
    rw [ih, show i + 1 + a.length = i + (a.length + 1) by omega]
    split <;> simp
theorem pts_app : ∀ (a b : List (Nat × Nat)), pts (a ++ b) = pts a ++ pts b := by
  intro a
  induction a with
  | nil => intro b; rfl
  | cons p a ih => intro b; simp only [List.cons_append, pts, ih, List.append_assoc]
theorem exc_step (w : Nat) (ds : List Int) (j : Nat) (h : j < ds.length) : exc w 0 (ds.take (j + 1)) = exc w 0 (ds.take j) ++ (if hi (ds.getD j 0) w = 0 then [] else [(j, hi (ds.getD j 0) w)]) := by
  rw [List.take_succ_eq_append_getElem h, exc_app, List.length_take, Nat.min_eq_left (by omega), Nat.zero_add]
  simp only [exc, List.getD_eq_getElem?_getD, List.getElem?_eq_getElem h, Option.getD_some]
theorem szW_sum (z : Nat) (ds : List Int) (w : Nat) : szW z ds w = (venc z).length + (venc w).length + pbytes ds.length w + (pts (exc w 0 ds)).length + (venc (exc w 0 ds).length).length := by
  unfold szW withW
  simp only [List.length_append, packed_len]
  omega
theorem fpb_le (n w : Nat) (hn : n ≤ 65536) (hw : w ≤ 64) : pbytes n w ≤ 524289 := by
  unfold pbytes
  have : n * w ≤ 65536 * 64 := Nat.mul_le_mul hn hw
  omega
set_option maxHeartbeats 2000000 in
set_option maxRecDepth 100000 in
theorem frameref_sizes.calls (A1 : Option Addr) (c1 : Nat) (z : Nat) (a0 : Int) (ds : List Int) (w : World) (hz : varint_ZigZag.f a0 = some (z : Int)) (hzl : z < 18446744073709551616) (hr1 : Kd.C (Kd.int .u64) w A1 ds.length ds) (hc1 : ds.length ≤ c1) (hd : ∀ x ∈ ds, 0 ≤ x ∧ x < 18446744073709551616) (hl : ds.length ≤ 65536) :
    Calls Try.prog 75 #[.int .i64 a0, .slice A1 ds.length c1] w fun e w' => e = .returned (.agg (lens (szW z ds))) ∧ Below w.heap.size w w' := by
  have HR := Aside0.mk hr1
  have HD := Aside0.mk hd
  have HZ := Aside0.mk hz
  obtain ⟨k1, s1, l1⟩ := fsize z hzl
  obtain ⟨lz, hlz⟩ : ∃ lz, lz = (venc z).length := ⟨_, rfl⟩
  rw [← hlz] at s1 l1
  have HLZ := Aside0.mk hlz
  have S1 := Aside0.mk s1
  clear hr1 hd hz hlz s1 hzl
  go_enter Try.func75, Try.ntmps75
  go_wp2_with (first
    | ((with_reducible refine gate_dst (N := 4) rfl ?_); refine box_event ?hg (N := 4) ?hd (cs := Array.replicate 65 (.int .i64 0)) (t := 90) ?hr ?_; (case hd => rfl); (case hg => rfl); (case hr => first | (go_simp; done) | (go_simp; rfl)); intro g0 hg0 w1 hb0 hB0)
    | ((with_reducible refine gate_dst (N := 5) rfl ?_); refine box_event ?hg (N := 5) ?hd (cs := Array.replicate 65 (.int .i64 0)) (t := 90) ?hr ?_; (case hd => rfl); (case hg => rfl); (case hr => first | (go_simp; done) | (go_simp; rfl)); intro g1 hg1 w2 hb1 hB1))
  subst hg0 hg1
  have H01 := Aside0.mk (blk_lt hb0)
  go_loopw [12] (fun v12 wr => ∃ (i : Nat) (cs : Array Value), i ≤ 65 ∧ v12 = .int .i64 (i : Int) ∧ wr.heap[w.heap.size]? = some (.cells (Array.replicate 65 (.int .i64 0)) 90 (0, 0)) ∧ wr.heap[w1.heap.size]? = some (.cells cs 90 (0, 0)) ∧ Aside0 (cs.size = 65 ∧ (∀ j, j < i → cs[j]? = some (.int .i64 ((szW z ds j : Nat) : Int))) ∧ ∀ j, j < 65 → ∃ x, cs[j]? = some (.int .i64 x)) ∧ Below w.heap.size w wr) (fun v12 _ => 65 - (intOf v12).toNat)
  case atStart =>
    exact ⟨0, _, by omega, rfl, blk_below hb0 hB1, hb1, ⟨by simp, fun j hj => by omega, fun j hj => ⟨0, by simp [hj]⟩⟩, below_then hB0 hB0.size hB1⟩
  case round =>
    obtain ⟨i, cs, hi65, rfl, hT, hS, HC, hB⟩ := hrel
    have HB := Aside0.mk hB
    have HT := Aside0.mk hT
    have HS := Aside0.mk hS
    have HB0 := Aside0.mk hB0
    clear hB hT hS hb0 hb1 hB0 hB1
    by_cases hlt : i < 65
    · have hlt' : (i : Int) < 65 := by omega
      obtain ⟨k2, s2, l2⟩ := fsize i (by omega)
      obtain ⟨li, hli⟩ : ∃ li, li = (venc i).length := ⟨_, rfl⟩
      rw [← hli] at s2 l2
      have HLI := Aside0.mk hli
      have S2 := Aside0.mk s2
      have s3 := fpsize ds.length i (by omega) (by omega)
      have l3 := fpb_le ds.length i hl (by omega)
      obtain ⟨pb, hpb⟩ : ∃ pb, pb = pbytes ds.length i := ⟨_, rfl⟩
      rw [← hpb] at s3 l3
      have HPB := Aside0.mk hpb
      have S3 := Aside0.mk s3
      have ew : IntKind.u64.wrap (i : Int) = (i : Int) := wraps_u64 _ (by omega) (by omega)
      clear hli hpb s2 s3
      go_wp2_with (first
        | (go_at_call 65; with_reducible refine (varint_ZigZag.calls a0 (z : Int) _ HZ.out).mono ?_; rintro e w3 ⟨rfl, ⟨n3, rfl⟩⟩)
        | (go_at_call 86; with_reducible refine (frameref_size.calls k1 (z : Int) (lz : Int) _ S1.out).mono ?_; rintro e w4 ⟨rfl, hb4⟩; have HB4 := Aside0.mk (below_then (pw_below_drewN (Below.refl wr.heap.size wr) n3) (pw_below_drewN (Below.refl wr.heap.size wr) n3).size hb4); clear hb4)
        | (go_at_call 86; with_reducible refine (frameref_size.calls k2 (i : Int) (li : Int) _ S2.out).mono ?_; rintro e w5 ⟨rfl, hb5⟩; have HB5 := Aside0.mk (below_then HB4.out HB4.out.size hb5); clear hb5)
        | (go_at_call 21; with_reducible refine (bitpack_Size.calls (ds.length : Int) (i : Int) (pb : Int) _ S3.out).mono ?_; rintro e w6 ⟨rfl, ⟨n6, rfl⟩⟩))
      have HBB := Aside0.mk (pw_below_drewN HB5.out n6)
      clear HB4 HB5
      go_loopw [7, 8, 29] (fun v7 v8 v29 wq => ∃ (j e n : Nat), j ≤ ds.length ∧ Aside0 (e = (exc i 0 (ds.take j)).length) ∧ e ≤ j ∧ Aside0 (n = lz + li + pb + (pts (exc i 0 (ds.take j))).length) ∧ n ≤ 600000 + 20 * e ∧ v7 = .int .i64 (e : Int) ∧ v8 = .int .i64 (n : Int) ∧ v29 = .int .i64 (j : Int) ∧ Below wr.heap.size wr wq) (fun _ _ v29 _ => ds.length - (intOf v29).toNat)
      case atStart => exact ⟨0, 0, lz + li + pb, Nat.zero_le _, ⟨by simp [exc]⟩, by omega, ⟨by simp [exc, pts]⟩, by omega, rfl, by simp, rfl, HBB.out⟩
      case round =>
        obtain ⟨j, e, n, hj, he, hej, hn, hnb, rfl, rfl, rfl, hBq⟩ := hrel
        rename_i wq0
        have HBQ := Aside0.mk hBq
        clear hBq
        by_cases hjl : j < ds.length
        · obtain ⟨ad, hA, hcx⟩ := Kd.at_int (Kd.C_below HR.out (below_then HB.out HB.out.size HBQ.out)) (j : Int) (by omega) (by omega)
          subst hA
          rw [Int.toNat_natCast, rd_nat] at hcx
          have hx := getD_range HD.out hjl
          obtain ⟨x, hxe⟩ : ∃ x : Nat, ds.getD j 0 = (x : Int) := ⟨(ds.getD j 0).toNat, by omega⟩
          rw [hxe] at hcx hx
          have hjl' : (j : Int) < (ds.length : Int) := by omega
          have hh := fhigh x i (by omega) (by omega)
          obtain ⟨h, hhe⟩ : ∃ h, h = hi (x : Int) i := ⟨_, rfl⟩
          rw [← hhe] at hh
          have hst := exc_step i ds j hjl
          rw [hxe, ← hhe] at hst
          have hh64 : h < 18446744073709551616 := by
            have : h ≤ x := by rw [hhe]; unfold hi; rw [Int.toNat_natCast]; exact Nat.div_le_self _ _
            omega
          have HH := Aside0.mk hh
          have HST := Aside0.mk hst
          have H64 := Aside0.mk hh64
          clear hh hst hhe hxe hx hh64
          by_cases h0 : h = 0
          · have h0' : ¬ (0 : Int) < (h : Int) := by omega
            go_wp2_with (go_at_call 77; with_reducible refine (frameref_high.calls (x : Int) (i : Int) (h : Int) _ HH.out).mono ?_; rintro e_ w7 ⟨rfl, ⟨n7, rfl⟩⟩)
            refine ⟨⟨j + 1, e, n, by omega, ⟨by rw [HST.out, if_pos h0, List.append_nil]; exact he.out⟩, by omega, ⟨by rw [HST.out, if_pos h0, List.append_nil]; exact hn.out⟩, hnb, rfl, rfl, by simp, pw_below_drewN HBQ.out _⟩, ?_⟩
            simp [intOf]; omega
          · have h0' : (0 : Int) < (h : Int) := by omega
            obtain ⟨k3, s3, l3'⟩ := fsize j (by omega)
            obtain ⟨k4, s4, l4⟩ := fsize h H64.out
            obtain ⟨lj, hlj⟩ : ∃ lj, lj = (venc j).length := ⟨_, rfl⟩
            obtain ⟨lh, hlh⟩ : ∃ lh, lh = (venc h).length := ⟨_, rfl⟩
            rw [← hlj] at s3 l3'
            rw [← hlh] at s4 l4
            have HLJ := Aside0.mk hlj
            have HLH := Aside0.mk hlh
            have SJ := Aside0.mk s3
            have SH := Aside0.mk s4
            have ewj : IntKind.u64.wrap (j : Int) = (j : Int) := wraps_u64 _ (by omega) (by omega)
            clear hlj hlh s3 s4
            go_wp2_with (first
              | (go_at_call 77; with_reducible refine (frameref_high.calls (x : Int) (i : Int) (h : Int) _ HH.out).mono ?_; rintro e_ w7 ⟨rfl, ⟨n7, rfl⟩⟩)
              | (go_at_call 86; with_reducible refine (frameref_size.calls k3 (j : Int) (lj : Int) _ SJ.out).mono ?_; rintro e_ w8 ⟨rfl, hb8⟩; have HB8 := Aside0.mk (below_then (pw_below_drewN HBQ.out n7) (pw_below_drewN HBQ.out n7).size hb8); clear hb8)
              | (go_at_call 86; with_reducible refine (frameref_size.calls k4 (h : Int) (lh : Int) _ SH.out).mono ?_; rintro e_ w9 ⟨rfl, hb9⟩; have HB9 := Aside0.mk (below_then HB8.out HB8.out.size hb9); clear hb9))
            refine ⟨⟨j + 1, e + 1, n + (lj + lh), by omega, ⟨by rw [HST.out, if_neg h0, List.length_append, ← he.out]; rfl⟩, by omega, ⟨by rw [HST.out, if_neg h0, pts_app, List.length_append, hn.out, HLJ.out, HLH.out]; simp [pts]; omega⟩, by omega, by simp, by simp, by simp, HB9.out⟩, ?_⟩
            simp [intOf]; omega
        · obtain rfl : j = ds.length := by omega
          have hf1 := he.out
          have hf2 := hn.out
          rw [List.take_length] at hf1 hf2
          obtain ⟨k3, s3, l3'⟩ := fsize e (by omega)
          obtain ⟨lx, hlx⟩ : ∃ lx, lx = (venc e).length := ⟨_, rfl⟩
          rw [← hlx] at s3 l3'
          have hfin : n + lx = szW z ds i := by
            rw [szW_sum, ← hf1, ← hlx, hf2, ← HLZ.out, ← HLI.out, ← HPB.out]
          have HFIN := Aside0.mk hfin
          have SX := Aside0.mk s3
          have ewe : IntKind.u64.wrap (e : Int) = (e : Int) := wraps_u64 _ (by omega) (by omega)
          obtain ⟨xo, hxo⟩ := HC.out.2.2 i hlt
          have HXO := Aside0.mk hxo
          have hi0 : (0 : Int) ≤ (i : Int) := by omega
          clear hf1 hf2 hlx hfin s3 hxo
          go_wp2_with (go_at_call 86; with_reducible refine (frameref_size.calls k3 (e : Int) (lx : Int) _ SX.out).mono ?_; rintro e_ w8 ⟨rfl, hb8⟩; have HB8 := Aside0.mk (below_then HBQ.out HBQ.out.size hb8); have hS8 := blk_below HS.out HB8.out; have hcx : w8.cell? ⟨w1.heap.size, i, none⟩ = some (.int .i64 xo) := (by rw [blk_cell hS8]; exact HXO.out); have hfx : w8.frozen? ⟨w1.heap.size, i, none⟩ = false := blk_frozen hS8 i; have HS8 := Aside0.mk hS8; clear hS8 hb8)
          have hlt01 := H01.out
          refine ⟨⟨i + 1, cs.setIfInBounds i (.int .i64 ((n : Int) + (lx : Int))), by omega, by simp, blk_far (blk_below HT.out HB8.out) (show w.heap.size ≠ w1.heap.size by omega) _, blk_put HS8.out i _ rfl, ⟨by simp [HC.out.1], fun j hj => ?_, fun j hj => ?_⟩, (below_then HB.out HB.out.size HB8.out).setCell (p := ⟨w1.heap.size, i, none⟩) (show w.heap.size ≤ w1.heap.size by omega) _⟩, ?_⟩
          · by_cases e : j = i
            · subst e; rw [Array.getElem?_setIfInBounds_self_of_lt (by have := HC.out.1; omega), ← HFIN.out]; simp
            · rw [Array.getElem?_setIfInBounds_ne (Ne.symm e)]; exact HC.out.2.1 j (by omega)
          · by_cases e : j = i
            · subst e; exact ⟨_, Array.getElem?_setIfInBounds_self_of_lt (by have := HC.out.1; omega)⟩
            · rw [Array.getElem?_setIfInBounds_ne (Ne.symm e)]; exact HC.out.2.2 j hj
          · simp [intOf]; omega
    · obtain rfl : i = 65 := by omega
      have hcs : cs = lens (szW z ds) := by
        apply Array.ext_getElem?
        intro j
        by_cases hj : j < 65
        · rw [HC.out.2.1 j hj, lens_get _ j hj]
        · rw [Array.getElem?_eq_none (by have := HC.out.1; omega), Array.getElem?_eq_none (by rw [lens_size]; omega)]
      subst hcs
      have hsz : (lens (szW z ds)).size = 65 := lens_size _
      obtain ⟨tb, htb⟩ : ∃ tb, tb = lens (szW z ds) := ⟨_, rfl⟩
      rw [← htb] at hsz HS
      have hinf : (Try.prog.info? 90).map (·.size) = some 65 := by kernel_rfl
      have hS := HS.out
      have hT := HT.out
      go_wp2_with (first
        | ((with_reducible refine gate_dst (N := 58) rfl ?_); refine wpList_load_row rfl 90 _ rfl w1.heap.size rfl 90 tb (0, 0) _ hS Try.underlying90 rfl (by rw [hsz]; exact hinf) ?_)
        | (refine wpList_store_row rfl 90 _ _ rfl w.heap.size tb rfl rfl 90 _ hT (by rw [hsz]; exact hinf) (by rw [hsz]; simp) (by rw [htb]; simp [lens]; intro x _; rfl) ?_))
      exact bodyPost_ret (results_cell_row rfl _ _ w.heap.size 90 tb (0, 0) _ rfl (setRow_heap _ _ _ _ _ _ hT) Try.underlying90 rfl (by rw [hsz]; exact hinf)) rfl ⟨by first | rfl | (rw [htb]; rfl) | (subst htb; rfl), below_row HB.out (Nat.le_refl _) _⟩

/-! ### frameref_Best: function 39 -/
def okI (l : List Int) : Bool := l.all fun x => decide (-9223372036854775808 ≤ x) && decide (x < 9223372036854775808)
theorem okI_all {l : List Int} (h : okI l = true) : ∀ x ∈ l, -9223372036854775808 ≤ x ∧ x < 9223372036854775808 := by
  simpa only [okI, List.all_eq_true, Bool.and_eq_true, decide_eq_true_eq] using h
theorem okI_of {l : List Int} (h : ∀ x ∈ l, -9223372036854775808 ≤ x ∧ x < 9223372036854775808) : okI l = true := by
  simpa only [okI, List.all_eq_true, Bool.and_eq_true, decide_eq_true_eq] using h
def frameref_Best.f (l0 : List Int) : Option (Int × Int) := if okI l0 = true ∧ l0.length ≤ 65536 then some (lmin l0, ((fbest l0 : Nat) : Int)) else none
theorem lmin_snoc (l : List Int) (x : Int) : lmin (l ++ [x]) = if l.length = 0 then x else if x < lmin l then x else lmin l := by
  cases l with
  | nil => rfl
  | cons y l =>
    rw [List.cons_append, if_neg (by simp)]
    simp only [lmin, List.foldl_append, List.foldl_cons, List.foldl_nil]
    rfl
theorem dtake_snoc (l : List Int) (j : Nat) (h : j < l.length) : l.take (j + 1) = l.take j ++ [l.getD j 0] := by
  rw [List.take_succ_eq_append_getElem h, List.getD_eq_getElem?_getD, List.getElem?_eq_getElem h]; rfl
theorem wsub (v b : Int) : IntKind.u64.wrap (IntKind.u64.wrap v - IntKind.u64.wrap b) = (v - b) % 18446744073709551616 := by
  rw [wrap_u64, wrap_u64, wrap_u64]; omega
theorem diff_l1 (l : List Int) (hl : l.length ≤ 65536) : ∀ (d j : Nat) (x7 : List Int), j + d = l.length → x7.length = l.length → x7.take j = (fds l).take j →
    Ev (fun k => frameref_differences.l1 k (lmin l) x7 l (l.length : Int) (j : Int)) (lmin l, fds l) := by
  intro d
  induction d with
  | zero =>
    intro j x7 hj h7 ht
    refine Ev.succ ?_
    simp only [frameref_differences.l1]
    refine Ev.neg (by omega) ?_
    rw [List.take_of_length_le (by omega), List.take_of_length_le (by rw [fds_len]; omega)] at ht
    rw [ht]
    exact Ev.now _
  | succ d ih =>
    intro j x7 hj h7 ht
    refine Ev.succ ?_
    simp only [frameref_differences.l1, w64_add1 j (by omega), Int.toNat_natCast, rd_nat, wsub]
    refine Ev.pos (by omega) ?_
    refine Ev.pos (by omega) ?_
    refine Ev.pos (by omega) ?_
    refine Ev.pos (by omega) ?_
    refine ih (j + 1) _ (by omega) (by rw [List.length_set, h7]) ?_
    have hlt : j < (fds l).length := by rw [fds_len]; omega
    rw [List.take_succ_eq_append_getElem (by rw [List.length_set]; omega), List.take_succ_eq_append_getElem hlt, List.getElem_set_self, List.take_set_of_le (by omega), ht]
    congr 2
    simp only [fds, List.getElem_map, List.getD_eq_getElem?_getD, List.getElem?_eq_getElem (show j < l.length by omega), Option.getD_some]
theorem diff_l0 (l : List Int) (hl : l.length ≤ 65536) : ∀ (d j : Nat), j + d = l.length → Ev (fun k => frameref_differences.l0 k l (lmin (l.take j)) l (l.length : Int) (j : Int)) (lmin l, fds l) := by
  intro d
  induction d with
  | zero =>
    intro j hj
    obtain rfl : j = l.length := by omega
    refine Ev.succ ?_
    simp only [frameref_differences.l0, Int.toNat_natCast]
    refine Ev.neg (by omega) ?_
    refine Ev.pos (by omega) ?_
    refine Ev.pos (by omega) ?_
    rw [List.take_length]
    exact diff_l1 l hl l.length 0 _ (by omega) (by rw [List.length_replicate]) (by simp)
  | succ d ih =>
    intro j hj
    have hjl : j < l.length := by omega
    have hs := lmin_snoc (l.take j) (l.getD j 0)
    rw [← dtake_snoc l j hjl, List.length_take, Nat.min_eq_left (by omega)] at hs
    refine Ev.succ ?_
    simp only [frameref_differences.l0, w64_add1 j (by omega), rd_nat]
    refine Ev.pos (by omega) ?_
    refine Ev.pos (by omega) ?_
    refine Ev.pos (by omega) ?_
    have hi := ih (j + 1) (by omega)
    by_cases h0 : j = 0
    · rw [if_pos h0] at hs
      refine Ev.pos (by omega) ?_
      rw [← hs]
      exact hi
    · rw [if_neg h0] at hs
      refine Ev.neg (by omega) ?_
      by_cases hc : l.getD j 0 < lmin (l.take j)
      · rw [if_pos hc] at hs
        refine Ev.pos hc ?_
        rw [← hs]
        exact hi
      · rw [if_neg hc] at hs
        refine Ev.neg hc ?_
        rw [← hs]
        exact hi
theorem diff_ev (l : List Int) (hl : l.length ≤ 65536) : Ev (fun k => frameref_differences.f k l) (lmin l, fds l) := by
  unfold frameref_differences.f
  exact diff_l0 l hl l.length 0 (by omega)
theorem zz_lmin {l : List Int} (h : ∀ x ∈ l, -9223372036854775808 ≤ x ∧ x < 9223372036854775808) : varint_ZigZag.f (lmin l) = some ((zb l : Nat) : Int) := by
  have hr := lmin_range h
  have hz := zig_range (lmin l) hr.1 hr.2
  unfold varint_ZigZag.f zb
  rw [zig_bits _ hr.1 hr.2, Int.toNat_of_nonneg (by omega)]
set_option maxHeartbeats 1000000 in
set_option maxRecDepth 100000 in
theorem frameref_Best.calls (A0 : Option Addr) (c0 : Nat) (l0 : List Int) (r1 : Int) (r2 : Int) (w : World) (hr0 : Kd.C (Kd.int .i64) w A0 l0.length l0) (hc0 : l0.length ≤ c0) (h : frameref_Best.f l0 = some (r1, r2)) :
    Calls Try.prog 39 #[.slice A0 l0.length c0] w fun e w' => e = .returned (.tuple #[.int .i64 r1, .int .i64 r2]) ∧ Below w.heap.size w w' := by
  unfold frameref_Best.f at h
  split at h
  case isFalse => cases h
  case isTrue hok =>
  simp only [Option.some.injEq, Prod.mk.injEq] at h
  obtain ⟨rfl, rfl⟩ := h
  obtain ⟨ho, hl⟩ := hok
  have hI := okI_all ho
  obtain ⟨k, hk⟩ := diff_ev l0 hl
  have hk1 : frameref_differences.f k l0 = some (lmin l0, fds l0) := hk k (Nat.le_refl _)
  have hz := zz_lmin hI
  have hzb := zb_lt hI
  have hfr := fds_range l0
  have hfl := fds_len l0
  have hfb : fbest l0 = argm (szW (zb l0) (fds l0)) 64 := rfl
  obtain ⟨bm, hbm⟩ : ∃ bm, bm = lmin l0 := ⟨_, rfl⟩
  obtain ⟨ds, hds⟩ : ∃ ds, ds = fds l0 := ⟨_, rfl⟩
  obtain ⟨z, hzz⟩ : ∃ z, z = zb l0 := ⟨_, rfl⟩
  rw [hfb, ← hbm, ← hds, ← hzz]
  rw [← hbm, ← hds] at hk1
  rw [← hbm, ← hzz] at hz
  rw [← hzz] at hzb
  rw [← hds] at hfr hfl
  have HR := Aside0.mk hr0
  have HK := Aside0.mk hk1
  have HZ := Aside0.mk hz
  have HZB := Aside0.mk hzb
  have HFR := Aside0.mk hfr
  have HFL := Aside0.mk hfl
  clear hr0 hk hk1 hz hzb hfr hfl hfb hbm hds hzz ho hI
  go_enter Try.func39, Try.ntmps39
  go_wp2_with (first
    | (go_at_call 73; with_reducible refine (frameref_differences.calls k A0 c0 l0 bm ds w HR.out hc0 HK.out).mono ?_; rintro e w1 ⟨v1, rfl, ho, hb⟩; obtain ⟨A1, c1, e1⟩ := Kd.R_slice ho; subst e1; have C1 := Aside0.mk (Kd.R_reads' ho).2; have HB1 := Aside0.mk hb; clear ho hb)
    | (go_at_call 75; go_loud (refine (frameref_sizes.calls A1 c1 z bm ds _ HZ.out HZB.out C1.out.2 C1.out.1 HFR.out (by have := HFL.out; omega)).mono ?_; rintro e w2 ⟨rfl, hb⟩; have HB2 := Aside0.mk (below_then HB1.out HB1.out.size hb); clear hb))
    | (go_at_call 74; go_loud (refine (frameref_narrowest.calls (szW z ds) _).mono ?_; rintro e w3 ⟨rfl, hb⟩; have HB3 := Aside0.mk (below_then HB2.out HB2.out.size hb); clear hb)))
  go_ret2
  exact ⟨rfl, HB3.out⟩

/-! ### frameref_Encode: function 41 -/
theorem drop_lt {α : Type} {l r : List α} {i : Nat} {x : α} (h : l.drop i = x :: r) : i < l.length := by
  rcases Nat.lt_or_ge i l.length with h1 | h1
  · exact h1
  · rw [List.drop_of_length_le h1] at h; cases h
theorem drop_ge {α : Type} {l : List α} {i : Nat} (h : l.drop i = []) : l.length ≤ i := by
  rwa [List.drop_eq_nil_iff] at h
theorem drop_next {α : Type} {l r : List α} {i : Nat} {x : α} (h : l.drop i = x :: r) : l.drop (i + 1) = r := by
  rw [← List.drop_drop, h]; rfl
theorem drop_mem {α : Type} {l r : List α} {i : Nat} {x : α} (h : l.drop i = x :: r) : x ∈ l := List.mem_of_mem_drop (h ▸ List.mem_cons_self)
/-! ### varint.Concat -/
theorem cat_l0 (l : List (List Int)) (hl : l.length < 1000000000) : ∀ (r : List (List Int)) (i : Nat) (acc : List Int), l.drop i = r → acc.length + r.flatten.length < 1000000000 →
    Ev (fun k => varint_Concat.l0 k acc l (l.length : Int) i) (acc ++ r.flatten) := by
  intro r
  induction r with
  | nil =>
    intro i acc h ha
    have := drop_ge h
    refine Ev.succ ?_
    simp only [varint_Concat.l0]
    refine Ev.neg (by omega) ?_
    exact Ev.eq (Ev.now _) (by simp)
  | cons x r ih =>
    intro i acc h ha
    have hlt := drop_lt h
    have hg : rd_L2 l (i : Int) = x := by
      have : rd_L2 l (i : Int) = l.getD i [] := by simp [rd_L2]
      rw [this, List.getD_eq_getElem?_getD, ← List.head?_drop, h]; rfl
    simp only [List.flatten_cons, List.length_append] at ha
    refine Ev.succ ?_
    simp only [varint_Concat.l0, hg, w64_add1 i (by omega)]
    refine Ev.pos (by omega) ?_
    refine Ev.pos (by omega) ?_
    refine Ev.pos (by omega) ?_
    refine Ev.pos (by omega) ?_
    have := ih (i + 1) (acc ++ x) (drop_next h) (by rw [List.length_append]; omega)
    simpa using this
theorem cat_ev (l : List (List Int)) (hl : l.length < 1000000000) (hf : l.flatten.length < 1000000000) : Ev (fun k => varint_Concat.f k l) l.flatten := by
  unfold varint_Concat.f
  have := cat_l0 l hl l 0 [] rfl (by simpa using hf)
  simpa using this
/-! ### varint.Encode -/
theorem enc_l0 : ∀ (f n : Nat) (acc : List Int), n < 128 ^ (f + 1) → acc.length + f < 1000 → Ev (fun k => varint_Encode.l0 k (n : Int) acc) (acc ++ venc n) := by
  intro f
  induction f with
  | zero =>
    intro n acc hn ha
    have h : n < 128 := by simpa using hn
    refine Ev.succ ?_
    simp only [varint_Encode.l0]
    refine Ev.neg (by omega) ?_
    refine Ev.pos (by omega) ?_
    exact Ev.eq (Ev.now _) (by rw [venc_lt h, show (n : Int) % 256 = n by omega])
  | succ f ih =>
    intro n acc hn ha
    have hn2 : n / 128 < 128 ^ (f + 1) := by
      rw [Nat.div_lt_iff_lt_mul (by decide), ← Nat.pow_succ]; exact hn
    clear hn
    refine Ev.succ ?_
    simp only [varint_Encode.l0]
    by_cases h : n < 128
    · refine Ev.neg (by omega) ?_
      refine Ev.pos (by omega) ?_
      exact Ev.eq (Ev.now _) (by rw [venc_lt h, show (n : Int) % 256 = n by omega])
    · refine Ev.pos (by omega) ?_
      refine Ev.pos (by omega) ?_
      have e : bits .or .u8 ((n : Int) % 256) 128 = ((128 + n % 128 : Nat) : Int) := by
        rw [or_128 _ (by omega) (by omega)]; omega
      have e2 : (n : Int) / 128 = ((n / 128 : Nat) : Int) := by omega
      rw [e, e2]
      have := ih (n / 128) (acc ++ [((128 + n % 128 : Nat) : Int)]) hn2 (by simp; omega)
      rw [venc_ge h]
      simpa using this
theorem enc_ev (n : Nat) (h : n < 18446744073709551616) : Ev (fun k => varint_Encode.f k (n : Int)) (venc n) := by
  have hp : (128 : Nat) ^ (9 + 1) = 1180591620717411303424 := by decide
  have := enc_l0 9 n [] (by omega) (by decide)
  unfold varint_Encode.f
  simpa using this
theorem pts_exc_len (w : Nat) (l : List Int) (hl : l.length ≤ 65536) (hr : ∀ x ∈ l, 0 ≤ x ∧ x < 18446744073709551616) : (pts (exc w 0 l)).length ≤ 1310720 := by
  have h1 := exc_len w l 0
  have h2 := pts_len (exc w 0 l) (fun p hp => by have := exc_mem w l 0 hr p hp; omega)
  omega
theorem enc_at (n : Nat) (hn : n < 18446744073709551616) : ∃ k, varint_Encode.f k (n : Int) = some (venc n) ∧ (venc n).length ≤ 10 := by
  obtain ⟨k, h⟩ := enc_ev n hn
  obtain ⟨_, _, h2⟩ := fsize n hn
  exact ⟨k, h k (Nat.le_refl _), h2⟩
theorem cat_at (a b c : List Int) (ha : a.length ≤ 2000000) (hb : b.length ≤ 2000000) (hc : c.length ≤ 2000000) : ∃ k, varint_Concat.f k [a, b, c] = some (a ++ (b ++ c)) := by
  obtain ⟨k, h⟩ := cat_ev [a, b, c] (show 3 < 1000000000 by decide) (by simp only [List.flatten_cons, List.flatten_nil, List.append_nil, List.length_append]; omega)
  have := h k (Nat.le_refl _)
  simp only [List.flatten_cons, List.flatten_nil, List.append_nil] at this
  exact ⟨k, this⟩
theorem pack_at (ds : List Int) (w : Nat) (hw : w ≤ 64) (hl : ds.length ≤ 65536) (hr : ∀ x ∈ ds, 0 ≤ x ∧ x < 18446744073709551616) : bitpack_Pack.f ds (w : Int) = some (packed ds w) := by
  unfold bitpack_Pack.f
  rw [if_pos ⟨by omega, by omega, by omega⟩, if_pos (by simpa only [List.all_eq_true, Bool.and_eq_true, decide_eq_true_eq] using hr), Int.toNat_natCast]
def frameref_Encode.f (l0 : List Int) : Option (List Int) := if okI l0 = true ∧ l0.length ≤ 65536 then some (fenc l0) else none
set_option maxHeartbeats 4000000 in
set_option maxRecDepth 100000 in
theorem frameref_Encode.calls (A0 : Option Addr) (c0 : Nat) (l0 : List Int) (r : List Int) (w : World) (hr0 : Kd.C (Kd.int .i64) w A0 l0.length l0) (hc0 : l0.length ≤ c0) (h : frameref_Encode.f l0 = some r) :
    Calls Try.prog 41 #[.slice A0 l0.length c0] w fun e w' => ∃ v0_ : Value, e = .returned (v0_) ∧ Kd.R (Kd.int .u8) 5 w' w.heap.size (fun _ => True) v0_ r ∧ Below w.heap.size w w' := by
  unfold frameref_Encode.f at h
  split at h
  case isFalse => cases h
  case isTrue hok =>
  have hre := (Option.some.inj h).symm
  obtain ⟨ho, hl⟩ := hok
  have hI := okI_all ho
  obtain ⟨k, hk⟩ := diff_ev l0 hl
  have hk1 : frameref_differences.f k l0 = some (lmin l0, fds l0) := hk k (Nat.le_refl _)
  have hz := zz_lmin hI
  have hzb := zb_lt hI
  have hfr := fds_range l0
  have hfl := fds_len l0
  have hfb : fenc l0 = withW (zb l0) (fds l0) (argm (szW (zb l0) (fds l0)) 64) := rfl
  obtain ⟨bm, hbm⟩ : ∃ bm, bm = lmin l0 := ⟨_, rfl⟩
  obtain ⟨ds, hds⟩ : ∃ ds, ds = fds l0 := ⟨_, rfl⟩
  obtain ⟨z, hzz⟩ : ∃ z, z = zb l0 := ⟨_, rfl⟩
  rw [hfb, ← hds, ← hzz] at hre
  rw [← hbm, ← hds] at hk1
  rw [← hbm, ← hzz] at hz
  rw [← hzz] at hzb
  rw [← hds] at hfr hfl
  obtain ⟨bw, hbw⟩ : ∃ bw, bw = argm (szW z ds) 64 := ⟨_, rfl⟩
  rw [← hbw] at hre
  have hb64 : bw ≤ 64 := by rw [hbw]; exact argm_le _ _
  have HBW := Aside0.mk hbw
  have HRE := Aside0.mk hre
  have HR := Aside0.mk hr0
  have HK := Aside0.mk hk1
  have HZ := Aside0.mk hz
  have HZB := Aside0.mk hzb
  have HFR := Aside0.mk hfr
  have hdl : ds.length ≤ 65536 := by omega
  clear hr0 hk hk1 hz hzb hfr hfl hfb hbm hds hzz ho hI hbw h hre hl
  go_enter Try.func41, Try.ntmps41
  go_wp2_with (first
    | (go_at_call 73; with_reducible refine (frameref_differences.calls k A0 c0 l0 bm ds w HR.out hc0 HK.out).mono ?_; rintro e w1 ⟨v1, rfl, ho, hb⟩; obtain ⟨A1, c1, e1⟩ := Kd.R_slice ho; subst e1; have C1 := Aside0.mk (Kd.R_reads' ho).2; have HB1 := Aside0.mk hb; clear ho hb)
    | (go_at_call 75; go_loud (refine (frameref_sizes.calls A1 c1 z bm ds _ HZ.out HZB.out C1.out.2 C1.out.1 HFR.out hdl).mono ?_; rintro e w2 ⟨rfl, hb⟩; have HB2 := Aside0.mk (below_then (Below.refl _ w1) (Nat.le_refl _) hb); clear hb))
    | (go_at_call 74; go_loud (refine (frameref_narrowest.calls (szW z ds) _).mono ?_; rw [← HBW.out]; rintro e w3 ⟨rfl, hb⟩; have HB3 := Aside0.mk (below_then HB2.out HB2.out.size hb); clear hb)))
  go_loopw [6, 7, 23] (fun v6 v7 v23 wq => ∃ (j e : Nat) (P : List Int) (A : Option Addr) (c : Nat), j ≤ ds.length ∧ Aside0 (P = pts (exc bw 0 (ds.take j))) ∧ Aside0 (e = (exc bw 0 (ds.take j)).length) ∧ e ≤ j ∧ v6 = .slice A P.length c ∧ v7 = .int .i64 (e : Int) ∧ v23 = .int .i64 (j : Int) ∧ Aside0 (P.length ≤ c ∧ Kd.C (Kd.int .u8) wq A P.length P) ∧ Below w1.heap.size w1 wq) (fun _ _ v23 _ => ds.length - (intOf v23).toNat)
  case atStart => exact ⟨0, 0, [], none, 0, Nat.zero_le _, ⟨by simp [exc, pts]⟩, ⟨by simp [exc]⟩, Nat.le_refl _, rfl, rfl, rfl, ⟨Nat.le_refl _, Kd.C_nil _ _⟩, HB3.out⟩
  case round =>
    obtain ⟨j, e, P, A, c, hj, hP, he, hej, rfl, rfl, rfl, CP, hBq⟩ := hrel
    have BQ := Aside0.mk hBq
    clear hBq
    by_cases hjl : j < ds.length
    · obtain ⟨ad, hA, hcx⟩ := Kd.at_int (Kd.C_below C1.out.2 BQ.out) (j : Int) (by omega) (by omega)
      subst hA
      rw [Int.toNat_natCast, rd_nat] at hcx
      have hx := getD_range HFR.out hjl
      obtain ⟨x, hxe⟩ : ∃ x : Nat, ds.getD j 0 = (x : Int) := ⟨(ds.getD j 0).toNat, by omega⟩
      rw [hxe] at hcx hx
      have hjl' : (j : Int) < (ds.length : Int) := by omega
      have hh := fhigh x bw (by omega) hb64
      obtain ⟨h, hhe⟩ : ∃ h, h = hi (x : Int) bw := ⟨_, rfl⟩
      rw [← hhe] at hh
      have hst := exc_step bw ds j hjl
      rw [hxe, ← hhe] at hst
      have hh64 : h < 18446744073709551616 := by
        have : h ≤ x := by rw [hhe]; unfold hi; rw [Int.toNat_natCast]; exact Nat.div_le_self _ _
        omega
      have HH := Aside0.mk hh
      have HST := Aside0.mk hst
      have H64 := Aside0.mk hh64
      clear hh hst hhe hxe hx hh64
      by_cases h0 : h = 0
      · have h0' : ¬ (0 : Int) < (h : Int) := by omega
        go_wp2_with (go_at_call 77; with_reducible refine (frameref_high.calls (x : Int) (bw : Int) (h : Int) _ HH.out).mono ?_; rintro e_ w7 ⟨rfl, ⟨n7, rfl⟩⟩)
        refine ⟨⟨j + 1, e, P, A, c, by omega, ⟨by rw [HST.out, if_pos h0, List.append_nil]; exact hP.out⟩, ⟨by rw [HST.out, if_pos h0, List.append_nil]; exact he.out⟩, by omega, rfl, rfl, by simp, ⟨CP.out.1, Kd.C_drewN CP.out.2 _⟩, pw_below_drewN BQ.out _⟩, ?_⟩
        simp [intOf]; omega
      · have h0' : (0 : Int) < (h : Int) := by omega
        have hPl : P.length ≤ 1310720 := by
          rw [hP.out]; exact pts_exc_len bw _ (by rw [List.length_take]; omega) (fun y hy => HFR.out y (List.mem_of_mem_take hy))
        obtain ⟨k3, s3, l3⟩ := enc_at j (by omega)
        obtain ⟨k4, s4, l4⟩ := enc_at h H64.out
        obtain ⟨ej, hej2⟩ : ∃ ej, ej = venc j := ⟨_, rfl⟩
        obtain ⟨eh, heh⟩ : ∃ eh, eh = venc h := ⟨_, rfl⟩
        rw [← hej2] at s3 l3
        rw [← heh] at s4 l4
        obtain ⟨k5, s5⟩ := cat_at P ej eh (by omega) (by omega) (by omega)
        obtain ⟨P2, hP2⟩ : ∃ P2, P2 = P ++ (ej ++ eh) := ⟨_, rfl⟩
        obtain ⟨z3, hz3⟩ : ∃ z3, z3 = [P, ej, eh] := ⟨_, rfl⟩
        rw [← hP2, ← hz3] at s5
        have SJ := Aside0.mk s3
        have SH := Aside0.mk s4
        have SC := Aside0.mk s5
        have HZ3 := Aside0.mk hz3
        have HFIN : Aside0 (P2 = pts (exc bw 0 (ds.take (j + 1)))) := ⟨by rw [HST.out, if_neg h0, pts_app, ← hP.out, hP2, hej2, heh]; simp [pts]⟩
        have ewj : IntKind.u64.wrap (j : Int) = (j : Int) := wraps_u64 _ (by omega) (by omega)
        clear s3 s4 s5 hz3 hP2 hej2 heh l3 l4 hPl
        go_wp2_with (first
            | (go_at_call 77; with_reducible refine (frameref_high.calls (x : Int) (bw : Int) (h : Int) _ HH.out).mono ?_; rintro e_ w7 ⟨rfl, ⟨n7, rfl⟩⟩)
            | (go_at_call 64; (with_reducible refine (varint_Encode.calls k3 (j : Int) ej _ SJ.out).mono ?_; rintro e_ w8 ⟨v_, rfl, ho, hb⟩; obtain ⟨Aw8, cw8, e_⟩ := Kd.R_slice ho; subst e_; have Cw8 := Aside0.mk (Kd.R_reads' ho).2; have Bw8 := Aside0.mk (below_then (pw_below_drewN BQ.out n7) (pw_below_drewN BQ.out n7).size hb); have CP8 := Aside0.mk (And.intro CP.out.1 (Kd.C_below (Kd.C_drewN CP.out.2 n7) hb)); clear ho hb))
            | (go_at_call 64; (with_reducible refine (varint_Encode.calls k4 (h : Int) eh _ SH.out).mono ?_; rintro e_ w9 ⟨v_, rfl, ho, hb⟩; obtain ⟨Aw9, cw9, e_⟩ := Kd.R_slice ho; subst e_; have Cw9 := Aside0.mk (Kd.R_reads' ho).2; have Bw9 := Aside0.mk (below_then (Bw8.out) (Bw8.out).size hb); have CP9 := Aside0.mk (And.intro CP.out.1 (Kd.C_below CP8.out.2 hb)); have CJ9 := Aside0.mk (And.intro Cw8.out.1 (Kd.C_below Cw8.out.2 hb)); clear ho hb))
            | ((with_reducible refine gate_dst (N := 41) rfl ?_); go_loud (refine Kd.N_lit (Kd.slice 5 (Kd.int .u8)) _ 26 ?hg (N' := 41) ?hd (xs := ([P, ej, eh] : List (List Int))) (inner := [.slice A P.length c, .slice Aw8 ej.length cw8, .slice Aw9 eh.length cw9]) (ok := fun _ => True) (okp := fun k_ => k_ < (w9).heap.size) ?hr ?hp (fun _ _ => trivial) trivial (Below.refl _ _) (Nat.le_refl _) (by simp) ?_; (case hd => rfl); (case hg => exact fs_); (case hr => first | (go_simp; done) | (go_simp; rfl)); (case hp => exact (Reps.one (show Kd.FK (Kd.slice 5 (Kd.int .u8)) _ _ P [.slice A P.length c] from (Kd.FK_slice_mk CP9.out.1 (Kd.C_F (Kd.heap_int .u8) CP9.out.2))) (Reps.one (show Kd.FK (Kd.slice 5 (Kd.int .u8)) _ _ ej [.slice Aw8 ej.length cw8] from (Kd.FK_slice_mk CJ9.out.1 (Kd.C_F (Kd.heap_int .u8) CJ9.out.2))) (Reps.one (show Kd.FK (Kd.slice 5 (Kd.int .u8)) _ _ eh [.slice Aw9 eh.length cw9] from (Kd.FK_slice_mk Cw9.out.1 (Kd.C_F (Kd.heap_int .u8) Cw9.out.2))) (Reps.none _ _))))); intro v_ w10 ho hb hg_ hnew_; clear hg_ hnew_; rw [← HZ3.out] at ho; obtain ⟨Aw10, cw10, e_⟩ := Kd.N_slice ho; subst e_; have Cw10 := Aside0.mk (Kd.N_reads' ho).2; have Bw10 := Aside0.mk (below_then Bw9.out Bw9.out.size hb);  clear ho hb))
            | (go_at_call 78; (with_reducible refine (varint_Concat.calls k5 Aw10 cw10 z3 P2 w10 Cw10.out.2 Cw10.out.1 SC.out).mono ?_; rintro e_ w11 ⟨v_, rfl, ho, hb⟩; have HOw11 := Aside0.mk ho; obtain ⟨Aw11, cw11, e_⟩ := Kd.R_slice ho; subst e_; have Cw11 := Aside0.mk (Kd.R_reads' ho).2; have Bw11 := Aside0.mk (below_then Bw10.out Bw10.out.size hb);  clear ho hb))
          )
        refine ⟨⟨j + 1, e + 1, P2, Aw11, cw11, by omega, HFIN, ⟨by rw [HST.out, if_neg h0, List.length_append, ← he.out]; rfl⟩, by omega, rfl, by simp, by simp, Cw11, Bw11.out⟩, ?_⟩
        simp [intOf]; omega
    · obtain rfl : j = ds.length := by omega
      have hP1 := hP.out
      have he1 := he.out
      rw [List.take_length] at hP1 he1
      have hPl : P.length ≤ 1310720 := by
        rw [hP1]; exact pts_exc_len bw _ hdl HFR.out
      obtain ⟨k3, s3, l3⟩ := enc_at z HZB.out
      obtain ⟨k4, s4, l4⟩ := enc_at bw (by omega)
      obtain ⟨k5, s5, l5⟩ := enc_at e (by omega)
      obtain ⟨ez, hez⟩ : ∃ ez, ez = venc z := ⟨_, rfl⟩
      obtain ⟨ew, hew⟩ : ∃ ew, ew = venc bw := ⟨_, rfl⟩
      obtain ⟨ee, hee⟩ : ∃ ee, ee = venc e := ⟨_, rfl⟩
      rw [← hez] at s3 l3
      rw [← hew] at s4 l4
      rw [← hee] at s5 l5
      obtain ⟨k6, s6⟩ := cat_at ez ew ee (by omega) (by omega) (by omega)
      obtain ⟨hd_, hhd⟩ : ∃ hd_, hd_ = ez ++ (ew ++ ee) := ⟨_, rfl⟩
      obtain ⟨zh, hzh⟩ : ∃ zh, zh = [ez, ew, ee] := ⟨_, rfl⟩
      rw [← hhd, ← hzh] at s6
      have sp := pack_at ds bw hb64 hdl HFR.out
      have lpk : (packed ds bw).length ≤ 524289 := by rw [packed_len]; exact fpb_le _ _ hdl hb64
      obtain ⟨pk, hpk⟩ : ∃ pk, pk = packed ds bw := ⟨_, rfl⟩
      rw [← hpk] at sp lpk
      obtain ⟨k7, s7⟩ := cat_at hd_ pk P (by rw [hhd]; simp only [List.length_append]; omega) (by omega) (by omega)
      obtain ⟨fe, hfe⟩ : ∃ fe, fe = hd_ ++ (pk ++ P) := ⟨_, rfl⟩
      obtain ⟨zf, hzf⟩ : ∃ zf, zf = [hd_, pk, P] := ⟨_, rfl⟩
      rw [← hfe, ← hzf] at s7
      have SZ := Aside0.mk s3
      have SW := Aside0.mk s4
      have SE := Aside0.mk s5
      have SHD := Aside0.mk s6
      have SP := Aside0.mk sp
      have SF := Aside0.mk s7
      have HZH := Aside0.mk hzh
      have HZF := Aside0.mk hzf
      have HFIN : Aside0 (fe = r) := ⟨by rw [HRE.out, hfe, hhd, hez, hew, hee, hpk, he1, hP1]; unfold withW; simp only [List.append_assoc]⟩
      have ewb : IntKind.u64.wrap (bw : Int) = (bw : Int) := wraps_u64 _ (by omega) (by omega)
      have ewe : IntKind.u64.wrap (e : Int) = (e : Int) := wraps_u64 _ (by omega) (by omega)
      clear s3 s4 s5 s6 s7 sp hzh hzf hfe hpk hhd hez hew hee l3 l4 l5 lpk hPl hP1 he1
      go_wp2_with (first
        | (go_at_call 65; with_reducible refine (varint_ZigZag.calls bm (z : Int) _ HZ.out).mono ?_; rintro e_ w6 ⟨rfl, ⟨n6, rfl⟩⟩)
        | (go_at_call 64; (with_reducible refine (varint_Encode.calls k3 (z : Int) ez _ SZ.out).mono ?_; rintro e_ w7 ⟨v_, rfl, ho, hb⟩; obtain ⟨Aw7, cw7, e_⟩ := Kd.R_slice ho; subst e_; have Cw7 := Aside0.mk (Kd.R_reads' ho).2; have Bw7 := Aside0.mk (below_then (pw_below_drewN BQ.out n6) (pw_below_drewN BQ.out n6).size hb); have CP7 := Aside0.mk (And.intro CP.out.1 (Kd.C_below (Kd.C_drewN CP.out.2 n6) hb)); clear ho hb))
        | (go_at_call 64; (with_reducible refine (varint_Encode.calls k4 (bw : Int) ew _ SW.out).mono ?_; rintro e_ w8 ⟨v_, rfl, ho, hb⟩; obtain ⟨Aw8, cw8, e_⟩ := Kd.R_slice ho; subst e_; have Cw8 := Aside0.mk (Kd.R_reads' ho).2; have Bw8 := Aside0.mk (below_then (Bw7.out) (Bw7.out).size hb); have CP8 := Aside0.mk (And.intro CP.out.1 (Kd.C_below CP7.out.2 hb)); have CZ8 := Aside0.mk (And.intro Cw7.out.1 (Kd.C_below Cw7.out.2 hb)); clear ho hb))
        | (go_at_call 64; (with_reducible refine (varint_Encode.calls k5 (e : Int) ee _ SE.out).mono ?_; rintro e_ w9 ⟨v_, rfl, ho, hb⟩; obtain ⟨Aw9, cw9, e_⟩ := Kd.R_slice ho; subst e_; have Cw9 := Aside0.mk (Kd.R_reads' ho).2; have Bw9 := Aside0.mk (below_then (Bw8.out) (Bw8.out).size hb); have CP9 := Aside0.mk (And.intro CP.out.1 (Kd.C_below CP8.out.2 hb)); have CZ9 := Aside0.mk (And.intro Cw7.out.1 (Kd.C_below CZ8.out.2 hb)); have CW9 := Aside0.mk (And.intro Cw8.out.1 (Kd.C_below Cw8.out.2 hb)); clear ho hb))
        | ((with_reducible refine gate_dst (N := 53) rfl ?_); go_loud (refine Kd.N_lit (Kd.slice 5 (Kd.int .u8)) _ 26 ?hg (N' := 53) ?hd (xs := ([ez, ew, ee] : List (List Int))) (inner := [.slice Aw7 ez.length cw7, .slice Aw8 ew.length cw8, .slice Aw9 ee.length cw9]) (ok := fun _ => True) (okp := fun k_ => k_ < (w9).heap.size) ?hr ?hp (fun _ _ => trivial) trivial (Below.refl _ _) (Nat.le_refl _) (by simp) ?_; (case hd => rfl); (case hg => exact fs_); (case hr => first | (go_simp; done) | (go_simp; rfl)); (case hp => exact (Reps.one (show Kd.FK (Kd.slice 5 (Kd.int .u8)) _ _ ez [.slice Aw7 ez.length cw7] from (Kd.FK_slice_mk CZ9.out.1 (Kd.C_F (Kd.heap_int .u8) CZ9.out.2))) (Reps.one (show Kd.FK (Kd.slice 5 (Kd.int .u8)) _ _ ew [.slice Aw8 ew.length cw8] from (Kd.FK_slice_mk CW9.out.1 (Kd.C_F (Kd.heap_int .u8) CW9.out.2))) (Reps.one (show Kd.FK (Kd.slice 5 (Kd.int .u8)) _ _ ee [.slice Aw9 ee.length cw9] from (Kd.FK_slice_mk Cw9.out.1 (Kd.C_F (Kd.heap_int .u8) Cw9.out.2))) (Reps.none _ _))))); intro v_ w10 ho hb hg_ hnew_; clear hg_ hnew_; rw [← HZH.out] at ho; obtain ⟨Aw10, cw10, e_⟩ := Kd.N_slice ho; subst e_; have Cw10 := Aside0.mk (Kd.N_reads' ho).2; have Bw10 := Aside0.mk (below_then Bw9.out Bw9.out.size hb); have CP10 := Aside0.mk (And.intro CP.out.1 (Kd.C_below CP9.out.2 hb)); clear ho hb))
        | (go_at_call 78; (with_reducible refine (varint_Concat.calls k6 Aw10 cw10 zh hd_ w10 Cw10.out.2 Cw10.out.1 SHD.out).mono ?_; rintro e_ w11 ⟨v_, rfl, ho, hb⟩; have HOw11 := Aside0.mk ho; obtain ⟨Aw11, cw11, e_⟩ := Kd.R_slice ho; subst e_; have Cw11 := Aside0.mk (Kd.R_reads' ho).2; have Bw11 := Aside0.mk (below_then Bw10.out Bw10.out.size hb); have CP11 := Aside0.mk (And.intro CP.out.1 (Kd.C_below CP10.out.2 hb)); clear ho hb))
        | (go_at_call 23; go_loud (with_reducible refine (bitpack_Pack.calls A1 c1 ds (bw : Int) pk w11 (Kd.C_below C1.out.2 Bw11.out) C1.out.1 SP.out).mono ?_; rintro e_ w12 ⟨v_, rfl, ho, hb⟩; obtain ⟨Aw12, cw12, e_⟩ := Kd.R_slice ho; subst e_; have Cw12 := Aside0.mk (Kd.R_reads' ho).2; have Bw12 := Aside0.mk (below_then Bw11.out Bw11.out.size hb); have CP12 := Aside0.mk (And.intro CP.out.1 (Kd.C_below CP11.out.2 hb)); have CH12 := Aside0.mk (And.intro Cw11.out.1 (Kd.C_below Cw11.out.2 hb)); clear ho hb))
        | ((with_reducible refine gate_dst (N := 60) rfl ?_); go_loud (refine Kd.N_lit (Kd.slice 5 (Kd.int .u8)) _ 26 ?hg (N' := 60) ?hd (xs := ([hd_, pk, P] : List (List Int))) (inner := [.slice Aw11 hd_.length cw11, .slice Aw12 pk.length cw12, .slice A P.length c]) (ok := fun _ => True) (okp := fun k_ => k_ < (w12).heap.size) ?hr ?hp (fun _ _ => trivial) trivial (Below.refl _ _) (Nat.le_refl _) (by simp) ?_; (case hd => rfl); (case hg => exact fs_); (case hr => first | (go_simp; done) | (go_simp; rfl)); (case hp => exact (Reps.one (show Kd.FK (Kd.slice 5 (Kd.int .u8)) _ _ hd_ [.slice Aw11 hd_.length cw11] from (Kd.FK_slice_mk CH12.out.1 (Kd.C_F (Kd.heap_int .u8) CH12.out.2))) (Reps.one (show Kd.FK (Kd.slice 5 (Kd.int .u8)) _ _ pk [.slice Aw12 pk.length cw12] from (Kd.FK_slice_mk Cw12.out.1 (Kd.C_F (Kd.heap_int .u8) Cw12.out.2))) (Reps.one (show Kd.FK (Kd.slice 5 (Kd.int .u8)) _ _ P [.slice A P.length c] from (Kd.FK_slice_mk CP12.out.1 (Kd.C_F (Kd.heap_int .u8) CP12.out.2))) (Reps.none _ _))))); intro v_ w13 ho hb hg_ hnew_; clear hg_ hnew_; rw [← HZF.out] at ho; obtain ⟨Aw13, cw13, e_⟩ := Kd.N_slice ho; subst e_; have Cw13 := Aside0.mk (Kd.N_reads' ho).2; have Bw13 := Aside0.mk (below_then Bw12.out Bw12.out.size hb);  clear ho hb))
        | (go_at_call 78; (with_reducible refine (varint_Concat.calls k7 Aw13 cw13 zf fe w13 Cw13.out.2 Cw13.out.1 SF.out).mono ?_; rintro e_ w14 ⟨v_, rfl, ho, hb⟩; have HOw14 := Aside0.mk ho; obtain ⟨Aw14, cw14, e_⟩ := Kd.R_slice ho; subst e_; have Cw14 := Aside0.mk (Kd.R_reads' ho).2; have Bw14 := Aside0.mk (below_then Bw13.out Bw13.out.size hb);  clear ho hb))
        )
      go_ret
      have hb1 := HB1.out
      exact ⟨_, rfl, by rw [← HFIN.out]; exact Kd.R_lower HOw14.out (Nat.le_trans hb1.size Bw13.out.size), below_then hb1 hb1.size Bw14.out⟩

/-! ### delta_Encode_1: function 63 -/
def delta_Encode_1.f (a0 : Int) (l1 : List Int) (l2 : List Int) : Option (List Int) := if okI l1 = true ∧ l1.length ≤ 1000 ∧ okI l2 = true ∧ l2.length ≤ 65536 then some (a0 :: (lds l1 ++ fenc l2)) else none
theorem zig_at (x : Int) (h0 : -9223372036854775808 ≤ x) (h1 : x < 9223372036854775808) : varint_ZigZag.f x = some ((zn x : Nat) : Int) := by
  have h2 := zig_range x h0 h1
  unfold varint_ZigZag.f zn
  rw [zig_bits x h0 h1, Int.toNat_of_nonneg h2.1]
theorem lds_app : ∀ (a b : List Int), lds (a ++ b) = lds a ++ lds b := by
  intro a b
  induction a with
  | nil => rfl
  | cons x a ih => simp only [List.cons_append, lds, ih, List.append_assoc]
theorem lds_len : ∀ (a : List Int), (∀ x ∈ a, -9223372036854775808 ≤ x ∧ x < 9223372036854775808) → (lds a).length ≤ 10 * a.length := by
  intro a
  induction a with
  | nil => intro _; exact Nat.le_refl _
  | cons x a ih =>
    intro h
    have h1 := ih (fun y hy => h y (List.mem_cons_of_mem _ hy))
    have h2 := venc_len10 (zn x) (zn_lt (h x List.mem_cons_self))
    simp only [lds, List.length_append, List.length_cons]
    omega
set_option maxHeartbeats 2000000 in
set_option maxRecDepth 100000 in
theorem delta_Encode_1.calls (a0 : Int) (A1 : Option Addr) (c1 : Nat) (l1 : List Int) (A2 : Option Addr) (c2 : Nat) (l2 : List Int) (r : List Int) (w : World) (hr1 : Kd.C (Kd.int .i64) w A1 l1.length l1) (hc1 : l1.length ≤ c1) (hr2 : Kd.C (Kd.int .i64) w A2 l2.length l2) (hc2 : l2.length ≤ c2) (h : delta_Encode_1.f a0 l1 l2 = some r) :
    Calls Try.prog 63 #[.int .u8 a0, .slice A1 l1.length c1, .slice A2 l2.length c2] w fun e w' => ∃ v0_ : Value, e = .returned (v0_) ∧ Kd.R (Kd.int .u8) 5 w' w.heap.size (fun _ => True) v0_ r ∧ Below w.heap.size w w' := by
  unfold delta_Encode_1.f at h
  by_cases hsz : okI l1 = true ∧ l1.length ≤ 1000 ∧ okI l2 = true ∧ l2.length ≤ 65536
  case neg => rw [if_neg hsz] at h; cases h
  rw [if_pos hsz] at h
  have hR := Option.some.inj h
  clear h
  obtain ⟨s1, s2, s3, s4⟩ := hsz
  have I1 := Aside0.mk (okI_all s1)
  have HF := Aside0.mk (show frameref_Encode.f l2 = some (fenc l2) by unfold frameref_Encode.f; rw [if_pos ⟨s3, s4⟩])
  have HFL := Aside0.mk (fenc_len s4 (okI_all s3))
  have HR1 := Aside0.mk hr1
  have HR2 := Aside0.mk hr2
  have HS := Aside0.mk s2
  have HX := Aside0.mk hR
  obtain ⟨fe, hfe⟩ : ∃ fe, fe = fenc l2 := ⟨_, rfl⟩
  rw [← hfe] at HF HFL HX
  have HS4 := Aside0.mk s4
  clear hr1 hr2 hR s1 s2 s3 s4 hfe
  go_enter Try.func63, Try.ntmps63
  go_wp2_with ((with_reducible refine gate_dst (N := 11) rfl ?_); go_loud (refine Kd.R_lit (Kd.int .u8) _ 5 ?hg (N := 11) ?hd (xs := ([a0] : List Int)) (inner := [.int .u8 a0]) (ok := fun _ => True) (okp := fun _ => True) ?hr ?hp (fun _ hk => hk) trivial (Below.refl _ _) (Nat.le_refl _) (by simp) ?_; (case hd => rfl); (case hg => exact fs_); (case hr => first | (go_simp; done) | (go_simp; rfl)); (case hp => exact (Reps.one (show Kd.M (Kd.int .u8) _ _ _ a0 [.int .u8 a0] from rfl) (Reps.none _ _))); intro v1 w1 ho hb hg_ hnew_; clear hg_ hnew_; have HO0 := Aside0.mk ho; have HB0 := Aside0.mk hb; clear ho hb))
  go_loopw [7, 14] (fun v7 v14 wr => ∃ (i : Nat) (acc : List Int), i ≤ l1.length ∧ v14 = .int .i64 (i : Int) ∧ Aside0 (acc = a0 :: lds (l1.take i)) ∧ Aside0 (Kd.R (Kd.int .u8) 5 wr w.heap.size (fun _ => True) v7 acc) ∧ Aside0 (Below w.heap.size w wr)) (fun _ v14 _ => l1.length - (intOf v14).toNat)
  case atStart => exact ⟨0, [a0], Nat.zero_le _, rfl, ⟨rfl⟩, ⟨HO0.out⟩, ⟨HB0.out⟩⟩
  case round =>
    clear HO0 HB0
    obtain ⟨i, acc, hi, rfl, HA, HO, HB⟩ := hrel
    by_cases hlt : i < l1.length
    · obtain ⟨ad, rfl, hcx⟩ := Kd.at_int HR1.out (i : Int) (by omega) (by omega)
      obtain ⟨d, hd⟩ : ∃ d : Int, d = rd l1 (i : Int) := ⟨_, rfl⟩
      have hdm : d = l1[i] := by rw [hd]; simp [rd, List.getD_eq_getElem?_getD, List.getElem?_eq_getElem hlt]
      have hdI := I1.out d (by rw [hdm]; exact List.getElem_mem hlt)
      rw [← hd, Int.toNat_natCast] at hcx
      have hz := zig_at d hdI.1 hdI.2
      obtain ⟨z, hz2⟩ : ∃ z : Nat, z = zn d := ⟨_, rfl⟩
      have hzl : z < 18446744073709551616 := by rw [hz2]; exact zn_lt hdI
      rw [← hz2] at hz
      obtain ⟨ke, hke, hkl⟩ := enc_at z hzl
      obtain ⟨e1, he1⟩ : ∃ e1 : List Int, e1 = venc z := ⟨_, rfl⟩
      rw [← he1] at hke hkl
      have hacc : acc ++ e1 = a0 :: lds (l1.take (i + 1)) := by
        rw [HA.out, List.take_succ_eq_append_getElem hlt, lds_app, ← hdm, he1, hz2]
        simp [lds]
      have hal : acc.length ≤ 20000 := by
        have := lds_len (l1.take i) (fun x hx => I1.out x (List.mem_of_mem_take hx))
        rw [HA.out]
        simp only [List.length_cons, List.length_take] at this ⊢
        have := HS.out
        omega
      have HZ := Aside0.mk hz
      have HE := Aside0.mk hke
      have HL := Aside0.mk (And.intro hkl hal)
      have HAC := Aside0.mk hacc
      have hcx' := pw_cell_below HB.out hcx
      have hlt' : (i : Int) < (l1.length : Int) := by omega
      have ew4 : IntKind.i64.wrap ((i : Int) + 1) = (i : Int) + 1 := IntWalk.i64_in _ (by have := HS.out; omega)
      clear hd hdm hdI hz hz2 hzl hke hkl he1 hacc hal hcx HA
      go_wp2_with (first
        | (go_at_call 65; with_reducible refine (varint_ZigZag.calls d (z : Int) _ HZ.out).mono ?_; rintro e w' ⟨rfl, ⟨nd, rfl⟩⟩)
        | (go_at_call 64; with_reducible refine (varint_Encode.calls ke (z : Int) e1 _ HE.out).mono ?_; rintro e w9 ⟨v9, rfl, ho0, hb0⟩; have HP1 := Aside0.mk (Kd.R_elder' (Kd.R_drewN HO.out _) (Kd.R_base ho0) hb0); have HT1 := Aside0.mk (Kd.R_lower ho0 (below_size (pw_below_drewN HB.out _))); have HQ1 := Aside0.mk (below_step (pw_below_drewN HB.out _) hb0); obtain ⟨Ao1, co1, eo⟩ := Kd.R_slice HT1.out; subst eo; clear ho0 hb0)
        | ((with_reducible refine gate_builtin (b := .append) (xs := #[.tmp 18, .tmp 21]) rfl ?_); at_builtin; go_loud (refine Kd.R_append_rows (Kd.int .u8) (w0 := w) w.heap.size rfl (.tmp 18) (.tmp 21) 26 5 (.int .u8 0) 1 rfl Try.underlying26 info5 rfl (by decide) (by omega) u7 acc e1 _ _ _ (fun _ => True) (fun _ => False) rfl rfl ?aO ?aR (fun _ _ h => h) (fun _ h => h.elim) ?aF ?aB ?aS ?aL ?_; (case aR => exact (Kd.R_reads' HT1.out).2.2); (case aB => exact HQ1.out); (case aF => exact (fun _ _ => trivial)); (case aO => exact Kd.R_mono HP1.out (fun _ _ => trivial)); (case aS => exact below_size HQ1.out); (case aL => have := HL.out; omega); intro x1 z1 ho hb hg hat; have HW1 := Aside0.mk ho; have HV1 := Aside0.mk hb; clear ho hb hg hat)))
      refine ⟨⟨i + 1, acc ++ e1, by omega, by go_num, ⟨HAC.out⟩, HW1, HV1⟩, by simp [intOf]; omega⟩
    · have hil : i = l1.length := by omega
      subst hil
      have hA := HA.out
      rw [List.take_length] at hA
      have hal : acc.length ≤ 20000 := by
        have := lds_len l1 I1.out
        rw [hA]
        simp only [List.length_cons] at this ⊢
        have := HS.out
        omega
      have hX := HX.out
      have hfin : acc ++ fe = r := by rw [hA, ← hX]; rfl
      have HFIN := Aside0.mk hfin
      have HL := Aside0.mk hal
      clear hA hal hX hfin HA
      go_wp2_with (first
        | (go_at_call 41; with_reducible refine (frameref_Encode.calls A2 c2 l2 fe _ (Kd.C_below HR2.out HB.out) hc2 HF.out).mono ?_; rintro e w9 ⟨v9, rfl, ho0, hb0⟩; have HP1 := Aside0.mk (Kd.R_elder' HO.out (Kd.R_base ho0) hb0); have HT1 := Aside0.mk (Kd.R_lower ho0 (below_size HB.out)); have HQ1 := Aside0.mk (below_step HB.out hb0); obtain ⟨Ao1, co1, eo⟩ := Kd.R_slice HT1.out; subst eo; clear ho0 hb0)
        | ((with_reducible refine gate_builtin (b := .append) (xs := #[.tmp 24, .tmp 26]) rfl ?_); at_builtin; go_loud (refine Kd.R_append_rows (Kd.int .u8) (w0 := w) w.heap.size rfl (.tmp 24) (.tmp 26) 26 5 (.int .u8 0) 1 rfl Try.underlying26 info5 rfl (by decide) (by omega) u7 acc fe _ _ _ (fun _ => True) (fun _ => False) rfl rfl ?aO ?aR (fun _ _ h => h) (fun _ h => h.elim) ?aF ?aB ?aS ?aL ?_; (case aR => exact (Kd.R_reads' HT1.out).2.2); (case aB => exact HQ1.out); (case aF => exact (fun _ _ => trivial)); (case aO => exact Kd.R_mono HP1.out (fun _ _ => trivial)); (case aS => exact below_size HQ1.out); (case aL => have := HL.out; have := HFL.out; have := HS4.out; omega); intro x1 z1 ho hb hg hat; rw [HFIN.out] at ho; have HW1 := Aside0.mk ho; have HV1 := Aside0.mk hb; clear ho hb hg hat)))
      go_ret
      exact ⟨_, rfl, HW1.out, HV1.out⟩

end Go.Proofs.Ytllhbjkkoogeeaa.QDeltaDecode
