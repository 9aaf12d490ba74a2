/- laminalaw01.VarintZigZag returns true for all its arguments (ZigZag and UnZigZag are the reference's functions and inverses, and ZigZag orders numbers by absolute value). Conditions: none. -/
import Derived.Test.YtcjlmbbaknmpdaaQVarintZigZagx2
import Derived.Test.YtcjlmbbaknmpdaaM01
import Derived.Test.YtcjlmbbaknmpdaaM02
set_option linter.unusedVariables false
set_option linter.unusedSimpArgs false
namespace Go.Proofs.Ytcjlmbbaknmpdaa.Pure
open Go Go.RowKit Go.Proofs.Ytcjlmbbaknmpdaa.QVarintZigZag Go.Proofs.YtcjlmbbaknmpdaaW.PrintWords Go.Proofs.YtcjlmbbaknmpdaaW.PrintLast Go.Proofs.YtcjlmbbaknmpdaaM

/-! ### zigzag -/
theorem zig_f (x : Int) (h0 : -9223372036854775808 ≤ x) (h1 : x < 9223372036854775808) : varint_ZigZag.f x = some (zig x) := by
  unfold varint_ZigZag.f; rw [zig_bits x h0 h1]
theorem unzig_f (u : Int) (h0 : 0 ≤ u) (h1 : u < 18446744073709551616) : varint_UnZigZag.f u = some (unzig u) := by
  have h := unzig_bits u h0 h1
  simp only [IntKind.wrap_i64] at h
  unfold varint_UnZigZag.f wrap64
  rw [h]

theorem rzig_f (x : Int) (h0 : -9223372036854775808 ≤ x) (h1 : x < 9223372036854775808) : laminaref01_ZigZag.f x = some (zig x) := by
  unfold laminaref01_ZigZag.f zig
  by_cases h : 0 ≤ x
  · have e : IntKind.u64.wrap (2 * IntKind.u64.wrap x) = 2 * x := by rw [wrap_u64, wrap_u64]; omega
    rw [if_pos (by omega), if_pos h, e]
  · have e : IntKind.u64.wrap (IntKind.u64.wrap (2 * IntKind.u64.wrap (wrap64 (-wrap64 (x + 1)))) + 1) = -2 * x - 1 := by
      rw [w64 (x + 1) (by omega) (by omega), w64 _ (by omega) (by omega), wrap_u64, wrap_u64, wrap_u64]; omega
    rw [if_neg (by omega), if_neg h, e]
theorem runzig_f (u : Int) (h0 : 0 ≤ u) (h1 : u < 18446744073709551616) : laminaref01_UnZigZag.f u = some (unzig u) := by
  unfold laminaref01_UnZigZag.f unzig
  rw [Int.tmod_eq_emod_of_nonneg h0, Int.tdiv_eq_ediv_of_nonneg h0]
  by_cases h : u % 2 = 0
  · rw [if_pos h, if_pos h, wrap_u64_of _ (by omega) (by omega), w64 _ (by omega) (by omega)]
  · rw [if_neg h, if_neg h, wrap_u64_of _ (by omega) (by omega), w64 (u / 2) (by omega) (by omega), w64 (-(u / 2)) (by omega) (by omega), w64 _ (by omega) (by omega)]

theorem awake_ev : Ev (fun k => laminalaw01_awake.f k) true := Ev.of laminalaw01_awake.mono (k := 20) (by decide +kernel)
theorem zig_mono (n m : Int) (hn : -9223372036854775808 ≤ n ∧ n < 9223372036854775808) (hm : -9223372036854775808 ≤ m ∧ m < 9223372036854775808) (h : n > m ∧ m ≥ 0 ∨ n < m ∧ m < 0) : zig n > zig m := by
  unfold zig; split <;> split <;> omega
theorem j1_true (n m : Int) (hn : -9223372036854775808 ≤ n ∧ n < 9223372036854775808) (hm : -9223372036854775808 ≤ m ∧ m < 9223372036854775808) (h : n > m ∧ m ≥ 0 ∨ n < m ∧ m < 0) : Ev (fun k => laminalaw01_VarintZigZag.j1 k n m true) true := by
  refine Ev.succ ?_
  simp only [laminalaw01_VarintZigZag.j1]
  refine Ev.pos (by decide) ?_
  refine Ev.bind0 (zig_f n hn.1 hn.2) ?_
  refine Ev.bind0 (zig_f m hm.1 hm.2) ?_
  refine Ev.pos (zig_mono n m hn hm h) ?_
  exact Ev.bind awake_ev (Ev.now _)
theorem j1_false (n m : Int) : Ev (fun k => laminalaw01_VarintZigZag.j1 k n m false) true := by
  refine Ev.succ ?_
  simp only [laminalaw01_VarintZigZag.j1]
  refine Ev.neg (by decide) ?_
  exact Ev.bind awake_ev (Ev.now _)
theorem VarintZigZag : laminalaw01_VarintZigZag.Pure := by
  intro n m u wn wm wu
  have hn := wf_i64 wn
  have hm := wf_i64 wm
  have hu := wf_u64 wu
  refine Ev.rounds (g := fun k => laminalaw01_VarintZigZag.f k n m u) ?_
  have hz := zig_range n hn.1 hn.2
  have hy := unzig_range u hu.1 hu.2
  unfold laminalaw01_VarintZigZag.f
  refine Ev.bind0 (zig_f n hn.1 hn.2) ?_
  refine Ev.bind0 (rzig_f n hn.1 hn.2) ?_
  refine Ev.pos (by rfl) ?_
  refine Ev.bind0 (unzig_f u hu.1 hu.2) ?_
  refine Ev.bind0 (runzig_f u hu.1 hu.2) ?_
  refine Ev.pos (by rfl) ?_
  refine Ev.bind0 (zig_f n hn.1 hn.2) ?_
  refine Ev.bind0 (unzig_f _ hz.1 hz.2) ?_
  refine Ev.pos (unzig_zig n) ?_
  refine Ev.bind0 (unzig_f u hu.1 hu.2) ?_
  refine Ev.bind0 (zig_f _ hy.1 hy.2) ?_
  rw [zig_unzig u hu.1, show (u != u) = false by simp]
  refine Ev.succ ?_
  simp only [laminalaw01_VarintZigZag.j0]
  refine Ev.neg (by decide) ?_
  by_cases h1 : n > m
  · refine Ev.pos h1 ?_
    by_cases h2 : m ≥ 0
    · refine Ev.pos h2 ?_
      exact j1_true n m hn hm (.inl ⟨h1, h2⟩)
    · refine Ev.neg h2 ?_
      refine Ev.neg (by omega) ?_
      exact j1_false n m
  · refine Ev.neg h1 ?_
    by_cases h2 : n < m
    · refine Ev.pos h2 ?_
      by_cases h3 : m < 0
      · rw [decide_eq_true h3]
        exact j1_true n m hn hm (.inr ⟨h2, h3⟩)
      · rw [decide_eq_false h3]
        exact j1_false n m
    · refine Ev.neg h2 ?_
      exact j1_false n m

end Go.Proofs.Ytcjlmbbaknmpdaa.Pure
