/- laminalaw08.FramerefShortest returns true for all its arguments (no width gives a shorter encoding, equal values have an encoding that does not grow, and moving all values keeps the width). Conditions: none beyond the row's own (a slice of at most 2^47 - 4096 bytes). -/
import Derived.Test.YtllhbjkkoogeeaaQFramerefShortestx7
import Derived.Test.YtllhbjkkoogeeaaM01
import Derived.Test.YtllhbjkkoogeeaaM02
import Derived.Test.YtllhbjkkoogeeaaM06
import Derived.Test.YtllhbjkkoogeeaaM09
set_option linter.unusedVariables false
set_option linter.unusedSimpArgs false
namespace Go.Proofs.Ytllhbjkkoogeeaa.Pure
open Go Go.RowKit Go.Proofs.Ytllhbjkkoogeeaa.QFramerefShortest Go.Proofs.YtllhbjkkoogeeaaW.PrintWords Go.Proofs.YtllhbjkkoogeeaaW.PrintLast Go.Proofs.YtllhbjkkoogeeaaM

/-! ### the reference's Encode and Concat -/
theorem renc_l0 : ∀ (f n : Nat) (acc : List Int), n < 128 ^ (f + 1) → n < 18446744073709551616 → acc.length + f < 1000 → Ev (fun k => laminaref01_Encode.l0 k (n : Int) acc) (acc ++ venc n) := by
  intro f
  induction f with
  | zero =>
    intro n acc hn hn6 ha
    have h : n < 128 := by simpa using hn
    refine Ev.succ ?_
    simp only [laminaref01_Encode.l0]
    refine Ev.neg (by omega) ?_
    refine Ev.pos (by omega) ?_
    exact Ev.eq (Ev.now _) (by rw [venc_lt h, show (n : Int) % 256 = n by omega])
  | succ f ih =>
    intro n acc hn hn6 ha
    have hn2 : n / 128 < 128 ^ (f + 1) := by
      rw [Nat.div_lt_iff_lt_mul (by decide), ← Nat.pow_succ]; exact hn
    clear hn
    refine Ev.succ ?_
    simp only [laminaref01_Encode.l0, Int.tdiv_eq_ediv_of_nonneg (show (0 : Int) ≤ n by omega), Int.tmod_eq_emod_of_nonneg (show (0 : Int) ≤ n by omega)]
    by_cases h : n < 128
    · refine Ev.neg (by omega) ?_
      refine Ev.pos (by omega) ?_
      exact Ev.eq (Ev.now _) (by rw [venc_lt h, show (n : Int) % 256 = n by omega])
    · refine Ev.pos (by omega) ?_
      refine Ev.pos (by omega) ?_
      have e : IntKind.u64.wrap (128 + (n : Int) % 128) % 256 = ((128 + n % 128 : Nat) : Int) := by
        rw [wrap_u64_of _ (by omega) (by omega)]; omega
      have e2 : IntKind.u64.wrap ((n : Int) / 128) = ((n / 128 : Nat) : Int) := by rw [wrap_u64_of _ (by omega) (by omega)]; omega
      rw [e, e2]
      have := ih (n / 128) (acc ++ [((128 + n % 128 : Nat) : Int)]) hn2 (by omega) (by simp; omega)
      rw [venc_ge h]
      simpa using this
theorem renc_ev (n : Nat) (h : n < 18446744073709551616) : Ev (fun k => laminaref01_Encode.f k (n : Int)) (venc n) := by
  have hp : (128 : Nat) ^ (9 + 1) = 1180591620717411303424 := by decide
  have := renc_l0 9 n [] (by omega) h (by decide)
  unfold laminaref01_Encode.f
  simpa using this

theorem rzig_f (x : Int) (h0 : -9223372036854775808 ≤ x) (h1 : x < 9223372036854775808) : laminaref01_ZigZag.f x = some (zig x) := by
  unfold laminaref01_ZigZag.f zig
  by_cases h : 0 ≤ x
  · have e : IntKind.u64.wrap (2 * IntKind.u64.wrap x) = 2 * x := by rw [wrap_u64, wrap_u64]; omega
    rw [if_pos (by omega), if_pos h, e]
  · have e : IntKind.u64.wrap (IntKind.u64.wrap (2 * IntKind.u64.wrap (wrap64 (-wrap64 (x + 1)))) + 1) = -2 * x - 1 := by
      rw [w64 (x + 1) (by omega) (by omega), w64 _ (by omega) (by omega), wrap_u64, wrap_u64, wrap_u64]; omega
    rw [if_neg (by omega), if_neg h, e]

/-! ### laminaref08: least, low, high, With, Best, Encode, Size -/
theorem rleast_l0 (l : List Int) (hl : l.length ≤ 65536) : ∀ (d j : Nat), j + d = l.length → Ev (fun k => laminaref08_least.l0 k l (lmin (l.take j)) (j : Int)) (lmin l) := by
  intro d
  induction d with
  | zero =>
    intro j hj
    obtain rfl : j = l.length := by omega
    refine Ev.succ ?_
    simp only [laminaref08_least.l0]
    refine Ev.neg (by omega) ?_
    rw [List.take_length]
    exact Ev.now _
  | succ d ih =>
    intro j hj
    have hjl : j < l.length := by omega
    have hs := lmin_snoc (l.take j) (l.getD j 0)
    rw [← dtake_snoc l j hjl, List.length_take, Nat.min_eq_left (by omega)] at hs
    refine Ev.succ ?_
    simp only [laminaref08_least.l0, w64_add1 j (by omega), rd_nat]
    refine Ev.pos (by omega) ?_
    have hi := ih (j + 1) (by omega)
    by_cases h0 : j = 0
    · rw [if_pos h0] at hs
      refine Ev.pos (by omega) ?_
      refine Ev.pos (by omega) ?_
      rw [← hs]
      exact hi
    · rw [if_neg h0] at hs
      refine Ev.neg (by omega) ?_
      refine Ev.pos (by omega) ?_
      by_cases hc : l.getD j 0 < lmin (l.take j)
      · rw [if_pos hc] at hs
        refine Ev.pos hc ?_
        rw [← hs]
        exact hi
      · rw [if_neg hc] at hs
        refine Ev.neg hc ?_
        rw [← hs]
        exact hi
theorem rleast_ev (l : List Int) (hl : l.length ≤ 65536) : Ev (fun k => laminaref08_least.f k l) (lmin l) := rleast_l0 l hl l.length 0 (by omega)
theorem shl1u (w : Nat) (hw : w < 64) : shl .u64 1 (w : Int) = ((2 ^ w : Nat) : Int) := by
  have h : (2 : Nat) ^ w < 2 ^ 64 := Nat.pow_lt_pow_right (by decide) hw
  have e : min ((w : Int)).toNat 64 = w := by omega
  have h3 : ∀ p : Nat, p < 2 ^ 64 → IntKind.u64.wrap (p : Int) = (p : Int) := fun p hp => wraps_u64 _ (by omega) (by omega)
  unfold shl
  rw [show IntKind.u64.bits = 64 from rfl, e, Int.one_mul, ← pow_cast w, h3 _ h]
theorem rlow (d w : Nat) (hd : d < 18446744073709551616) (hw : w ≤ 64) : laminaref08_low.f (d : Int) (w : Int) = some ((d % 2 ^ w : Nat) : Int) := by
  unfold laminaref08_low.f
  by_cases h : w = 64
  · subst h
    rw [if_pos (by rfl), Nat.mod_eq_of_lt (by simpa using hd)]
  · have hp : (2 : Nat) ^ w < 2 ^ 64 := Nat.pow_lt_pow_right (by decide) (by omega)
    have hp1 : 0 < (2 : Nat) ^ w := Nat.two_pow_pos w
    obtain ⟨p, hpe⟩ : ∃ p : Nat, p = 2 ^ w := ⟨_, rfl⟩
    rw [← hpe] at hp hp1
    rw [if_neg (by omega), wraps_u64 (w : Int) (by omega) (by omega), if_pos (by omega), shl1u w (by omega), ← hpe, wraps_u64 ((p : Int) - 1) (by omega) (by omega), hpe]
    have hm := bits_mask .u64 64 (by decide) wraps_u64 w (by omega) (d : Int) (by omega) (by omega)
    rw [pow_cast w, hm, ← pow_cast w]
    congr 1
theorem rhigh (d w : Nat) (hd : d < 18446744073709551616) (hw : w ≤ 64) : laminaref08_high.f (d : Int) (w : Int) = some ((hi (d : Int) w : Nat) : Int) := by
  have h := fhigh d w hd hw
  unfold frameref_high.f at h
  unfold laminaref08_high.f
  by_cases h6 : w = 64
  · rw [if_pos (by omega)] at h ⊢; exact h
  · rw [if_neg (by omega)] at h ⊢; exact h
theorem packN_low (w : Nat) : ∀ l : List Int, (∀ x ∈ l, 0 ≤ x) → packN w (l.map fun x => ((x.toNat % 2 ^ w : Nat) : Int)) = packN w l := by
  intro l
  induction l with
  | nil => intro _; rfl
  | cons x l ih =>
    intro h
    simp only [List.map_cons, packN, Int.toNat_natCast, Nat.mod_mod]
    rw [ih (fun y hy => h y (List.mem_cons_of_mem _ hy))]
theorem rwith_l0 (l : List Int) (w : Nat) (hw : w ≤ 64) (hl : l.length ≤ 60000) (hI : ∀ x ∈ l, -9223372036854775808 ≤ x ∧ x < 9223372036854775808) : ∀ (d j : Nat), j + d = l.length →
    Ev (fun k => laminaref08_With.l0 k l (w : Int) (lmin l) (((exc w 0 ((fds l).take j)).length : Nat) : Int) (((fds l).take j).map fun x => ((x.toNat % 2 ^ w : Nat) : Int)) (pts (exc w 0 ((fds l).take j))) (j : Int)) (withW (zb l) (fds l) w) := by
  have hfr := fds_range l
  have hfl := fds_len l
  have hpl : ∀ j, (pts (exc w 0 ((fds l).take j))).length ≤ 1310720 := fun j => pts_exc_len w _ (by rw [List.length_take]; omega) (fun y hy => hfr y (List.mem_of_mem_take hy))
  have hel : ∀ j, (exc w 0 ((fds l).take j)).length ≤ 60000 := fun j => by
    have := exc_len w ((fds l).take j) 0
    rw [List.length_take] at this; omega
  intro d
  induction d with
  | zero =>
    intro j hj
    obtain rfl : j = l.length := by omega
    rw [List.take_of_length_le (by omega)]
    have hp := hpl l.length
    have he := hel l.length
    rw [List.take_of_length_le (by omega)] at hp he
    obtain ⟨_, _, l1⟩ := fsize (zb l) (zb_lt hI)
    obtain ⟨_, _, l2⟩ := fsize w (by omega)
    obtain ⟨_, _, l3⟩ := fsize (exc w 0 (fds l)).length (by omega)
    have hr := lmin_range hI
    have hz := zig_range (lmin l) hr.1 hr.2
    have hzb : laminaref01_ZigZag.f (lmin l) = some ((zb l : Nat) : Int) := by
      rw [rzig_f _ hr.1 hr.2]; unfold zb; rw [Int.toNat_of_nonneg (by omega)]
    have hml : ((fds l).map fun x => ((x.toNat % 2 ^ w : Nat) : Int)).length = (fds l).length := List.length_map _
    have hpk : laminaref06_Pack.f ((fds l).map fun x => ((x.toNat % 2 ^ w : Nat) : Int)) (w : Int) = some (packed (fds l) w) := by
      unfold laminaref06_Pack.f
      rw [pack_at _ w hw (by rw [hml]; omega) (fun y hy => by
        obtain ⟨x, hx, rfl⟩ := List.mem_map.1 hy
        have := hfr x hx
        have h2 := Nat.mod_le x.toNat (2 ^ w)
        omega)]
      unfold packed
      rw [hml, packN_low w _ (fun x hx => (hfr x hx).1)]
    have lpk : (packed (fds l) w).length ≤ 524289 := by rw [packed_len]; exact fpb_le _ _ (by omega) hw
    refine Ev.succ ?_
    simp only [laminaref08_With.l0]
    refine Ev.neg (by omega) ?_
    refine Ev.bind0 hzb ?_
    refine Ev.bind (renc_ev (zb l) (zb_lt hI)) ?_
    rw [wraps_u64 (w : Int) (by omega) (by omega), wraps_u64 ((exc w 0 (fds l)).length : Int) (by omega) (by omega)]
    refine Ev.bind (renc_ev w (by omega)) ?_
    refine Ev.pos (by omega) ?_
    refine Ev.bind0 rfl ?_
    refine Ev.bind (renc_ev (exc w 0 (fds l)).length (by omega)) ?_
    refine Ev.pos (by simp only [List.length_append]; omega) ?_
    refine Ev.bind0 rfl ?_
    refine Ev.bind0 hpk ?_
    refine Ev.pos (by simp only [List.length_append]; omega) ?_
    refine Ev.bind0 rfl ?_
    refine Ev.pos (by simp only [List.length_append]; omega) ?_
    refine Ev.eq (Ev.now _) ?_
    unfold withW
    simp only [List.append_assoc]
  | succ d ih =>
    intro j hj
    have hjl : j < l.length := by omega
    have hjf : j < (fds l).length := by omega
    have hx := getD_range hfr hjf
    obtain ⟨x, hxe⟩ : ∃ x : Nat, (fds l).getD j 0 = (x : Int) := ⟨((fds l).getD j 0).toNat, by omega⟩
    have hx64 : x < 18446744073709551616 := by omega
    have hv : IntKind.u64.wrap (IntKind.u64.wrap (l.getD j 0) - IntKind.u64.wrap (lmin l)) = (x : Int) := by
      rw [wsub, ← hxe]
      simp only [fds, List.getD_eq_getElem?_getD, List.getElem?_map, List.getElem?_eq_getElem hjl, Option.map_some, Option.getD_some]
    have hst := exc_step w (fds l) j hjf
    rw [hxe] at hst
    have hmap : ((fds l).take (j + 1)).map (fun x => ((x.toNat % 2 ^ w : Nat) : Int)) = ((fds l).take j).map (fun x => ((x.toNat % 2 ^ w : Nat) : Int)) ++ [((x % 2 ^ w : Nat) : Int)] := by
      rw [dtake_snoc _ j hjf, List.map_append, hxe]; simp
    have hi2 := ih (j + 1) (by omega)
    rw [hst, hmap] at hi2
    have hp := hpl j
    have he := hel j
    obtain ⟨h, hhe⟩ : ∃ h, h = hi (x : Int) w := ⟨_, rfl⟩
    have hh64 : h < 18446744073709551616 := by
      have : h ≤ x := by rw [hhe]; unfold hi; rw [Int.toNat_natCast]; exact Nat.div_le_self _ _
      omega
    rw [← hhe] at hi2
    refine Ev.succ ?_
    simp only [laminaref08_With.l0, w64_add1 j (by omega), rd_nat, hv]
    refine Ev.pos (by omega) ?_
    refine Ev.pos (by omega) ?_
    refine Ev.bind0 (rlow x w hx64 hw) ?_
    refine Ev.pos (by rw [List.length_map, List.length_take]; omega) ?_
    refine Ev.bind0 rfl ?_
    refine Ev.bind0 (by rw [rhigh x w hx64 hw, ← hhe]) ?_
    by_cases h0 : h = 0
    · rw [if_pos h0, List.append_nil] at hi2
      refine Ev.pos (by omega) ?_
      exact hi2
    · rw [if_neg h0, pts_app, List.length_append] at hi2
      obtain ⟨_, _, l1⟩ := fsize j (by omega)
      obtain ⟨_, _, l2⟩ := fsize h hh64
      refine Ev.neg (by omega) ?_
      rw [wraps_u64 (j : Int) (by omega) (by omega)]
      refine Ev.bind (renc_ev j (by omega)) ?_
      refine Ev.pos (by omega) ?_
      refine Ev.bind0 rfl ?_
      refine Ev.bind (renc_ev h hh64) ?_
      refine Ev.pos (by simp only [List.length_append]; omega) ?_
      rw [w64_add1 _ (by omega)]
      simpa [pts] using hi2
theorem rwith_ev (l : List Int) (w : Nat) (hw : w ≤ 64) (hl : l.length ≤ 60000) (hI : ∀ x ∈ l, -9223372036854775808 ≤ x ∧ x < 9223372036854775808) : Ev (fun k => laminaref08_With.f k l (w : Int)) (withW (zb l) (fds l) w) := by
  unfold laminaref08_With.f
  refine Ev.bind (rleast_ev l (by omega)) ?_
  have := rwith_l0 l w hw hl hI l.length 0 (by omega)
  simpa [exc, pts] using this

theorem awake_ev : Ev (fun k => laminalaw08_awake.f k) true := Ev.of laminalaw08_awake.mono (k := 60) (by decide +kernel)
theorem best_at (l : List Int) (hl : l.length ≤ 65536) (hI : ∀ x ∈ l, -9223372036854775808 ≤ x ∧ x < 9223372036854775808) : frameref_Best.f l = some (lmin l, ((fbest l : Nat) : Int)) := by
  unfold frameref_Best.f; rw [if_pos ⟨okI_of hI, hl⟩]
theorem size_at (l : List Int) (hl : l.length ≤ 65536) (hI : ∀ x ∈ l, -9223372036854775808 ≤ x ∧ x < 9223372036854775808) : frameref_Size.f l = some (((fenc l).length : Nat) : Int) := by
  unfold frameref_Size.f; rw [if_pos ⟨okI_of hI, hl⟩]
theorem short_j2 (l : List Int) (m : Int) (hl : l.length ≤ 300) (hm : -1099511627776 ≤ m ∧ m ≤ 1099511627776) : Ev (fun k => laminalaw08_FramerefShortest.j2 k l m (List.replicate l.length m) false) true := by
  have hrep : ∀ n, ∀ x ∈ List.replicate n m, -9223372036854775808 ≤ x ∧ x < 9223372036854775808 := fun n x hx => by
    have := List.eq_of_mem_replicate hx; omega
  refine Ev.succ ?_
  simp only [laminalaw08_FramerefShortest.j2]
  refine Ev.neg (by simp) ?_
  by_cases h0 : l.length = 0
  · refine Ev.pos (by omega) ?_
    exact Ev.bind awake_ev (Ev.now _)
  · refine Ev.neg (by omega) ?_
    refine Ev.bind0 (size_at _ (by rw [List.length_replicate]; omega) (hrep _)) ?_
    refine Ev.bind0 (size_at [m] (show 1 ≤ 65536 by decide) (hrep 1)) ?_
    obtain ⟨n, hn⟩ : ∃ n, l.length = n + 1 := ⟨l.length - 1, by omega⟩
    have e1 := fenc_replicate (n + 1) m
    have e2 := fenc_replicate 1 m
    have z1 : zb (List.replicate (n + 1) m) = zb (List.replicate 1 m) := by unfold zb; rw [lmin_replicate n m, lmin_replicate 0 m]
    have e3 : (fenc (List.replicate l.length m)).length = (fenc [m]).length := by
      rw [hn, e1, z1, ← e2]; rfl
    refine Ev.pos (by rw [e3]) ?_
    exact Ev.bind awake_ev (Ev.now _)
theorem short_l0 (l : List Int) (m wd : Int) (hl : l.length ≤ 300) (hI : ∀ x ∈ l, -9223372036854775808 ≤ x ∧ x < 9223372036854775808) (hm : -1099511627776 ≤ m ∧ m ≤ 1099511627776) (hw : 0 ≤ wd ∧ wd < 256) : ∀ (d j : Nat), j + d = l.length → (∀ x ∈ l.take j, -1099511627776 ≤ x ∧ x ≤ 1099511627776) →
    Ev (fun k => laminalaw08_FramerefShortest.l0 k l m wd ((l.take j).map (· + m)) (List.replicate j m) l (l.length : Int) (j : Int)) true := by
  intro d
  induction d with
  | zero =>
    intro j hj ht
    obtain rfl : j = l.length := by omega
    rw [List.take_length] at ht ⊢
    have hml : (l.map (· + m)).length = l.length := List.length_map _
    have hmI : ∀ x ∈ l.map (· + m), -9223372036854775808 ≤ x ∧ x < 9223372036854775808 := fun y hy => by
      obtain ⟨x, hx, rfl⟩ := List.mem_map.1 hy
      have := ht x hx
      omega
    refine Ev.succ ?_
    simp only [laminalaw08_FramerefShortest.l0]
    refine Ev.neg (by omega) ?_
    refine Ev.bind0 (best_at l (by omega) hI) ?_
    refine Ev.bind0 (best_at _ (by rw [hml]; omega) hmI) ?_
    refine Ev.pos (by rw [fbest_add]) ?_
    refine Ev.bind0 (size_at l (by omega) hI) ?_
    obtain ⟨v, rfl⟩ := Int.eq_ofNat_of_zero_le hw.1
    have em : wrap64 (Int.tmod (v : Int) 65) = ((v % 65 : Nat) : Int) := by
      rw [Int.tmod_eq_emod_of_nonneg (by omega), w64 _ (by omega) (by omega)]; omega
    rw [em]
    refine Ev.bind (rwith_ev l (v % 65) (by omega) (by omega) hI) ?_
    have hmin := argm_min (szW (zb l) (fds l)) 64 (v % 65) (by omega)
    have hmin2 : (fenc l).length ≤ (withW (zb l) (fds l) (v % 65)).length := hmin
    rw [decide_eq_false (by omega)]
    exact short_j2 l m hl hm
  | succ d ih =>
    intro j hj ht
    have hjl : j < l.length := by omega
    refine Ev.succ ?_
    simp only [laminalaw08_FramerefShortest.l0, rd_nat, w64_add1 j (by omega)]
    refine Ev.pos (by omega) ?_
    refine Ev.pos (by omega) ?_
    refine Ev.pos (by omega) ?_
    by_cases h1 : l.getD j 0 > 1099511627776
    · refine Ev.pos h1 ?_
      exact Ev.bind awake_ev (Ev.now _)
    refine Ev.neg h1 ?_
    by_cases h2 : l.getD j 0 < -1099511627776
    · refine Ev.pos h2 ?_
      exact Ev.bind awake_ev (Ev.now _)
    refine Ev.neg h2 ?_
    refine Ev.pos (by rw [List.length_map, List.length_take]; omega) ?_
    refine Ev.pos (by rw [List.length_replicate]; omega) ?_
    rw [w64 (l.getD j 0 + m) (by omega) (by omega)]
    have hi2 := ih (j + 1) (by omega) (fun x hx => by
      rw [dtake_snoc l j hjl] at hx
      rcases List.mem_append.1 hx with h | h
      · exact ht x h
      · obtain rfl := List.mem_singleton.1 h; omega)
    rw [dtake_snoc l j hjl, List.map_append, List.replicate_succ'] at hi2
    exact hi2
theorem FramerefShortest : laminalaw08_FramerefShortest.Pure := by
  intro l m wd _ _ hwf hm hw
  have hI : ∀ x ∈ l, -9223372036854775808 ≤ x ∧ x < 9223372036854775808 := fun x hx => wf_i64 (hwf x hx)
  have hw2 := wf_u8 hw
  refine Ev.rounds (g := fun k => laminalaw08_FramerefShortest.f k l m wd) ?_
  unfold laminalaw08_FramerefShortest.f
  have yes : Ev (fun k => laminalaw08_FramerefShortest.j0 k l m wd true) true := by
    refine Ev.succ ?_
    simp only [laminalaw08_FramerefShortest.j0]
    refine Ev.pos trivial ?_
    exact Ev.bind awake_ev (Ev.now _)
  by_cases h3 : (l.length : Int) > 300
  · exact Ev.pos h3 yes
  refine Ev.neg h3 ?_
  by_cases h4 : m > 1099511627776
  · exact Ev.pos h4 yes
  refine Ev.neg h4 ?_
  by_cases h5 : m < -1099511627776
  · rw [decide_eq_true h5]; exact yes
  rw [decide_eq_false h5]
  refine Ev.succ ?_
  simp only [laminalaw08_FramerefShortest.j0]
  refine Ev.neg (by simp) ?_
  exact short_l0 l m wd (by omega) hI (by omega) hw2 l.length 0 (by omega) (by simp)

end Go.Proofs.Ytllhbjkkoogeeaa.Pure
