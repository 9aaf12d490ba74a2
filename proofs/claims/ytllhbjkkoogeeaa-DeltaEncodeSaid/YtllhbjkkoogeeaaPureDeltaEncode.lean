/- laminalaw09.DeltaEncode returns true for all its arguments (differences, sums, encoded bytes and sizes equal the reference). Conditions: none beyond the row's own (slices of at most 2^47 - 4096 bytes). -/
import Derived.Test.YtllhbjkkoogeeaaQDeltaEncodex12
import Derived.Test.YtllhbjkkoogeeaaUM01
import Derived.Test.YtllhbjkkoogeeaaUM02
import Derived.Test.YtllhbjkkoogeeaaUM06
import Derived.Test.YtllhbjkkoogeeaaUM09
import Derived.Test.YtllhbjkkoogeeaaUM10
set_option linter.unusedVariables false
set_option linter.unusedSimpArgs false
namespace Go.Proofs.Ytllhbjkkoogeeaa.Pure
open Go Go.RowKit Go.Proofs.Ytllhbjkkoogeeaa.QDeltaEncode Go.Proofs.YtllhbjkkoogeeaaW.PrintWords Go.Proofs.YtllhbjkkoogeeaaW.PrintLast Go.Proofs.YtllhbjkkoogeeaaM

/-! ### frameref.Decode -/
theorem dropN {α : Type} {l r : List α} {i : Nat} {x : α} (h : l.drop i = x :: r) : i < l.length ∧ l.drop (i + 1) = r := by
  refine ⟨?_, by rw [← List.drop_drop, h]; rfl⟩
  rcases Nat.lt_or_ge i l.length with h1 | h1
  · exact h1
  · rw [List.drop_of_length_le h1] at h; cases h
theorem strs_inj : ∀ {x y : List Int}, (∀ v ∈ x, 0 ≤ v ∧ v < 256) → (∀ v ∈ y, 0 ≤ v ∧ v < 256) → (strOfNums x).toList = (strOfNums y).toList → x = y := by
  intro x y hx hy h
  rw [ByteArray.toList_eq, ByteArray.toList_eq, strOfNums_data, strOfNums_data] at h
  have key : ∀ (l : List Int), (∀ v ∈ l, 0 ≤ v ∧ v < 256) → (l.map fun n => UInt8.ofNat n.toNat).map (fun u => ((u.toNat : Nat) : Int)) = l := by
    intro l hl
    rw [List.map_map]
    conv => rhs; rw [← List.map_id l]
    apply List.map_congr_left
    intro v hv
    have := hl v hv
    simp only [Function.comp, id, UInt8.toNat_ofNat']
    omega
  rw [← key x hx, ← key y hy, h]
theorem strs_iff {x y : List Int} (hx : ∀ v ∈ x, 0 ≤ v ∧ v < 256) (hy : ∀ v ∈ y, 0 ≤ v ∧ v < 256) : (strOfNums x).toList = (strOfNums y).toList ↔ x = y :=
  ⟨strs_inj hx hy, fun h => by rw [h]⟩
theorem shlN (x w : Nat) (hw : w < 64) : shl .u64 (x : Int) (w : Int) = ((x * 2 ^ w % 18446744073709551616 : Nat) : Int) := by
  have e : min ((w : Int)).toNat 64 = w := by omega
  unfold shl
  rw [show IntKind.u64.bits = 64 from rfl, e, ← pow_cast w, wrap_u64]
  simp
def allB (n : Nat) (ps : List (Nat × Nat)) : Bool := ps.all fun p => decide (p.1 < n)
def psR (ps : List (Nat × Nat)) : Prop := ∀ p ∈ ps, p.1 < 18446744073709551616 ∧ p.2 < 18446744073709551616
theorem psR_snoc {ps : List (Nat × Nat)} (h : psR ps) {p : Nat × Nat} (h1 : p.1 < 18446744073709551616) (h2 : p.2 < 18446744073709551616) : psR (ps ++ [p]) := by
  intro q hq
  rcases List.mem_append.1 hq with hq | hq
  · exact h q hq
  · rw [List.mem_singleton.1 hq]; exact ⟨h1, h2⟩
theorem allB_snoc (n : Nat) (ps : List (Nat × Nat)) (p : Nat × Nat) : allB n (ps ++ [p]) = (allB n ps && decide (p.1 < n)) := by
  simp [allB]
theorem pat_range (w : Nat) : ∀ (ps : List (Nat × Nat)) (ds : List Int), (∀ x ∈ ds, 0 ≤ x ∧ x < 18446744073709551616) → ∀ x ∈ pat w ds ps, 0 ≤ x ∧ x < 18446744073709551616 := by
  intro ps
  induction ps with
  | nil => intro ds h; exact h
  | cons p ps ih =>
    intro ds h
    simp only [pat]
    refine ih _ ?_
    split
    · rename_i hc
      intro x hx
      rcases List.mem_or_eq_of_mem_set hx with hx | rfl
      · exact h x hx
      · have h1 := getD_range h hc.1
        have h2 : (ds.getD p.1 0).toNat ||| (p.2 * 2 ^ w % 18446744073709551616) < 2 ^ 64 := Nat.or_lt_two_pow (by omega) (by omega)
        omega
    · exact h
theorem or_pat (x y w : Nat) (hx : x < 18446744073709551616) (hw : w < 64) : Go.bits .or .u64 (x : Int) (shl .u64 (y : Int) (w : Int)) = ((x ||| (y * 2 ^ w % 18446744073709551616) : Nat) : Int) := by
  rw [shlN y w hw, or_nat x _ (by omega) (by omega)]
theorem set_fill (l : List Int) (i : Nat) (hi : i < l.length) (n : Nat) (hn : n = l.length) : (l.take i ++ List.replicate (n - i) (0 : Int)).set i (l.getD i 0) = l.take (i + 1) ++ List.replicate (n - (i + 1)) 0 := by
  subst hn
  rw [List.set_append_right _ _ (by simp; omega), List.length_take, Nat.min_eq_left (by omega), Nat.sub_self, show l.length - i = (l.length - (i + 1)) + 1 by omega, List.replicate_succ, List.set_cons_zero,
    List.getD_eq_getElem?_getD, List.getElem?_eq_getElem hi, Option.getD_some, List.take_succ_eq_append_getElem hi, List.append_assoc, List.singleton_append]
theorem i64_out (B d : Int) : wrap64 (IntKind.u64.wrap (IntKind.u64.wrap B + d)) = i64of (B + d) := by
  unfold wrap64 i64of
  rw [wrap_u64, wrap_u64]
  omega
theorem outs_len (z : Nat) (ds : List Int) : (outs z ds).length = ds.length := by simp [outs]
theorem outs_get (z : Nat) (ds : List Int) (i : Nat) (hi : i < ds.length) : (outs z ds).getD i 0 = i64of (unzig z + ds.getD i 0) := by
  unfold outs
  rw [List.getD_eq_getElem?_getD, List.getElem?_map, List.getD_eq_getElem?_getD, List.getElem?_eq_getElem hi]
  rfl
theorem venc_bytes_pts : ∀ (ps : List (Nat × Nat)), ∀ x ∈ pts ps, 0 ≤ x ∧ x < 256 := by
  intro ps
  induction ps with
  | nil => intro x hx; cases hx
  | cons p ps ih =>
    intro x hx
    simp only [pts, List.mem_append] at hx
    rcases hx with hx | hx | hx
    · exact venc_range _ x hx
    · exact venc_range _ x hx
    · exact ih x hx
theorem fenc_bytes (l : List Int) : ∀ x ∈ fenc l, 0 ≤ x ∧ x < 256 := by
  intro x hx
  unfold fenc withW at hx
  simp only [List.mem_append] at hx
  rcases hx with hx | hx | hx | hx | hx
  · exact venc_range _ x hx
  · exact venc_range _ x hx
  · exact venc_range _ x hx
  · exact fixed_range _ _ x hx
  · exact venc_bytes_pts _ x hx
theorem seg_bytes {b : List Int} (hb : ∀ x ∈ b, 0 ≤ x ∧ x < 256) (a n : Nat) : ∀ x ∈ seg b a n, 0 ≤ x ∧ x < 256 :=
  fun x hx => hb x (List.mem_of_mem_drop (List.mem_of_mem_take hx))
theorem seg_take (b : List Int) (a n : Nat) : (b.take (a + n)).drop a = seg b a n := by
  unfold seg; rw [List.drop_take, Nat.add_sub_cancel_left]
def fin2 (b : List Int) (o : Nat) (out : List Int) (at_ : Int) : List Int × Int × Int := if fenc out = seg b o (at_.toNat - o) then (out, at_, 0) else ([], 0, 4)
theorem fenc_some {l : List Int} (h : ∀ x ∈ l, -9223372036854775808 ≤ x ∧ x < 9223372036854775808) (hl : l.length ≤ 65536) : frameref_Encode.f l = some (fenc l) := by
  unfold frameref_Encode.f; rw [if_pos ⟨okI_of h, hl⟩]
theorem allB_iff {n : Nat} {ps : List (Nat × Nat)} : allB n ps = true ↔ ∀ p ∈ ps, p.1 < n := by simp [allB]

/-! ### the reference's Encode and Concat -/
theorem renc_l0 : ∀ (f n : Nat) (acc : List Int), n < 128 ^ (f + 1) → n < 18446744073709551616 → acc.length + f < 1000 → Ev (fun k => laminaref01_Encode.l0 k (n : Int) acc) (acc ++ venc n) := by
  intro f
  induction f with
  | zero =>
    intro n acc hn hn6 ha
    have h : n < 128 := by simpa using hn
    refine Ev.succ ?_
    simp only [laminaref01_Encode.l0]
    refine Ev.neg (by omega) ?_
    refine Ev.pos (by omega) ?_
    exact Ev.eq (Ev.now _) (by rw [venc_lt h, show (n : Int) % 256 = n by omega])
  | succ f ih =>
    intro n acc hn hn6 ha
    have hn2 : n / 128 < 128 ^ (f + 1) := by
      rw [Nat.div_lt_iff_lt_mul (by decide), ← Nat.pow_succ]; exact hn
    clear hn
    refine Ev.succ ?_
    simp only [laminaref01_Encode.l0, Int.tdiv_eq_ediv_of_nonneg (show (0 : Int) ≤ n by omega), Int.tmod_eq_emod_of_nonneg (show (0 : Int) ≤ n by omega)]
    by_cases h : n < 128
    · refine Ev.neg (by omega) ?_
      refine Ev.pos (by omega) ?_
      exact Ev.eq (Ev.now _) (by rw [venc_lt h, show (n : Int) % 256 = n by omega])
    · refine Ev.pos (by omega) ?_
      refine Ev.pos (by omega) ?_
      have e : IntKind.u64.wrap (128 + (n : Int) % 128) % 256 = ((128 + n % 128 : Nat) : Int) := by
        rw [wrap_u64_of _ (by omega) (by omega)]; omega
      have e2 : IntKind.u64.wrap ((n : Int) / 128) = ((n / 128 : Nat) : Int) := by rw [wrap_u64_of _ (by omega) (by omega)]; omega
      rw [e, e2]
      have := ih (n / 128) (acc ++ [((128 + n % 128 : Nat) : Int)]) hn2 (by omega) (by simp; omega)
      rw [venc_ge h]
      simpa using this
theorem renc_ev (n : Nat) (h : n < 18446744073709551616) : Ev (fun k => laminaref01_Encode.f k (n : Int)) (venc n) := by
  have hp : (128 : Nat) ^ (9 + 1) = 1180591620717411303424 := by decide
  have := renc_l0 9 n [] (by omega) h (by decide)
  unfold laminaref01_Encode.f
  simpa using this

theorem rzig_f (x : Int) (h0 : -9223372036854775808 ≤ x) (h1 : x < 9223372036854775808) : laminaref01_ZigZag.f x = some (zig x) := by
  unfold laminaref01_ZigZag.f zig
  by_cases h : 0 ≤ x
  · have e : IntKind.u64.wrap (2 * IntKind.u64.wrap x) = 2 * x := by rw [wrap_u64, wrap_u64]; omega
    rw [if_pos (by omega), if_pos h, e]
  · have e : IntKind.u64.wrap (IntKind.u64.wrap (2 * IntKind.u64.wrap (wrap64 (-wrap64 (x + 1)))) + 1) = -2 * x - 1 := by
      rw [w64 (x + 1) (by omega) (by omega), w64 _ (by omega) (by omega), wrap_u64, wrap_u64, wrap_u64]; omega
    rw [if_neg (by omega), if_neg h, e]

/-! ### laminaref08: least, low, high, With, Best, Encode, Size -/
theorem rleast_l0 (l : List Int) (hl : l.length ≤ 65536) : ∀ (d j : Nat), j + d = l.length → Ev (fun k => laminaref08_least.l0 k l (lmin (l.take j)) (j : Int)) (lmin l) := by
  intro d
  induction d with
  | zero =>
    intro j hj
    obtain rfl : j = l.length := by omega
    refine Ev.succ ?_
    simp only [laminaref08_least.l0]
    refine Ev.neg (by omega) ?_
    rw [List.take_length]
    exact Ev.now _
  | succ d ih =>
    intro j hj
    have hjl : j < l.length := by omega
    have hs := lmin_snoc (l.take j) (l.getD j 0)
    rw [← dtake_snoc l j hjl, List.length_take, Nat.min_eq_left (by omega)] at hs
    refine Ev.succ ?_
    simp only [laminaref08_least.l0, w64_add1 j (by omega), rd_nat]
    refine Ev.pos (by omega) ?_
    have hi := ih (j + 1) (by omega)
    by_cases h0 : j = 0
    · rw [if_pos h0] at hs
      refine Ev.pos (by omega) ?_
      refine Ev.pos (by omega) ?_
      rw [← hs]
      exact hi
    · rw [if_neg h0] at hs
      refine Ev.neg (by omega) ?_
      refine Ev.pos (by omega) ?_
      by_cases hc : l.getD j 0 < lmin (l.take j)
      · rw [if_pos hc] at hs
        refine Ev.pos hc ?_
        rw [← hs]
        exact hi
      · rw [if_neg hc] at hs
        refine Ev.neg hc ?_
        rw [← hs]
        exact hi
theorem rleast_ev (l : List Int) (hl : l.length ≤ 65536) : Ev (fun k => laminaref08_least.f k l) (lmin l) := rleast_l0 l hl l.length 0 (by omega)
theorem shl1u (w : Nat) (hw : w < 64) : shl .u64 1 (w : Int) = ((2 ^ w : Nat) : Int) := by
  have h : (2 : Nat) ^ w < 2 ^ 64 := Nat.pow_lt_pow_right (by decide) hw
  have e : min ((w : Int)).toNat 64 = w := by omega
  have h3 : ∀ p : Nat, p < 2 ^ 64 → IntKind.u64.wrap (p : Int) = (p : Int) := fun p hp => wraps_u64 _ (by omega) (by omega)
  unfold shl
  rw [show IntKind.u64.bits = 64 from rfl, e, Int.one_mul, ← pow_cast w, h3 _ h]
theorem rlow (d w : Nat) (hd : d < 18446744073709551616) (hw : w ≤ 64) : laminaref08_low.f (d : Int) (w : Int) = some ((d % 2 ^ w : Nat) : Int) := by
  unfold laminaref08_low.f
  by_cases h : w = 64
  · subst h
    rw [if_pos (by rfl), Nat.mod_eq_of_lt (by simpa using hd)]
  · have hp : (2 : Nat) ^ w < 2 ^ 64 := Nat.pow_lt_pow_right (by decide) (by omega)
    have hp1 : 0 < (2 : Nat) ^ w := Nat.two_pow_pos w
    obtain ⟨p, hpe⟩ : ∃ p : Nat, p = 2 ^ w := ⟨_, rfl⟩
    rw [← hpe] at hp hp1
    rw [if_neg (by omega), wraps_u64 (w : Int) (by omega) (by omega), if_pos (by omega), shl1u w (by omega), ← hpe, wraps_u64 ((p : Int) - 1) (by omega) (by omega), hpe]
    have hm := bits_mask .u64 64 (by decide) wraps_u64 w (by omega) (d : Int) (by omega) (by omega)
    rw [pow_cast w, hm, ← pow_cast w]
    congr 1
theorem rhigh (d w : Nat) (hd : d < 18446744073709551616) (hw : w ≤ 64) : laminaref08_high.f (d : Int) (w : Int) = some ((hi (d : Int) w : Nat) : Int) := by
  have h := fhigh d w hd hw
  unfold frameref_high.f at h
  unfold laminaref08_high.f
  by_cases h6 : w = 64
  · rw [if_pos (by omega)] at h ⊢; exact h
  · rw [if_neg (by omega)] at h ⊢; exact h
theorem packN_low (w : Nat) : ∀ l : List Int, (∀ x ∈ l, 0 ≤ x) → packN w (l.map fun x => ((x.toNat % 2 ^ w : Nat) : Int)) = packN w l := by
  intro l
  induction l with
  | nil => intro _; rfl
  | cons x l ih =>
    intro h
    simp only [List.map_cons, packN, Int.toNat_natCast, Nat.mod_mod]
    rw [ih (fun y hy => h y (List.mem_cons_of_mem _ hy))]
theorem rwith_l0 (l : List Int) (w : Nat) (hw : w ≤ 64) (hl : l.length ≤ 60000) (hI : ∀ x ∈ l, -9223372036854775808 ≤ x ∧ x < 9223372036854775808) : ∀ (d j : Nat), j + d = l.length →
    Ev (fun k => laminaref08_With.l0 k l (w : Int) (lmin l) (((exc w 0 ((fds l).take j)).length : Nat) : Int) (((fds l).take j).map fun x => ((x.toNat % 2 ^ w : Nat) : Int)) (pts (exc w 0 ((fds l).take j))) (j : Int)) (withW (zb l) (fds l) w) := by
  have hfr := fds_range l
  have hfl := fds_len l
  have hpl : ∀ j, (pts (exc w 0 ((fds l).take j))).length ≤ 1310720 := fun j => pts_exc_len w _ (by rw [List.length_take]; omega) (fun y hy => hfr y (List.mem_of_mem_take hy))
  have hel : ∀ j, (exc w 0 ((fds l).take j)).length ≤ 60000 := fun j => by
    have := exc_len w ((fds l).take j) 0
    rw [List.length_take] at this; omega
  intro d
  induction d with
  | zero =>
    intro j hj
    obtain rfl : j = l.length := by omega
    rw [List.take_of_length_le (by omega)]
    have hp := hpl l.length
    have he := hel l.length
    rw [List.take_of_length_le (by omega)] at hp he
    obtain ⟨_, _, l1⟩ := fsize (zb l) (zb_lt hI)
    obtain ⟨_, _, l2⟩ := fsize w (by omega)
    obtain ⟨_, _, l3⟩ := fsize (exc w 0 (fds l)).length (by omega)
    have hr := lmin_range hI
    have hz := zig_range (lmin l) hr.1 hr.2
    have hzb : laminaref01_ZigZag.f (lmin l) = some ((zb l : Nat) : Int) := by
      rw [rzig_f _ hr.1 hr.2]; unfold zb; rw [Int.toNat_of_nonneg (by omega)]
    have hml : ((fds l).map fun x => ((x.toNat % 2 ^ w : Nat) : Int)).length = (fds l).length := List.length_map _
    have hpk : laminaref06_Pack.f ((fds l).map fun x => ((x.toNat % 2 ^ w : Nat) : Int)) (w : Int) = some (packed (fds l) w) := by
      unfold laminaref06_Pack.f
      rw [pack_at _ w hw (by rw [hml]; omega) (fun y hy => by
        obtain ⟨x, hx, rfl⟩ := List.mem_map.1 hy
        have := hfr x hx
        have h2 := Nat.mod_le x.toNat (2 ^ w)
        omega)]
      unfold packed
      rw [hml, packN_low w _ (fun x hx => (hfr x hx).1)]
    have lpk : (packed (fds l) w).length ≤ 524289 := by rw [packed_len]; exact fpb_le _ _ (by omega) hw
    refine Ev.succ ?_
    simp only [laminaref08_With.l0]
    refine Ev.neg (by omega) ?_
    refine Ev.bind0 hzb ?_
    refine Ev.bind (renc_ev (zb l) (zb_lt hI)) ?_
    rw [wraps_u64 (w : Int) (by omega) (by omega), wraps_u64 ((exc w 0 (fds l)).length : Int) (by omega) (by omega)]
    refine Ev.bind (renc_ev w (by omega)) ?_
    refine Ev.pos (by omega) ?_
    refine Ev.bind0 rfl ?_
    refine Ev.bind (renc_ev (exc w 0 (fds l)).length (by omega)) ?_
    refine Ev.pos (by simp only [List.length_append]; omega) ?_
    refine Ev.bind0 rfl ?_
    refine Ev.bind0 hpk ?_
    refine Ev.pos (by simp only [List.length_append]; omega) ?_
    refine Ev.bind0 rfl ?_
    refine Ev.pos (by simp only [List.length_append]; omega) ?_
    refine Ev.eq (Ev.now _) ?_
    unfold withW
    simp only [List.append_assoc]
  | succ d ih =>
    intro j hj
    have hjl : j < l.length := by omega
    have hjf : j < (fds l).length := by omega
    have hx := getD_range hfr hjf
    obtain ⟨x, hxe⟩ : ∃ x : Nat, (fds l).getD j 0 = (x : Int) := ⟨((fds l).getD j 0).toNat, by omega⟩
    have hx64 : x < 18446744073709551616 := by omega
    have hv : IntKind.u64.wrap (IntKind.u64.wrap (l.getD j 0) - IntKind.u64.wrap (lmin l)) = (x : Int) := by
      rw [wsub, ← hxe]
      simp only [fds, List.getD_eq_getElem?_getD, List.getElem?_map, List.getElem?_eq_getElem hjl, Option.map_some, Option.getD_some]
    have hst := exc_step w (fds l) j hjf
    rw [hxe] at hst
    have hmap : ((fds l).take (j + 1)).map (fun x => ((x.toNat % 2 ^ w : Nat) : Int)) = ((fds l).take j).map (fun x => ((x.toNat % 2 ^ w : Nat) : Int)) ++ [((x % 2 ^ w : Nat) : Int)] := by
      rw [dtake_snoc _ j hjf, List.map_append, hxe]; simp
    have hi2 := ih (j + 1) (by omega)
    rw [hst, hmap] at hi2
    have hp := hpl j
    have he := hel j
    obtain ⟨h, hhe⟩ : ∃ h, h = hi (x : Int) w := ⟨_, rfl⟩
    have hh64 : h < 18446744073709551616 := by
      have : h ≤ x := by rw [hhe]; unfold hi; rw [Int.toNat_natCast]; exact Nat.div_le_self _ _
      omega
    rw [← hhe] at hi2
    refine Ev.succ ?_
    simp only [laminaref08_With.l0, w64_add1 j (by omega), rd_nat, hv]
    refine Ev.pos (by omega) ?_
    refine Ev.pos (by omega) ?_
    refine Ev.bind0 (rlow x w hx64 hw) ?_
    refine Ev.pos (by rw [List.length_map, List.length_take]; omega) ?_
    refine Ev.bind0 rfl ?_
    refine Ev.bind0 (by rw [rhigh x w hx64 hw, ← hhe]) ?_
    by_cases h0 : h = 0
    · rw [if_pos h0, List.append_nil] at hi2
      refine Ev.pos (by omega) ?_
      exact hi2
    · rw [if_neg h0, pts_app, List.length_append] at hi2
      obtain ⟨_, _, l1⟩ := fsize j (by omega)
      obtain ⟨_, _, l2⟩ := fsize h hh64
      refine Ev.neg (by omega) ?_
      rw [wraps_u64 (j : Int) (by omega) (by omega)]
      refine Ev.bind (renc_ev j (by omega)) ?_
      refine Ev.pos (by omega) ?_
      refine Ev.bind0 rfl ?_
      refine Ev.bind (renc_ev h hh64) ?_
      refine Ev.pos (by simp only [List.length_append]; omega) ?_
      rw [w64_add1 _ (by omega)]
      simpa [pts] using hi2
theorem rwith_ev (l : List Int) (w : Nat) (hw : w ≤ 64) (hl : l.length ≤ 60000) (hI : ∀ x ∈ l, -9223372036854775808 ≤ x ∧ x < 9223372036854775808) : Ev (fun k => laminaref08_With.f k l (w : Int)) (withW (zb l) (fds l) w) := by
  unfold laminaref08_With.f
  refine Ev.bind (rleast_ev l (by omega)) ?_
  have := rwith_l0 l w hw hl hI l.length 0 (by omega)
  simpa [exc, pts] using this

theorem rbest_l0 (l : List Int) (hl : l.length ≤ 60000) (hI : ∀ x ∈ l, -9223372036854775808 ≤ x ∧ x < 9223372036854775808) : ∀ (d j : Nat), j + d = 64 →
    Ev (fun k => laminaref08_Best.l0 k l ((argm (szW (zb l) (fds l)) j : Nat) : Int) ((szW (zb l) (fds l) (argm (szW (zb l) (fds l)) j) : Nat) : Int) ((j + 1 : Nat) : Int)) (lmin l, ((fbest l : Nat) : Int)) := by
  intro d
  induction d with
  | zero =>
    intro j hj
    obtain rfl : j = 64 := by omega
    refine Ev.succ ?_
    simp only [laminaref08_Best.l0]
    refine Ev.neg (by omega) ?_
    refine Ev.bind (rleast_ev l (by omega)) ?_
    exact Ev.now _
  | succ d ih =>
    intro j hj
    have hi2 := ih (j + 1) (by omega)
    refine Ev.succ ?_
    simp only [laminaref08_Best.l0, w64_add1 (j + 1) (by omega)]
    refine Ev.pos (by omega) ?_
    refine Ev.bind (rwith_ev l (j + 1) (by omega) hl hI) ?_
    have e : argm (szW (zb l) (fds l)) (j + 1) = if szW (zb l) (fds l) (j + 1) < szW (zb l) (fds l) (argm (szW (zb l) (fds l)) j) then j + 1 else argm (szW (zb l) (fds l)) j := rfl
    have es : (withW (zb l) (fds l) (j + 1)).length = szW (zb l) (fds l) (j + 1) := rfl
    rw [es]
    by_cases hc : szW (zb l) (fds l) (j + 1) < szW (zb l) (fds l) (argm (szW (zb l) (fds l)) j)
    · rw [if_pos hc] at e
      rw [e] at hi2
      refine Ev.pos (by omega) ?_
      exact hi2
    · rw [if_neg hc] at e
      rw [e] at hi2
      refine Ev.neg (by omega) ?_
      exact hi2
theorem rbest_ev (l : List Int) (hl : l.length ≤ 60000) (hI : ∀ x ∈ l, -9223372036854775808 ≤ x ∧ x < 9223372036854775808) : Ev (fun k => laminaref08_Best.f k l) (lmin l, ((fbest l : Nat) : Int)) := by
  unfold laminaref08_Best.f
  refine Ev.bind (rwith_ev l 0 (by omega) hl hI) ?_
  exact rbest_l0 l hl hI 64 0 rfl
theorem rfenc_ev (l : List Int) (hl : l.length ≤ 60000) (hI : ∀ x ∈ l, -9223372036854775808 ≤ x ∧ x < 9223372036854775808) : Ev (fun k => laminaref08_Encode.f k l) (fenc l) := by
  unfold laminaref08_Encode.f
  refine Ev.bind (rbest_ev l hl hI) ?_
  refine Ev.bind (rwith_ev l (fbest l) (fbest_le l) hl hI) ?_
  exact Ev.now _

/-! ### delta: the program's functions -/
theorem w64_i (x : Int) : wrap64 x = i64of x := by unfold wrap64 i64of; omega
theorem diffs_get : ∀ (l : List Int) (i : Nat), i + 1 < l.length → (diffs l).getD i 0 = i64of (l.getD (i + 1) 0 - l.getD i 0) := by
  intro l
  induction l with
  | nil => intro i h; simp at h
  | cons x r ih =>
    intro i h
    cases r with
    | nil => simp at h
    | cons y s =>
      cases i with
      | zero => simp [diffs]
      | succ i =>
        have := ih i (by simpa using h)
        simp only [diffs, List.getD_cons_succ] at this ⊢
        exact this
theorem idiffs_l0 (l : List Int) (hl : l.length ≤ 100000) (m : Nat) (hm : m + 1 = l.length) : ∀ (d i : Nat), i + d = m → Ev (fun k => delta_Differences.l0 k l ((diffs l).take i ++ List.replicate (m - i) 0) (m : Int) (i : Int)) (diffs l) := by
  have hd := diffs_len l
  intro d
  induction d with
  | zero =>
    intro i hi
    refine Ev.succ ?_
    simp only [delta_Differences.l0]
    refine Ev.neg (by omega) ?_
    refine Ev.eq (Ev.now _) ?_
    rw [show m - i = 0 by omega, List.replicate_zero, List.append_nil, List.take_of_length_le (by omega)]
  | succ d ih =>
    intro i hi
    refine Ev.succ ?_
    simp only [delta_Differences.l0]
    refine Ev.pos (by omega) ?_
    rw [w64_add1 i (by omega)]
    refine Ev.pos (by omega) ?_
    refine Ev.pos (by omega) ?_
    refine Ev.pos (by omega) ?_
    refine Ev.pos (by omega) ?_
    refine Ev.pos (by simp; omega) ?_
    rw [rd_nat, rd_nat, w64_i, ← diffs_get l i (by omega), Int.toNat_natCast, set_fill (diffs l) i (by omega) m (by omega)]
    exact ih (i + 1) (by omega)
theorem idiffs_ev (l : List Int) (hl : l.length ≤ 100000) : Ev (fun k => delta_Differences.f k l) (diffs l) := by
  unfold delta_Differences.f
  by_cases h : (l.length : Int) < 2
  · refine Ev.pos h ?_
    refine Ev.eq (Ev.now _) ?_
    match l, h with
    | [], _ => rfl
    | [_], _ => rfl
    | x :: y :: r, h => simp at h; omega
  · refine Ev.neg h ?_
    obtain ⟨m, hm⟩ : ∃ m : Nat, m + 1 = l.length := ⟨l.length - 1, by omega⟩
    rw [show (wrap64 ((l.length : Int) - 1)) = (m : Int) by rw [w64 _ (by omega) (by omega)]; omega]
    refine Ev.pos (by omega) ?_
    refine Ev.pos (by omega) ?_
    rw [Int.toNat_natCast]
    simp only [Option.bind_some, List.length_replicate]
    have := idiffs_l0 l hl m hm m 0 (by omega)
    rw [List.take_zero, List.nil_append, Nat.sub_zero] at this
    exact this
theorem I64_bd {x : Int} (h : I64 x) : -9223372036854775808 ≤ x ∧ x < 9223372036854775808 := h
theorem diffs_bd (l : List Int) : ∀ x ∈ diffs l, -9223372036854775808 ≤ x ∧ x < 9223372036854775808 := fun x hx => diffs_range l x hx
theorem ienc1 (a : Int) (x y : List Int) (hx : ∀ v ∈ x, -9223372036854775808 ≤ v ∧ v < 9223372036854775808) (hxl : x.length ≤ 1000) (hy : ∀ v ∈ y, -9223372036854775808 ≤ v ∧ v < 9223372036854775808) (hyl : y.length ≤ 65536) : delta_Encode_1.f a x y = some (a :: (lds x ++ fenc y)) := by
  unfold delta_Encode_1.f; rw [if_pos ⟨okI_of hx, hxl, okI_of hy, hyl⟩]
theorem take1 {l : List Int} (h : 0 < l.length) : l.take 1 = [rd l 0] := by
  cases l with
  | nil => simp at h
  | cons x r => simp [rd]
theorem idenc_ev (l : List Int) (hI : ∀ x ∈ l, -9223372036854775808 ≤ x ∧ x < 9223372036854775808) (hl : l.length ≤ 65536) : Ev (fun k => delta_Encode.f k l) (denc l) := by
  have hd := diffs_len l
  have hd2 := diffs_len (diffs l)
  unfold delta_Encode.f
  refine Ev.neg (by omega) ?_
  refine Ev.bind (idiffs_ev l (by omega)) ?_
  have e1 : l.take ((mn 1 (l.length : Int)) : Int).toNat = l.take 1 := by
    cases l with
    | nil => rfl
    | cons x r =>
      have : (mn 1 (((x :: r).length : Nat) : Int)).toNat = 1 := by simp only [mn, List.length_cons]; split <;> omega
      rw [this]
  have e0 : 0 ≤ mn 1 (l.length : Int) ∧ mn 1 (l.length : Int) ≤ (l.length : Int) := by unfold mn; split <;> omega
  refine Ev.pos e0.1 ?_
  refine Ev.pos e0.2 ?_
  rw [e1]
  have f1 : delta_Encode_1.f 1 (l.take 1) (diffs l) = some (form1 l) :=
    ienc1 1 (l.take 1) (diffs l) (fun v hv => hI v (List.mem_of_mem_take hv)) (by rw [List.length_take]; omega) (diffs_bd l) (by omega)
  refine Ev.bind0 f1 ?_
  unfold denc
  by_cases h : l.length < 2
  · rw [if_pos h]
    refine Ev.pos (by omega) ?_
    exact Ev.now _
  · rw [if_neg h]
    refine Ev.neg (by omega) ?_
    refine Ev.pos (by omega) ?_
    refine Ev.pos (by omega) ?_
    refine Ev.bind (idiffs_ev (diffs l) (by omega)) ?_
    have f2 : delta_Encode_1.f 2 [rd l 0, rd (diffs l) 0] (diffs (diffs l)) = some (form2 l) := by
      have t1 := take1 (l := l) (by omega)
      have t2 := take1 (l := diffs l) (by omega)
      have e2 : [rd l 0, rd (diffs l) 0] = l.take 1 ++ (diffs l).take 1 := by rw [t1, t2]; rfl
      rw [e2]
      refine ienc1 2 _ (diffs (diffs l)) (fun v hv => ?_) (by rw [List.length_append, List.length_take, List.length_take]; omega) (diffs_bd _) (by omega)
      rcases List.mem_append.1 hv with hv | hv
      · exact hI v (List.mem_of_mem_take hv)
      · exact diffs_bd l v (List.mem_of_mem_take hv)
    refine Ev.bind0 f2 ?_
    by_cases c : (form2 l).length < (form1 l).length
    · rw [if_pos c]
      refine Ev.pos (by omega) ?_
      exact Ev.now _
    · rw [if_neg c]
      refine Ev.neg (by omega) ?_
      exact Ev.now _
theorem lds_bytes : ∀ (l : List Int), ∀ x ∈ lds l, 0 ≤ x ∧ x < 256 := by
  intro l
  induction l with
  | nil => intro x hx; cases hx
  | cons y l ih =>
    intro x hx
    simp only [lds, List.mem_append] at hx
    rcases hx with hx | hx
    · exact venc_range _ x hx
    · exact ih x hx
theorem denc_bytes (l : List Int) : ∀ x ∈ denc l, 0 ≤ x ∧ x < 256 := by
  have h1 : ∀ x ∈ form1 l, 0 ≤ x ∧ x < 256 := by
    intro x hx
    simp only [form1, List.mem_cons, List.mem_append] at hx
    rcases hx with rfl | hx | hx
    · omega
    · exact lds_bytes _ x hx
    · exact fenc_bytes _ x hx
  have h2 : ∀ x ∈ form2 l, 0 ≤ x ∧ x < 256 := by
    intro x hx
    simp only [form2, List.mem_cons, List.mem_append] at hx
    rcases hx with rfl | hx | hx
    · omega
    · exact lds_bytes _ x hx
    · exact fenc_bytes _ x hx
  intro x hx
  unfold denc at hx
  split at hx
  · exact h1 x hx
  · split at hx
    · exact h2 x hx
    · exact h1 x hx
theorem ldsl : ∀ (a : List Int), (∀ x ∈ a, -9223372036854775808 ≤ x ∧ x < 9223372036854775808) → (lds a).length ≤ 10 * a.length := by
  intro a
  induction a with
  | nil => intro _; exact Nat.le_refl _
  | cons x a ih =>
    intro h
    have h1 := ih (fun y hy => h y (List.mem_cons_of_mem _ hy))
    have h2 := venc_len10 (zn x) (zn_lt (h x List.mem_cons_self))
    simp only [lds, List.length_append, List.length_cons]
    omega
theorem denc_len {l : List Int} (hI : ∀ x ∈ l, -9223372036854775808 ≤ x ∧ x < 9223372036854775808) (hl : l.length ≤ 65536) : (denc l).length ≤ 100 + 28 * l.length := by
  have hd := diffs_len l
  have hd2 := diffs_len (diffs l)
  have a1 := fenc_len (l := diffs l) (by omega) (diffs_bd l)
  have a2 := fenc_len (l := diffs (diffs l)) (by omega) (diffs_bd _)
  have b1 := ldsl (l.take 1) (fun v hv => hI v (List.mem_of_mem_take hv))
  have b2 := ldsl (l.take 1 ++ (diffs l).take 1) (fun v hv => by
    rcases List.mem_append.1 hv with hv | hv
    · exact hI v (List.mem_of_mem_take hv)
    · exact diffs_bd l v (List.mem_of_mem_take hv))
  rw [List.length_take] at b1
  rw [List.length_append, List.length_take, List.length_take] at b2
  unfold denc form1 form2
  split
  · simp only [List.length_cons, List.length_append]; omega
  · split <;> simp only [List.length_cons, List.length_append] <;> omega
/-! ### Equal -/
theorem deq_l0 (l : List Int) (hl : l.length < 9223372036854775807) : ∀ (d i : Nat), i + d = l.length → Ev (fun k => laminaref09_Equal.l0 k l l (i : Int)) true := by
  intro d
  induction d with
  | zero =>
    intro i h
    refine Ev.succ ?_
    simp only [laminaref09_Equal.l0]
    refine Ev.neg (by omega) ?_
    refine Ev.succ ?_
    simp only [laminaref09_Equal.j1]
    exact Ev.neg (by decide) (Ev.now _)
  | succ d ih =>
    intro i h
    refine Ev.succ ?_
    simp only [laminaref09_Equal.l0]
    refine Ev.pos (by omega) ?_
    rw [decide_eq_true (show (i : Int) < (l.length : Int) by omega)]
    refine Ev.succ ?_
    simp only [laminaref09_Equal.j1]
    refine Ev.pos (by simp) ?_
    refine Ev.pos (by omega) ?_
    refine Ev.pos (by omega) ?_
    refine Ev.pos (by omega) ?_
    refine Ev.pos (by simp) ?_
    rw [w64_add1 i (by omega)]
    exact ih (i + 1) (by omega)
theorem deq_ev (l : List Int) (hl : l.length < 9223372036854775807) : Ev (fun k => laminaref09_Equal.f k l l) true := by
  unfold laminaref09_Equal.f
  refine Ev.pos (by simp) ?_
  exact deq_l0 l hl l.length 0 (by omega)
theorem ips (a : Int) (l : List Int) (hl : l.length ≤ 1000000) : delta_PrefixSums.f a l = some (psums a l) := by
  unfold delta_PrefixSums.f; rw [if_pos (by omega)]

theorem take_snoc (l : List Int) (i : Nat) (hi : i < l.length) : l.take i ++ [l.getD i 0] = l.take (i + 1) := by
  rw [List.getD_eq_getElem?_getD, List.getElem?_eq_getElem hi, Option.getD_some, List.take_succ_eq_append_getElem hi]

/-! ### delta: the reference's functions -/
theorem getD_take (l : List Int) (i j : Nat) (h : i < j) : (l.take j).getD i 0 = l.getD i 0 := by
  rw [List.getD_eq_getElem?_getD, List.getD_eq_getElem?_getD, List.getElem?_take, if_pos h]
theorem rdiffs_l0 (l : List Int) (hl : l.length ≤ 100000) : ∀ (d j : Nat), j + d = l.length - 1 → Ev (fun k => laminaref09_Differences.l0 k l ((diffs l).take j) ((j + 1 : Nat) : Int)) (diffs l) := by
  have hd := diffs_len l
  intro d
  induction d with
  | zero =>
    intro j hj
    refine Ev.succ ?_
    simp only [laminaref09_Differences.l0]
    refine Ev.neg (by omega) ?_
    refine Ev.eq (Ev.now _) ?_
    rw [List.take_of_length_le (by omega)]
  | succ d ih =>
    intro j hj
    refine Ev.succ ?_
    simp only [laminaref09_Differences.l0]
    refine Ev.pos (by omega) ?_
    refine Ev.pos (by omega) ?_
    rw [show wrap64 (((j + 1 : Nat) : Int) - 1) = (j : Int) by rw [w64 _ (by omega) (by omega)]; omega]
    refine Ev.pos (by omega) ?_
    refine Ev.pos (by omega) ?_
    refine Ev.pos (by rw [List.length_take]; omega) ?_
    rw [rd_nat, rd_nat, w64_i, ← diffs_get l j (by omega), take_snoc _ j (by omega), w64_add1 (j + 1) (by omega)]
    exact ih (j + 1) (by omega)
theorem rdiffs_ev (l : List Int) (hl : l.length ≤ 100000) : Ev (fun k => laminaref09_Differences.f k l) (diffs l) := by
  have := rdiffs_l0 l hl (l.length - 1) 0 (by omega)
  rw [List.take_zero] at this
  exact this
theorem psums_get : ∀ (l : List Int) (f : Int) (i : Nat), i < l.length → (psums f l).getD (i + 1) 0 = i64of ((psums f l).getD i 0 + l.getD i 0) := by
  intro l
  induction l with
  | nil => intro f i h; simp at h
  | cons d r ih =>
    intro f i h
    cases i with
    | zero =>
      obtain ⟨q, hq⟩ := psums_cons (i64of (f + d)) r
      simp [psums, hq]
    | succ i =>
      have := ih (i64of (f + d)) i (by simpa using h)
      simp only [psums, List.getD_cons_succ] at this ⊢
      exact this
theorem rpsums_l0 (a : Int) (l : List Int) (hl : l.length ≤ 100000) : ∀ (d i : Nat), i + d = l.length → Ev (fun k => laminaref09_PrefixSums.l0 k l ((psums a l).take (i + 1)) (i : Int)) (psums a l) := by
  have hp := psums_len l a
  intro d
  induction d with
  | zero =>
    intro i hi
    refine Ev.succ ?_
    simp only [laminaref09_PrefixSums.l0]
    refine Ev.neg (by omega) ?_
    refine Ev.eq (Ev.now _) ?_
    rw [List.take_of_length_le (by omega)]
  | succ d ih =>
    intro i hi
    refine Ev.succ ?_
    simp only [laminaref09_PrefixSums.l0]
    refine Ev.pos (by omega) ?_
    refine Ev.pos (by omega) ?_
    refine Ev.pos (by rw [List.length_take]; omega) ?_
    refine Ev.pos (by rw [List.length_take]; omega) ?_
    rw [rd_nat, rd_nat, getD_take _ i (i + 1) (by omega), w64_i, ← psums_get l a i (by omega), take_snoc _ (i + 1) (by omega), w64_add1 i (by omega)]
    exact ih (i + 1) (by omega)
theorem rpsums_ev (a : Int) (l : List Int) (hl : l.length ≤ 100000) : Ev (fun k => laminaref09_PrefixSums.f k a l) (psums a l) := by
  have := rpsums_l0 a l hl l.length 0 (by omega)
  obtain ⟨q, hq⟩ := psums_cons a l
  have e : (psums a l).take (0 + 1) = [a] := by rw [hq]; rfl
  rw [e] at this
  exact this

/-! ### the reference's Encode -/
theorem rform_end (K : Int) (acc rest : List Int) (i : Int) (h : K ≤ i ∨ rest = []) (ha : acc.length ≤ 100) (hl : rest.length ≤ 60000) (hI : ∀ x ∈ rest, -9223372036854775808 ≤ x ∧ x < 9223372036854775808) :
    Ev (fun k => laminaref09_form.l0 k K acc rest i) (acc ++ fenc rest) := by
  have hf := fenc_len (l := rest) (by omega) hI
  have key : Ev (fun k => laminaref09_form.j1 k K acc rest i false) (acc ++ fenc rest) := by
    refine Ev.succ ?_
    simp only [laminaref09_form.j1]
    refine Ev.neg (by decide) ?_
    refine Ev.bind (rfenc_ev rest hl hI) ?_
    refine Ev.pos (by omega) ?_
    exact Ev.now _
  refine Ev.succ ?_
  simp only [laminaref09_form.l0]
  by_cases c : i < K
  · refine Ev.pos c ?_
    have hr : rest = [] := h.resolve_left (by omega)
    rw [decide_eq_false (by rw [hr]; simp)]
    exact key
  · refine Ev.neg c ?_
    exact key
theorem rform_step (K : Int) (acc : List Int) (x : Int) (r : List Int) (i : Nat) (h : (i : Int) < K) (hi : i ≤ 10) (ha : acc.length ≤ 80) (hl : r.length ≤ 60000) (hx : -9223372036854775808 ≤ x ∧ x < 9223372036854775808) (R : List Int)
    (hR : Ev (fun k => laminaref09_form.l0 k K (acc ++ venc (zn x)) (diffs (x :: r)) ((i + 1 : Nat) : Int)) R) : Ev (fun k => laminaref09_form.l0 k K acc (x :: r) (i : Int)) R := by
  have hv := venc_len10 (zn x) (zn_lt hx)
  have hz := zig_range x hx.1 hx.2
  refine Ev.succ ?_
  simp only [laminaref09_form.l0]
  refine Ev.pos h ?_
  have hpos : (0 : Int) < (((x :: r).length : Nat) : Int) := by rw [List.length_cons]; omega
  rw [decide_eq_true (show (((x :: r).length : Nat) : Int) > 0 from hpos)]
  refine Ev.succ ?_
  simp only [laminaref09_form.j1]
  refine Ev.pos (by simp) ?_
  refine Ev.pos hpos ?_
  have e0 : rd (x :: r) 0 = x := by simp [rd]
  rw [e0]
  refine Ev.bind0 (rzig_f x hx.1 hx.2) ?_
  have e1 := renc_ev (zn x) (zn_lt hx)
  unfold zn at e1
  rw [Int.toNat_of_nonneg hz.1] at e1
  refine Ev.bind e1 ?_
  have hv2 : (venc (zig x).toNat).length ≤ 10 := hv
  refine Ev.pos (by omega) ?_
  refine Ev.bind (rdiffs_ev (x :: r) (by simp only [List.length_cons]; omega)) ?_
  rw [w64_add1 i (by omega)]
  exact hR
theorem rform1 (l : List Int) (hI : ∀ x ∈ l, -9223372036854775808 ≤ x ∧ x < 9223372036854775808) (hl : l.length ≤ 60000) : Ev (fun k => laminaref09_form.f k l 1) (form1 l) := by
  unfold laminaref09_form.f form1
  cases l with
  | nil => exact rform_end 1 [1] [] 0 (.inr rfl) (by simp) (by simp) (fun x hx => by cases hx)
  | cons x r =>
    have hd := diffs_len (x :: r)
    have hx := hI x List.mem_cons_self
    have hv := venc_len10 (zn x) (zn_lt hx)
    simp only [List.length_cons] at hl hd
    refine rform_step 1 [1] x r 0 (by decide) (by decide) (by simp) (by omega) hx _ ?_
    have g := rform_end 1 ([1] ++ venc (zn x)) (diffs (x :: r)) ((0 + 1 : Nat) : Int) (.inl (by decide)) (by simp; omega) (by omega) (diffs_bd _)
    refine Ev.eq g ?_
    simp [lds]
theorem rform2 (l : List Int) (hI : ∀ x ∈ l, -9223372036854775808 ≤ x ∧ x < 9223372036854775808) (hl : l.length ≤ 60000) (h2 : 2 ≤ l.length) : Ev (fun k => laminaref09_form.f k l 2) (form2 l) := by
  unfold laminaref09_form.f form2
  cases l with
  | nil => simp at h2
  | cons x r =>
    have hd := diffs_len (x :: r)
    have hd2 := diffs_len (diffs (x :: r))
    have hx := hI x List.mem_cons_self
    have hv := venc_len10 (zn x) (zn_lt hx)
    simp only [List.length_cons] at hl hd h2
    refine rform_step 2 [2] x r 0 (by decide) (by decide) (by simp) (by omega) hx _ ?_
    obtain ⟨ds, hds⟩ : ∃ ds, ds = diffs (x :: r) := ⟨_, rfl⟩
    have hdb := diffs_bd (x :: r)
    rw [← hds] at hd hd2 hdb ⊢
    cases ds with
    | nil => simp at hd; omega
    | cons y s =>
      have hy := hdb y List.mem_cons_self
      have hw := venc_len10 (zn y) (zn_lt hy)
      simp only [List.length_cons] at hd hd2
      refine rform_step 2 ([2] ++ venc (zn x)) y s 1 (by decide) (by decide) (by simp; omega) (by omega) hy _ ?_
      have g := rform_end 2 ([2] ++ venc (zn x) ++ venc (zn y)) (diffs (y :: s)) ((1 + 1 : Nat) : Int) (.inl (by decide)) (by simp; omega) (by omega) (diffs_bd _)
      refine Ev.eq g ?_
      simp [lds]
theorem rdenc_ev (l : List Int) (hI : ∀ x ∈ l, -9223372036854775808 ≤ x ∧ x < 9223372036854775808) (hl : l.length ≤ 60000) : Ev (fun k => laminaref09_Encode.f k l) (denc l) := by
  unfold laminaref09_Encode.f denc
  refine Ev.neg (by omega) ?_
  refine Ev.bind (rform1 l hI hl) ?_
  by_cases h : l.length < 2
  · rw [if_pos h]
    refine Ev.pos (by omega) ?_
    exact Ev.now _
  · rw [if_neg h]
    refine Ev.neg (by omega) ?_
    refine Ev.bind (rform2 l hI hl (by omega)) ?_
    by_cases c : (form2 l).length < (form1 l).length
    · rw [if_pos c]
      refine Ev.pos (by omega) ?_
      exact Ev.now _
    · rw [if_neg c]
      refine Ev.neg (by omega) ?_
      exact Ev.now _

theorem lives_ev : Ev (fun k => laminalaw09_lives.f k) true := Ev.of laminalaw09_lives.mono (k := 100) (by decide +kernel)

theorem DeltaEncode : laminalaw09_DeltaEncode.Pure := by
  intro l a _ _ hwl _
  have hI : ∀ v ∈ l, -9223372036854775808 ≤ v ∧ v < 9223372036854775808 := fun v hv => wf_i64 (hwl v hv)
  have lv : Ev (fun k => (laminalaw09_lives.f k).bind fun t => some t) true := Ev.bind lives_ev (Ev.now _)
  refine Ev.rounds (g := fun k => laminalaw09_DeltaEncode.f k l a) ?_
  unfold laminalaw09_DeltaEncode.f
  by_cases h1 : (l.length : Int) > 300
  · refine Ev.pos h1 ?_; exact lv
  refine Ev.neg h1 ?_
  have hd := diffs_len l
  have hp := psums_len l a
  refine Ev.bind (idiffs_ev l (by omega)) ?_
  refine Ev.bind (rdiffs_ev l (by omega)) ?_
  refine Ev.bind (deq_ev _ (by omega)) ?_
  refine Ev.pos rfl ?_
  refine Ev.bind0 (ips a l (by omega)) ?_
  refine Ev.bind (rpsums_ev a l (by omega)) ?_
  refine Ev.bind (deq_ev _ (by omega)) ?_
  refine Ev.pos rfl ?_
  refine Ev.bind (idenc_ev l hI (by omega)) ?_
  refine Ev.bind (rdenc_ev l hI (by omega)) ?_
  refine Ev.pos rfl ?_
  refine Ev.bind (a := ((denc l).length : Int)) ?_ ?_
  · unfold delta_Size.f
    exact Ev.bind (idenc_ev l hI (by omega)) (Ev.now _)
  refine Ev.bind (a := ((denc l).length : Int)) ?_ ?_
  · unfold laminaref09_Size.f
    exact Ev.bind (rdenc_ev l hI (by omega)) (Ev.now _)
  refine Ev.pos rfl ?_
  exact lv

end Go.Proofs.Ytllhbjkkoogeeaa.Pure
