/- laminalaw09.DeltaInverse returns true for all its arguments (PrefixSums inverts Differences). Conditions: none beyond the row's own (slices of at most 2^47 - 4096 bytes). -/
import Derived.Test.YtllhbjkkoogeeaaQDeltaInversex9
import Derived.Test.YtllhbjkkoogeeaaM01
import Derived.Test.YtllhbjkkoogeeaaM02
import Derived.Test.YtllhbjkkoogeeaaM06
import Derived.Test.YtllhbjkkoogeeaaM09
import Derived.Test.YtllhbjkkoogeeaaM10
set_option linter.unusedVariables false
set_option linter.unusedSimpArgs false
namespace Go.Proofs.Ytllhbjkkoogeeaa.Pure
open Go Go.RowKit Go.Proofs.Ytllhbjkkoogeeaa.QDeltaInverse Go.Proofs.YtllhbjkkoogeeaaW.PrintWords Go.Proofs.YtllhbjkkoogeeaaW.PrintLast Go.Proofs.YtllhbjkkoogeeaaM

/-! ### frameref.Decode -/
theorem dropN {α : Type} {l r : List α} {i : Nat} {x : α} (h : l.drop i = x :: r) : i < l.length ∧ l.drop (i + 1) = r := by
  refine ⟨?_, by rw [← List.drop_drop, h]; rfl⟩
  rcases Nat.lt_or_ge i l.length with h1 | h1
  · exact h1
  · rw [List.drop_of_length_le h1] at h; cases h
theorem strs_inj : ∀ {x y : List Int}, (∀ v ∈ x, 0 ≤ v ∧ v < 256) → (∀ v ∈ y, 0 ≤ v ∧ v < 256) → (strOfNums x).toList = (strOfNums y).toList → x = y := by
  intro x y hx hy h
  rw [ByteArray.toList_eq, ByteArray.toList_eq, strOfNums_data, strOfNums_data] at h
  have key : ∀ (l : List Int), (∀ v ∈ l, 0 ≤ v ∧ v < 256) → (l.map fun n => UInt8.ofNat n.toNat).map (fun u => ((u.toNat : Nat) : Int)) = l := by
    intro l hl
    rw [List.map_map]
    conv => rhs; rw [← List.map_id l]
    apply List.map_congr_left
    intro v hv
    have := hl v hv
    simp only [Function.comp, id, UInt8.toNat_ofNat']
    omega
  rw [← key x hx, ← key y hy, h]
theorem strs_iff {x y : List Int} (hx : ∀ v ∈ x, 0 ≤ v ∧ v < 256) (hy : ∀ v ∈ y, 0 ≤ v ∧ v < 256) : (strOfNums x).toList = (strOfNums y).toList ↔ x = y :=
  ⟨strs_inj hx hy, fun h => by rw [h]⟩
theorem shlN (x w : Nat) (hw : w < 64) : shl .u64 (x : Int) (w : Int) = ((x * 2 ^ w % 18446744073709551616 : Nat) : Int) := by
  have e : min ((w : Int)).toNat 64 = w := by omega
  unfold shl
  rw [show IntKind.u64.bits = 64 from rfl, e, ← pow_cast w, wrap_u64]
  simp
def allB (n : Nat) (ps : List (Nat × Nat)) : Bool := ps.all fun p => decide (p.1 < n)
def psR (ps : List (Nat × Nat)) : Prop := ∀ p ∈ ps, p.1 < 18446744073709551616 ∧ p.2 < 18446744073709551616
theorem psR_snoc {ps : List (Nat × Nat)} (h : psR ps) {p : Nat × Nat} (h1 : p.1 < 18446744073709551616) (h2 : p.2 < 18446744073709551616) : psR (ps ++ [p]) := by
  intro q hq
  rcases List.mem_append.1 hq with hq | hq
  · exact h q hq
  · rw [List.mem_singleton.1 hq]; exact ⟨h1, h2⟩
theorem allB_snoc (n : Nat) (ps : List (Nat × Nat)) (p : Nat × Nat) : allB n (ps ++ [p]) = (allB n ps && decide (p.1 < n)) := by
  simp [allB]
theorem pat_range (w : Nat) : ∀ (ps : List (Nat × Nat)) (ds : List Int), (∀ x ∈ ds, 0 ≤ x ∧ x < 18446744073709551616) → ∀ x ∈ pat w ds ps, 0 ≤ x ∧ x < 18446744073709551616 := by
  intro ps
  induction ps with
  | nil => intro ds h; exact h
  | cons p ps ih =>
    intro ds h
    simp only [pat]
    refine ih _ ?_
    split
    · rename_i hc
      intro x hx
      rcases List.mem_or_eq_of_mem_set hx with hx | rfl
      · exact h x hx
      · have h1 := getD_range h hc.1
        have h2 : (ds.getD p.1 0).toNat ||| (p.2 * 2 ^ w % 18446744073709551616) < 2 ^ 64 := Nat.or_lt_two_pow (by omega) (by omega)
        omega
    · exact h
theorem or_pat (x y w : Nat) (hx : x < 18446744073709551616) (hw : w < 64) : Go.bits .or .u64 (x : Int) (shl .u64 (y : Int) (w : Int)) = ((x ||| (y * 2 ^ w % 18446744073709551616) : Nat) : Int) := by
  rw [shlN y w hw, or_nat x _ (by omega) (by omega)]
theorem set_fill (l : List Int) (i : Nat) (hi : i < l.length) (n : Nat) (hn : n = l.length) : (l.take i ++ List.replicate (n - i) (0 : Int)).set i (l.getD i 0) = l.take (i + 1) ++ List.replicate (n - (i + 1)) 0 := by
  subst hn
  rw [List.set_append_right _ _ (by simp; omega), List.length_take, Nat.min_eq_left (by omega), Nat.sub_self, show l.length - i = (l.length - (i + 1)) + 1 by omega, List.replicate_succ, List.set_cons_zero,
    List.getD_eq_getElem?_getD, List.getElem?_eq_getElem hi, Option.getD_some, List.take_succ_eq_append_getElem hi, List.append_assoc, List.singleton_append]
theorem i64_out (B d : Int) : wrap64 (IntKind.u64.wrap (IntKind.u64.wrap B + d)) = i64of (B + d) := by
  unfold wrap64 i64of
  rw [wrap_u64, wrap_u64]
  omega
theorem outs_len (z : Nat) (ds : List Int) : (outs z ds).length = ds.length := by simp [outs]
theorem outs_get (z : Nat) (ds : List Int) (i : Nat) (hi : i < ds.length) : (outs z ds).getD i 0 = i64of (unzig z + ds.getD i 0) := by
  unfold outs
  rw [List.getD_eq_getElem?_getD, List.getElem?_map, List.getD_eq_getElem?_getD, List.getElem?_eq_getElem hi]
  rfl
theorem venc_bytes_pts : ∀ (ps : List (Nat × Nat)), ∀ x ∈ pts ps, 0 ≤ x ∧ x < 256 := by
  intro ps
  induction ps with
  | nil => intro x hx; cases hx
  | cons p ps ih =>
    intro x hx
    simp only [pts, List.mem_append] at hx
    rcases hx with hx | hx | hx
    · exact venc_range _ x hx
    · exact venc_range _ x hx
    · exact ih x hx
theorem fenc_bytes (l : List Int) : ∀ x ∈ fenc l, 0 ≤ x ∧ x < 256 := by
  intro x hx
  unfold fenc withW at hx
  simp only [List.mem_append] at hx
  rcases hx with hx | hx | hx | hx | hx
  · exact venc_range _ x hx
  · exact venc_range _ x hx
  · exact venc_range _ x hx
  · exact fixed_range _ _ x hx
  · exact venc_bytes_pts _ x hx
theorem seg_bytes {b : List Int} (hb : ∀ x ∈ b, 0 ≤ x ∧ x < 256) (a n : Nat) : ∀ x ∈ seg b a n, 0 ≤ x ∧ x < 256 :=
  fun x hx => hb x (List.mem_of_mem_drop (List.mem_of_mem_take hx))
theorem seg_take (b : List Int) (a n : Nat) : (b.take (a + n)).drop a = seg b a n := by
  unfold seg; rw [List.drop_take, Nat.add_sub_cancel_left]
def fin2 (b : List Int) (o : Nat) (out : List Int) (at_ : Int) : List Int × Int × Int := if fenc out = seg b o (at_.toNat - o) then (out, at_, 0) else ([], 0, 4)
theorem fenc_some {l : List Int} (h : ∀ x ∈ l, -9223372036854775808 ≤ x ∧ x < 9223372036854775808) (hl : l.length ≤ 65536) : frameref_Encode.f l = some (fenc l) := by
  unfold frameref_Encode.f; rw [if_pos ⟨okI_of h, hl⟩]
theorem allB_iff {n : Nat} {ps : List (Nat × Nat)} : allB n ps = true ↔ ∀ p ∈ ps, p.1 < n := by simp [allB]

/-! ### delta: the program's functions -/
theorem w64_i (x : Int) : wrap64 x = i64of x := by unfold wrap64 i64of; omega
theorem diffs_get : ∀ (l : List Int) (i : Nat), i + 1 < l.length → (diffs l).getD i 0 = i64of (l.getD (i + 1) 0 - l.getD i 0) := by
  intro l
  induction l with
  | nil => intro i h; simp at h
  | cons x r ih =>
    intro i h
    cases r with
    | nil => simp at h
    | cons y s =>
      cases i with
      | zero => simp [diffs]
      | succ i =>
        have := ih i (by simpa using h)
        simp only [diffs, List.getD_cons_succ] at this ⊢
        exact this
theorem idiffs_l0 (l : List Int) (hl : l.length ≤ 100000) (m : Nat) (hm : m + 1 = l.length) : ∀ (d i : Nat), i + d = m → Ev (fun k => delta_Differences.l0 k l ((diffs l).take i ++ List.replicate (m - i) 0) (m : Int) (i : Int)) (diffs l) := by
  have hd := diffs_len l
  intro d
  induction d with
  | zero =>
    intro i hi
    refine Ev.succ ?_
    simp only [delta_Differences.l0]
    refine Ev.neg (by omega) ?_
    refine Ev.eq (Ev.now _) ?_
    rw [show m - i = 0 by omega, List.replicate_zero, List.append_nil, List.take_of_length_le (by omega)]
  | succ d ih =>
    intro i hi
    refine Ev.succ ?_
    simp only [delta_Differences.l0]
    refine Ev.pos (by omega) ?_
    rw [w64_add1 i (by omega)]
    refine Ev.pos (by omega) ?_
    refine Ev.pos (by omega) ?_
    refine Ev.pos (by omega) ?_
    refine Ev.pos (by omega) ?_
    refine Ev.pos (by simp; omega) ?_
    rw [rd_nat, rd_nat, w64_i, ← diffs_get l i (by omega), Int.toNat_natCast, set_fill (diffs l) i (by omega) m (by omega)]
    exact ih (i + 1) (by omega)
theorem idiffs_ev (l : List Int) (hl : l.length ≤ 100000) : Ev (fun k => delta_Differences.f k l) (diffs l) := by
  unfold delta_Differences.f
  by_cases h : (l.length : Int) < 2
  · refine Ev.pos h ?_
    refine Ev.eq (Ev.now _) ?_
    match l, h with
    | [], _ => rfl
    | [_], _ => rfl
    | x :: y :: r, h => simp at h; omega
  · refine Ev.neg h ?_
    obtain ⟨m, hm⟩ : ∃ m : Nat, m + 1 = l.length := ⟨l.length - 1, by omega⟩
    rw [show (wrap64 ((l.length : Int) - 1)) = (m : Int) by rw [w64 _ (by omega) (by omega)]; omega]
    refine Ev.pos (by omega) ?_
    refine Ev.pos (by omega) ?_
    rw [Int.toNat_natCast]
    simp only [Option.bind_some, List.length_replicate]
    have := idiffs_l0 l hl m hm m 0 (by omega)
    rw [List.take_zero, List.nil_append, Nat.sub_zero] at this
    exact this
theorem I64_bd {x : Int} (h : I64 x) : -9223372036854775808 ≤ x ∧ x < 9223372036854775808 := h
theorem diffs_bd (l : List Int) : ∀ x ∈ diffs l, -9223372036854775808 ≤ x ∧ x < 9223372036854775808 := fun x hx => diffs_range l x hx
theorem ienc1 (a : Int) (x y : List Int) (hx : ∀ v ∈ x, -9223372036854775808 ≤ v ∧ v < 9223372036854775808) (hxl : x.length ≤ 1000) (hy : ∀ v ∈ y, -9223372036854775808 ≤ v ∧ v < 9223372036854775808) (hyl : y.length ≤ 65536) : delta_Encode_1.f a x y = some (a :: (lds x ++ fenc y)) := by
  unfold delta_Encode_1.f; rw [if_pos ⟨okI_of hx, hxl, okI_of hy, hyl⟩]
theorem take1 {l : List Int} (h : 0 < l.length) : l.take 1 = [rd l 0] := by
  cases l with
  | nil => simp at h
  | cons x r => simp [rd]
theorem idenc_ev (l : List Int) (hI : ∀ x ∈ l, -9223372036854775808 ≤ x ∧ x < 9223372036854775808) (hl : l.length ≤ 65536) : Ev (fun k => delta_Encode.f k l) (denc l) := by
  have hd := diffs_len l
  have hd2 := diffs_len (diffs l)
  unfold delta_Encode.f
  refine Ev.neg (by omega) ?_
  refine Ev.bind (idiffs_ev l (by omega)) ?_
  have e1 : l.take ((mn 1 (l.length : Int)) : Int).toNat = l.take 1 := by
    cases l with
    | nil => rfl
    | cons x r =>
      have : (mn 1 (((x :: r).length : Nat) : Int)).toNat = 1 := by simp only [mn, List.length_cons]; split <;> omega
      rw [this]
  have e0 : 0 ≤ mn 1 (l.length : Int) ∧ mn 1 (l.length : Int) ≤ (l.length : Int) := by unfold mn; split <;> omega
  refine Ev.pos e0.1 ?_
  refine Ev.pos e0.2 ?_
  rw [e1]
  have f1 : delta_Encode_1.f 1 (l.take 1) (diffs l) = some (form1 l) :=
    ienc1 1 (l.take 1) (diffs l) (fun v hv => hI v (List.mem_of_mem_take hv)) (by rw [List.length_take]; omega) (diffs_bd l) (by omega)
  refine Ev.bind0 f1 ?_
  unfold denc
  by_cases h : l.length < 2
  · rw [if_pos h]
    refine Ev.pos (by omega) ?_
    exact Ev.now _
  · rw [if_neg h]
    refine Ev.neg (by omega) ?_
    refine Ev.pos (by omega) ?_
    refine Ev.pos (by omega) ?_
    refine Ev.bind (idiffs_ev (diffs l) (by omega)) ?_
    have f2 : delta_Encode_1.f 2 [rd l 0, rd (diffs l) 0] (diffs (diffs l)) = some (form2 l) := by
      have t1 := take1 (l := l) (by omega)
      have t2 := take1 (l := diffs l) (by omega)
      have e2 : [rd l 0, rd (diffs l) 0] = l.take 1 ++ (diffs l).take 1 := by rw [t1, t2]; rfl
      rw [e2]
      refine ienc1 2 _ (diffs (diffs l)) (fun v hv => ?_) (by rw [List.length_append, List.length_take, List.length_take]; omega) (diffs_bd _) (by omega)
      rcases List.mem_append.1 hv with hv | hv
      · exact hI v (List.mem_of_mem_take hv)
      · exact diffs_bd l v (List.mem_of_mem_take hv)
    refine Ev.bind0 f2 ?_
    by_cases c : (form2 l).length < (form1 l).length
    · rw [if_pos c]
      refine Ev.pos (by omega) ?_
      exact Ev.now _
    · rw [if_neg c]
      refine Ev.neg (by omega) ?_
      exact Ev.now _
theorem lds_bytes : ∀ (l : List Int), ∀ x ∈ lds l, 0 ≤ x ∧ x < 256 := by
  intro l
  induction l with
  | nil => intro x hx; cases hx
  | cons y l ih =>
    intro x hx
    simp only [lds, List.mem_append] at hx
    rcases hx with hx | hx
    · exact venc_range _ x hx
    · exact ih x hx
theorem denc_bytes (l : List Int) : ∀ x ∈ denc l, 0 ≤ x ∧ x < 256 := by
  have h1 : ∀ x ∈ form1 l, 0 ≤ x ∧ x < 256 := by
    intro x hx
    simp only [form1, List.mem_cons, List.mem_append] at hx
    rcases hx with rfl | hx | hx
    · omega
    · exact lds_bytes _ x hx
    · exact fenc_bytes _ x hx
  have h2 : ∀ x ∈ form2 l, 0 ≤ x ∧ x < 256 := by
    intro x hx
    simp only [form2, List.mem_cons, List.mem_append] at hx
    rcases hx with rfl | hx | hx
    · omega
    · exact lds_bytes _ x hx
    · exact fenc_bytes _ x hx
  intro x hx
  unfold denc at hx
  split at hx
  · exact h1 x hx
  · split at hx
    · exact h2 x hx
    · exact h1 x hx
theorem ldsl : ∀ (a : List Int), (∀ x ∈ a, -9223372036854775808 ≤ x ∧ x < 9223372036854775808) → (lds a).length ≤ 10 * a.length := by
  intro a
  induction a with
  | nil => intro _; exact Nat.le_refl _
  | cons x a ih =>
    intro h
    have h1 := ih (fun y hy => h y (List.mem_cons_of_mem _ hy))
    have h2 := venc_len10 (zn x) (zn_lt (h x List.mem_cons_self))
    simp only [lds, List.length_append, List.length_cons]
    omega
theorem denc_len {l : List Int} (hI : ∀ x ∈ l, -9223372036854775808 ≤ x ∧ x < 9223372036854775808) (hl : l.length ≤ 65536) : (denc l).length ≤ 100 + 28 * l.length := by
  have hd := diffs_len l
  have hd2 := diffs_len (diffs l)
  have a1 := fenc_len (l := diffs l) (by omega) (diffs_bd l)
  have a2 := fenc_len (l := diffs (diffs l)) (by omega) (diffs_bd _)
  have b1 := ldsl (l.take 1) (fun v hv => hI v (List.mem_of_mem_take hv))
  have b2 := ldsl (l.take 1 ++ (diffs l).take 1) (fun v hv => by
    rcases List.mem_append.1 hv with hv | hv
    · exact hI v (List.mem_of_mem_take hv)
    · exact diffs_bd l v (List.mem_of_mem_take hv))
  rw [List.length_take] at b1
  rw [List.length_append, List.length_take, List.length_take] at b2
  unfold denc form1 form2
  split
  · simp only [List.length_cons, List.length_append]; omega
  · split <;> simp only [List.length_cons, List.length_append] <;> omega
/-! ### Equal -/
theorem deq_l0 (l : List Int) (hl : l.length < 9223372036854775807) : ∀ (d i : Nat), i + d = l.length → Ev (fun k => laminaref09_Equal.l0 k l l (i : Int)) true := by
  intro d
  induction d with
  | zero =>
    intro i h
    refine Ev.succ ?_
    simp only [laminaref09_Equal.l0]
    refine Ev.neg (by omega) ?_
    refine Ev.succ ?_
    simp only [laminaref09_Equal.j1]
    exact Ev.neg (by decide) (Ev.now _)
  | succ d ih =>
    intro i h
    refine Ev.succ ?_
    simp only [laminaref09_Equal.l0]
    refine Ev.pos (by omega) ?_
    rw [decide_eq_true (show (i : Int) < (l.length : Int) by omega)]
    refine Ev.succ ?_
    simp only [laminaref09_Equal.j1]
    refine Ev.pos (by simp) ?_
    refine Ev.pos (by omega) ?_
    refine Ev.pos (by omega) ?_
    refine Ev.pos (by omega) ?_
    refine Ev.pos (by simp) ?_
    rw [w64_add1 i (by omega)]
    exact ih (i + 1) (by omega)
theorem deq_ev (l : List Int) (hl : l.length < 9223372036854775807) : Ev (fun k => laminaref09_Equal.f k l l) true := by
  unfold laminaref09_Equal.f
  refine Ev.pos (by simp) ?_
  exact deq_l0 l hl l.length 0 (by omega)
theorem ips (a : Int) (l : List Int) (hl : l.length ≤ 1000000) : delta_PrefixSums.f a l = some (psums a l) := by
  unfold delta_PrefixSums.f; rw [if_pos (by omega)]

theorem lives_ev : Ev (fun k => laminalaw09_lives.f k) true := Ev.of laminalaw09_lives.mono (k := 100) (by decide +kernel)

theorem DeltaInverse : laminalaw09_DeltaInverse.Pure := by
  intro a l _ _ _ hwl
  have hI : ∀ v ∈ l, I64 v := fun v hv => wf_i64 (hwl v hv)
  have lv : Ev (fun k => (laminalaw09_lives.f k).bind fun t => some t) true := Ev.bind lives_ev (Ev.now _)
  refine Ev.rounds (g := fun k => laminalaw09_DeltaInverse.f k a l) ?_
  unfold laminalaw09_DeltaInverse.f
  by_cases h1 : (l.length : Int) > 300
  · refine Ev.pos h1 ?_; exact lv
  refine Ev.neg h1 ?_
  have hp := psums_len l a
  have hd := diffs_psums l a hI
  refine Ev.bind0 (ips a l (by omega)) ?_
  refine Ev.pos (by rw [w64 _ (by omega) (by omega)]; omega) ?_
  refine Ev.pos (by omega) ?_
  refine Ev.pos (by obtain ⟨q, hq⟩ := psums_cons a l; rw [hq]; simp [rd]) ?_
  have e1 := idiffs_ev (psums a l) (by omega)
  rw [hd] at e1
  refine Ev.bind e1 ?_
  refine Ev.bind (deq_ev l (by omega)) ?_
  refine Ev.pos rfl ?_
  refine Ev.bind e1 ?_
  refine Ev.bind0 (ips a l (by omega)) ?_
  refine Ev.bind (deq_ev (psums a l) (by omega)) ?_
  refine Ev.pos rfl ?_
  exact lv

end Go.Proofs.Ytllhbjkkoogeeaa.Pure
