/- Differences and sums, encoded with leading numbers and a frame: plain Lean. -/
import Derived.Test.YtllhbjkkoogeeaaUM09
set_option linter.unusedVariables false
set_option linter.unusedSimpArgs false
namespace Go.Proofs.YtllhbjkkoogeeaaM
open Go Go.RowKit Go.Proofs.YtllhbjkkoogeeaaW.PrintWords

def I64 (x : Int) : Prop := -9223372036854775808 ≤ x ∧ x < 9223372036854775808
theorem i64of_range (x : Int) : I64 (i64of x) := by unfold I64 i64of; omega
theorem i64of_id {x : Int} (h : I64 x) : i64of x = x := by unfold I64 at h; unfold i64of; omega
def diffs : List Int → List Int
  | [] => []
  | [_] => []
  | x :: y :: r => i64of (y - x) :: diffs (y :: r)
def psums (f : Int) : List Int → List Int
  | [] => [f]
  | d :: r => f :: psums (i64of (f + d)) r
theorem diffs_len : ∀ l : List Int, (diffs l).length = l.length - 1
  | [] => rfl
  | [_] => rfl
  | x :: y :: r => by simp only [diffs, List.length_cons]; rw [diffs_len (y :: r)]; simp
theorem diffs_range : ∀ l : List Int, ∀ x ∈ diffs l, I64 x
  | [], x, h => by cases h
  | [_], x, h => by cases h
  | a :: y :: r, x, h => by
    simp only [diffs, List.mem_cons] at h
    rcases h with rfl | h
    · exact i64of_range _
    · exact diffs_range (y :: r) x h
theorem psums_len : ∀ (l : List Int) (f : Int), (psums f l).length = l.length + 1 := by
  intro l
  induction l with
  | nil => intro f; rfl
  | cons d r ih => intro f; simp [psums, ih]
theorem psums_range : ∀ (l : List Int) (f : Int), I64 f → ∀ x ∈ psums f l, I64 x := by
  intro l
  induction l with
  | nil => intro f h x hx; simp [psums] at hx; subst hx; exact h
  | cons d r ih =>
    intro f h x hx
    simp only [psums, List.mem_cons] at hx
    rcases hx with rfl | hx
    · exact h
    · exact ih _ (i64of_range _) x hx
theorem psums_cons (f : Int) (l : List Int) : ∃ r, psums f l = f :: r := by cases l <;> exact ⟨_, rfl⟩
theorem diffs_psums : ∀ (l : List Int) (f : Int), (∀ x ∈ l, I64 x) → diffs (psums f l) = l := by
  intro l
  induction l with
  | nil => intro f _; rfl
  | cons d r ih =>
    intro f h
    have ih2 := ih (i64of (f + d)) (fun x hx => h x (List.mem_cons_of_mem _ hx))
    obtain ⟨q, hq⟩ := psums_cons (i64of (f + d)) r
    rw [hq] at ih2
    simp only [psums, hq, diffs, ih2]
    congr 1
    have hd := h d List.mem_cons_self
    unfold I64 at hd
    unfold i64of
    omega
theorem psums_diffs : ∀ (r : List Int) (x : Int), (∀ y ∈ r, I64 y) → psums x (diffs (x :: r)) = x :: r := by
  intro r
  induction r with
  | nil => intro x _; rfl
  | cons y r ih =>
    intro x h
    have hy := h y List.mem_cons_self
    simp only [diffs, psums]
    rw [show i64of (x + i64of (y - x)) = y by unfold I64 at hy; unfold i64of; omega, ih y (fun z hz => h z (List.mem_cons_of_mem _ hz))]
def zn (x : Int) : Nat := (zig x).toNat
theorem zn_lt {x : Int} (h : I64 x) : zn x < 18446744073709551616 := by have := zig_range x h.1 h.2; unfold zn; omega
theorem unzig_zn {x : Int} (h : I64 x) : unzig (zn x : Int) = x := by
  have := zig_range x h.1 h.2
  unfold zn
  rw [show (((zig x).toNat : Nat) : Int) = zig x by omega, unzig_zig]
def lds : List Int → List Int
  | [] => []
  | x :: r => venc (zn x) ++ lds r
def form1 (l : List Int) : List Int := 1 :: (lds (l.take 1) ++ fenc (diffs l))
def form2 (l : List Int) : List Int := 2 :: (lds (l.take 1 ++ (diffs l).take 1) ++ fenc (diffs (diffs l)))
def denc (l : List Int) : List Int := if l.length < 2 then form1 l else if (form2 l).length < (form1 l).length then form2 l else form1 l
/-- The leading numbers, read. -/
def rdl (b : List Int) : Nat → Int → List Int × Int × Int
  | 0, at_ => ([], at_, 0)
  | k + 1, at_ =>
    let r := vdec b at_
    if r.2.2 ≠ 0 then ([], 0, r.2.2) else
    let q := rdl b k r.2.1
    if q.2.2 ≠ 0 then ([], 0, q.2.2) else (unzig r.1 :: q.1, q.2.1, 0)
theorem rdl_len {b : List Int} : ∀ (k : Nat) (a : Int) (q : List Int) (t : Int), rdl b k a = (q, t, 0) → q.length = k := by
  intro k
  induction k with
  | zero => intro a q t h; simp [rdl] at h; simp [← h.1]
  | succ k ih =>
    intro a q t h
    simp only [rdl] at h
    split at h
    · simp only [Prod.mk.injEq] at h; exact absurd h.2.2 (by assumption)
    · split at h
      · simp only [Prod.mk.injEq] at h; exact absurd h.2.2 (by assumption)
      · rename_i h2
        simp only [Prod.mk.injEq] at h
        rw [← h.1, List.length_cons, ih _ (rdl b k (vdec b a).2.1).1 (rdl b k (vdec b a).2.1).2.1 (by
          have : (rdl b k (vdec b a).2.1).2.2 = 0 := by omega
          rw [← this])]
theorem rdl_enc {b : List Int} : ∀ (ls : List Int) (o : Nat) (R : List Int), (∀ x ∈ ls, I64 x) → o ≤ b.length → b.drop o = lds ls ++ R →
    rdl b ls.length (o : Int) = (ls, ((o + (lds ls).length : Nat) : Int), 0) := by
  intro ls
  induction ls with
  | nil => intro o R _ _ _; simp [rdl, lds]
  | cons x ls ih =>
    intro o R hp ho h
    have hx := hp x List.mem_cons_self
    simp only [lds, List.append_assoc] at h
    have d1 := vdec_enc (zn_lt hx) ho h
    have h2 := drop_app h
    have o1 := off_le ho h
    have d3 := ih _ R (fun q hq => hp q (List.mem_cons_of_mem _ hq)) o1 h2
    simp only [List.length_cons, rdl, d1, d3, unzig_zn hx]
    simp [lds, Nat.add_assoc]
def bld : List Int → List Int → List Int
  | [], out => out
  | x :: r, out => psums x (bld r out)
def ddec (b : List Int) (o n : Int) : List Int × Int × Int :=
  if n < 0 ∨ n > 65536 ∨ o < 0 then ([], 0, 1) else
  if (b.length : Int) ≤ o then ([], 0, 2) else
  let k := b.getD o.toNat 0
  if k ≠ 1 ∧ (k ≠ 2 ∨ n < 2) then ([], 0, 4) else
  let q := rdl b (min k.toNat n.toNat) (o + 1)
  if q.2.2 ≠ 0 then ([], 0, q.2.2) else
  let p := fdec b q.2.1 (n - q.1.length)
  if p.2.2 ≠ 0 then ([], 0, p.2.2) else
  let out := bld q.1 p.1
  if denc out = seg b o.toNat (p.2.1.toNat - o.toNat) then (out, p.2.1, 0) else ([], 0, 4)
theorem form_dec {b R l ls rest : List Int} {o k : Nat} (hk : k = 1 ∨ k = 2 ∧ 2 ≤ l.length) (hln : ls.length = min k l.length) (hb : bld ls rest = l) (hrl : rest.length + ls.length = l.length) (hl : l.length ≤ 65536) (hls : ∀ x ∈ ls, I64 x) (hrr : ∀ x ∈ rest, I64 x) (ho : o ≤ b.length)
    (h : b.drop o = ((k : Int) :: (lds ls ++ fenc rest)) ++ R) (hd : denc l = (k : Int) :: (lds ls ++ fenc rest)) :
    ddec b (o : Int) (l.length : Int) = (l, ((o + (denc l).length : Nat) : Int), 0) := by
  have hlen := congrArg List.length h
  simp only [List.length_drop, List.length_append, List.length_cons] at hlen
  have hg : b.getD o 0 = k := by
    have : (b.drop o)[0]? = some (k : Int) := by rw [h]; rfl
    rw [List.getElem?_drop] at this
    rw [List.getD_eq_getElem?_getD, show b[o]? = some (k : Int) by simpa using this]
    rfl
  have h1 : b.drop (o + 1) = lds ls ++ (fenc rest ++ R) := by
    rw [← List.drop_drop, h]; simp
  have o1 : o + 1 ≤ b.length := by omega
  have d1 := rdl_enc ls (o + 1) _ hls o1 h1
  have h2 := drop_app h1
  have o2 := off_le o1 h1
  have d2 := fdec_enc (l := rest) (by omega) (fun x hx => hrr x hx) o2 h2
  unfold ddec
  rw [if_neg (by omega), if_neg (by omega)]
  simp only [Int.toNat_natCast, hg]
  rw [if_neg (by omega), ← hln, show (o : Int) + 1 = ((o + 1 : Nat) : Int) by omega, d1]
  simp only [ne_eq, not_true_eq_false, if_false]
  rw [show ((l.length : Int) - (ls.length : Int)) = (rest.length : Int) by omega, d2]
  simp only [ne_eq, not_true_eq_false, if_false, hb, Int.toNat_natCast]
  have e : denc l = seg b o (o + 1 + (lds ls).length + (fenc rest).length - o) := by
    unfold seg
    rw [h, hd, List.take_append_of_le_length (by simp; omega), List.take_of_length_le (by simp; omega)]
  rw [if_pos e, hd]
  simp only [List.length_cons, List.length_append]
  congr 2
  omega
theorem ddec_enc {b R l : List Int} {o : Nat} (hl : l.length ≤ 65536) (hr : ∀ x ∈ l, I64 x) (ho : o ≤ b.length) (h : b.drop o = denc l ++ R) :
    ddec b (o : Int) (l.length : Int) = (l, ((o + (denc l).length : Nat) : Int), 0) := by
  have f1 : denc l = form1 l → ddec b (o : Int) (l.length : Int) = (l, ((o + (denc l).length : Nat) : Int), 0) := by
    intro e
    have e2 : denc l = ((1 : Nat) : Int) :: (lds (l.take 1) ++ fenc (diffs l)) := e
    refine form_dec (k := 1) (ls := l.take 1) (rest := diffs l) (.inl rfl) (by rw [List.length_take]) ?_ ?_ hl (fun x hx => hr x (List.mem_of_mem_take hx)) (diffs_range l) ho (by rw [h, e2]) e2
    · cases l with
      | nil => rfl
      | cons x r => simp only [List.take_succ_cons, List.take_zero, bld]; exact psums_diffs r x (fun y hy => hr y (List.mem_cons_of_mem _ hy))
    · rw [diffs_len, List.length_take]; omega
  have f2 : 2 ≤ l.length → denc l = form2 l → ddec b (o : Int) (l.length : Int) = (l, ((o + (denc l).length : Nat) : Int), 0) := by
    intro h2 e
    have e2 : denc l = ((2 : Nat) : Int) :: (lds (l.take 1 ++ (diffs l).take 1) ++ fenc (diffs (diffs l))) := e
    refine form_dec (k := 2) (ls := l.take 1 ++ (diffs l).take 1) (rest := diffs (diffs l)) (.inr ⟨rfl, h2⟩) ?_ ?_ ?_ hl ?_ (diffs_range _) ho (by rw [h, e2]) e2
    · rw [List.length_append, List.length_take, List.length_take, diffs_len]; omega
    · match l, h2 with
      | x :: y :: r, _ =>
        have hp := psums_diffs (diffs (y :: r)) (i64of (y - x)) (diffs_range _)
        have hd : diffs (x :: y :: r) = i64of (y - x) :: diffs (y :: r) := rfl
        rw [hd]
        simp only [List.take_succ_cons, List.take_zero, List.cons_append, List.nil_append, bld, hp]
        rw [← hd]
        exact psums_diffs (y :: r) x (fun z hz => hr z (List.mem_cons_of_mem _ hz))
    · rw [diffs_len, diffs_len, List.length_append, List.length_take, List.length_take, diffs_len]; omega
    · intro x hx
      rcases List.mem_append.1 hx with hx | hx
      · exact hr x (List.mem_of_mem_take hx)
      · exact diffs_range _ x (List.mem_of_mem_take hx)
  by_cases h2 : l.length < 2
  · exact f1 (by unfold denc; rw [if_pos h2])
  · by_cases h3 : (form2 l).length < (form1 l).length
    · exact f2 (by omega) (by unfold denc; rw [if_neg h2, if_pos h3])
    · exact f1 (by unfold denc; rw [if_neg h2, if_neg h3])
theorem denc_pos (l : List Int) : 4 ≤ (denc l).length := by
  have h1 := fenc_pos (diffs l)
  have h2 := fenc_pos (diffs (diffs l))
  unfold denc form1 form2
  split
  · simp only [List.length_cons, List.length_append]; omega
  · split <;> simp only [List.length_cons, List.length_append] <;> omega
theorem fdec_ok {b : List Int} {o n e : Int} {out : List Int} (h : fdec b o n = (out, e, 0)) : (out.length : Int) = n ∧ (∀ x ∈ out, I64 x) := by
  unfold fdec at h
  split at h
  · simp at h
  · simp only at h
    split at h
    · simp only [Prod.mk.injEq] at h; exact absurd h.2.2 (by assumption)
    · split at h
      · simp at h
      · split at h
        · simp only [Prod.mk.injEq] at h; exact absurd h.2.2 (by assumption)
        · split at h
          · simp only [Prod.mk.injEq] at h
            obtain ⟨rfl, _, _⟩ := h
            refine ⟨?_, outs_range _ _⟩
            unfold outs
            rw [List.length_map, pat_length, unpackN_len]
            omega
          · simp at h
theorem bld_ok : ∀ (q out : List Int), (bld q out).length = q.length + out.length ∧ ((∀ x ∈ q, I64 x) → (∀ x ∈ out, I64 x) → ∀ x ∈ bld q out, I64 x) := by
  intro q
  induction q with
  | nil => intro out; exact ⟨by simp [bld], fun _ h => h⟩
  | cons x q ih =>
    intro out
    refine ⟨by simp only [bld, psums_len, (ih out).1, List.length_cons]; omega, fun h1 h2 => ?_⟩
    exact psums_range _ _ (h1 x List.mem_cons_self)
theorem unzig_I64 {u : Int} (h0 : 0 ≤ u) (h1 : u < 18446744073709551616) : I64 (unzig u) := unzig_range u h0 h1
theorem rdl_range {b : List Int} (hb : ∀ x ∈ b, 0 ≤ x ∧ x < 256) : ∀ (k : Nat) (a : Int) (q : List Int) (t : Int), rdl b k a = (q, t, 0) → ∀ x ∈ q, I64 x := by
  intro k
  induction k with
  | zero => intro a q t h x hx; simp [rdl] at h; rw [h.1] at hx; cases hx
  | succ k ih =>
    intro a q t h x hx
    simp only [rdl] at h
    split at h
    · simp only [Prod.mk.injEq] at h; exact absurd h.2.2 (by assumption)
    · rename_i h1
      split at h
      · simp only [Prod.mk.injEq] at h; exact absurd h.2.2 (by assumption)
      · rename_i h2
        simp only [Prod.mk.injEq] at h
        rw [← h.1] at hx
        rcases List.mem_cons.1 hx with rfl | hx
        · have e : vdec b a = ((vdec b a).1, (vdec b a).2.1, 0) := by
            have : (vdec b a).2.2 = 0 := by omega
            rw [← this]
          obtain ⟨n, a', _, e1, e2, _⟩ := vdec_ok hb e
          rw [e1]
          exact unzig_I64 (by omega) (by omega)
        · exact ih _ (rdl b k (vdec b a).2.1).1 (rdl b k (vdec b a).2.1).2.1 (by
            have : (rdl b k (vdec b a).2.1).2.2 = 0 := by omega
            rw [← this]) x hx
theorem ddec_ok {b : List Int} (hb : ∀ x ∈ b, 0 ≤ x ∧ x < 256) {o n e : Int} {out : List Int} (h : ddec b o n = (out, e, 0)) : (out.length : Int) = n ∧ (∀ x ∈ out, I64 x) ∧ n ≤ 65536 ∧ 0 ≤ o ∧ denc out = seg b o.toNat (e.toNat - o.toNat) := by
  unfold ddec at h
  split at h
  · simp at h
  · split at h
    · simp at h
    · simp only at h
      split at h
      · simp at h
      · rename_i hk
        split at h
        · simp only [Prod.mk.injEq] at h; exact absurd h.2.2 (by assumption)
        · rename_i hq
          split at h
          · simp only [Prod.mk.injEq] at h; exact absurd h.2.2 (by assumption)
          · rename_i hp
            split at h
            · rename_i he
              simp only [Prod.mk.injEq] at h
              obtain ⟨rfl, rfl, _⟩ := h
              obtain ⟨q, hqe⟩ : ∃ q, q = rdl b (min (b.getD o.toNat 0).toNat n.toNat) (o + 1) := ⟨_, rfl⟩
              rw [← hqe] at hq hp he ⊢
              have eq' : rdl b (min (b.getD o.toNat 0).toNat n.toNat) (o + 1) = (q.1, q.2.1, 0) := by
                have : q.2.2 = 0 := by omega
                rw [← hqe, ← this]
              have hl := rdl_len _ _ _ _ eq'
              have hr := rdl_range hb _ _ _ _ eq'
              obtain ⟨p, hpe⟩ : ∃ p, p = fdec b q.2.1 (n - q.1.length) := ⟨_, rfl⟩
              rw [← hpe] at hp he ⊢
              have ep : fdec b q.2.1 (n - q.1.length) = (p.1, p.2.1, 0) := by
                have : p.2.2 = 0 := by omega
                rw [← hpe, ← this]
              obtain ⟨g1, g2⟩ := fdec_ok ep
              have g3 := bld_ok q.1 p.1
              exact ⟨by rw [g3.1]; omega, g3.2 hr g2, by omega, by omega, he⟩
            · simp at h
/-- Without its last byte an encoding is refused. -/
theorem ddec_cut {l : List Int} (hl : l.length ≤ 65536) (hr : ∀ x ∈ l, I64 x) (hb : ∀ x ∈ denc l, 0 ≤ x ∧ x < 256) : (ddec ((denc l).take ((denc l).length - 1)) 0 (l.length : Int)).2.2 ≠ 0 := by
  intro h0
  obtain ⟨q, hq⟩ : ∃ q, q = ddec ((denc l).take ((denc l).length - 1)) 0 (l.length : Int) := ⟨_, rfl⟩
  rw [← hq] at h0
  have e : ddec ((denc l).take ((denc l).length - 1)) 0 (l.length : Int) = (q.1, q.2.1, 0) := by rw [← hq, ← h0]
  obtain ⟨g1, g2, _, _, g5⟩ := ddec_ok (fun x hx => hb x (List.mem_of_mem_take hx)) e
  have g6 : denc l = denc q.1 ++ (denc l).drop (denc q.1).length := by
    have h7 : denc q.1 = (denc l).take (denc q.1).length := by
      conv => lhs; rw [g5]
      unfold seg
      simp only [Int.toNat_zero, List.drop_zero, Nat.sub_zero, List.take_take]
      congr 1
      rw [g5]; unfold seg
      simp only [Int.toNat_zero, List.drop_zero, Nat.sub_zero, List.length_take]
      omega
    conv => rhs; lhs; rw [h7]
    rw [List.take_append_drop]
  have k1 := ddec_enc (b := denc l) (o := 0) (R := (denc l).drop (denc q.1).length) (l := q.1) (by omega) g2 (Nat.zero_le _) (by rw [List.drop_zero]; exact g6)
  have k2 := ddec_enc (b := denc l) (o := 0) (R := []) (l := l) hl hr (Nat.zero_le _) (by simp)
  rw [show (q.1.length : Int) = (l.length : Int) by omega] at k1
  rw [k1] at k2
  simp only [Prod.mk.injEq, Nat.zero_add] at k2
  have h8 := congrArg List.length g5
  unfold seg at h8
  simp only [Int.toNat_zero, List.drop_zero, Nat.sub_zero, List.length_take] at h8
  have h9 := denc_pos l
  omega
end Go.Proofs.YtllhbjkkoogeeaaM
