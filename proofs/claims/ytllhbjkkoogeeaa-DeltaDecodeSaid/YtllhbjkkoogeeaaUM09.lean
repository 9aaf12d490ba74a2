/- Frames of reference: encoding, decoding, sizes: plain Lean. -/
import Derived.Test.YtllhbjkkoogeeaaUM06
set_option linter.unusedVariables false
set_option linter.unusedSimpArgs false
namespace Go.Proofs.YtllhbjkkoogeeaaM
open Go Go.RowKit Go.Proofs.YtllhbjkkoogeeaaW.PrintWords

/-! ### reading on -/
theorem vdec_enc {b R : List Int} {o n : Nat} (hn : n < 18446744073709551616) (ho : o ≤ b.length) (h : b.drop o = venc n ++ R) : vdec b (o : Int) = ((n : Int), ((o + (venc n).length : Nat) : Int), 0) := by
  have h1 := vd_venc o b R 10 0 0 n (b.take o) rfl (by decide) (by simpa using hn) (fun h => absurd h (by decide)) (by rw [← h, List.take_append_drop]) (by rw [List.length_take]; omega)
  unfold vdec
  rw [if_neg (by omega), Int.toNat_natCast, h1, List.length_take, Nat.min_eq_left ho]
  simp
theorem drop_app {b x y : List Int} {o : Nat} (h : b.drop o = x ++ y) : b.drop (o + x.length) = y := by
  rw [← List.drop_drop, h, List.drop_left]
theorem off_le {b x : List Int} {o : Nat} (ho : o ≤ b.length) {y : List Int} (h : b.drop o = x ++ y) : o + x.length ≤ b.length := by
  have := congrArg List.length h
  rw [List.length_drop, List.length_append] at this
  omega
theorem vdec_ok {b : List Int} (hb : ∀ x ∈ b, 0 ≤ x ∧ x < 256) {o v t : Int} (h : vdec b o = (v, t, 0)) :
    ∃ n a : Nat, o = a ∧ v = n ∧ n < 18446744073709551616 ∧ t = ((a + (venc n).length : Nat) : Int) ∧ a + (venc n).length ≤ b.length ∧ b.drop a = venc n ++ b.drop (a + (venc n).length) := by
  unfold vdec at h
  by_cases h1 : o < 0 ∨ (b.length : Int) < o
  · rw [if_pos h1] at h; simp at h
  · rw [if_neg h1] at h
    obtain ⟨n, e1, e2, _, e3, e4, e5⟩ := vd_ok o.toNat b hb 10 0 0 v t rfl h
    simp only [Nat.pow_zero, Nat.mul_one, Nat.zero_add, Nat.add_zero] at e1 e2 e3 e4 e5
    refine ⟨n, o.toNat, by omega, e1, e2, e3, e4, ?_⟩
    rw [← List.drop_drop]
    have h6 := List.take_append_drop (venc n).length (b.drop o.toNat)
    rw [e5] at h6
    exact h6.symm

/-! ### frame of reference -/
def lmin : List Int → Int
  | [] => 0
  | x :: l => l.foldl (fun b v => if v < b then v else b) x
def fds (l : List Int) : List Int := l.map fun v => (v - lmin l) % 18446744073709551616
def hi (d : Int) (w : Nat) : Nat := d.toNat / 2 ^ w
/-- The exceptions: index and high part. -/
def exc (w : Nat) : Nat → List Int → List (Nat × Nat)
  | _, [] => []
  | i, d :: r => if hi d w = 0 then exc w (i + 1) r else (i, hi d w) :: exc w (i + 1) r
def pts : List (Nat × Nat) → List Int
  | [] => []
  | p :: r => venc p.1 ++ (venc p.2 ++ pts r)
def withW (z : Nat) (ds : List Int) (w : Nat) : List Int := venc z ++ (venc w ++ (venc (exc w 0 ds).length ++ (packed ds w ++ pts (exc w 0 ds))))
def szW (z : Nat) (ds : List Int) (w : Nat) : Nat := (withW z ds w).length
def argm (f : Nat → Nat) : Nat → Nat
  | 0 => 0
  | n + 1 => if f (n + 1) < f (argm f n) then n + 1 else argm f n
theorem argm_le (f : Nat → Nat) : ∀ n, argm f n ≤ n := by
  intro n
  induction n with
  | zero => exact Nat.le_refl _
  | succ n ih => simp only [argm]; split <;> omega
theorem argm_min (f : Nat → Nat) : ∀ n k, k ≤ n → f (argm f n) ≤ f k := by
  intro n
  induction n with
  | zero => intro k hk; rw [show k = 0 by omega]; exact Nat.le_refl _
  | succ n ih =>
    intro k hk
    simp only [argm]
    by_cases h : f (n + 1) < f (argm f n)
    · rw [if_pos h]
      by_cases hk2 : k = n + 1
      · subst hk2; exact Nat.le_refl _
      · have := ih k (by omega); omega
    · rw [if_neg h]
      by_cases hk2 : k = n + 1
      · subst hk2; omega
      · exact ih k (by omega)
theorem argm_congr (f g : Nat → Nat) (c d : Nat) : ∀ n, (∀ k, k ≤ n → f k + c = g k + d) → argm f n = argm g n := by
  intro n
  induction n with
  | zero => intro _; rfl
  | succ n ih =>
    intro h
    have e := ih (fun k hk => h k (by omega))
    simp only [argm]
    rw [e]
    have h1 := h (n + 1) (Nat.le_refl _)
    have h2 := h (argm g n) (by have := argm_le g n; omega)
    by_cases h3 : f (n + 1) < f (argm g n)
    · rw [if_pos h3, if_pos (by omega)]
    · rw [if_neg h3, if_neg (by omega)]
def zb (l : List Int) : Nat := (zig (lmin l)).toNat
def fbest (l : List Int) : Nat := argm (szW (zb l) (fds l)) 64
def fenc (l : List Int) : List Int := withW (zb l) (fds l) (fbest l)
theorem fds_len (l : List Int) : (fds l).length = l.length := by simp [fds]
theorem fds_range (l : List Int) : ∀ x ∈ fds l, 0 ≤ x ∧ x < 18446744073709551616 := by
  intro x hx
  simp only [fds, List.mem_map] at hx
  obtain ⟨v, _, rfl⟩ := hx
  omega
theorem fold_min_in (l : List Int) : ∀ x, l.foldl (fun b v => if v < b then v else b) x ∈ x :: l := by
  induction l with
  | nil => intro x; simp
  | cons y l ih =>
    intro x
    simp only [List.foldl_cons]
    split
    · have := ih y; simp only [List.mem_cons] at this ⊢; exact .inr this
    · have := ih x; simp only [List.mem_cons] at this ⊢; rcases this with h | h
      · exact .inl h
      · exact .inr (.inr h)
theorem fold_min_le (l : List Int) : ∀ x, ∀ y ∈ x :: l, l.foldl (fun b v => if v < b then v else b) x ≤ y := by
  induction l with
  | nil => intro x y hy; simp at hy; subst hy; exact Int.le_refl _
  | cons z l ih =>
    intro x y hy
    simp only [List.foldl_cons]
    by_cases h : z < x
    · rw [if_pos h]
      rcases List.mem_cons.1 hy with rfl | hy
      · exact Int.le_trans (ih z z List.mem_cons_self) (by omega)
      · exact ih z y hy
    · rw [if_neg h]
      rcases List.mem_cons.1 hy with rfl | hy
      · exact ih _ _ List.mem_cons_self
      · rcases List.mem_cons.1 hy with rfl | hy
        · exact Int.le_trans (ih x x List.mem_cons_self) (by omega)
        · exact ih x y (List.mem_cons_of_mem _ hy)
theorem lmin_range {l : List Int} (h : ∀ x ∈ l, -9223372036854775808 ≤ x ∧ x < 9223372036854775808) : -9223372036854775808 ≤ lmin l ∧ lmin l < 9223372036854775808 := by
  cases l with
  | nil => simp [lmin]
  | cons x l => exact h _ (fold_min_in l x)
theorem zb_lt {l : List Int} (h : ∀ x ∈ l, -9223372036854775808 ≤ x ∧ x < 9223372036854775808) : zb l < 18446744073709551616 := by
  have h1 := lmin_range h
  have h2 := zig_range (lmin l) h1.1 h1.2
  unfold zb; omega
theorem exc_len (w : Nat) : ∀ (ds : List Int) (i : Nat), (exc w i ds).length ≤ ds.length := by
  intro ds
  induction ds with
  | nil => intro i; exact Nat.le_refl _
  | cons d r ih =>
    intro i
    have := ih (i + 1)
    simp only [exc]
    split <;> simp <;> omega
theorem exc_mem (w : Nat) : ∀ (ds : List Int) (i : Nat), (∀ x ∈ ds, 0 ≤ x ∧ x < 18446744073709551616) → ∀ p ∈ exc w i ds, i ≤ p.1 ∧ p.1 < i + ds.length ∧ p.2 < 18446744073709551616 ∧ 0 < p.2 := by
  intro ds
  induction ds with
  | nil => intro i _ p hp; cases hp
  | cons d r ih =>
    intro i hd p hp
    have h1 := ih (i + 1) (fun x hx => hd x (List.mem_cons_of_mem _ hx))
    have h2 := hd d List.mem_cons_self
    have h3 : hi d w ≤ d.toNat := Nat.div_le_self _ _
    simp only [exc] at hp
    simp only [List.length_cons]
    split at hp
    · have := h1 p hp; omega
    · rcases List.mem_cons.1 hp with rfl | hp
      · simp only; omega
      · have := h1 p hp; omega
theorem exc_64 : ∀ (ds : List Int) (i : Nat), (∀ x ∈ ds, 0 ≤ x ∧ x < 18446744073709551616) → exc 64 i ds = [] := by
  intro ds
  induction ds with
  | nil => intro i _; rfl
  | cons d r ih =>
    intro i hd
    have h2 := hd d List.mem_cons_self
    simp only [exc]
    rw [if_pos (by unfold hi; exact Nat.div_eq_of_lt (by omega))]
    exact ih _ (fun x hx => hd x (List.mem_cons_of_mem _ hx))
/-- The patches, read. -/
def rdp (b : List Int) : Nat → Int → List (Nat × Nat) × Int × Int
  | 0, at_ => ([], at_, 0)
  | k + 1, at_ =>
    let r := vdec b at_
    if r.2.2 ≠ 0 then ([], 0, r.2.2) else
    let s := vdec b r.2.1
    if s.2.2 ≠ 0 then ([], 0, s.2.2) else
    let q := rdp b k s.2.1
    if q.2.2 ≠ 0 then ([], 0, q.2.2) else ((r.1.toNat, s.1.toNat) :: q.1, q.2.1, 0)
theorem rdp_pts {b : List Int} : ∀ (ps : List (Nat × Nat)) (o : Nat) (R : List Int), (∀ p ∈ ps, p.1 < 18446744073709551616 ∧ p.2 < 18446744073709551616) → o ≤ b.length → b.drop o = pts ps ++ R →
    rdp b ps.length (o : Int) = (ps, ((o + (pts ps).length : Nat) : Int), 0) := by
  intro ps
  induction ps with
  | nil => intro o R _ _ _; simp [rdp, pts]
  | cons p ps ih =>
    intro o R hp ho h
    have hp0 := hp p List.mem_cons_self
    simp only [pts, List.append_assoc] at h
    have d1 := vdec_enc hp0.1 ho h
    have h2 := drop_app h
    have o1 := off_le ho h
    have d2 := vdec_enc hp0.2 o1 h2
    have h3 := drop_app h2
    have o2 := off_le o1 h2
    have d3 := ih _ R (fun q hq => hp q (List.mem_cons_of_mem _ hq)) o2 h3
    simp only [List.length_cons, rdp, d1, d2, d3]
    simp [pts, Nat.add_assoc]
/-- The head, read: base's zigzag, width, how many, where. -/
def hdr (b : List Int) (o : Int) (n : Nat) : Nat × Nat × Nat × Int × Int :=
  let r := vdec b o
  if r.2.2 ≠ 0 then (0, 0, 0, 0, r.2.2) else
  let s := vdec b r.2.1
  if s.2.2 ≠ 0 then (0, 0, 0, 0, s.2.2) else
  if s.1 > 64 then (0, 0, 0, 0, 4) else
  let q := vdec b s.2.1
  if q.2.2 ≠ 0 then (0, 0, 0, 0, q.2.2) else
  if q.1 > n then (0, 0, 0, 0, 4) else (r.1.toNat, s.1.toNat, q.1.toNat, q.2.1, 0)
/-- The numbers with the high parts put in. -/
def pat (w : Nat) (ds : List Int) : List (Nat × Nat) → List Int
  | [] => ds
  | p :: ps => pat w (if p.1 < ds.length ∧ w < 64 then ds.set p.1 (((ds.getD p.1 0).toNat ||| (p.2 * 2 ^ w % 18446744073709551616) : Nat) : Int) else ds) ps
/-- base + d, as an int64. -/
def i64of (x : Int) : Int := (x + 9223372036854775808) % 18446744073709551616 - 9223372036854775808
def outs (z : Nat) (ds : List Int) : List Int := ds.map fun d => i64of (unzig z + d)
def seg (b : List Int) (a n : Nat) : List Int := (b.drop a).take n
/-- Decode. -/
def fdec (b : List Int) (o n : Int) : List Int × Int × Int :=
  if o < 0 ∨ o > b.length ∨ n < 0 ∨ n > 65536 then ([], 0, 1) else
  let h := hdr b o n.toNat
  if h.2.2.2.2 ≠ 0 then ([], 0, h.2.2.2.2) else
  let a := h.2.2.2.1.toNat
  let s := pbytes n.toNat h.2.1
  if b.length < a + s then ([], 0, 2) else
  let p := rdp b h.2.2.1 ((a + s : Nat) : Int)
  if p.2.2 ≠ 0 then ([], 0, p.2.2) else
  let out := outs h.1 (pat h.2.1 (unpackN h.2.1 (le (seg b a s)) n.toNat) p.1)
  if fenc out = seg b o.toNat (p.2.1.toNat - o.toNat) then (out, p.2.1, 0) else ([], 0, 4)

theorem hdr_enc {b R : List Int} {o z w : Nat} {ds : List Int} (hz : z < 18446744073709551616) (hw : w ≤ 64) (hd : ∀ x ∈ ds, 0 ≤ x ∧ x < 18446744073709551616) (hn : ds.length ≤ 65536) (ho : o ≤ b.length) (h : b.drop o = withW z ds w ++ R) :
    ∃ a : Nat, hdr b (o : Int) ds.length = (z, w, (exc w 0 ds).length, (a : Int), 0) ∧ a + pbytes ds.length w ≤ b.length ∧ seg b a (pbytes ds.length w) = packed ds w ∧
      rdp b (exc w 0 ds).length ((a + pbytes ds.length w : Nat) : Int) = (exc w 0 ds, ((o + (withW z ds w).length : Nat) : Int), 0) ∧ o + (withW z ds w).length ≤ b.length := by
  have hc := exc_len w ds 0
  unfold withW at h
  simp only [List.append_assoc] at h
  have d1 := vdec_enc hz ho h
  have h2 := drop_app h
  have o1 := off_le ho h
  have d2 := vdec_enc (by omega) o1 h2
  have h3 := drop_app h2
  have o2 := off_le o1 h2
  have d3 := vdec_enc (by omega) o2 h3
  have h4 := drop_app h3
  have o3 := off_le o2 h3
  have h5 := drop_app h4
  have o4 := off_le o3 h4
  have hp := packed_len ds w
  refine ⟨o + (venc z).length + (venc w).length + (venc (exc w 0 ds).length).length, ?_, by omega, ?_, ?_, ?_⟩
  · unfold hdr
    simp only [d1, d2, d3]
    rw [if_neg (by simp), if_neg (by simp), if_neg (by omega), if_neg (by simp), if_neg (by omega)]
    simp
  · unfold seg
    rw [h4, ← hp, List.take_left]
  · rw [hp] at h5
    have h6 := rdp_pts (exc w 0 ds) _ R (fun p hp => by have := exc_mem w ds 0 hd p hp; omega) (by rw [hp] at o4; exact o4) h5
    rw [h6]
    unfold withW
    simp only [List.length_append, hp]
    congr 2
    omega
  · unfold withW
    have o5 := off_le o4 h5
    simp only [List.length_append]
    omega
theorem unpackN_packN_mod (w : Nat) (l : List Int) : unpackN w (packN w l) l.length = l.map fun d => ((d.toNat % 2 ^ w : Nat) : Int) := by
  induction l with
  | nil => rfl
  | cons v l ih =>
    simp only [List.length_cons, unpackN, packN, List.map_cons]
    rw [Nat.add_mul_mod_self_left, Nat.mod_mod, Nat.add_mul_div_left _ _ (Nat.two_pow_pos w), Nat.div_eq_of_lt (mod_lt_pow _ _), Nat.zero_add, ih]
theorem or_hi (d w : Nat) (hd : d < 18446744073709551616) : d % 2 ^ w ||| (d / 2 ^ w * 2 ^ w % 18446744073709551616) = d := by
  have h1 : d / 2 ^ w * 2 ^ w ≤ d := Nat.div_mul_le_self _ _
  rw [Nat.mod_eq_of_lt (by omega : d / 2 ^ w * 2 ^ w < 18446744073709551616)]
  rw [Nat.or_comm, Nat.mul_comm, ← Nat.two_pow_add_eq_or_of_lt (mod_lt_pow d w)]
  exact Nat.div_add_mod d (2 ^ w)
theorem pat_enc (w : Nat) (hw : w < 64) : ∀ (suf pre : List Int), (∀ x ∈ suf, 0 ≤ x ∧ x < 18446744073709551616) →
    pat w (pre ++ suf.map fun d => ((d.toNat % 2 ^ w : Nat) : Int)) (exc w pre.length suf) = pre ++ suf := by
  intro suf
  induction suf with
  | nil => intro pre _; simp [exc, pat]
  | cons d r ih =>
    intro pre hd
    have h2 := hd d List.mem_cons_self
    have hr := fun x hx => hd x (List.mem_cons_of_mem d hx)
    have ih2 := ih (pre ++ [d]) hr
    simp only [List.length_append, List.length_singleton, List.append_assoc, List.singleton_append] at ih2
    simp only [exc, List.map_cons]
    by_cases hh : hi d w = 0
    · rw [if_pos hh]
      have e : ((d.toNat % 2 ^ w : Nat) : Int) = d := by
        unfold hi at hh
        have : d.toNat < 2 ^ w := by
          rcases Nat.div_eq_zero_iff.1 hh with h | h
          · have := Nat.two_pow_pos w; omega
          · exact h
        rw [Nat.mod_eq_of_lt this]; omega
      rw [e]; exact ih2
    · rw [if_neg hh]
      simp only [pat]
      rw [if_pos ⟨by simp, hw⟩]
      have e : (((((pre ++ ((d.toNat % 2 ^ w : Nat) : Int) :: r.map fun d => ((d.toNat % 2 ^ w : Nat) : Int)).getD pre.length 0).toNat ||| (hi d w * 2 ^ w % 18446744073709551616) : Nat)) : Int) = d := by
        rw [List.getD_eq_getElem?_getD, List.getElem?_append_right (Nat.le_refl _), Nat.sub_self]
        simp only [List.getElem?_cons_zero, Option.getD_some, Int.toNat_natCast]
        unfold hi
        rw [or_hi _ _ (by omega)]; omega
      rw [e, List.set_append_right _ _ (Nat.le_refl _), Nat.sub_self, List.set_cons_zero]
      exact ih2
theorem pat_dec (w : Nat) (hw : w ≤ 64) (ds : List Int) (hd : ∀ x ∈ ds, 0 ≤ x ∧ x < 18446744073709551616) : pat w (unpackN w (packN w ds) ds.length) (exc w 0 ds) = ds := by
  by_cases h : w < 64
  · rw [unpackN_packN_mod]; exact pat_enc w h ds [] hd
  · rw [show w = 64 by omega, exc_64 ds 0 hd, unpackN_packN 64 ds (fun x hx => by have := hd x hx; omega)]
    rfl
theorem outs_fds {l : List Int} (h : ∀ x ∈ l, -9223372036854775808 ≤ x ∧ x < 9223372036854775808) : outs (zb l) (fds l) = l := by
  have hm := lmin_range h
  have hz := zig_range (lmin l) hm.1 hm.2
  have hu : unzig (zb l : Int) = lmin l := by
    unfold zb
    rw [show (((zig (lmin l)).toNat : Nat) : Int) = zig (lmin l) by omega, unzig_zig]
  unfold outs fds
  rw [List.map_map]
  conv => rhs; rw [← List.map_id l]
  apply List.map_congr_left
  intro v hv
  have h1 := h v hv
  simp only [Function.comp, id, hu, i64of]
  omega
theorem pat_length (w : Nat) : ∀ (ps : List (Nat × Nat)) (ds : List Int), (pat w ds ps).length = ds.length := by
  intro ps
  induction ps with
  | nil => intro ds; rfl
  | cons p ps ih => intro ds; simp only [pat]; rw [ih]; split <;> simp
theorem outs_range (z : Nat) (ds : List Int) : ∀ x ∈ outs z ds, -9223372036854775808 ≤ x ∧ x < 9223372036854775808 := by
  intro x hx
  simp only [outs, List.mem_map] at hx
  obtain ⟨d, _, rfl⟩ := hx
  unfold i64of; omega
theorem fbest_le (l : List Int) : fbest l ≤ 64 := argm_le _ _
/-- What was encoded is decoded, whatever stands behind it. -/
theorem fdec_enc {b R l : List Int} {o : Nat} (hl : l.length ≤ 65536) (hr : ∀ x ∈ l, -9223372036854775808 ≤ x ∧ x < 9223372036854775808) (ho : o ≤ b.length) (h : b.drop o = fenc l ++ R) :
    fdec b (o : Int) (l.length : Int) = (l, ((o + (fenc l).length : Nat) : Int), 0) := by
  obtain ⟨a, h1, h2, h3, h4, h5⟩ := hdr_enc (zb_lt hr) (fbest_le l) (fds_range l) (by rw [fds_len]; exact hl) ho h
  rw [fds_len] at h1 h2 h3 h4
  have hd := pat_dec (fbest l) (fbest_le l) (fds l) (fds_range l)
  rw [fds_len] at hd
  have ef : withW (zb l) (fds l) (fbest l) = fenc l := rfl
  rw [ef] at h4
  unfold fdec
  rw [if_neg (by omega)]
  simp only [Int.toNat_natCast, h1]
  rw [if_neg (by simp), if_neg (by omega)]
  simp only [h4]
  rw [if_neg (by simp)]
  simp only [h3, le_packed, hd, outs_fds hr]
  rw [if_pos]
  unfold seg
  rw [h, Int.toNat_natCast, Nat.add_sub_cancel_left, List.take_left]
/-- The second condition of a valid encoding. -/
theorem fenc_good {b : List Int} {o n : Nat} {z w k a : Nat} {ps : List (Nat × Nat)} {e : Int} {out : List Int} (hr : ∀ x ∈ out, -9223372036854775808 ≤ x ∧ x < 9223372036854775808) (hn : out.length = n) (hl : n ≤ 65536) (ho : o ≤ b.length)
    (h1 : hdr b (o : Int) n = (z, w, k, (a : Int), 0)) (h2 : rdp b k ((a + pbytes n w : Nat) : Int) = (ps, e, 0)) (h3 : fenc out = seg b o (e.toNat - o)) :
    (∀ p ∈ ps, p.1 < n) ∧ le (seg b a (pbytes n w)) < 2 ^ (w * n) := by
  have h4 : b.drop o = withW (zb out) (fds out) (fbest out) ++ (b.drop o).drop (e.toNat - o) := by
    have : withW (zb out) (fds out) (fbest out) = seg b o (e.toNat - o) := h3
    rw [this]; unfold seg; rw [List.take_append_drop]
  obtain ⟨a', g1, g2, g3, g4, g5⟩ := hdr_enc (zb_lt hr) (fbest_le out) (fds_range out) (by rw [fds_len]; omega) ho h4
  rw [fds_len, hn] at g1 g2 g3 g4
  rw [h1] at g1
  simp only [Prod.mk.injEq, and_true] at g1
  obtain ⟨rfl, rfl, rfl, ea⟩ := g1
  obtain rfl : a = a' := by omega
  rw [h2] at g4
  simp only [Prod.mk.injEq, and_true] at g4
  obtain ⟨rfl, _⟩ := g4
  refine ⟨fun p hp => ?_, ?_⟩
  · have := exc_mem (fbest out) (fds out) 0 (fds_range out) p hp
    rw [fds_len, hn] at this; omega
  · rw [g3, le_packed]
    have := packN_lt (fbest out) (fds out)
    rwa [fds_len, hn] at this

/-! ### sizes -/
theorem venc_small {n : Nat} (h : n < 128) : (venc n).length = 1 := by rw [venc_lt h]; rfl
theorem pts_len : ∀ (ps : List (Nat × Nat)), (∀ p ∈ ps, p.1 < 18446744073709551616 ∧ p.2 < 18446744073709551616) → (pts ps).length ≤ 20 * ps.length := by
  intro ps
  induction ps with
  | nil => intro _; exact Nat.le_refl _
  | cons p ps ih =>
    intro h
    have h1 := h p List.mem_cons_self
    have h2 := ih (fun q hq => h q (List.mem_cons_of_mem _ hq))
    have h3 := venc_len10 p.1 h1.1
    have h4 := venc_len10 p.2 h1.2
    simp only [pts, List.length_append, List.length_cons]
    omega
theorem fenc_len {l : List Int} (hl : l.length ≤ 65536) (hr : ∀ x ∈ l, -9223372036854775808 ≤ x ∧ x < 9223372036854775808) : (fenc l).length ≤ 31 + 28 * l.length := by
  have h1 := venc_len10 (zb l) (zb_lt hr)
  have h2 := fbest_le l
  have h3 := venc_len10 (fbest l) (by omega)
  have h4 := exc_len (fbest l) (fds l) 0
  rw [fds_len] at h4
  have h5 := venc_len10 (exc (fbest l) 0 (fds l)).length (by omega)
  have h6 := pts_len (exc (fbest l) 0 (fds l)) (fun p hp => by have := exc_mem (fbest l) (fds l) 0 (fds_range l) p hp; rw [fds_len] at this; omega)
  have h7 : pbytes l.length (fbest l) ≤ 8 * l.length + 1 := by
    unfold pbytes
    have : l.length * fbest l ≤ l.length * 64 := Nat.mul_le_mul_left _ h2
    omega
  unfold fenc withW
  simp only [List.length_append, packed_len, fds_len]
  omega
theorem fenc_pos (l : List Int) : 3 ≤ (fenc l).length := by
  unfold fenc withW
  have h1 := venc_pos (zb l)
  have h2 := venc_pos (fbest l)
  have h3 := venc_pos (exc (fbest l) 0 (fds l)).length
  simp only [List.length_append]
  omega
theorem szW_z (z z' : Nat) (ds : List Int) (w : Nat) : szW z ds w + (venc z').length = szW z' ds w + (venc z).length := by
  unfold szW withW
  simp only [List.length_append]
  omega
theorem best_z (z z' : Nat) (ds : List Int) : argm (szW z ds) 64 = argm (szW z' ds) 64 := argm_congr _ _ _ _ 64 (fun k _ => szW_z z z' ds k)
theorem argm_zero (f : Nat → Nat) : ∀ n, (∀ k, k ≤ n → f 0 ≤ f k) → argm f n = 0 := by
  intro n
  induction n with
  | zero => intro _; rfl
  | succ n ih =>
    intro h
    simp only [argm]
    rw [ih (fun k hk => h k (by omega)), if_neg (by have := h (n + 1) (Nat.le_refl _); omega)]
theorem exc_zeros (w : Nat) : ∀ (n i : Nat), exc w i (List.replicate n 0) = [] := by
  intro n
  induction n with
  | zero => intro i; rfl
  | succ n ih => intro i; rw [List.replicate_succ]; simp only [exc]; rw [if_pos (by simp [hi]), ih]
theorem sz_zeros (z n w : Nat) (hw : w ≤ 64) : szW z (List.replicate n 0) w = (venc z).length + 2 + pbytes n w := by
  unfold szW withW
  rw [exc_zeros]
  simp only [List.length_append, packed_len, List.length_replicate, List.length_nil, pts, venc_small (show w < 128 by omega), venc_small (show 0 < 128 by decide)]
  omega
theorem best_zeros (z n : Nat) : argm (szW z (List.replicate n 0)) 64 = 0 := by
  refine argm_zero _ _ (fun k hk => ?_)
  rw [sz_zeros z n 0 (by decide), sz_zeros z n k hk]
  have : pbytes n 0 = 0 := by unfold pbytes; omega
  omega
theorem lmin_replicate (n : Nat) (v : Int) : lmin (List.replicate (n + 1) v) = v := by
  have := fold_min_in (List.replicate n v) v
  rw [List.replicate_succ]
  simp only [lmin]
  rcases List.mem_cons.1 this with h | h
  · exact h
  · exact List.eq_of_mem_replicate h
theorem fds_replicate (n : Nat) (v : Int) : fds (List.replicate n v) = List.replicate n 0 := by
  cases n with
  | zero => rfl
  | succ n => unfold fds; rw [lmin_replicate]; simp
theorem fenc_replicate (n : Nat) (v : Int) : (fenc (List.replicate n v)).length = (venc (zb (List.replicate n v))).length + 2 := by
  unfold fenc fbest
  rw [fds_replicate, best_zeros]
  have := sz_zeros (zb (List.replicate n v)) n 0 (by decide)
  unfold szW at this
  rw [this]; unfold pbytes; omega
theorem fold_min_add (m : Int) : ∀ (l : List Int) (x : Int), (l.map (· + m)).foldl (fun b v => if v < b then v else b) (x + m) = l.foldl (fun b v => if v < b then v else b) x + m := by
  intro l
  induction l with
  | nil => intro x; rfl
  | cons y l ih =>
    intro x
    simp only [List.map_cons, List.foldl_cons]
    by_cases h : y < x
    · rw [if_pos h, if_pos (by omega), ih]
    · rw [if_neg h, if_neg (by omega), ih]
theorem fds_add (l : List Int) (m : Int) : fds (l.map (· + m)) = fds l := by
  cases l with
  | nil => rfl
  | cons x l =>
    unfold fds
    simp only [List.map_cons, lmin, fold_min_add, List.map_map]
    rw [show x + m - (l.foldl (fun b v => if v < b then v else b) x + m) = x - l.foldl (fun b v => if v < b then v else b) x by omega]
    congr 1
    apply List.map_congr_left
    intro v _
    simp only [Function.comp]
    congr 1
    omega
theorem fbest_add (l : List Int) (m : Int) : fbest (l.map (· + m)) = fbest l := by
  unfold fbest
  rw [fds_add]
  exact best_z _ _ _
end Go.Proofs.YtllhbjkkoogeeaaM
