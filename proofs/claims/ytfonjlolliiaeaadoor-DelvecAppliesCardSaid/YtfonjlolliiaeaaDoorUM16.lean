/- Sets of small numbers, encoded by runs: plain Lean. -/
import Derived.Test.YtfonjlolliiaeaaDoorUM12
set_option linter.unusedVariables false
set_option linter.unusedSimpArgs false
namespace Go.Proofs.YtfonjlolliiaeaaDoorM
open Go Go.RowKit Go.Proofs.YtfonjlolliiaeaaDoorW.PrintWords

/-! ### the bits in order, and their runs -/
def fl (f : Nat → Bool) : Nat → Nat → List Bool
  | _, 0 => []
  | lo, d + 1 => f lo :: fl f (lo + 1) d
theorem fl_len (f : Nat → Bool) : ∀ d lo, (fl f lo d).length = d := by
  intro d
  induction d with
  | zero => intro lo; rfl
  | succ d ih => intro lo; simp [fl, ih]
theorem fl_get (f : Nat → Bool) : ∀ d lo i, i < d → (fl f lo d).getD i false = f (lo + i) := by
  intro d
  induction d with
  | zero => intro lo i h; omega
  | succ d ih =>
    intro lo i h
    cases i with
    | zero => rfl
    | succ i => simp only [fl, List.getD_cons_succ]; rw [ih (lo + 1) i (by omega)]; congr 1; omega
theorem fl_of (l : List Bool) : l = fl (fun i => l.getD i false) 0 l.length := by
  apply List.ext_getElem
  · rw [fl_len]
  · intro i h1 h2
    have h3 := fl_get (fun i => l.getD i false) l.length 0 i h1
    rw [List.getD_eq_getElem?_getD, List.getElem?_eq_getElem h2, Nat.zero_add, List.getD_eq_getElem?_getD, List.getElem?_eq_getElem h1] at h3
    simpa using h3.symm
theorem fl_congr {f g : Nat → Bool} : ∀ d lo, (∀ i, lo ≤ i → i < lo + d → f i = g i) → fl f lo d = fl g lo d := by
  intro d
  induction d with
  | zero => intro lo _; rfl
  | succ d ih => intro lo h; simp only [fl]; rw [h lo (Nat.le_refl _) (by omega), ih (lo + 1) (fun i h1 h2 => h i (by omega) (by omega))]
theorem fl_map (f : Nat → Bool) : ∀ d lo, fl f lo d = (List.range d).map fun i => f (lo + i) := by
  intro d lo
  apply List.ext_getElem
  · simp [fl_len]
  · intro i h1 h2
    have h3 := fl_get f d lo i (by rw [fl_len] at h1; exact h1)
    rw [List.getD_eq_getElem?_getD, List.getElem?_eq_getElem h1] at h3
    simpa using h3
/-- The encoding of the runs. -/
def rnb : List Bool → Bool → Nat → List Int
  | [], _, n => venc n
  | x :: l, on, n => if x = on then rnb l on (n + 1) else venc n ++ rnb l x 1
def benc (n : Nat) (l : List Bool) : List Int := venc n ++ (if n = 0 then [] else rnb l false 0)
/-! ### by the elements -/
structure ES where
  P : List Int
  on : Bool
  run : Int
  pos : Int
def eflush (s : ES) : ES := ⟨s.P ++ venc s.run.toNat, !s.on, 0, s.pos⟩
def eadv (s : ES) (i : Int) : ES := if s.pos < i then ⟨(if s.on then eflush s else s).P, (if s.on then eflush s else s).on, (if s.on then eflush s else s).run + (i - s.pos), s.pos⟩ else s
def eset (s : ES) : ES := if s.on then s else eflush s
def estep (s : ES) (i : Int) : ES := ⟨(eset (eadv s i)).P, (eset (eadv s i)).on, (eset (eadv s i)).run + 1, i + 1⟩
def efold (N : Int) (xs : List Int) : ES := xs.foldl estep ⟨venc N.toNat, false, 0, 0⟩
def efin (s : ES) (N : Int) : List Int := if 0 < N then (eflush (eadv s N)).P else (eadv s N).P
def bencI (N : Int) (xs : List Int) : List Int := efin (efold N xs) N
theorem efold_snoc (N : Int) (xs : List Int) (x : Int) : efold N (xs ++ [x]) = estep (efold N xs) x := by simp [efold]
theorem eadv_inv (s : ES) (i : Int) (h : s.pos < i) : eadv s i = if s.on then ⟨s.P ++ venc s.run.toNat, false, i - s.pos, s.pos⟩ else ⟨s.P, false, s.run + (i - s.pos), s.pos⟩ := by
  unfold eadv
  rw [if_pos h]
  by_cases c : s.on = true
  · simp [c, eflush]
  · have c' : s.on = false := by simpa using c
    simp [c']
theorem eadv_same (s : ES) (i : Int) (h : ¬ s.pos < i) : eadv s i = s := by unfold eadv; rw [if_neg h]
theorem benc_inv (ws : List Int) (n : Nat) : ∀ i, i ≤ n →
    let s := efold (n : Int) (elsI ws i)
    0 ≤ s.pos ∧ s.pos ≤ i ∧ 0 ≤ s.run ∧ s.run ≤ s.pos ∧ (eadv s i).run ≤ i ∧ 0 ≤ (eadv s i).run ∧
      venc n ++ rnb (fl (gb ws) 0 n) false 0 = (eadv s i).P ++ rnb (fl (gb ws) i (n - i)) (eadv s i).on (eadv s i).run.toNat := by
  intro i
  induction i with
  | zero =>
    intro _
    have e : efold (n : Int) (elsI ws 0) = ⟨venc n, false, 0, 0⟩ := by simp [efold, elsI, els]
    simp only [e]
    rw [eadv_same _ _ (by simp)]
    simp
  | succ i ih =>
    intro hi
    obtain ⟨h1, h2, h3, h4, h5, h6, h7⟩ := ih (by omega)
    have hd : fl (gb ws) i (n - i) = gb ws i :: fl (gb ws) (i + 1) (n - (i + 1)) := by
      rw [show n - i = (n - (i + 1)) + 1 by omega]; rfl
    rw [hd] at h7
    have he : elsI ws (i + 1) = if gb ws i = true then elsI ws i ++ [(i : Int)] else elsI ws i := by
      unfold elsI
      rw [els_split i 0 1, Nat.zero_add]
      by_cases h : gb ws i = true
      · rw [if_pos h]
        have : els (gb ws) i 1 = [i] := by simp [els, h]
        rw [this, List.map_append]; rfl
      · rw [if_neg h]
        have : els (gb ws) i 1 = [] := by simp [els, h]
        rw [this, List.append_nil]
    obtain ⟨s, hs⟩ : ∃ s, s = efold (n : Int) (elsI ws i) := ⟨_, rfl⟩
    rw [← hs] at h1 h2 h3 h4 h5 h6 h7
    by_cases hg : gb ws i = true
    · rw [if_pos hg] at he
      rw [he, efold_snoc, ← hs]
      rw [hg] at h7
      have hsame : eadv (estep s (i : Int)) ((i + 1 : Nat) : Int) = estep s (i : Int) := eadv_same _ _ (by simp [estep])
      simp only [hsame]
      obtain ⟨t, ht⟩ : ∃ t, t = eadv s (i : Int) := ⟨_, rfl⟩
      rw [← ht] at h5 h6 h7
      have hu : estep s (i : Int) = ⟨(eset t).P, (eset t).on, (eset t).run + 1, (i : Int) + 1⟩ := by rw [ht]; rfl
      rw [hu]
      by_cases c : t.on = true
      · have e1 : eset t = t := by simp [eset, c]
        rw [e1]
        rw [c] at h7 ⊢
        simp only [rnb, if_true] at h7
        refine ⟨by simp; omega, by simp, by simp; omega, by simp; omega, by simp; omega, by simp; omega, ?_⟩
        rw [h7]
        simp only
        rw [show (t.run + 1).toNat = t.run.toNat + 1 by omega]
      · have c' : t.on = false := by simpa using c
        have e1 : eset t = ⟨t.P ++ venc t.run.toNat, true, 0, t.pos⟩ := by simp [eset, c', eflush]
        rw [e1]
        rw [c'] at h7
        simp only [rnb, Bool.true_eq_false, if_false] at h7
        refine ⟨by simp; omega, by simp, by simp, by simp; omega, by simp; omega, by simp, ?_⟩
        rw [h7]
        simp
    · rw [if_neg hg] at he
      have hg' : gb ws i = false := by simpa using hg
      rw [he, ← hs]
      rw [hg'] at h7
      have hlt : s.pos < ((i + 1 : Nat) : Int) := by omega
      have hA := eadv_inv s _ hlt
      refine ⟨h1, by omega, h3, h4, ?_⟩
      by_cases c0 : s.pos < (i : Int)
      · have hB := eadv_inv s _ c0
        rw [hB] at h5 h6 h7
        rw [hA]
        by_cases c : s.on = true
        · simp only [c, if_true] at h5 h6 h7 ⊢
          simp only [rnb, if_true] at h7
          refine ⟨by omega, by omega, ?_⟩
          rw [h7, show (((i + 1 : Nat) : Int) - s.pos).toNat = ((i : Int) - s.pos).toNat + 1 by omega]
        · have c' : s.on = false := by simpa using c
          simp only [c', Bool.false_eq_true, if_false] at h5 h6 h7 ⊢
          simp only [rnb, if_true] at h7
          refine ⟨by omega, by omega, ?_⟩
          rw [h7, show (s.run + (((i + 1 : Nat) : Int) - s.pos)).toNat = (s.run + ((i : Int) - s.pos)).toNat + 1 by omega]
      · have hB := eadv_same s _ c0
        rw [hB] at h5 h6 h7
        have hp : s.pos = (i : Int) := by omega
        rw [hA]
        by_cases c : s.on = true
        · simp only [c, if_true] at h5 h6 h7 ⊢
          simp only [rnb, Bool.false_eq_true, if_false] at h7
          refine ⟨by omega, by omega, ?_⟩
          rw [h7, show (((i + 1 : Nat) : Int) - s.pos).toNat = 1 by omega, List.append_assoc]
        · have c' : s.on = false := by simpa using c
          simp only [c', Bool.false_eq_true, if_false] at h5 h6 h7 ⊢
          simp only [rnb, if_true] at h7
          refine ⟨by omega, by omega, ?_⟩
          rw [h7, show (s.run + (((i + 1 : Nat) : Int) - s.pos)).toNat = s.run.toNat + 1 by omega]
theorem benc_eq (ws : List Int) (n : Nat) : bencI (n : Int) (elsI ws n) = benc n (fl (gb ws) 0 n) := by
  obtain ⟨h1, h2, h3, h4, h5, h6, h7⟩ := benc_inv ws n n (Nat.le_refl _)
  rw [Nat.sub_self] at h7
  simp only [fl, rnb] at h7
  unfold bencI efin benc
  by_cases c : n = 0
  · subst c
    rw [if_neg (by simp), if_pos rfl]
    have e : efold ((0 : Nat) : Int) (elsI ws 0) = ⟨venc 0, false, 0, 0⟩ := by simp [efold, elsI, els]
    rw [e, eadv_same _ _ (by simp)]
    simp
  · rw [if_pos (by omega), if_neg c, h7]
    rfl
theorem els_pw (f : Nat → Bool) : ∀ (n lo : Nat), (els f lo n).Pairwise (· < ·) := by
  intro n
  induction n with
  | zero => intro lo; exact List.Pairwise.nil
  | succ n ih =>
    intro lo
    simp only [els]
    split
    · exact List.pairwise_cons.2 ⟨fun x hx => by have := els_mem n (lo + 1) x hx; omega, ih (lo + 1)⟩
    · exact ih (lo + 1)
theorem elsI_pw (ws : List Int) (n : Nat) : (elsI ws n).Pairwise (· < ·) := by
  unfold elsI
  refine List.pairwise_map.2 ((els_pw (gb ws) n 0).imp ?_)
  intro a b h
  exact Int.ofNat_lt.2 h
theorem elsI_rng (ws : List Int) (n : Nat) : ∀ x ∈ elsI ws n, 0 ≤ x ∧ x < (n : Int) := by
  intro x hx
  unfold elsI at hx
  obtain ⟨i, hi, rfl⟩ := List.mem_map.1 hx
  have := els_mem n 0 i hi
  omega
theorem elsI_len2 (ws : List Int) (n : Nat) : (elsI ws n).length ≤ n := by unfold elsI; rw [List.length_map]; exact els_len_le n 0
/-- Sizes on the way. -/
theorem eadv_len (s : ES) (i : Int) (h0 : 0 ≤ s.run) (h1 : s.run < 18446744073709551616) : (eadv s i).P.length ≤ s.P.length + 10 := by
  unfold eadv
  split
  · simp only
    split
    · simp only [eflush, List.length_append]
      have := venc_len10 s.run.toNat (by omega)
      omega
    · omega
  · omega
theorem eset_len (s : ES) (h0 : 0 ≤ s.run) (h1 : s.run < 18446744073709551616) : (eset s).P.length ≤ s.P.length + 10 := by
  unfold eset
  split
  · omega
  · simp only [eflush, List.length_append]
    have := venc_len10 s.run.toNat (by omega)
    omega
/-- What holds of the state behind whatever numbers below M. -/
theorem efold_inv (N : Int) (M : Nat) (hN : 0 ≤ N) (hN2 : N < 18446744073709551616) (hM2 : M ≤ 2000000) : ∀ (xs : List Int), (∀ x ∈ xs, 0 ≤ x ∧ x < (M : Int)) → xs.length ≤ 2000000 →
    0 ≤ (efold N xs).pos ∧ (efold N xs).pos ≤ M ∧ 0 ≤ (efold N xs).run ∧ (efold N xs).run ≤ 2000001 * xs.length ∧ (efold N xs).P.length ≤ 10 + 20 * xs.length := by
  intro ys
  obtain ⟨n, hn⟩ : ∃ n, n = ys.length := ⟨_, rfl⟩
  induction n generalizing ys with
  | zero =>
    intro _ _
    obtain rfl : ys = [] := List.eq_nil_of_length_eq_zero hn.symm
    have := venc_len10 N.toNat (by omega)
    simp [efold]
    omega
  | succ n ih' =>
    obtain ⟨xs, x, rfl⟩ : ∃ xs x, ys = xs ++ [x] := by
      rcases List.eq_nil_or_concat ys with e | ⟨xs, x, e⟩
      · rw [e] at hn; simp at hn
      · exact ⟨xs, x, by rw [e]; simp⟩
    intro hr hlen
    simp only [List.length_append, List.length_singleton] at hn hlen ⊢
    obtain ⟨h1, h2, h3, h4, h5⟩ := ih' xs (by omega) (fun y hy => hr y (List.mem_append_left _ hy)) (by omega)
    have hx := hr x (List.mem_append_right _ List.mem_cons_self)
    rw [efold_snoc]
    obtain ⟨s, hs⟩ : ∃ s, s = efold N xs := ⟨_, rfl⟩
    rw [← hs] at h1 h2 h3 h4 h5 ⊢
    have ha : 0 ≤ (eadv s x).run ∧ (eadv s x).run ≤ s.run + M := by
      by_cases c : s.pos < x
      · rw [eadv_inv s x c]
        split
        · exact ⟨by simp only; omega, by simp only; omega⟩
        · exact ⟨by simp only; omega, by simp only; omega⟩
      · rw [eadv_same s x c]
        exact ⟨h3, by omega⟩
    have hl := eadv_len s x h3 (by omega)
    have hl2 := eset_len (eadv s x) ha.1 (by omega)
    have hrun : 0 ≤ (eset (eadv s x)).run ∧ (eset (eadv s x)).run ≤ s.run + M := by
      unfold eset
      split
      · exact ha
      · simp [eflush]; omega
    simp only [estep]
    refine ⟨by omega, by omega, by omega, by omega, by omega⟩
/-! ### decoding -/
def bdc (b : List Int) (N : Nat) : Nat → Int → List Bool → Bool → List Bool × Int × Int
  | 0, t, acc, _ => (acc, t, 0)
  | d + 1, t, acc, on =>
    if acc.length < N then
      if (vdec b t).2.2 = 0 then
        if ((vdec b t).1 = 0 ∧ (on = true ∨ 0 < acc.length)) ∨ (N : Int) - acc.length < (vdec b t).1 then ([], 0, 4)
        else bdc b N d (vdec b t).2.1 (acc ++ List.replicate (vdec b t).1.toNat on) (!on)
      else ([], 0, (vdec b t).2.2)
    else (acc, t, 0)
theorem bdc_full (b : List Int) (N d : Nat) (t : Int) (acc : List Bool) (on : Bool) (h : ¬ acc.length < N) : bdc b N d t acc on = (acc, t, 0) := by
  cases d with
  | zero => rfl
  | succ d => unfold bdc; rw [if_neg h]
theorem b_vdec_enc {b R : List Int} {o n : Nat} (hn : n < 18446744073709551616) (ho : o ≤ b.length) (h : b.drop o = venc n ++ R) : vdec b (o : Int) = ((n : Int), ((o + (venc n).length : Nat) : Int), 0) := by
  have h1 := vd_venc o b R 10 0 0 n (b.take o) rfl (by decide) (by simpa using hn) (fun h => absurd h (by decide)) (by rw [← h, List.take_append_drop]) (by rw [List.length_take]; omega)
  unfold vdec
  rw [if_neg (by omega), Int.toNat_natCast, h1, List.length_take, Nat.min_eq_left ho]
  simp
theorem b_drop_app {b x y : List Int} {o : Nat} (h : b.drop o = x ++ y) : b.drop (o + x.length) = y := by
  rw [← List.drop_drop, h, List.drop_left]
theorem b_off_le {b x : List Int} {o : Nat} (ho : o ≤ b.length) {y : List Int} (h : b.drop o = x ++ y) : o + x.length ≤ b.length := by
  have := congrArg List.length h
  rw [List.length_drop, List.length_append] at this
  omega
theorem b_vdec_ok {b : List Int} (hb : ∀ x ∈ b, 0 ≤ x ∧ x < 256) {o : Int} (h : (vdec b o).2.2 = 0) :
    ∃ n a : Nat, o = a ∧ (vdec b o).1 = n ∧ n < 18446744073709551616 ∧ (vdec b o).2.1 = ((a + (venc n).length : Nat) : Int) ∧ a + (venc n).length ≤ b.length ∧ b.drop a = venc n ++ b.drop (a + (venc n).length) := by
  obtain ⟨v, t, e⟩ : ∃ v t, vdec b o = (v, t, 0) := ⟨(vdec b o).1, (vdec b o).2.1, by rw [← h]⟩
  rw [e]
  unfold vdec at e
  by_cases h1 : o < 0 ∨ (b.length : Int) < o
  · rw [if_pos h1] at e; simp at e
  · rw [if_neg h1] at e
    obtain ⟨n, e1, e2, _, e3, e4, e5⟩ := vd_ok o.toNat b hb 10 0 0 v t rfl e
    simp only [Nat.pow_zero, Nat.mul_one, Nat.zero_add, Nat.add_zero] at e1 e2 e3 e4 e5
    refine ⟨n, o.toNat, by omega, e1, e2, e3, e4, ?_⟩
    rw [← List.drop_drop]
    have h6 := List.take_append_drop (venc n).length (b.drop o.toNat)
    rw [e5] at h6
    exact h6.symm
theorem rnb_rep (on : Bool) (r : List Bool) : ∀ (k n : Nat), rnb (List.replicate k on ++ r) on n = rnb r on (n + k) := by
  intro k
  induction k with
  | zero => intro n; rfl
  | succ k ih => intro n; rw [List.replicate_succ, List.cons_append]; simp only [rnb, if_true]; rw [ih]; congr 1; omega
theorem rnb_turn (on : Bool) (r : List Bool) (k : Nat) (h : r.head? = some (!on)) : rnb r on k = venc k ++ rnb r (!on) 0 := by
  cases r with
  | nil => simp at h
  | cons x r =>
    simp only [List.head?_cons, Option.some.injEq] at h
    subst h
    have : ¬ ((!on) = on) := by cases on <;> simp
    simp only [rnb, if_true, if_neg this, Nat.zero_add]
/-- How many rounds at most. -/
def fuelB (N : Nat) (acc : List Bool) (on : Bool) (d : Nat) : Prop := N - acc.length + (if on = false ∧ acc.length = 0 then 1 else 0) ≤ d
theorem fuelB_step {N : Nat} {acc : List Bool} {on : Bool} {d n : Nat} (h : fuelB N acc on (d + 1)) (hlt : acc.length < N) (hk : ¬ (n = 0 ∧ (on = true ∨ 0 < acc.length))) : fuelB N (acc ++ List.replicate n on) (!on) d := by
  unfold fuelB at h ⊢
  rw [List.length_append, List.length_replicate]
  cases on with
  | true =>
    have : n ≠ 0 := fun e => hk ⟨e, .inl rfl⟩
    simp at h ⊢
    rw [if_neg (by omega)]
    omega
  | false =>
    simp at h ⊢
    by_cases c : acc.length = 0
    · have e : acc = [] := List.eq_nil_of_length_eq_zero c
      subst e
      simp at h ⊢
      omega
    · have : n ≠ 0 := fun e => hk ⟨e, .inr (by omega)⟩
      omega
theorem bdc_ok (b : List Int) (hb : ∀ x ∈ b, 0 ≤ x ∧ x < 256) (N : Nat) : ∀ (d : Nat) (t : Int) (acc : List Bool) (on : Bool) (l : List Bool) (t' : Int), bdc b N d t acc on = (l, t', 0) → acc.length < N → fuelB N acc on d →
    ∃ (a a' : Nat) (r : List Bool), t = a ∧ t' = a' ∧ a ≤ a' ∧ a' ≤ b.length ∧ l = acc ++ r ∧ l.length = N ∧ b.drop a = rnb r on 0 ++ b.drop a' ∧ a' = a + (rnb r on 0).length ∧ ((on = true ∨ 0 < acc.length) → r.head? = some on) := by
  intro d
  induction d with
  | zero => intro t acc on l t' _ h1 h2; unfold fuelB at h2; omega
  | succ d ih =>
    intro t acc on l t' h h1 h2
    unfold bdc at h
    rw [if_pos h1] at h
    by_cases c0 : (vdec b t).2.2 = 0
    rotate_left
    · rw [if_neg c0] at h
      simp only [Prod.mk.injEq] at h
      exact absurd h.2.2 c0
    rw [if_pos c0] at h
    obtain ⟨n, a, rfl, e1, hn, e2, hle, hdr⟩ := b_vdec_ok hb c0
    rw [e1, e2, Int.toNat_natCast] at h
    by_cases c1 : ((n : Int) = 0 ∧ (on = true ∨ 0 < acc.length)) ∨ (N : Int) - acc.length < (n : Int)
    · rw [if_pos c1] at h; simp at h
    rw [if_neg c1] at h
    have hk : ¬ (n = 0 ∧ (on = true ∨ 0 < acc.length)) := fun e => c1 (.inl ⟨by omega, e.2⟩)
    have hkN : n ≤ N - acc.length := by
      rcases Nat.lt_or_ge (N - acc.length) n with g | g
      · exact absurd (.inr (by omega)) c1
      · exact g
    by_cases c2 : (acc ++ List.replicate n on).length < N
    · obtain ⟨a1, a', r, q1, q2, q3, q4, q5, q6, q7, q8, q9⟩ := ih _ _ _ l t' h c2 (fuelB_step h2 h1 hk)
      have ea : a1 = a + (venc n).length := by omega
      subst ea
      have hh : r.head? = some (!on) := q9 (by
        cases on with
        | false => exact .inl rfl
        | true => exact .inr (by
            have : n ≠ 0 := fun e => hk ⟨e, .inl rfl⟩
            rw [List.length_append, List.length_replicate]; omega))
      have hrn : rnb (List.replicate n on ++ r) on 0 = venc n ++ rnb r (!on) 0 := by rw [rnb_rep, Nat.zero_add, rnb_turn on r n hh]
      refine ⟨a, a', List.replicate n on ++ r, rfl, q2, by omega, q4, by rw [q5, List.append_assoc], q6, ?_, ?_, fun hc => ?_⟩
      · rw [hdr, q7, hrn, List.append_assoc]
      · rw [hrn, List.length_append]; omega
      · have : n ≠ 0 := fun e => hk ⟨e, hc⟩
        obtain ⟨m, rfl⟩ : ∃ m, n = m + 1 := ⟨n - 1, by omega⟩
        simp [List.replicate_succ]
    · rw [bdc_full b N d _ _ _ c2] at h
      simp only [Prod.mk.injEq] at h
      obtain ⟨rfl, rfl, _⟩ := h
      have hrn : rnb (List.replicate n on) on 0 = venc n := by
        have := rnb_rep on [] n 0
        rw [List.append_nil, Nat.zero_add] at this
        rw [this]; rfl
      refine ⟨a, a + (venc n).length, List.replicate n on, rfl, rfl, by omega, hle, rfl, ?_, ?_, ?_, fun hc => ?_⟩
      · rw [List.length_append, List.length_replicate] at c2 ⊢; omega
      · rw [hrn]; exact hdr
      · rw [hrn]
      · have : n ≠ 0 := fun e => hk ⟨e, hc⟩
        obtain ⟨m, rfl⟩ : ∃ m, n = m + 1 := ⟨n - 1, by omega⟩
        simp [List.replicate_succ]
theorem lead (on : Bool) : ∀ (r : List Bool), ∃ k r', r = List.replicate k on ++ r' ∧ (r' = [] ∨ r'.head? = some (!on)) := by
  intro r
  induction r with
  | nil => exact ⟨0, [], rfl, .inl rfl⟩
  | cons x r ih =>
    by_cases c : x = on
    · obtain ⟨k, r', e, h⟩ := ih
      exact ⟨k + 1, r', by rw [List.replicate_succ, List.cons_append, ← e, c], h⟩
    · refine ⟨0, x :: r, rfl, .inr ?_⟩
      simp only [List.head?_cons, Option.some.injEq]
      cases x <;> cases on <;> simp_all
theorem bdc_enc (b R : List Int) (N : Nat) (hN : N < 18446744073709551616) : ∀ (d a : Nat) (acc r : List Bool) (on : Bool), b.drop a = rnb r on 0 ++ R → a ≤ b.length → r ≠ [] → acc.length + r.length = N → ((on = true ∨ 0 < acc.length) → r.head? = some on) → fuelB N acc on d →
    bdc b N d (a : Int) acc on = (acc ++ r, ((a + (rnb r on 0).length : Nat) : Int), 0) := by
  intro d
  induction d with
  | zero =>
    intro a acc r on _ _ h1 h2 _ h3
    have : r.length ≠ 0 := fun e => h1 (List.eq_nil_of_length_eq_zero e)
    unfold fuelB at h3; omega
  | succ d ih =>
    intro a acc r on hb ha hne hlen hh hf
    have hpos : r.length ≠ 0 := fun e => hne (List.eq_nil_of_length_eq_zero e)
    have hlt : acc.length < N := by omega
    obtain ⟨k, r', hr, hr'⟩ := lead on r
    have hkl : k + r'.length = r.length := by rw [hr, List.length_append, List.length_replicate]
    have hk0 : ¬ (k = 0 ∧ (on = true ∨ 0 < acc.length)) := by
      rintro ⟨e, hc⟩
      have h1 := hh hc
      subst e
      rw [hr, List.replicate_zero, List.nil_append] at h1
      rcases hr' with e | e
      · rw [e] at h1; simp at h1
      · rw [e] at h1; cases on <;> simp at h1
    have hstep : ∀ (X : List Int), b.drop a = venc k ++ X → bdc b N (d + 1) (a : Int) acc on = bdc b N d ((a + (venc k).length : Nat) : Int) (acc ++ List.replicate k on) (!on) := by
      intro X hX
      have hv := b_vdec_enc (b := b) (R := X) (o := a) (n := k) (by omega) ha hX
      conv => lhs; unfold bdc
      rw [if_pos hlt, hv]
      simp only [Int.toNat_natCast]
      rw [if_pos True.intro, if_neg]
      rintro (⟨e, hc⟩ | e)
      · exact hk0 ⟨by omega, hc⟩
      · omega
    rcases hr' with e | e
    · subst e
      rw [List.append_nil] at hr
      have hrn : rnb r on 0 = venc k := by
        have := rnb_rep on [] k 0
        rw [List.append_nil, Nat.zero_add] at this
        rw [hr, this]; rfl
      rw [hrn] at hb ⊢
      rw [hstep _ hb, bdc_full _ _ _ _ _ _ (by rw [List.length_append, List.length_replicate]; simp at hkl; omega), hr]
    · have hrn : rnb r on 0 = venc k ++ rnb r' (!on) 0 := by rw [hr, rnb_rep, Nat.zero_add, rnb_turn on r' k e]
      rw [hrn, List.append_assoc] at hb
      have hle := b_off_le ha hb
      have hd := b_drop_app hb
      rw [hstep _ hb, ih (a + (venc k).length) (acc ++ List.replicate k on) r' (!on) hd hle (by intro e0; rw [e0] at e; simp at e) (by rw [List.length_append, List.length_replicate]; omega) (fun _ => e) (fuelB_step hf hlt hk0)]
      rw [hrn, List.length_append]
      congr 1
      · rw [List.append_assoc]; conv => rhs; rw [hr]
      · congr 1; congr 1; omega
/-- A set at an offset: the size, its bits, the offset behind it, the error. -/
def bdec (b : List Int) (o : Int) : Int × List Bool × Int × Int :=
  if (vdec b o).2.2 = 0 then
    if (vdec b o).1 > 1048576 then (0, [], 0, 6)
    else if (bdc b (vdec b o).1.toNat ((vdec b o).1.toNat + 1) (vdec b o).2.1 [] false).2.2 = 0 then
      ((vdec b o).1, (bdc b (vdec b o).1.toNat ((vdec b o).1.toNat + 1) (vdec b o).2.1 [] false).1, (bdc b (vdec b o).1.toNat ((vdec b o).1.toNat + 1) (vdec b o).2.1 [] false).2.1, 0)
    else (0, [], 0, (bdc b (vdec b o).1.toNat ((vdec b o).1.toNat + 1) (vdec b o).2.1 [] false).2.2)
  else (0, [], 0, (vdec b o).2.2)
theorem fuelB_start (N : Nat) : fuelB N [] false (N + 1) := by unfold fuelB; simp
theorem bdec_enc {b R : List Int} {o n : Nat} {l : List Bool} (hn : n ≤ 1048576) (hl : l.length = n) (ho : o ≤ b.length) (h : b.drop o = benc n l ++ R) : bdec b (o : Int) = ((n : Int), l, ((o + (benc n l).length : Nat) : Int), 0) := by
  unfold benc at h ⊢
  rw [List.append_assoc] at h
  have hv := b_vdec_enc (by omega) ho h
  have hle := b_off_le ho h
  have hd := b_drop_app h
  have key : bdc b n (n + 1) ((o + (venc n).length : Nat) : Int) [] false = (l, ((o + (venc n).length + (if n = 0 then ([] : List Int) else rnb l false 0).length : Nat) : Int), 0) := by
    by_cases c : n = 0
    · subst c
      have : l = [] := List.eq_nil_of_length_eq_zero hl
      subst this
      rw [bdc_full _ _ _ _ _ _ (by simp)]; simp
    · rw [if_neg c] at hd ⊢
      have := bdc_enc b R n (by omega) (n + 1) (o + (venc n).length) [] l false hd hle (by intro e; rw [e] at hl; simp at hl; omega) (by simpa using hl) (fun h => by simp at h) (fuelB_start n)
      rw [this]; simp
  unfold bdec
  rw [hv]
  simp only [Int.toNat_natCast]
  rw [if_pos True.intro, if_neg (by omega), key]
  simp only
  rw [if_pos True.intro, List.length_append]
  congr 1
  congr 1
  congr 1
  congr 1
  omega
theorem bdec_ok {b : List Int} (hb : ∀ x ∈ b, 0 ≤ x ∧ x < 256) {o : Int} (h : (bdec b o).2.2.2 = 0) :
    ∃ n a a' : Nat, o = a ∧ (bdec b o).1 = n ∧ n ≤ 1048576 ∧ (bdec b o).2.1.length = n ∧ (bdec b o).2.2.1 = (a' : Int) ∧ a' ≤ b.length ∧ a' = a + (benc n (bdec b o).2.1).length ∧ b.drop a = benc n (bdec b o).2.1 ++ b.drop a' := by
  unfold bdec at h ⊢
  by_cases c0 : (vdec b o).2.2 = 0
  rotate_left
  · rw [if_neg c0] at h; exact absurd h c0
  rw [if_pos c0] at h ⊢
  obtain ⟨n, a, rfl, e1, hn, e2, hle, hdr⟩ := b_vdec_ok hb c0
  rw [e1, e2] at h ⊢
  simp only [Int.toNat_natCast] at h ⊢
  by_cases c1 : (n : Int) > 1048576
  · rw [if_pos c1] at h; simp at h
  rw [if_neg c1] at h ⊢
  obtain ⟨l, t', e, hq⟩ : ∃ l t' e, bdc b n (n + 1) ((a + (venc n).length : Nat) : Int) [] false = (l, t', e) := ⟨_, _, _, rfl⟩
  rw [hq] at h ⊢
  simp only at h ⊢
  by_cases c2 : e = 0
  rotate_left
  · rw [if_neg c2] at h; exact absurd h c2
  subst c2
  rw [if_pos rfl]
  simp only
  unfold benc
  by_cases c : n = 0
  · subst c
    rw [bdc_full _ _ _ _ _ _ (by simp)] at hq
    simp only [Prod.mk.injEq] at hq
    obtain ⟨rfl, rfl, _⟩ := hq
    exact ⟨0, a, a + (venc 0).length, rfl, rfl, by omega, rfl, rfl, hle, by simp, by simpa using hdr⟩
  · obtain ⟨a1, a', r, q1, q2, q3, q4, q5, q6, q7, q8, _⟩ := bdc_ok b hb n (n + 1) _ [] false l t' hq (by simp; omega) (fuelB_start n)
    rw [List.nil_append] at q5
    subst q5
    have ea : a1 = a + (venc n).length := by omega
    subst ea
    refine ⟨n, a, a', rfl, rfl, by omega, q6, q2, q4, ?_, ?_⟩
    · rw [if_neg c, List.length_append]; omega
    · rw [if_neg c, hdr, q7, List.append_assoc]
end Go.Proofs.YtfonjlolliiaeaaDoorM
