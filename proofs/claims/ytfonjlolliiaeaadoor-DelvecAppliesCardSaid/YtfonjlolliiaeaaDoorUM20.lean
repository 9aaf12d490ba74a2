import Derived.Test.YtfonjlolliiaeaaDoorULast
import Derived.OrdersIn
import Derived.Orders
/-! A region that draws its order and calls nobody, inside a round: walked by the steps of a plain one. -/
set_option linter.unusedVariables false
set_option linter.unusedSimpArgs false
namespace Go.Proofs.YtfonjlolliiaeaaDoorM
open Go Go.RowKit Go.Proofs.YtfonjlolliiaeaaDoorW.PrintLast
def calmB (o : Oper) : Bool := match o.op with
  | .move _ | .assign _ | .load _ _ | .store _ _ _ | .indexAddr _ _ _ | .buildSlice _ _ _ | .binOp _ _ _ _ _ => true
  | .call c => match c.callee with
    | .builtin .append | .builtin .len => true
    | _ => false
  | _ => false
theorem calm_value {P : Program} {F : Fence} {n : Nat} {o : Oper} {a : Act} {K K' : Act → World → Prop} {Q : Exit → Act → World → Prop} {w : World} (s : Sem Value) (hK : ∀ a w, K a w → K' a w)
    (h : o.upon P a K Q ((do pure (Next.value (← s)) : Sem Next).run P w)) : o.uponIn F n P a K' Q ((do pure (Next.value (← s)) : Sem Next).run P w) := by
  rw [Sem.run_bind] at h ⊢
  cases hr : s.run P w with
  | ok v w' => rw [hr] at h; exact hK _ _ h
  | halt x w' => rw [hr] at h; cases x <;> first | exact h | exact h.elim
theorem calm_unit {P : Program} {F : Fence} {n : Nat} {o : Oper} {a : Act} {K K' : Act → World → Prop} {Q : Exit → Act → World → Prop} {w : World} (s : Sem Unit) (hK : ∀ a w, K a w → K' a w)
    (h : o.upon P a K Q ((do s; pure Next.skip : Sem Next).run P w)) : o.uponIn F n P a K' Q ((do s; pure Next.skip : Sem Next).run P w) := by
  rw [Sem.run_bind] at h ⊢
  cases hr : s.run P w with
  | ok v w' => rw [hr] at h; exact hK _ _ h
  | halt x w' => rw [hr] at h; cases x <;> first | exact h | exact h.elim
theorem calm_wp {P : Program} {F : Fence} {n : Nat} {o : Oper} {a : Act} {K K' : Act → World → Prop} {Q : Exit → Act → World → Prop} {w : World} (hc : calmB o = true) (hK : ∀ a w, K a w → K' a w)
    (h : o.wp P a w K Q) : o.wpIn F n P a w K' Q := by
  unfold Oper.wp at h
  unfold Oper.wpIn
  have hd : ∀ c, o.op ≠ .defer c := by intro c e; unfold calmB at hc; rw [e] at hc; cases hc
  rw [Oper.semAt_eq _ _ _ hd]
  unfold calmB at hc
  unfold Oper.about
  unfold execOp at h ⊢
  cases ho : o.op with
  | move x => rw [ho] at h; exact ⟨fun f e => (by cases e), hK _ _ h⟩
  | assign x => rw [ho] at h; exact ⟨fun f e => (by cases e), hK _ _ h⟩
  | load t x => rw [ho] at h; exact ⟨fun f e => (by cases e), calm_value _ hK h⟩
  | store t x y => rw [ho] at h; exact ⟨fun f e => (by cases e), calm_unit _ hK h⟩
  | indexAddr t x y => rw [ho] at h; exact ⟨fun f e => (by cases e), calm_value _ hK h⟩
  | buildSlice t l p => rw [ho] at h; exact ⟨fun f e => (by cases e), calm_value _ hK h⟩
  | binOp b t x y t2 => rw [ho] at h; exact ⟨fun f e => (by cases e), calm_value _ hK h⟩
  | call c =>
    rw [ho] at h hc
    simp only at h hc ⊢
    obtain ⟨cal, args, ts⟩ := c
    cases cal with
    | builtin b =>
      cases b with
      | append =>
        refine ⟨fun f e => ?_, ?_⟩
        · simp [resolve, Target.leads] at e
        · simp only [resolve, pure_bind, invoke, builtin] at h ⊢
          exact calm_value _ hK h
      | len =>
        refine ⟨fun f e => ?_, ?_⟩
        · simp [resolve, Target.leads] at e
        · simp only [resolve, pure_bind, invoke, builtin] at h ⊢
          exact calm_value _ hK h
      | _ => exact absurd hc Bool.false_ne_true
    | _ => exact absurd hc (by simp)
  | _ => rw [ho] at hc; exact absurd hc (by simp)
theorem calm_ops {P : Program} {F : Fence} {n : Nat} {ops : Array Oper} {Q : Exit → Act → World → Prop} (hL : ¬ LetsOut Q) (hc : ∀ (i : Nat) (o : Oper), ops[i]? = some o → calmB o = true) : ∀ (l : List Nat) (a : Act) (w : World), wpOps P ops Q l a w → wpOpsIn F n P ops Q l a w := by
  intro l
  induction l with
  | nil => intro a w h; exact h
  | cons i l ih =>
    intro a w h
    unfold wpOps at h
    unfold wpOpsIn
    cases ho : ops[i]? with
    | none => rw [ho] at h; exact ih a w h
    | some o =>
      rw [ho] at h
      simp only at h ⊢
      by_cases hw : Region.wanted o (yielded ops a.tmps) = true
      · rw [if_pos hw] at h ⊢
        rcases h with h | h
        · exact calm_wp (hc i o ho) ih h
        · exact absurd h.2 hL
      · rw [if_neg hw] at h ⊢
        refine ⟨fun f e => ?_, ih _ _ h⟩
        have hcc := hc i o ho
        unfold calmB at hcc
        unfold Oper.about at e
        cases hop : o.op with
        | call c =>
          rw [hop] at e hcc
          simp only at e hcc
          obtain ⟨cal, args, ts⟩ := c
          cases cal with
          | builtin b => simp [resolve, Target.leads] at e
          | _ => exact absurd hcc (by simp)
        | _ => rw [hop] at e; cases e
theorem calm_start {P : Program} {F : Fence} {m : Nat} {ops : Array Oper} {Q : Exit → Act → World → Prop} {S : World → Prop} {ds : List Nat} {id n : Nat} {a : Act} {w : World} (l : Array Bool) (hm : P.follows .mixedOrders = true) (hL : ¬ LetsOut Q) (hc : ops.all calmB = true) (hn : ops.size = n) (hl : Array.replicate n false = l) (hS : S w.drew)
    (h : S w.drew → wpAnyLast P .any ops Q S ds n l a w.drew) : (Code.region id ops true).wpIn F m P Q a w := by
  subst hn
  subst hl
  refine wpIn_region_draw fun t => ?_
  simp only [Region.schedule, hm, Bool.true_or, if_true]
  refine calm_ops hL (fun i o ho => ?_) _ _ _ (wpAny_sound ops.size t _ a _ (wpAny_of_last _ _ _ _ (h hS)))
  exact Array.all_eq_true_iff_forall_mem.1 hc o (Array.mem_of_getElem? ho)
/-! Strings: a > b is b < a. -/
theorem less_gtr : ∀ x y : List UInt8, (!(Op.bytesLess x y || x == y)) = Op.bytesLess y x := by
  intro x
  induction x with
  | nil => intro y; cases y <;> simp [Op.bytesLess]
  | cons a x ih =>
    intro y
    cases y with
    | nil => simp [Op.bytesLess]
    | cons b y =>
      have h := ih y
      by_cases e : a = b
      · subst e
        have hl : ¬ a < a := by simp [UInt8.lt_iff_toNat_lt]
        simp only [Op.bytesLess, hl, decide_false, Bool.false_or, beq_self_eq_true, Bool.true_and, List.cons_beq_cons]
        exact h
      · have e1 : (a == b) = false := by simpa using e
        have e2 : (b == a) = false := by simpa using fun h => e h.symm
        have hn : a.toNat ≠ b.toNat := fun h => e (UInt8.toNat_inj.1 h)
        simp only [Op.bytesLess, e1, e2, Bool.false_and, Bool.or_false, List.cons_beq_cons]
        by_cases c : a < b
        · have c2 : ¬ b < a := by rw [UInt8.lt_iff_toNat_lt] at c ⊢; omega
          simp [c, c2]
        · have c2 : b < a := by rw [UInt8.lt_iff_toNat_lt] at c ⊢; omega
          simp [c, c2]
theorem str_gtr (P : Program) (t : TypeId) (a b : ByteArray) (W : World) : Sem.run P (binOp .gtr t (.string a) (.string b)) W = .ok (.bool (Op.bytesLess b.toList a.toList)) W := by
  rw [← less_gtr]
  simp [binOp, Op.stringOp]
end Go.Proofs.YtfonjlolliiaeaaDoorM
