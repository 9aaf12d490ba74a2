import Derived.RangeFuncNested
import Derived.RangeFuncBound
import Derived.RangeFuncCalls
import Derived.RangeFuncLeaves
import Derived.Shelf.Abstract
import Derived.Shelf.RegionOpen
import Derived.RangeFuncBox
import Derived.RangeFuncWrites
import Derived.Maps.AppendAt
import Derived.WalkKit
import Derived.OwnWalkIn
import Derived.TacticsInMore
import Derived.LoopNIn
import Derived.LoopIn
import Derived.Test.YtjeheopcohnkeaaProg
import Derived.Test.YtjeheopcohnkeaaUMore
import Derived.Test.YtjeheopcohnkeaaUM02
/-! M12's cells and M19's boxes, for a seat without math/bits. -/
set_option linter.unusedVariables false
set_option linter.unusedSimpArgs false
namespace Go.Proofs.YtjeheopcohnkeaaM
open Go Go.RowKit Go.Proofs.YtjeheopcohnkeaaW.PrintWords Go.Proofs.YtjeheopcohnkeaaW.PrintLast Go.Proofs.YtjeheopcohnkeaaW.PrintMore
/-! ### cells of one's own, behind steps of the heap -/
theorem r_box {W : World} {B : Nat} {v : Value} {t : TypeId} (h : W.heap[B]? = some (.cells #[v] t (0, 0))) : W.cell? ⟨B, 0, none⟩ = some v ∧ W.frozen? ⟨B, 0, none⟩ = false := by
  constructor <;> simp [World.cell?, World.frozen?, h]
theorem r_new (W : World) (v : Value) (t : TypeId) : (W.alloc (.cells #[v] t)).cell? ⟨W.heap.size, 0, none⟩ = some v ∧ (W.alloc (.cells #[v] t)).frozen? ⟨W.heap.size, 0, none⟩ = false := r_box (World.alloc_heap_new W _)
theorem r_new2 (W : World) (u v : Value) (t : TypeId) : (W.alloc (.cells #[u, v] t)).cell? ⟨W.heap.size, 1, none⟩ = some v := (blk_cell (blk_new W (.cells #[u, v] t)) 1).trans rfl
theorem r_alloc {W : World} {a : Addr} {v : Value} (o : Obj) (h : W.cell? a = some v) : (W.alloc o).cell? a = some v := _root_.Go.cell_kept h (World.grownBy_alloc W o none) (fun r e => by cases e)
theorem r_falloc {W : World} {a : Addr} {v : Value} (o : Obj) (h : W.cell? a = some v) (hf : W.frozen? a = false) : (W.alloc o).frozen? a = false := (_root_.Go.frozen_kept h (World.grownBy_alloc W o none) (fun r e => by cases e)).trans hf
theorem r_other {W : World} {a b : Addr} {v : Value} (h : W.cell? b = some v) (hne : a.block ≠ b.block) (u : Value) : (W.setCell a u).cell? b = some v := (World.cell?_setCell_other _ _ _ _ (fun e => hne (by rw [e]))).trans h
/-- What lay below n0 lies as it lay, and so do two captured blocks. -/
structure LK (n₀ Bn : Nat) (W W' : World) : Prop where
  below : Below n₀ W W'
  b1 : W'.heap[Bn]? = W.heap[Bn]?
  b2 : W'.heap[Bn + 1]? = W.heap[Bn + 1]?
theorem LK.refl (n₀ Bn : Nat) (W : World) : LK n₀ Bn W W := ⟨Below.refl _ _, rfl, rfl⟩
theorem LK.trans {n₀ Bn : Nat} {A B C : World} (h : LK n₀ Bn A B) (k : LK n₀ Bn B C) : LK n₀ Bn A C := ⟨h.below.trans k.below, k.b1.trans h.b1, k.b2.trans h.b2⟩
theorem LK.of_below {n₀ Bn m : Nat} {W W' : World} (h : Below m W W') (hn : n₀ ≤ m) (hb : Bn + 1 < m) : LK n₀ Bn W W' := ⟨h.mono hn, h.block _ (by omega), h.block _ hb⟩
theorem LK.putObj {n₀ Bn : Nat} {w : World} (hn : n₀ ≤ w.heap.size) (hb : Bn + 1 < w.heap.size) (W : World) (l : Nat) (o o' : Obj) (hl : w.heap.size ≤ l) (h : W.heap[l]? = some o) (h1 : o.isCells = false) (h2 : o.isWalk = false) : LK n₀ Bn W (W.putObj l o') :=
  ⟨belowK_b hn W l o o' hl h h1 h2, World.putObj_heap_other (by omega), World.putObj_heap_other (by omega)⟩
theorem r_cells2 {W : World} {B : Nat} {u v : Value} {t : TypeId} (h : W.heap[B]? = some (.cells #[u, v] t (0, 0))) : W.cell? ⟨B, 0, none⟩ = some u ∧ W.cell? ⟨B, 1, none⟩ = some v := by
  constructor <;> simp [World.cell?, h]
theorem own_low {w : World} {b b' : Nat} {e : TypeId} {size : Nat} {v : Value} {n : Nat} {xs : List Value} (h : w.ownsRow b e size v n xs) (hb : b' ≤ b) : w.ownsRow b' e size v n xs := by
  refine ⟨h.1, ?_⟩
  rcases h.2 with h1 | ⟨g, cap, cur, e1, e2, e3⟩
  · exact .inl h1
  · exact .inr ⟨g, cap, cur, e1, Nat.le_trans hb e2, e3⟩
/-- out = append(out, ..), where two other blocks are to be kept, too. -/
theorem live_grow {W w1 : World} {n₀ n₁ B j : Nat} {t e : TypeId} {size : Nat} {v v' : Value} {k m : Nat} {xs ys : List Value} {tmp : Obj}
    (hv : Boxed W B t v) (hte : t ≠ e) (hrow : W.ownsRow n₁ e size v k xs) (h01 : n₀ ≤ n₁) (hn₁ : n₁ ≤ W.heap.size) (hB : n₀ ≤ B) (hj : j + 1 < n₁) (hjB : B < j)
    (hown' : w1.ownsRow n₁ e size v' m ys) (hgrow : (W.alloc tmp).grownBy w1 v.ownBlock) :
    Boxed w1 B t v ∧ Boxed (w1.setCell ⟨B, 0, none⟩ v') B t v' ∧ (w1.setCell ⟨B, 0, none⟩ v').ownsRow n₁ e size v' m ys ∧ KeepsOthers W (w1.setCell ⟨B, 0, none⟩ v') ∧ LK n₀ j W (w1.setCell ⟨B, 0, none⟩ v') := by
  obtain ⟨a1, a2, a3, a4, a5⟩ := hv.appended hte (own_low hrow h01) (Nat.le_trans h01 hn₁) hB (own_low hown' h01) hgrow
  have same : ∀ i, i < n₁ → B < i → (w1.setCell ⟨B, 0, none⟩ v').heap[i]? = W.heap[i]? := by
    intro i h1 h2
    have e1 : (W.alloc tmp).heap[i]? = W.heap[i]? := Below.heap_alloc _ _ _ (by omega)
    have e2 : w1.heap[i]? = (W.alloc tmp).heap[i]? := by
      refine hgrow.block i (by simp; omega) (fun e' => ?_)
      rcases hrow.2 with ⟨rfl, _⟩ | ⟨g, cap, cur, rfl, hb, _⟩
      · simp [Value.ownBlock] at e'
      · simp [Value.ownBlock] at e'
        omega
    have h3 : i < w1.heap.size := by
      have := hgrow.size
      simp at this
      omega
    exact ((grownBy_setCell' w1 B v').block i h3 (by simp; omega)).trans (e2.trans e1)
  exact ⟨a1, a2, hown'.kept (grownBy_setCell' w1 B v') (.inr (a1.not_row hte hown').symm), a4, a5, same j (by omega) hjB, same (j + 1) hj (by omega)⟩
end Go.Proofs.YtjeheopcohnkeaaM
