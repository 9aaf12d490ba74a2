/- The variables of bitset.Encode, each in a box of its own. -/
import Derived.Test.YtfonjlolliiaeaaDoorUM16
import Derived.Deep.AppendLies
import Derived.Deep.RegionLaw
import Derived.Laws.EntriesVeiled
import Derived.Deep.DrawnRows
set_option linter.unusedVariables false
set_option linter.unusedSimpArgs false
namespace Go.Proofs.YtfonjlolliiaeaaDoorM
open Go Go.RowKit Go.Shelf Go.Proofs.YtfonjlolliiaeaaDoorW.PrintWords

/-- out, on, run, flush, at: five boxes from block b on. -/
def EB (b n0 : Nat) (s : ES) (fv : Value) (W : World) : Prop := ∃ v, Boxed W b 27 v ∧ W.ownsRow n0 5 1 v s.P.length (s.P.map (Value.int .u8)) ∧ Boxed W (b + 1) 4 (.bool s.on) ∧ Boxed W (b + 1 + 1) 3 (.int .i64 s.run) ∧ Boxed W (b + 1 + 1 + 1) 1 fv ∧ Boxed W (b + 1 + 1 + 1 + 1) 3 (.int .i64 s.pos)
theorem boxed_not_none {W : World} {B : Nat} {t : TypeId} {v : Value} {row : Option Nat} (h : Boxed W B t v) (hrow : ∀ r, row = some r → ∃ o : Obj, W.heap[r]? = some o ∧ o.isCells = false) : some B ≠ row := by
  intro e
  obtain ⟨o, ho, hc⟩ := hrow B e.symm
  rw [show W.heap[B]? = _ from h] at ho; cases ho; cases hc
theorem EB.kept {b n0 : Nat} {s : ES} {fv : Value} {X Y : World} {row : Option Nat} (h : EB b n0 s fv X) (hg : X.grownBy Y row) (hrow : ∀ r, row = some r → ∃ o : Obj, X.heap[r]? = some o ∧ o.isCells = false) : EB b n0 s fv Y := by
  obtain ⟨v, h0, hr, h1, h2, h3, h4⟩ := h
  refine ⟨v, h0.kept hg (boxed_not_none h0 hrow), hr.kept hg ?_, h1.kept hg (boxed_not_none h1 hrow), h2.kept hg (boxed_not_none h2 hrow), h3.kept hg (boxed_not_none h3 hrow), h4.kept hg (boxed_not_none h4 hrow)⟩
  rcases hr.2 with ⟨rfl, _⟩ | ⟨g, cap, cur, rfl, _, hgb, _⟩
  · exact .inl rfl
  · refine .inr fun e' => ?_
    obtain ⟨o, ho, hc⟩ := hrow g (by simpa [Value.ownBlock] using e'.symm)
    rw [hgb] at ho; cases ho; cases hc
theorem EB.own {β : Type} (b n0 : Nat) (f : β → ES) (fv : Value) : Own (fun pre W => EB b n0 (f pre) fv W) := by
  rintro s X Y row h hg hrow
  exact EB.kept h hg hrow
theorem EB.alloc {b n0 : Nat} {s : ES} {fv : Value} {X : World} (h : EB b n0 s fv X) (o : Obj) : EB b n0 s fv (X.alloc o) := EB.kept h (World.grownBy_alloc X o none) (by simp)
theorem own_set {W : World} {n0 : Nat} {e t : TypeId} {v : Value} {k : Nat} {xs : List Value} {B : Nat} {u u' : Value} (h : W.ownsRow n0 e 1 v k xs) (hB : Boxed W B t u) (ht : t ≠ e) : (W.setCell ⟨B, 0, none⟩ u').ownsRow n0 e 1 v k xs :=
  h.kept (grownBy_setCell' W B u') (.inr (hB.not_row ht h).symm)
theorem EB.setRun {b n0 : Nat} {s : ES} {fv : Value} {W : World} (h : EB b n0 s fv W) (r : Int) : EB b n0 ⟨s.P, s.on, r, s.pos⟩ fv (W.setCell ⟨b + 1 + 1, 0, none⟩ (.int .i64 r)) := by
  obtain ⟨v, h0, hr, h1, h2, h3, h4⟩ := h
  exact ⟨v, h0.other (by omega) _, own_set hr h2 (by decide), h1.other (by omega) _, h2.set _, h3.other (by omega) _, h4.other (by omega) _⟩
theorem EB.setPos {b n0 : Nat} {s : ES} {fv : Value} {W : World} (h : EB b n0 s fv W) (p : Int) : EB b n0 ⟨s.P, s.on, s.run, p⟩ fv (W.setCell ⟨b + 1 + 1 + 1 + 1, 0, none⟩ (.int .i64 p)) := by
  obtain ⟨v, h0, hr, h1, h2, h3, h4⟩ := h
  exact ⟨v, h0.other (by omega) _, own_set hr h4 (by decide), h1.other (by omega) _, h2.other (by omega) _, h3.other (by omega) _, h4.set _⟩
theorem EB.setOn {b n0 : Nat} {s : ES} {fv : Value} {W : World} (h : EB b n0 s fv W) (o : Bool) : EB b n0 ⟨s.P, o, s.run, s.pos⟩ fv (W.setCell ⟨b + 1, 0, none⟩ (.bool o)) := by
  obtain ⟨v, h0, hr, h1, h2, h3, h4⟩ := h
  exact ⟨v, h0.other (by omega) _, own_set hr h1 (by decide), h1.set _, h2.other (by omega) _, h3.other (by omega) _, h4.other (by omega) _⟩
theorem EB.cells {b n0 : Nat} {s : ES} {fv : Value} {W : World} (h : EB b n0 s fv W) : W.cell? ⟨b + 1, 0, none⟩ = some (.bool s.on) ∧ W.cell? ⟨b + 1 + 1, 0, none⟩ = some (.int .i64 s.run) ∧ W.frozen? ⟨b + 1 + 1, 0, none⟩ = false ∧ W.cell? ⟨b + 1 + 1 + 1, 0, none⟩ = some fv ∧ W.cell? ⟨b + 1 + 1 + 1 + 1, 0, none⟩ = some (.int .i64 s.pos) ∧ W.frozen? ⟨b + 1 + 1 + 1 + 1, 0, none⟩ = false ∧ b + 1 + 1 + 1 + 1 < W.heap.size := by
  obtain ⟨v, h0, hr, h1, h2, h3, h4⟩ := h
  exact ⟨h1.cell, h2.cell, h2.frozen, h3.cell, h4.cell, h4.frozen, h4.lt⟩
theorem below_others {w w' : World} (h : Below w.heap.size w w') : KeepsOthers w w' := ⟨h.size, fun k o hk _ => (h.block k (Array.getElem?_eq_some_iff.1 hk).1).trans hk⟩
theorem boxed_below {w w' : World} {B : Nat} {t : TypeId} {v : Value} (h : Boxed w B t v) (hb : Below w.heap.size w w') : Boxed w' B t v := (hb.block B h.lt).trans h
theorem grown_of_below {w w' : World} (hb : Below w.heap.size w w') : w.grownBy w' none := ⟨hb.os, hb.tape, hb.output, hb.size, fun k hk _ => hb.block k hk⟩
theorem own_below2 {w w' : World} {B e size n : Nat} {v : Value} {xs : List Value} (h : w.ownsRow B e size v n xs) (hb : Below w.heap.size w w') : w'.ownsRow B e size v n xs := by
  refine h.kept (grown_of_below hb) ?_
  rcases h.2 with ⟨rfl, _⟩ | ⟨g, cap, cur, rfl, _⟩
  · exact .inl rfl
  · exact .inr (by simp [Value.ownBlock])
theorem own_cells {w : World} {B e n : Nat} {v : Value} {xs : List Value} (h : w.ownsRow B e 1 v n xs) (hn : 0 < n) : ∃ g cap, v = .slice (some ⟨g, 0, none⟩) n cap ∧ B ≤ g ∧ g < w.heap.size ∧ ∀ j u, xs[j]? = some u → w.cell? ((⟨g, 0, none⟩ : Addr).add j) = some u := by
  rcases h.2 with ⟨rfl, h0⟩ | ⟨g, cap, cur, rfl, hb, hg, hle, hm, hs, ht⟩
  · omega
  · refine ⟨g, cap, rfl, hb, (Array.getElem?_eq_some_iff.1 hg).1, fun j u hu => ?_⟩
    have hadd : (⟨g, 0, none⟩ : Addr).add j = ⟨g, j, none⟩ := by unfold Addr.add; split <;> simp_all
    rw [hadd, cell_of_row w g j cur e (0, 0) hg]
    rw [← ht, List.getElem?_take] at hu
    split at hu
    · simpa using hu
    · cases hu
theorem EB.onCells {b n0 : Nat} {s : ES} {fv : Value} {W : World} (h : EB b n0 s fv W) : W.frozen? ⟨b + 1, 0, none⟩ = false := by
  obtain ⟨v, h0, hr, h1, h2, h3, h4⟩ := h
  exact h1.frozen
theorem EB.grew {b n0 : Nat} {s : ES} {fv v v' : Value} {W w1 w2 : World} {y : List Int} (h0 : Boxed W b 27 v) (hrow : W.ownsRow n0 5 1 v s.P.length (s.P.map (Value.int .u8))) (h1 : Boxed W (b + 1) 4 (.bool s.on)) (h2 : Boxed W (b + 1 + 1) 3 (.int .i64 s.run)) (h3 : Boxed W (b + 1 + 1 + 1) 1 fv) (h4 : Boxed W (b + 1 + 1 + 1 + 1) 3 (.int .i64 s.pos))
    (hn : n0 ≤ b) (hb : Below W.heap.size W w1) (hg : w1.grownBy w2 v.ownBlock) (ho : w2.ownsRow n0 5 1 v' (s.P.length + y.length) (s.P.map (Value.int .u8) ++ y.map (Value.int .u8))) :
    EB b n0 ⟨s.P ++ y, s.on, s.run, s.pos⟩ fv (w2.setCell ⟨b, 0, none⟩ v') ∧ Below n0 W (w2.setCell ⟨b, 0, none⟩ v') ∧ KeepsOthers W (w2.setCell ⟨b, 0, none⟩ v') := by
  have hr1 := own_below2 hrow hb
  have k : ∀ {B : Nat} {t : TypeId} {u : Value}, t ≠ 5 → Boxed W B t u → Boxed w2 B t u := fun ht h => (boxed_below h hb).kept hg ((boxed_below h hb).not_row ht hr1)
  have q0 := k (by decide) h0
  refine ⟨⟨v', q0.set _, own_set (by simpa using ho) q0 (by decide), (k (by decide) h1).other (by omega) _, (k (by decide) h2).other (by omega) _, (k (by decide) h3).other (by omega) _, (k (by decide) h4).other (by omega) _⟩, ?_, ?_⟩
  · have hsz := h0.lt
    refine ((hb.mono (by omega)).grown hg (by have := hb.size; omega) fun j ej => ?_).setCell (p := ⟨b, 0, none⟩) hn _
    rcases hrow.2 with ⟨rfl, _⟩ | ⟨g, cap, cur, rfl, hgb, _, _⟩
    · simp [Value.ownBlock] at ej
    · obtain rfl : g = j := by simpa [Value.ownBlock] using ej
      exact hgb
  · refine ((below_others hb).trans (KeepsOthers.of_grownBy hg fun j o ej hj => ?_)).trans (KeepsOthers.setCell _ _ _)
    rcases hr1.2 with ⟨rfl, _⟩ | ⟨g, cap, cur, rfl, _, hgb, _⟩
    · simp [Value.ownBlock] at ej
    · obtain rfl : g = j := by simpa [Value.ownBlock] using ej
      rw [hgb] at hj; cases hj; rfl
end Go.Proofs.YtfonjlolliiaeaaDoorM
