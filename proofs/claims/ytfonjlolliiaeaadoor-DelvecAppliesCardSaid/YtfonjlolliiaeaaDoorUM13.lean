/- What the listed table gives. -/
import Derived.Test.YtfonjlolliiaeaaDoorRows
import Derived.Test.YtfonjlolliiaeaaDoorUM12
import Derived.ProofKit
import Derived.LaidMore
import Derived.OpenShut
import Derived.Stop.Joined
set_option linter.unusedVariables false
set_option linter.unusedSimpArgs false
namespace Go.Proofs.YtfonjlolliiaeaaDoorM
open Go Go.RowKit Go.ChangeShapes Go.WideShapes Go.ChangeAt
theorem gTab : Tryd.prog.globalNamed "math/bits.deBruijn64tab" = some 0 := by kernel_rfl
theorem tTab : (Tryd.prog.globals[0]?).map (·.type) = some 104 := by kernel_rfl
def laid1 : List (String × DataW Unit) := [("math/bits.deBruijn64tab", YtfonjlolliiaeaaDoor.Rows.laid_math_bits_deBruijn64tab)]
theorem door_met (os : Os) (args : Array Value) : laidMetH Tryd.prog laid1 ((World.doorLaid Tryd.prog 400 os).forCall (fun _ _ => 0) ⟨#[], args, []⟩).memory :=
  laidMetH_of_parts3 (fuel := 8) (laidMet_of_run' 8 (by kernel_rfl) (by kernel_rfl)) (by kernel_rfl) (by kernel_rfl)
theorem laid_list : (YtfonjlolliiaeaaDoor.Rows.laid_math_bits_deBruijn64tab : DataW Unit) = .agg (tz64.map fun n => .lit (.int .u8 n)) := rfl
theorem tab_of_laid {W : World} (h : laidMetH Tryd.prog laid1 W) : TabAt W := by
  rw [MakeChecks.laidMetH_plain _ _ _ (by kernel_rfl)] at h
  obtain ⟨ps, ⟨g0, t0, cs0, f0, p0, q0, hg0, ht0, hv0, hd0, _, _⟩, _⟩ := h
  obtain rfl := Option.some.inj (gTab.symm.trans hg0)
  obtain rfl := Option.some.inj (tTab.symm.trans ht0)
  obtain ⟨xs, m1, rfl, hx1, hlen, hn, hel⟩ := DataW.trod_array Tryd.underlying104 hd0
  have c1 : Tryd.prog.cellsOf 5 = 1 := by kernel_rfl
  rw [laid_list] at hx1
  simp only [Prod.mk.injEq, DataW.agg.injEq] at hx1
  intro i hi
  have hy := hel i hi
  have hxi : i < xs.length := by omega
  rw [List.getElem?_eq_getElem hxi, c1, Nat.mul_one] at hy
  obtain ⟨k, e1, e2, _⟩ := DataW.trod_int Tryd.underlying5 hy
  have hk : (xs[i]).1 = .lit (.int .u8 (tz64.getD i 0)) := by
    have h1 : (xs.map (·.1))[i]? = some (xs[i]).1 := by rw [List.getElem?_map, List.getElem?_eq_getElem hxi]; rfl
    rw [← hx1.1, List.getElem?_map] at h1
    have h2 : i < tz64.length := hi
    rw [List.getElem?_eq_getElem h2] at h1
    rw [← Option.some.inj h1, List.getD_eq_getElem?_getD, List.getElem?_eq_getElem h2]
    rfl
  rw [e2] at hk
  have hk2 : k = tz64.getD i 0 := by simpa using hk
  have hc := World.var?_cell hg0 hv0 i
  rw [hc, ← hk2]
  have h3 : cs0.toList[i]? = some (.int .u8 k) := by
    have h4 : ((cs0.toList.drop i).take 1)[0]? = some (.int .u8 k) := by rw [e1]; rfl
    rw [List.getElem?_take, if_pos (by decide), List.getElem?_drop] at h4
    exact h4
  rw [← h3, Array.getElem?_toList]
end Go.Proofs.YtfonjlolliiaeaaDoorM
