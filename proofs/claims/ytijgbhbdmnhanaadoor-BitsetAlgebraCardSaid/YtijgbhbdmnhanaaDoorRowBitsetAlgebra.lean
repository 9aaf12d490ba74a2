/- laminalaw03.BitsetAlgebra returns true for all its arguments (De Morgan's laws, and sizes add up), the table of math/bits tied to the program's text. Conditions: none beyond the row's own (slices of at most 2^47 - 4096 bytes). -/
import Derived.Test.YtijgbhbdmnhanaaDoorRows
import Derived.Test.YtijgbhbdmnhanaaDoorStBitsetAlgebra
import Derived.Test.YtijgbhbdmnhanaaDoorPureBitsetAlgebra
import Derived.Test.YtijgbhbdmnhanaaDoorUM03
import Derived.Test.YtijgbhbdmnhanaaDoorUM13
import Derived.Test.YtijgbhbdmnhanaaDoorTie
import Derived.Test.YtijgbhbdmnhanaaDoorCards
import Derived.LaidMore
import Derived.Stop.Joined
import Derived.WalkKit
import Derived.ProofKit
import Derived.OpenShut
import Derived.ShutString
import Derived.ChangeOld
import Derived.Below
import Derived.SizedLaws
import Derived.JoinedCond
import Derived.Deep.CondSized
import Derived.Test.YtijgbhbdmnhanaaDoorUSized
namespace Go.Proofs.YtijgbhbdmnhanaaDoor.bitsetAlgebra
open Go.ChangeShapes Go.WideShapes Go.ChangeAt Go.RowKit Go.Proofs.YtijgbhbdmnhanaaDoorM Go.Proofs.YtijgbhbdmnhanaaDoor.QBitsetAlgebra Go.Proofs.YtijgbhbdmnhanaaDoorW.PrintWords
open Go.ChangeMaps (open_string shut_string)
set_option linter.unusedVariables false
set_option linter.unusedSimpArgs false
theorem own : ownKnob Tryd.prog.godebug = none := by kernel_rfl
theorem laidOut : laidOutB Tryd.prog = true := by kernel_rfl
theorem opens25 : Opens Tryd.prog 25 k25 ok25 := Opens.struct (fun a => ⟨a.1, a.2⟩) Tryd.underlying25 (by kernel_rfl) (Fields.cons (ok := (fun x_ : Int => (Lit.int .i64 x_).wf = true)) (Opens.int Tryd.underlying3) rfl (by kernel_rfl) (Fields.one (ok := (fun x_ : List Int => (x_.length ≤ maxLen ∧ ∀ y0 ∈ x_, (Lit.int .u64 y0).wf = true))) (Opens.slice (ok := (fun x_ : Int => (Lit.int .u64 x_).wf = true)) Tryd.underlying23 (by kernel_rfl) (Opens.int Tryd.underlying56)) rfl (by kernel_rfl))) (fun _ => rfl)
set_option maxRecDepth 100000 in
theorem lifted (os : Os) (started : os.Started) (H : Type) (enc : TypeId × Value → H) :
    ReturnsInHanded {} Tryd.checked os 11 .any (fun w args => (Rows.bitsetAlgebraSpec.pre enc Tryd.prog Tryd.f11 [] false w args ∧ laidMetH Tryd.prog laid1 w) ∧ sizedMet enc Tryd.prog Tryd.f11 (OpenSpec.ofChange Rows.bitsetAlgebraSpec) false w args) (Rows.bitsetAlgebraSpec.post enc Tryd.prog Tryd.f11 false true false false) := by
  refine returnsInHanded_of_change_and (C := Tryd.checked) (X := fun w _ => laidMetH Tryd.prog laid1 w) (fun _ _ _ hh h => h.of_heap hh) own started (by kernel_rfl) Tryd.func11
    (ChangeSpec.witness_shaped (enc := enc) (C := Tryd.checked) (os := os) (X := fun w _ => laidMetH Tryd.prog laid1 w) false (World.doorLaid Tryd.prog 400 os) #[.agg #[.int .i64 0, .slice none 0 0], .agg #[.int .i64 0, .slice none 0 0]] 8 rfl (World.shaped_of_RefB (by kernel_rfl) (by kernel_rfl)) (by kernel_rfl) (by kernel_rfl) (by kernel_rfl) (door_met os _)) ?_
  intro W base args ds gs before hval0 hW hcnd hsz0 hL _
  have hsz : (DataW.weightsEach Tryd.prog (Tryd.f11.params.toList ++ Rows.bitsetAlgebraSpec.plain.varTypes Tryd.prog) (ds ++ gs)).all (· ≤ reachBytes) = true := hsz0
  have hval : ∀ (j : Nat) t v, Tryd.f11.params[j]? = some t → args[j]? = some v → Value.okWide Tryd.prog W .any base t v := hval0
  have hW' := hW
  obtain ⟨p, q, hA0, hV, rfl, hfz, hnd⟩ := hW
  have hA : DataW.TrodAll enc Tryd.prog W 0 (fun _ => true) true Tryd.f11.params.toList args.toList ds p := hA0
  rw [Tryd.params11] at hA hval hsz
  obtain ⟨v0, vs0, d0, ds0, p0, q0, hargs, rfl, rfl, h0, r0⟩ := trodAll_cons hA
  obtain ⟨v1, vs1, d1, ds1, p1, q1, rfl, rfl, rfl, h1, r1⟩ := trodAll_cons r0
  obtain ⟨rfl, rfl, rfl⟩ := trodAll_nil r1
  obtain rfl : args = #[v0, v1] := by cases args; simp_all
  obtain ⟨rfl, rfl⟩ := trodVars_none hV
  have k0 := h0
  have lt0 : ∀ x ∈ p0, x.block < W.heap.size := by obtain ⟨m, hm⟩ := k0; exact DataW.trod_lt m _ _ _ hm
  obtain ⟨cs0, rfl, _⟩ := okWide_struct Tryd.underlying25 (hval 0 25 v0 rfl rfl)
  obtain ⟨x0, hK0, ho0⟩ := (by obtain ⟨fuel, hf⟩ := h0; exact opens25 _ _ _ _ _ _ hf : ∃ a, k25.K W a cs0.toList ∧ ok25 a)
  obtain ⟨A0_1, c0_1, e0, lc0_1, lr0_1⟩ := k25_open hK0
  have e0' := congrArg List.toArray e0
  rw [Array.toArray_toList] at e0'
  subst e0'
  have k1 := h1
  have lt1 : ∀ x ∈ p1, x.block < W.heap.size := by obtain ⟨m, hm⟩ := k1; exact DataW.trod_lt m _ _ _ hm
  obtain ⟨cs1, rfl, _⟩ := okWide_struct Tryd.underlying25 (hval 1 25 v1 rfl rfl)
  obtain ⟨x1, hK1, ho1⟩ := (by obtain ⟨fuel, hf⟩ := h1; exact opens25 _ _ _ _ _ _ hf : ∃ a, k25.K W a cs1.toList ∧ ok25 a)
  obtain ⟨A1_1, c1_1, e1, lc1_1, lr1_1⟩ := k25_open hK1
  have e1' := congrArg List.toArray e1
  rw [Array.toArray_toList] at e1'
  subst e1'
  clear hA0 hval0 hsz0 hsz
  obtain ⟨kk, hp⟩ := Pure.BitsetAlgebra x0.f0 x0.f1 x1.f0 x1.f1 ho0 ho1
  refine (laminalaw03_BitsetAlgebra.calls kk x0.f0 _ _ x0.f1 x1.f0 _ _ x1.f1 true W lr0_1 lc0_1 lr1_1 lc1_1 (tab_of_laid hL) hp rfl).mono ?_
  rintro e W' ⟨rfl, bel0⟩
  have bel : Below W.heap.size W W' := bel0
  exact ⟨_, rfl, _, _, _, [], _, [], hW', trodAll_mk1 (shut_bool Tryd.underlying4 _), (trodAll_cons_mk (Below.trod laidOut (by kernel_rfl) (of_decide_eq_true (by kernel_rfl)) k0 bel lt0) (trodAll_cons_mk (Below.trod laidOut (by kernel_rfl) (of_decide_eq_true (by kernel_rfl)) k1 bel lt1) trodAll_mk0)), rfl, bel.frame _, fun h => by cases h⟩
theorem over : Rows.bitsetAlgebraRow.holds Tryd.pinned (OpenSpec.ofChange Rows.bitsetAlgebraSpec) :=
  OpenClaim.holds_of_wide 11 Tryd.f11 rfl rfl rfl rfl rfl rfl rfl ⟨rfl, rfl, rfl, rfl, rfl⟩ rfl rfl rfl rfl rfl (by kernel_rfl) Tryd.func11 (by kernel_rfl)
    (of_decide_eq_true (by kernel_rfl)) (by unfold Func.isWrapper; first | (rw [if_pos (by decide +kernel)]; kernel_rfl) | (rw [if_neg (by decide +kernel)]; exact ⟨rfl, rfl⟩))
    (fun os started H enc _ => lifted os started H enc)
end Go.Proofs.YtijgbhbdmnhanaaDoor.bitsetAlgebra
namespace Go.Proofs.YtijgbhbdmnhanaaDoor
theorem bitsetAlgebra_holds : Rows.BitsetAlgebraCardSaid :=
  Claim7.holds_tied_plain_at .later [] [.data] true (true, "11972ca9c3ef95517833d4e5916f14349cf8b0d71b7230955c263478392d1338") false
    bitsetAlgebra.over (fun _ h => by cases h) (by kernel_rfl) (fun _ h => by cases h) bitsetAlgebra_row_tie rfl ⟨rfl, rfl⟩ (by kernel_rfl) rfl
    (fun f fn hf hfn => by
      obtain rfl : f = 11 := Option.some.inj ((show Tryd.prog.funcNamed "lamina/laminalaw03.BitsetAlgebra" = some 11 by kernel_rfl).symm.trans hf) |>.symm
      obtain rfl : fn = Tryd.f11 := (Option.some.inj (Tryd.func11.symm.trans hfn)).symm
      have hall : Tryd.f11.params.toList.all (fun t => !Tryd.prog.wantsStandIn t) = true := by kernel_rfl
      exact ⟨by kernel_rfl, fun j t ht => by
        have hm : t ∈ Tryd.f11.params.toList := by rw [Array.mem_toList_iff]; exact Array.mem_of_getElem? ht
        have hb : Tryd.prog.wantsStandIn t = false := by simpa using List.all_eq_true.1 hall t hm
        exact hb⟩)
    (by kernel_rfl)
end Go.Proofs.YtijgbhbdmnhanaaDoor
