/- laminalaw41.SelectionCompose returns true for all its arguments (the rows of an applied selection are the rows at its indices, and applying two selections is applying the second one's elements of the first). Conditions: none beyond the row's own (slices and strings of at most 2^47 - 4096 bytes each). -/
import Derived.Test.YtijgbhbdmnhanaaRows
import Derived.Test.YtijgbhbdmnhanaaStSelectionCompose
import Derived.Test.YtijgbhbdmnhanaaPureSelectionCompose
import Derived.Test.YtijgbhbdmnhanaaUM03
import Derived.WalkKit
import Derived.ProofKit
import Derived.OpenShut
import Derived.ShutString
import Derived.ChangeOld
import Derived.Below
import Derived.SizedLaws
import Derived.JoinedCond
import Derived.Deep.CondSized
import Derived.Test.YtijgbhbdmnhanaaUSized
namespace Go.Proofs.Ytijgbhbdmnhanaa.selectionCompose
open Go.ChangeShapes Go.WideShapes Go.ChangeAt Go.RowKit Go.Proofs.YtijgbhbdmnhanaaM Go.Proofs.Ytijgbhbdmnhanaa.QSelectionCompose Go.Proofs.YtijgbhbdmnhanaaW.PrintWords
open Go.ChangeMaps (open_string shut_string)
set_option linter.unusedVariables false
set_option linter.unusedSimpArgs false
theorem own : ownKnob Try.prog.godebug = none := by kernel_rfl
theorem laidOut : laidOutB Try.prog = true := by kernel_rfl
theorem opens48 : Opens Try.prog 48 k48 ok48 := Opens.struct (fun a => ⟨a.1, a.2.1, a.2.2.1, a.2.2.2⟩) Try.underlying48 (by kernel_rfl) (Fields.cons (ok := (fun x_ : Int => (Lit.int .i64 x_).wf = true)) (Opens.int Try.underlying3) rfl (by kernel_rfl) (Fields.cons (ok := (fun x_ : List Int => (x_.length ≤ maxLen ∧ ∀ y0 ∈ x_, (Lit.int .i64 y0).wf = true))) (Opens.slice (ok := (fun x_ : Int => (Lit.int .i64 x_).wf = true)) Try.underlying44 (by kernel_rfl) (Opens.int Try.underlying2)) rfl (by kernel_rfl) (Fields.cons (ok := (fun x_ : List ByteArray => (x_.length ≤ maxLen ∧ ∀ y0 ∈ x_, y0.size ≤ maxLen))) (Opens.slice (ok := (fun x_ : ByteArray => x_.size ≤ maxLen)) Try.underlying45 (by kernel_rfl) (Opens.string Try.underlying9)) rfl (by kernel_rfl) (Fields.one (ok := (fun x_ : List Bool => (x_.length ≤ maxLen ∧ ∀ y0 ∈ x_, True))) (Opens.slice (ok := (fun x_ : Bool => True)) Try.underlying46 (by kernel_rfl) (Opens.bool Try.underlying4)) rfl (by kernel_rfl))))) (fun _ => rfl)
theorem opens31 : Opens Try.prog 31 k31 ok31 := Opens.struct (fun a => ⟨a.1, a.2.1, a.2.2.1, a.2.2.2⟩) Try.underlying31 (by kernel_rfl) (Fields.cons (ok := (fun x_ : List (S48) => (x_.length ≤ maxLen ∧ ∀ y0 ∈ x_, ok48 y0))) (Opens.slice (ok := (fun x_ : S48 => ok48 x_)) Try.underlying29 (by kernel_rfl) opens48) rfl (by kernel_rfl) (Fields.cons (ok := (fun x_ : Int => (Lit.int .i64 x_).wf = true)) (Opens.int Try.underlying3) rfl (by kernel_rfl) (Fields.cons (ok := (fun x_ : Bool => True)) (Opens.bool Try.underlying4) rfl (by kernel_rfl) (Fields.one (ok := (fun x_ : List Int => (x_.length ≤ maxLen ∧ ∀ y0 ∈ x_, (Lit.int .i64 y0).wf = true))) (Opens.slice (ok := (fun x_ : Int => (Lit.int .i64 x_).wf = true)) Try.underlying22 (by kernel_rfl) (Opens.int Try.underlying3)) rfl (by kernel_rfl))))) (fun _ => rfl)
set_option maxRecDepth 100000 in
theorem lifted (os : Os) (started : os.Started) (H : Type) (enc : TypeId × Value → H) :
    ReturnsInHanded {} Try.checked os 5 .any (Rows.selectionComposeSpec.pre6 enc Try.prog Try.f5 Rows.selectionComposeRow.domain false) (Rows.selectionComposeSpec.post enc Try.prog Try.f5 false true false false) := by
  refine returnsInHanded_of_change_sized (C := Try.checked) own started (by kernel_rfl) Try.func5
    (ChangeSpec.witness6 (enc := enc) (C := Try.checked) false ⟨#[], #[.agg #[.slice none 0 0, .int .i64 0, .bool false, .slice none 0 0], .slice none 0 0, .slice none 0 0], []⟩ 8 (by kernel_rfl) (by kernel_rfl) (by kernel_rfl) (by kernel_rfl)) ?_
  intro W base args ds gs before hval0 hW hcnd hsz0 _
  have hsz : (DataW.weightsEach Try.prog (Try.f5.params.toList ++ Rows.selectionComposeSpec.plain.varTypes Try.prog) (ds ++ gs)).all (· ≤ reachBytes) = true := hsz0
  have hval : ∀ (j : Nat) t v, Try.f5.params[j]? = some t → args[j]? = some v → Value.okWide Try.prog W .any base t v := hval0
  have hW' := hW
  obtain ⟨p, q, hA0, hV, rfl, hfz, hnd⟩ := hW
  have hA : DataW.TrodAll enc Try.prog W 0 (fun _ => true) true Try.f5.params.toList args.toList ds p := hA0
  rw [Try.params5] at hA hval hsz
  obtain ⟨v0, vs0, d0, ds0, p0, q0, hargs, rfl, rfl, h0, r0⟩ := trodAll_cons hA
  obtain ⟨v1, vs1, d1, ds1, p1, q1, rfl, rfl, rfl, h1, r1⟩ := trodAll_cons r0
  obtain ⟨v2, vs2, d2, ds2, p2, q2, rfl, rfl, rfl, h2, r2⟩ := trodAll_cons r1
  obtain ⟨rfl, rfl, rfl⟩ := trodAll_nil r2
  obtain rfl : args = #[v0, v1, v2] := by cases args; simp_all
  obtain ⟨rfl, rfl⟩ := trodVars_none hV
  have k0 := h0
  have lt0 : ∀ x ∈ p0, x.block < W.heap.size := by obtain ⟨m, hm⟩ := k0; exact DataW.trod_lt m _ _ _ hm
  obtain ⟨cs0, rfl, _⟩ := okWide_struct Try.underlying31 (hval 0 31 v0 rfl rfl)
  obtain ⟨x0, hK0, ho0⟩ := (by obtain ⟨fuel, hf⟩ := h0; exact opens31 _ _ _ _ _ _ hf : ∃ a, k31.K W a cs0.toList ∧ ok31 a)
  obtain ⟨A0_0, c0_0, A0_3, c0_3, e0, lc0_0, lr0_0, lc0_3, lr0_3⟩ := k31_open hK0
  have e0' := congrArg List.toArray e0
  rw [Array.toArray_toList] at e0'
  subst e0'
  obtain ⟨a1, len1, cap1, rfl⟩ := okWide_slice Try.underlying22 (hval 1 22 v1 rfl rfl)
  have k1 := h1
  have lt1 : ∀ x ∈ p1, x.block < W.heap.size := by obtain ⟨m, hm⟩ := k1; exact DataW.trod_lt m _ _ _ hm
  have y1 : len1 * 8 ≤ 140737488351232 := Go.Proofs.YtijgbhbdmnhanaaW.PrintWords.sized_ints hsz (j := 1) (t := 22) rfl rfl Try.underlying22 Try.underlying3 (by kernel_rfl) (by kernel_rfl) h1
  obtain ⟨l1, rfl, hc1, hr1, ho1⟩ := Opens.arg_slice (Opens.slice (ok := (fun x_ : Int => (Lit.int .i64 x_).wf = true)) Try.underlying22 (by kernel_rfl) (Opens.int Try.underlying3)) h1
  obtain ⟨a2, len2, cap2, rfl⟩ := okWide_slice Try.underlying22 (hval 2 22 v2 rfl rfl)
  have k2 := h2
  have lt2 : ∀ x ∈ p2, x.block < W.heap.size := by obtain ⟨m, hm⟩ := k2; exact DataW.trod_lt m _ _ _ hm
  have y2 : len2 * 8 ≤ 140737488351232 := Go.Proofs.YtijgbhbdmnhanaaW.PrintWords.sized_ints hsz (j := 2) (t := 22) rfl rfl Try.underlying22 Try.underlying3 (by kernel_rfl) (by kernel_rfl) h2
  obtain ⟨l2, rfl, hc2, hr2, ho2⟩ := Opens.arg_slice (Opens.slice (ok := (fun x_ : Int => (Lit.int .i64 x_).wf = true)) Try.underlying22 (by kernel_rfl) (Opens.int Try.underlying3)) h2
  clear hA0 hval0 hsz0 hsz
  obtain ⟨kk, hp⟩ := Pure.SelectionCompose x0.f0 x0.f1 x0.f2 x0.f3 l1 l2 ho0 ho1 y1 ho2 y2
  refine (laminalaw41_SelectionCompose.calls kk _ _ x0.f0 x0.f1 x0.f2 _ _ x0.f3 _ _ l1 _ _ l2 true W lr0_0 lc0_0 lr0_3 lc0_3 hr1 hc1 hr2 hc2 hp rfl).mono ?_
  rintro e W' ⟨rfl, bel0⟩
  have bel : Below W.heap.size W W' := bel0
  exact ⟨_, rfl, _, _, _, [], _, [], hW', trodAll_mk1 (shut_bool Try.underlying4 _), (trodAll_cons_mk (Below.trod laidOut (by kernel_rfl) (of_decide_eq_true (by kernel_rfl)) k0 bel lt0) (trodAll_cons_mk (Below.trod laidOut (by kernel_rfl) (of_decide_eq_true (by kernel_rfl)) k1 bel lt1) (trodAll_cons_mk (Below.trod laidOut (by kernel_rfl) (of_decide_eq_true (by kernel_rfl)) k2 bel lt2) trodAll_mk0))), rfl, bel.frame _, fun h => by cases h⟩
theorem over : Rows.selectionComposeRow.holds Try.pinned (OpenSpec.ofChange Rows.selectionComposeSpec) :=
  OpenClaim.holds_of_wide 5 Try.f5 rfl rfl rfl rfl rfl rfl rfl ⟨rfl, rfl, rfl, rfl, rfl⟩ rfl rfl rfl rfl rfl (by kernel_rfl) Try.func5 (by kernel_rfl)
    (of_decide_eq_true (by kernel_rfl)) (by unfold Func.isWrapper; first | (rw [if_pos (by decide +kernel)]; kernel_rfl) | (rw [if_neg (by decide +kernel)]; exact ⟨rfl, rfl⟩))
    (fun os started H enc _ => lifted os started H enc)
end Go.Proofs.Ytijgbhbdmnhanaa.selectionCompose
namespace Go.Proofs.Ytijgbhbdmnhanaa
theorem selectionCompose_holds : Rows.SelectionComposeSaid := selectionCompose.over
end Go.Proofs.Ytijgbhbdmnhanaa
