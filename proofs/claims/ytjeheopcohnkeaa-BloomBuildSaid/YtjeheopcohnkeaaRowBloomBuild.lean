/- THE LAW BloomBuild -/
import Derived.Test.YtjeheopcohnkeaaRows
import Derived.Test.YtjeheopcohnkeaaStBloomBuild
import Derived.Test.YtjeheopcohnkeaaPureBloomBuild
import Derived.Test.YtjeheopcohnkeaaUM03
import Derived.WalkKit
import Derived.ProofKit
import Derived.OpenShut
import Derived.ShutString
import Derived.ChangeOld
import Derived.Below
import Derived.SizedLaws
import Derived.JoinedCond
import Derived.Deep.CondSized
import Derived.Test.YtjeheopcohnkeaaUSized
namespace Go.Proofs.Ytjeheopcohnkeaa.bloomBuild
open Go.ChangeShapes Go.WideShapes Go.ChangeAt Go.RowKit Go.Proofs.YtjeheopcohnkeaaM Go.Proofs.Ytjeheopcohnkeaa.QBloomBuild Go.Proofs.YtjeheopcohnkeaaW.PrintWords
open Go.ChangeMaps (open_string shut_string)
set_option linter.unusedVariables false
set_option linter.unusedSimpArgs false
theorem own : ownKnob Try.prog.godebug = none := by kernel_rfl
theorem laidOut : laidOutB Try.prog = true := by kernel_rfl
theorem opens24 : Opens Try.prog 24 k24 ok24 := Opens.struct (fun a => ⟨a.1, a.2.1, a.2.2⟩) Try.underlying24 (by kernel_rfl) (Fields.cons (ok := (fun x_ : Int => (Lit.int .i64 x_).wf = true)) (Opens.int Try.underlying3) rfl (by kernel_rfl) (Fields.cons (ok := (fun x_ : Int => (Lit.int .i64 x_).wf = true)) (Opens.int Try.underlying2) rfl (by kernel_rfl) (Fields.one (ok := (fun x_ : ByteArray => x_.size ≤ maxLen)) (Opens.string Try.underlying9) rfl (by kernel_rfl)))) (fun _ => rfl)
set_option maxRecDepth 100000 in
theorem lifted (os : Os) (started : os.Started) (H : Type) (enc : TypeId × Value → H) :
    ReturnsInHanded {} Try.checked os 3 .any (Rows.bloomBuildSpec.pre6 enc Try.prog Try.f3 Rows.bloomBuildRow.domain false) (Rows.bloomBuildSpec.post enc Try.prog Try.f3 false true false false) := by
  refine returnsInHanded_of_change_sized (C := Try.checked) own started (by kernel_rfl) Try.func3
    (ChangeSpec.witness6 (enc := enc) (C := Try.checked) false ⟨#[], #[.slice none 0 0, .int .i64 0, .agg #[.int .i64 0, .int .i64 0, .string ByteArray.empty]], []⟩ 8 (by kernel_rfl) (by kernel_rfl) (by kernel_rfl) (by kernel_rfl)) ?_
  intro W base args ds gs before hval0 hW hcnd hsz0 _
  have hsz : (DataW.weightsEach Try.prog (Try.f3.params.toList ++ Rows.bloomBuildSpec.plain.varTypes Try.prog) (ds ++ gs)).all (· ≤ reachBytes) = true := hsz0
  have hval : ∀ (j : Nat) t v, Try.f3.params[j]? = some t → args[j]? = some v → Value.okWide Try.prog W .any base t v := hval0
  have hW' := hW
  obtain ⟨p, q, hA0, hV, rfl, hfz, hnd⟩ := hW
  have hA : DataW.TrodAll enc Try.prog W 0 (fun _ => true) true Try.f3.params.toList args.toList ds p := hA0
  rw [Try.params3] at hA hval hsz
  obtain ⟨v0, vs0, d0, ds0, p0, q0, hargs, rfl, rfl, h0, r0⟩ := trodAll_cons hA
  obtain ⟨v1, vs1, d1, ds1, p1, q1, rfl, rfl, rfl, h1, r1⟩ := trodAll_cons r0
  obtain ⟨v2, vs2, d2, ds2, p2, q2, rfl, rfl, rfl, h2, r2⟩ := trodAll_cons r1
  obtain ⟨rfl, rfl, rfl⟩ := trodAll_nil r2
  obtain rfl : args = #[v0, v1, v2] := by cases args; simp_all
  obtain ⟨rfl, rfl⟩ := trodVars_none hV
  obtain ⟨a0, len0, cap0, rfl⟩ := okWide_slice Try.underlying22 (hval 0 22 v0 rfl rfl)
  have k0 := h0
  have lt0 : ∀ x ∈ p0, x.block < W.heap.size := by obtain ⟨m, hm⟩ := k0; exact DataW.trod_lt m _ _ _ hm
  obtain ⟨l0, rfl, hc0, hr0, ho0⟩ := Opens.arg_slice (Opens.slice (ok := (fun x_ : S24 => ok24 x_)) Try.underlying22 (by kernel_rfl) opens24) h0
  obtain ⟨a1, rfl, rfl, rfl, w1⟩ := open_int Try.underlying3 (hval 1 3 v1 rfl rfl) h1
  have k2 := h2
  have lt2 : ∀ x ∈ p2, x.block < W.heap.size := by obtain ⟨m, hm⟩ := k2; exact DataW.trod_lt m _ _ _ hm
  obtain ⟨cs2, rfl, _⟩ := okWide_struct Try.underlying24 (hval 2 24 v2 rfl rfl)
  obtain ⟨x2, hK2, ho2⟩ := (by obtain ⟨fuel, hf⟩ := h2; exact opens24 _ _ _ _ _ _ hf : ∃ a, k24.K W a cs2.toList ∧ ok24 a)
  have e2 := k24_open hK2
  have e2' := congrArg List.toArray e2
  rw [Array.toArray_toList] at e2'
  subst e2'
  clear hA0 hval0 hsz0 hsz
  obtain ⟨kk, hp⟩ := Pure.BloomBuild l0 a1 x2.f0 x2.f1 x2.f2 ho0 w1 ho2
  refine (laminalaw15_BloomBuild.calls kk _ _ l0 a1 x2.f0 x2.f1 x2.f2 true W hr0 hc0 hp rfl).mono ?_
  rintro e W' ⟨rfl, bel0⟩
  have bel : Below W.heap.size W W' := bel0
  exact ⟨_, rfl, _, _, _, [], _, [], hW', trodAll_mk1 (shut_bool Try.underlying4 _), (trodAll_cons_mk (Below.trod laidOut (by kernel_rfl) (of_decide_eq_true (by kernel_rfl)) k0 bel lt0) (trodAll_cons_mk (shut_int Try.underlying3 w1) (trodAll_cons_mk (Below.trod laidOut (by kernel_rfl) (of_decide_eq_true (by kernel_rfl)) k2 bel lt2) trodAll_mk0))), rfl, bel.frame _, fun h => by cases h⟩
theorem over : Rows.bloomBuildRow.holds Try.pinned (OpenSpec.ofChange Rows.bloomBuildSpec) :=
  OpenClaim.holds_of_wide 3 Try.f3 rfl rfl rfl rfl rfl rfl rfl ⟨rfl, rfl, rfl, rfl, rfl⟩ rfl rfl rfl rfl rfl (by kernel_rfl) Try.func3 (by kernel_rfl)
    (of_decide_eq_true (by kernel_rfl)) (by unfold Func.isWrapper; first | (rw [if_pos (by decide +kernel)]; kernel_rfl) | (rw [if_neg (by decide +kernel)]; exact ⟨rfl, rfl⟩))
    (fun os started H enc _ => lifted os started H enc)
end Go.Proofs.Ytjeheopcohnkeaa.bloomBuild
namespace Go.Proofs.Ytjeheopcohnkeaa
theorem bloomBuild_holds : Rows.BloomBuildSaid := bloomBuild.over
end Go.Proofs.Ytjeheopcohnkeaa
