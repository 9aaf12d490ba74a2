/- THE LAW BloomRoundTrip -/
import Derived.Test.YtjeheopcohnkeaaRows
import Derived.Test.YtjeheopcohnkeaaStBloomRoundTrip
import Derived.Test.YtjeheopcohnkeaaPureBloomRoundTrip
import Derived.Test.YtjeheopcohnkeaaUM03
import Derived.WalkKit
import Derived.ProofKit
import Derived.OpenShut
import Derived.ShutString
import Derived.ChangeOld
import Derived.Below
import Derived.SizedLaws
import Derived.JoinedCond
import Derived.Deep.CondSized
import Derived.Test.YtjeheopcohnkeaaUSized
namespace Go.Proofs.Ytjeheopcohnkeaa.bloomRoundTrip
open Go.ChangeShapes Go.WideShapes Go.ChangeAt Go.RowKit Go.Proofs.YtjeheopcohnkeaaM Go.Proofs.Ytjeheopcohnkeaa.QBloomRoundTrip Go.Proofs.YtjeheopcohnkeaaW.PrintWords
open Go.ChangeMaps (open_string shut_string)
set_option linter.unusedVariables false
set_option linter.unusedSimpArgs false
theorem own : ownKnob Try.prog.godebug = none := by kernel_rfl
theorem laidOut : laidOutB Try.prog = true := by kernel_rfl
theorem opens30 : Opens Try.prog 30 k30 ok30 := Opens.struct (fun a => ⟨a.1, a.2⟩) Try.underlying30 (by kernel_rfl) (Fields.cons (ok := (fun x_ : Int => (Lit.int .i64 x_).wf = true)) (Opens.int Try.underlying3) rfl (by kernel_rfl) (Fields.one (ok := (fun x_ : List Int => (x_.length ≤ maxLen ∧ ∀ y0 ∈ x_, (Lit.int .u64 y0).wf = true))) (Opens.slice (ok := (fun x_ : Int => (Lit.int .u64 x_).wf = true)) Try.underlying28 (by kernel_rfl) (Opens.int Try.underlying53)) rfl (by kernel_rfl))) (fun _ => rfl)
theorem opens32 : Opens Try.prog 32 k32 ok32 := Opens.struct (fun a => ⟨a.1, a.2⟩) Try.underlying32 (by kernel_rfl) (Fields.cons (ok := (fun x_ : Int => (Lit.int .i64 x_).wf = true)) (Opens.int Try.underlying3) rfl (by kernel_rfl) (Fields.one (ok := (fun x_ : S30 => ok30 x_)) opens30 rfl (by kernel_rfl))) (fun _ => rfl)
set_option maxRecDepth 100000 in
theorem lifted (os : Os) (started : os.Started) (H : Type) (enc : TypeId × Value → H) :
    ReturnsInHanded {} Try.checked os 7 .any (Rows.bloomRoundTripSpec.pre6 enc Try.prog Try.f7 Rows.bloomRoundTripRow.domain false) (Rows.bloomRoundTripSpec.post enc Try.prog Try.f7 false true false false) := by
  refine returnsInHanded_of_change_sized (C := Try.checked) own started (by kernel_rfl) Try.func7
    (ChangeSpec.witness6 (enc := enc) (C := Try.checked) false ⟨#[], #[.agg #[.int .i64 0, .int .i64 0, .slice none 0 0], .slice none 0 0], []⟩ 8 (by kernel_rfl) (by kernel_rfl) (by kernel_rfl) (by kernel_rfl)) ?_
  intro W base args ds gs before hval0 hW hcnd hsz0 _
  have hsz : (DataW.weightsEach Try.prog (Try.f7.params.toList ++ Rows.bloomRoundTripSpec.plain.varTypes Try.prog) (ds ++ gs)).all (· ≤ reachBytes) = true := hsz0
  have hval : ∀ (j : Nat) t v, Try.f7.params[j]? = some t → args[j]? = some v → Value.okWide Try.prog W .any base t v := hval0
  have hW' := hW
  obtain ⟨p, q, hA0, hV, rfl, hfz, hnd⟩ := hW
  have hA : DataW.TrodAll enc Try.prog W 0 (fun _ => true) true Try.f7.params.toList args.toList ds p := hA0
  rw [Try.params7] at hA hval hsz
  obtain ⟨v0, vs0, d0, ds0, p0, q0, hargs, rfl, rfl, h0, r0⟩ := trodAll_cons hA
  obtain ⟨v1, vs1, d1, ds1, p1, q1, rfl, rfl, rfl, h1, r1⟩ := trodAll_cons r0
  obtain ⟨rfl, rfl, rfl⟩ := trodAll_nil r1
  obtain rfl : args = #[v0, v1] := by cases args; simp_all
  obtain ⟨rfl, rfl⟩ := trodVars_none hV
  have k0 := h0
  have lt0 : ∀ x ∈ p0, x.block < W.heap.size := by obtain ⟨m, hm⟩ := k0; exact DataW.trod_lt m _ _ _ hm
  obtain ⟨cs0, rfl, _⟩ := okWide_struct Try.underlying32 (hval 0 32 v0 rfl rfl)
  obtain ⟨x0, hK0, ho0⟩ := (by obtain ⟨fuel, hf⟩ := h0; exact opens32 _ _ _ _ _ _ hf : ∃ a, k32.K W a cs0.toList ∧ ok32 a)
  obtain ⟨A0_2, c0_2, e0, lc0_2, lr0_2⟩ := k32_open hK0
  have e0' := congrArg List.toArray e0
  rw [Array.toArray_toList] at e0'
  subst e0'
  obtain ⟨a1, len1, cap1, rfl⟩ := okWide_slice Try.underlying43 (hval 1 43 v1 rfl rfl)
  have k1 := h1
  have lt1 : ∀ x ∈ p1, x.block < W.heap.size := by obtain ⟨m, hm⟩ := k1; exact DataW.trod_lt m _ _ _ hm
  have y1 : len1 * 1 ≤ 140737488351232 := Go.Proofs.YtjeheopcohnkeaaW.PrintWords.sized_ints hsz (j := 1) (t := 43) rfl rfl Try.underlying43 Try.underlying5 (by kernel_rfl) (by kernel_rfl) h1
  obtain ⟨l1, rfl, hc1, hr1, ho1⟩ := Opens.arg_slice (Opens.slice (ok := (fun x_ : Int => (Lit.int .u8 x_).wf = true)) Try.underlying43 (by kernel_rfl) (Opens.int Try.underlying5)) h1
  clear hA0 hval0 hsz0 hsz
  obtain ⟨kk, hp⟩ := Pure.BloomRoundTrip x0.f0 x0.f1.f0 x0.f1.f1 l1 ho0 ho1 y1
  refine (laminalaw15_BloomRoundTrip.calls kk x0.f0 x0.f1.f0 _ _ x0.f1.f1 _ _ l1 true W lr0_2 lc0_2 hr1 hc1 hp rfl).mono ?_
  rintro e W' ⟨rfl, bel0⟩
  have bel : Below W.heap.size W W' := bel0
  exact ⟨_, rfl, _, _, _, [], _, [], hW', trodAll_mk1 (shut_bool Try.underlying4 _), (trodAll_cons_mk (Below.trod laidOut (by kernel_rfl) (of_decide_eq_true (by kernel_rfl)) k0 bel lt0) (trodAll_cons_mk (Below.trod laidOut (by kernel_rfl) (of_decide_eq_true (by kernel_rfl)) k1 bel lt1) trodAll_mk0)), rfl, bel.frame _, fun h => by cases h⟩
theorem over : Rows.bloomRoundTripRow.holds Try.pinned (OpenSpec.ofChange Rows.bloomRoundTripSpec) :=
  OpenClaim.holds_of_wide 7 Try.f7 rfl rfl rfl rfl rfl rfl rfl ⟨rfl, rfl, rfl, rfl, rfl⟩ rfl rfl rfl rfl rfl (by kernel_rfl) Try.func7 (by kernel_rfl)
    (of_decide_eq_true (by kernel_rfl)) (by unfold Func.isWrapper; first | (rw [if_pos (by decide +kernel)]; kernel_rfl) | (rw [if_neg (by decide +kernel)]; exact ⟨rfl, rfl⟩))
    (fun os started H enc _ => lifted os started H enc)
end Go.Proofs.Ytjeheopcohnkeaa.bloomRoundTrip
namespace Go.Proofs.Ytjeheopcohnkeaa
theorem bloomRoundTrip_holds : Rows.BloomRoundTripSaid := bloomRoundTrip.over
end Go.Proofs.Ytjeheopcohnkeaa
