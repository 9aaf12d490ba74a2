/- laminalaw07.RleEncodes returns true for all its arguments of bulk at most 1048576 (Encode returns the reference's bytes for valid runs, and Decode the runs and the offset after them, wherever they stand). Conditions: the statement's own bound on the bulk. -/
import Derived.Test.YteamkjphdiajeaaRows
import Derived.Test.YteamkjphdiajeaaStRleEncodes
import Derived.Test.YteamkjphdiajeaaPureRleEncodes
import Derived.Test.YteamkjphdiajeaaM03
import Derived.Test.YteamkjphdiajeaaM05
import Derived.WalkKit
import Derived.ProofKit
import Derived.OpenShut
import Derived.ShutString
import Derived.ChangeOld
import Derived.Below
import Derived.SizedLaws
import Derived.JoinedCond
import Derived.Deep.CondSized
import Derived.Test.YteamkjphdiajeaaWSized
namespace Go.Proofs.Yteamkjphdiajeaa.rleEncodes
open Go.ChangeShapes Go.WideShapes Go.ChangeAt Go.RowKit Go.Proofs.YteamkjphdiajeaaM Go.Proofs.Yteamkjphdiajeaa.QRleEncodes Go.Proofs.YteamkjphdiajeaaW.PrintWords
open Go.ChangeMaps (open_string shut_string)
set_option linter.unusedVariables false
set_option linter.unusedSimpArgs false
theorem own : ownKnob Try.prog.godebug = none := by kernel_rfl
theorem laidOut : laidOutB Try.prog = true := by kernel_rfl
theorem opens77 : Opens Try.prog 77 k77 ok77 := Opens.struct (fun a => ⟨a.1, a.2⟩) Try.underlying77 (by kernel_rfl) (Fields.cons (ok := (fun x_ => (Lit.int .i64 x_).wf = true)) (Opens.int Try.underlying2) rfl (by kernel_rfl) (Fields.one (ok := (fun x_ => (Lit.int .i64 x_).wf = true)) (Opens.int Try.underlying3) rfl (by kernel_rfl))) (fun _ => rfl)
set_option maxRecDepth 100000 in
theorem lifted (os : Os) (started : os.Started) (H : Type) (enc : TypeId × Value → H) (FF : Stop.Interp) :
    ReturnsInHanded {} Try.checked os 11 .any ((Rows.OpenSpec.upto Rows.rleEncodesSpec).pre6 enc Try.prog Try.f11 Rows.rleEncodesUptoRow.domain false) (((Rows.OpenSpec.upto Rows.rleEncodesSpec).at FF).post enc Try.prog Try.f11 false true false false) := by
  refine returnsInHanded_of_cond_sized (C := Try.checked) (s := Rows.OpenSpec.upto Rows.rleEncodesSpec) (k := Rows.uptoSmall) rfl own started (by kernel_rfl) Try.func11
    (OpenSpec.witness (enc := enc) (C := Try.checked) (s := Rows.OpenSpec.upto Rows.rleEncodesSpec) (k := Rows.uptoSmall) rfl false ⟨#[], #[.slice none 0 0, .slice none 0 0, .slice none 0 0], []⟩ 8 (by kernel_rfl) (by kernel_rfl) (by kernel_rfl) (x := ([.nil, .nil, .nil], [], [])) (by kernel_rfl) rfl (by kernel_rfl)) ?_
  intro W base args ds gs before hval0 hW hcnd hk0 hsz0 _
  have hsz : (DataW.weightsEach Try.prog (Try.f11.params.toList ++ Rows.rleEncodesSpec.plain.varTypes Try.prog) (ds ++ gs)).all (· ≤ reachBytes) = true := hsz0
  have hval : ∀ (j : Nat) t v, Try.f11.params[j]? = some t → args[j]? = some v → Value.okWide Try.prog W .any base t v := hval0
  have hW' := hW
  obtain ⟨p, q, hA0, hV, rfl, hfz, hnd⟩ := hW
  have hA : DataW.TrodAll enc Try.prog W 0 (fun _ => true) true Try.f11.params.toList args.toList ds p := hA0
  rw [Try.params11] at hA hval hsz
  obtain ⟨v0, vs0, d0, ds0, p0, q0, hargs, rfl, rfl, h0, r0⟩ := trodAll_cons hA
  obtain ⟨v1, vs1, d1, ds1, p1, q1, rfl, rfl, rfl, h1, r1⟩ := trodAll_cons r0
  obtain ⟨v2, vs2, d2, ds2, p2, q2, rfl, rfl, rfl, h2, r2⟩ := trodAll_cons r1
  obtain ⟨rfl, rfl, rfl⟩ := trodAll_nil r2
  obtain rfl : args = #[v0, v1, v2] := by cases args; simp_all
  obtain ⟨rfl, rfl⟩ := trodVars_none hV
  obtain ⟨a0, len0, cap0, rfl⟩ := okWide_slice Try.underlying23 (hval 0 23 v0 rfl rfl)
  have k0 := h0
  have lt0 : ∀ x ∈ p0, x.block < W.heap.size := by obtain ⟨m, hm⟩ := k0; exact DataW.trod_lt m _ _ _ hm
  obtain ⟨l0, rfl, hc0, hr0, ho0⟩ := Opens.arg_slice (Opens.slice (ok := (fun x_ => ok77 x_)) Try.underlying23 (by kernel_rfl) opens77) h0
  obtain ⟨a1, len1, cap1, rfl⟩ := okWide_slice Try.underlying51 (hval 1 51 v1 rfl rfl)
  have k1 := h1
  have lt1 : ∀ x ∈ p1, x.block < W.heap.size := by obtain ⟨m, hm⟩ := k1; exact DataW.trod_lt m _ _ _ hm
  have b1 := Bulk.bulk_ints Try.underlying51 Try.underlying5 (by kernel_rfl) h1
  have y1 : len1 * 1 ≤ 140737488351232 := Go.Proofs.YteamkjphdiajeaaW.PrintWords.sized_ints hsz (j := 1) (t := 51) rfl rfl Try.underlying51 Try.underlying5 (by kernel_rfl) (by kernel_rfl) h1
  obtain ⟨l1, rfl, hc1, hr1, ho1⟩ := Opens.arg_slice (Opens.slice (ok := (fun x_ => (Lit.int .u8 x_).wf = true)) Try.underlying51 (by kernel_rfl) (Opens.int Try.underlying5)) h1
  obtain ⟨a2, len2, cap2, rfl⟩ := okWide_slice Try.underlying51 (hval 2 51 v2 rfl rfl)
  have k2 := h2
  have lt2 : ∀ x ∈ p2, x.block < W.heap.size := by obtain ⟨m, hm⟩ := k2; exact DataW.trod_lt m _ _ _ hm
  have b2 := Bulk.bulk_ints Try.underlying51 Try.underlying5 (by kernel_rfl) h2
  have y2 : len2 * 1 ≤ 140737488351232 := Go.Proofs.YteamkjphdiajeaaW.PrintWords.sized_ints hsz (j := 2) (t := 51) rfl rfl Try.underlying51 Try.underlying5 (by kernel_rfl) (by kernel_rfl) h2
  obtain ⟨l2, rfl, hc2, hr2, ho2⟩ := Opens.arg_slice (Opens.slice (ok := (fun x_ => (Lit.int .u8 x_).wf = true)) Try.underlying51 (by kernel_rfl) (Opens.int Try.underlying5)) h2
  have hk := of_decide_eq_true hk0
  simp only [List.append_nil, List.cons_append, List.nil_append, Rows.uptoBulkAll] at hk
  clear hA0 hval0 hsz0 hsz hk0
  obtain ⟨kk, hp⟩ := Pure.RleEncodes l0 l1 l2 ho0 ho1 y1 ho2 y2 (by omega)
  refine (laminalaw07_RleEncodes.calls kk _ _ l0 _ _ l1 _ _ l2 true W hr0 hc0 hr1 hc1 hr2 hc2 hp rfl).mono ?_
  rintro e W' ⟨rfl, bel0⟩
  have bel : Below W.heap.size W W' := bel0
  exact ⟨_, rfl, _, _, _, [], _, [], hW', trodAll_mk1 (shut_bool Try.underlying4 _), (trodAll_cons_mk (Below.trod laidOut (by kernel_rfl) (of_decide_eq_true (by kernel_rfl)) k0 bel lt0) (trodAll_cons_mk (Below.trod laidOut (by kernel_rfl) (of_decide_eq_true (by kernel_rfl)) k1 bel lt1) (trodAll_cons_mk (Below.trod laidOut (by kernel_rfl) (of_decide_eq_true (by kernel_rfl)) k2 bel lt2) trodAll_mk0))), rfl, bel.frame _, fun h => by cases h⟩
theorem over : Rows.rleEncodesUptoRow.holds Try.pinned (Rows.OpenSpec.upto Rows.rleEncodesSpec) :=
  OpenClaim.holds_of_cond 11 Try.f11 rfl rfl rfl rfl rfl rfl rfl ⟨rfl, rfl, rfl, rfl, rfl⟩ rfl rfl rfl rfl rfl (by kernel_rfl) Try.func11 (by kernel_rfl)
    (of_decide_eq_true (by kernel_rfl)) (by unfold Func.isWrapper; first | (rw [if_pos (by decide +kernel)]; kernel_rfl) | (rw [if_neg (by decide +kernel)]; exact ⟨rfl, rfl⟩))
    (fun os started H enc _ FF => lifted os started H enc FF)
end Go.Proofs.Yteamkjphdiajeaa.rleEncodes
namespace Go.Proofs.Yteamkjphdiajeaa
theorem rleEncodes_holds : Rows.RleEncodesUptoSaid := rleEncodes.over
end Go.Proofs.Yteamkjphdiajeaa
