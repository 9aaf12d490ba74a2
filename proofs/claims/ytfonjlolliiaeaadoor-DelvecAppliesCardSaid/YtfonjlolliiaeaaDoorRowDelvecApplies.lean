/- laminalaw22.DelvecApplies returns true for all its arguments (Apply returns the live rows; those of a union are the rows live in both sets), the table of math/bits tied to the program's text. Conditions: none beyond the row's own (slices and strings of at most 2^47 - 4096 bytes). -/
import Derived.Test.YtfonjlolliiaeaaDoorRows
import Derived.Test.YtfonjlolliiaeaaDoorStDelvecApplies
import Derived.Test.YtfonjlolliiaeaaDoorPureDelvecApplies
import Derived.Test.YtfonjlolliiaeaaDoorUM03
import Derived.Test.YtfonjlolliiaeaaDoorUM13
import Derived.Test.YtfonjlolliiaeaaDoorTie
import Derived.Test.YtfonjlolliiaeaaDoorCards
import Derived.LaidMore
import Derived.Stop.Joined
import Derived.WalkKit
import Derived.ProofKit
import Derived.OpenShut
import Derived.ShutString
import Derived.ChangeOld
import Derived.Below
import Derived.SizedLaws
import Derived.JoinedCond
import Derived.Deep.CondSized
import Derived.Test.YtfonjlolliiaeaaDoorUSized
namespace Go.Proofs.YtfonjlolliiaeaaDoor.delvecApplies
open Go.ChangeShapes Go.WideShapes Go.ChangeAt Go.RowKit Go.Proofs.YtfonjlolliiaeaaDoorM Go.Proofs.YtfonjlolliiaeaaDoor.QDelvecApplies Go.Proofs.YtfonjlolliiaeaaDoorW.PrintWords
open Go.ChangeMaps (open_string shut_string)
set_option linter.unusedVariables false
set_option linter.unusedSimpArgs false
theorem rk_pair {α β : Type} {a : Kd α} {b : Kd β} (ha : Kd.Heap a) (hb' : Kd.Heap b) : Kd.Heap (Kd.pair a b) := ⟨by
  rintro w w1 x cs hb ⟨c0, c1, rfl, h0, h1⟩
  exact ⟨c0, c1, rfl, ha.K hb h0, hb'.K hb h1⟩⟩
theorem k77_heap : Kd.Heap k77 := ⟨fun hb h => (rk_pair (a := Kd.int .i64) (Kd.heap_int _) (rk_pair (a := Kd.int .i64) (Kd.heap_int _) (b := Kd.string) ⟨fun _ h => h⟩)).K hb h⟩
theorem own : ownKnob Tryd.prog.godebug = none := by kernel_rfl
theorem laidOut : laidOutB Tryd.prog = true := by kernel_rfl
theorem opens77 : Opens Tryd.prog 77 k77 ok77 := Opens.struct (fun a => ⟨a.1, a.2.1, a.2.2⟩) Tryd.underlying77 (by kernel_rfl) (Fields.cons (ok := (fun x_ : Int => (Lit.int .i64 x_).wf = true)) (Opens.int Tryd.underlying3) rfl (by kernel_rfl) (Fields.cons (ok := (fun x_ : Int => (Lit.int .i64 x_).wf = true)) (Opens.int Tryd.underlying2) rfl (by kernel_rfl) (Fields.one (ok := (fun x_ : ByteArray => x_.size ≤ maxLen)) (Opens.string Tryd.underlying9) rfl (by kernel_rfl)))) (fun _ => rfl)
theorem opens24 : Opens Tryd.prog 24 k24 ok24 := Opens.struct (fun a => ⟨a.1, a.2⟩) Tryd.underlying24 (by kernel_rfl) (Fields.cons (ok := (fun x_ : Int => (Lit.int .i64 x_).wf = true)) (Opens.int Tryd.underlying3) rfl (by kernel_rfl) (Fields.one (ok := (fun x_ : List Int => (x_.length ≤ maxLen ∧ ∀ y0 ∈ x_, (Lit.int .u64 y0).wf = true))) (Opens.slice (ok := (fun x_ : Int => (Lit.int .u64 x_).wf = true)) Tryd.underlying22 (by kernel_rfl) (Opens.int Tryd.underlying51)) rfl (by kernel_rfl))) (fun _ => rfl)
set_option maxRecDepth 100000 in
theorem lifted (os : Os) (started : os.Started) (H : Type) (enc : TypeId × Value → H) :
    ReturnsInHanded {} Tryd.checked os 6 .any (fun w args => (Rows.delvecAppliesSpec.pre enc Tryd.prog Tryd.f6 [] false w args ∧ laidMetH Tryd.prog laid1 w) ∧ sizedMet enc Tryd.prog Tryd.f6 (OpenSpec.ofChange Rows.delvecAppliesSpec) false w args) (Rows.delvecAppliesSpec.post enc Tryd.prog Tryd.f6 false true false false) := by
  refine returnsInHanded_of_change_and (C := Tryd.checked) (X := fun w _ => laidMetH Tryd.prog laid1 w) (fun _ _ _ hh h => h.of_heap hh) own started (by kernel_rfl) Tryd.func6
    (ChangeSpec.witness_shaped (enc := enc) (C := Tryd.checked) (os := os) (X := fun w _ => laidMetH Tryd.prog laid1 w) false (World.doorLaid Tryd.prog 400 os) #[.slice none 0 0, .agg #[.int .i64 0, .slice none 0 0], .agg #[.int .i64 0, .slice none 0 0]] 8 rfl (World.shaped_of_RefB (by kernel_rfl) (by kernel_rfl)) (by kernel_rfl) (by kernel_rfl) (by kernel_rfl) (door_met os _)) ?_
  intro W base args ds gs before hval0 hW hcnd hsz0 hL _
  have hsz : (DataW.weightsEach Tryd.prog (Tryd.f6.params.toList ++ Rows.delvecAppliesSpec.plain.varTypes Tryd.prog) (ds ++ gs)).all (· ≤ reachBytes) = true := hsz0
  have hval : ∀ (j : Nat) t v, Tryd.f6.params[j]? = some t → args[j]? = some v → Value.okWide Tryd.prog W .any base t v := hval0
  have hW' := hW
  obtain ⟨p, q, hA0, hV, rfl, hfz, hnd⟩ := hW
  have hA : DataW.TrodAll enc Tryd.prog W 0 (fun _ => true) true Tryd.f6.params.toList args.toList ds p := hA0
  rw [Tryd.params6] at hA hval hsz
  obtain ⟨v0, vs0, d0, ds0, p0, q0, hargs, rfl, rfl, h0, r0⟩ := trodAll_cons hA
  obtain ⟨v1, vs1, d1, ds1, p1, q1, rfl, rfl, rfl, h1, r1⟩ := trodAll_cons r0
  obtain ⟨v2, vs2, d2, ds2, p2, q2, rfl, rfl, rfl, h2, r2⟩ := trodAll_cons r1
  obtain ⟨rfl, rfl, rfl⟩ := trodAll_nil r2
  obtain rfl : args = #[v0, v1, v2] := by cases args; simp_all
  obtain ⟨rfl, rfl⟩ := trodVars_none hV
  obtain ⟨a0, len0, cap0, rfl⟩ := okWide_slice Tryd.underlying43 (hval 0 43 v0 rfl rfl)
  have k0 := h0
  have lt0 : ∀ x ∈ p0, x.block < W.heap.size := by obtain ⟨m, hm⟩ := k0; exact DataW.trod_lt m _ _ _ hm
  obtain ⟨l0, rfl, hc0, hr0, ho0⟩ := Opens.arg_slice (Opens.slice (ok := (fun x_ : List (S77) => (x_.length ≤ maxLen ∧ ∀ y0 ∈ x_, ok77 y0))) Tryd.underlying43 (by kernel_rfl) (Opens.slice (ok := (fun x_ : S77 => ok77 x_)) Tryd.underlying46 (by kernel_rfl) opens77)) h0
  have k1 := h1
  have lt1 : ∀ x ∈ p1, x.block < W.heap.size := by obtain ⟨m, hm⟩ := k1; exact DataW.trod_lt m _ _ _ hm
  obtain ⟨cs1, rfl, _⟩ := okWide_struct Tryd.underlying24 (hval 1 24 v1 rfl rfl)
  obtain ⟨x1, hK1, ho1⟩ := (by obtain ⟨fuel, hf⟩ := h1; exact opens24 _ _ _ _ _ _ hf : ∃ a, k24.K W a cs1.toList ∧ ok24 a)
  obtain ⟨A1_1, c1_1, e1, lc1_1, lr1_1⟩ := k24_open hK1
  have e1' := congrArg List.toArray e1
  rw [Array.toArray_toList] at e1'
  subst e1'
  have k2 := h2
  have lt2 : ∀ x ∈ p2, x.block < W.heap.size := by obtain ⟨m, hm⟩ := k2; exact DataW.trod_lt m _ _ _ hm
  obtain ⟨cs2, rfl, _⟩ := okWide_struct Tryd.underlying24 (hval 2 24 v2 rfl rfl)
  obtain ⟨x2, hK2, ho2⟩ := (by obtain ⟨fuel, hf⟩ := h2; exact opens24 _ _ _ _ _ _ hf : ∃ a, k24.K W a cs2.toList ∧ ok24 a)
  obtain ⟨A2_1, c2_1, e2, lc2_1, lr2_1⟩ := k24_open hK2
  have e2' := congrArg List.toArray e2
  rw [Array.toArray_toList] at e2'
  subst e2'
  clear hA0 hval0 hsz0 hsz
  obtain ⟨kk, hp⟩ := Pure.DelvecApplies l0 x1.f0 x1.f1 x2.f0 x2.f1 ho0 ho1 ho2
  refine (laminalaw22_DelvecApplies.calls kk (fun k_ => k_ < W.heap.size) _ _ l0 x1.f0 _ _ x1.f1 x2.f0 _ _ x2.f1 true W (Kd.V_mk hc0 (Kd.C_F (Kd.heap_slice 77 k77_heap) hr0)) lr1_1 lc1_1 lr2_1 lc2_1 (tab_of_laid hL) hp rfl).mono ?_
  rintro e W' ⟨rfl, bel0⟩
  have bel : Below W.heap.size W W' := bel0
  exact ⟨_, rfl, _, _, _, [], _, [], hW', trodAll_mk1 (shut_bool Tryd.underlying4 _), (trodAll_cons_mk (Below.trod laidOut (by kernel_rfl) (of_decide_eq_true (by kernel_rfl)) k0 bel lt0) (trodAll_cons_mk (Below.trod laidOut (by kernel_rfl) (of_decide_eq_true (by kernel_rfl)) k1 bel lt1) (trodAll_cons_mk (Below.trod laidOut (by kernel_rfl) (of_decide_eq_true (by kernel_rfl)) k2 bel lt2) trodAll_mk0))), rfl, bel.frame _, fun h => by cases h⟩
theorem over : Rows.delvecAppliesRow.holds Tryd.pinned (OpenSpec.ofChange Rows.delvecAppliesSpec) :=
  OpenClaim.holds_of_wide 6 Tryd.f6 rfl rfl rfl rfl rfl rfl rfl ⟨rfl, rfl, rfl, rfl, rfl⟩ rfl rfl rfl rfl rfl (by kernel_rfl) Tryd.func6 (by kernel_rfl)
    (of_decide_eq_true (by kernel_rfl)) (by unfold Func.isWrapper; first | (rw [if_pos (by decide +kernel)]; kernel_rfl) | (rw [if_neg (by decide +kernel)]; exact ⟨rfl, rfl⟩))
    (fun os started H enc _ => lifted os started H enc)
end Go.Proofs.YtfonjlolliiaeaaDoor.delvecApplies
namespace Go.Proofs.YtfonjlolliiaeaaDoor
theorem delvecApplies_holds : Rows.DelvecAppliesCardSaid :=
  Claim7.holds_tied_plain_at .later [] [.data] true (true, "5d282dd3866542a919b95dab1c97d238b608cf8189512b6182b25dcd081647ac") false
    delvecApplies.over (fun _ h => by cases h) (by kernel_rfl) (fun _ h => by cases h) delvecApplies_row_tie rfl ⟨rfl, rfl⟩ (by kernel_rfl) rfl
    (fun f fn hf hfn => by
      obtain rfl : f = 6 := Option.some.inj ((show Tryd.prog.funcNamed "lamina/laminalaw22.DelvecApplies" = some 6 by kernel_rfl).symm.trans hf) |>.symm
      obtain rfl : fn = Tryd.f6 := (Option.some.inj (Tryd.func6.symm.trans hfn)).symm
      have hall : Tryd.f6.params.toList.all (fun t => !Tryd.prog.wantsStandIn t) = true := by kernel_rfl
      exact ⟨by kernel_rfl, fun j t ht => by
        have hm : t ∈ Tryd.f6.params.toList := by rw [Array.mem_toList_iff]; exact Array.mem_of_getElem? ht
        have hb : Tryd.prog.wantsStandIn t = false := by simpa using List.all_eq_true.1 hall t hm
        exact hb⟩)
    (by kernel_rfl)
end Go.Proofs.YtfonjlolliiaeaaDoor
