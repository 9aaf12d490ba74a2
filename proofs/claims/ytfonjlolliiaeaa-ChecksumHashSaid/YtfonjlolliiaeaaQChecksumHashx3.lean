-- Written by a program of this session (wip/pr2.sh): the walk of the Go text, function by function.
import Derived.Test.YtfonjlolliiaeaaQChecksumHashx0
import Derived.Test.YtfonjlolliiaeaaQChecksumHashx2
namespace Go.Proofs.Ytfonjlolliiaeaa.QChecksumHash
open Go.RowKit Go.Proofs.YtfonjlolliiaeaaW.PrintWords Go.Proofs.YtfonjlolliiaeaaW.PrintLast Go.Proofs.YtfonjlolliiaeaaW.PrintMore
open Go.Proofs.YtfonjlolliiaeaaM
attribute [local go_sem] max2_int min2_int max_two min_two max_three min_three max_four min_four   -- for this text's walks alone
set_option linter.unusedVariables false
set_option linter.unusedSimpArgs false

/-! ### laminalaw02_ChecksumHash: function 4 -/
def laminalaw02_ChecksumHash.f (k : Nat) (a0 : Int) (l1 : List Int) : Option (Bool) := if (l1.length : Int) > 5000 then ((laminalaw02_awake.f).bind fun t146 => (if t146 = true then (some true) else (if (l1.length : Int) ≤ 5000 then ((checksum_Hash.f a0 l1).bind fun t147 => ((laminaref02_Hash.f k a0 l1).bind fun t148 => (if t147 = t148 then ((laminalaw02_awake.f).bind fun t149 => (some t149)) else (some false)))) else (some false)))) else (if (l1.length : Int) ≤ 5000 then ((checksum_Hash.f a0 l1).bind fun t150 => ((laminaref02_Hash.f k a0 l1).bind fun t151 => (if t150 = t151 then ((laminalaw02_awake.f).bind fun t152 => (some t152)) else (some false)))) else (some false))
theorem laminalaw02_ChecksumHash.mono : ∀ a0 a1 k, LeO (laminalaw02_ChecksumHash.f k a0 a1) (laminalaw02_ChecksumHash.f (k + 1) a0 a1) := by
 intro a0 a1 k
 unfold laminalaw02_ChecksumHash.f
 repeat' first
   | (with_reducible exact laminaref02_Hash.mono _ _ _)
   | (with_reducible exact LeO.refl _)
   | (with_reducible exact LeO.none _)
   | (with_reducible refine LeO.ite ?_ ?_)
   | (with_reducible refine LeO.bind ?_ (fun _ => ?_))
   | exact laminaref02_Hash.mono _ _ _
   | exact LeO.none _
   | refine LeO.ite ?_ ?_
   | refine LeO.bind ?_ (fun _ => ?_)
set_option maxHeartbeats 8000000 in
set_option maxRecDepth 100000 in
theorem laminalaw02_ChecksumHash.calls (k : Nat) (a0 : Int) (A1 : Option Addr) (c1 : Nat) (l1 : List Int) (r : Bool) (w : World) (hr1 : Kd.C (Kd.int .u8) w A1 l1.length l1) (hc1 : l1.length ≤ c1) (h : laminalaw02_ChecksumHash.f k a0 l1 = some r) (hr0 : r = true) :
  Calls Try.prog 4 #[.int .u64 a0, .slice A1 l1.length c1] w fun e w' => e = .returned (.bool r) ∧ Below w.heap.size w w' := by
 have hr_ := Aside0.mk hr0
 clear hr0
 have HR1 := Aside0.mk hr1
 have HC1 := Aside0.mk hc1
 clear hr1 hc1
 have HB := Aside0.mk (Below.refl w.heap.size w)
 have H : (if (l1.length : Int) > 5000 then ((laminalaw02_awake.f).bind fun t146 => (if t146 = true then (some true) else (if (l1.length : Int) ≤ 5000 then ((checksum_Hash.f a0 l1).bind fun t147 => ((laminaref02_Hash.f k a0 l1).bind fun t148 => (if t147 = t148 then ((laminalaw02_awake.f).bind fun t149 => (some t149)) else (some false)))) else (some false)))) else (if (l1.length : Int) ≤ 5000 then ((checksum_Hash.f a0 l1).bind fun t150 => ((laminaref02_Hash.f k a0 l1).bind fun t151 => (if t150 = t151 then ((laminalaw02_awake.f).bind fun t152 => (some t152)) else (some false)))) else (some false))) = some r := h
 clear h
 by_cases c3 : (l1.length : Int) > 5000
 ·rw [if_pos c3] at H
  have c3b0 : decide (5000 < (l1.length : Int)) = true := decide_eq_true c3
  have c3b1 : decide (5000 < l1.length) = true := decide_eq_true (by omega)
  clear c3
  replace H := Option.bind_eq_some_iff.mp H
  obtain ⟨t146, A40, H⟩ := H
  replace H : (if t146 = true then (some true) else (if (l1.length : Int) ≤ 5000 then ((checksum_Hash.f a0 l1).bind fun t147 => ((laminaref02_Hash.f k a0 l1).bind fun t148 => (if t147 = t148 then ((laminalaw02_awake.f).bind fun t149 => (some t149)) else (some false)))) else (some false))) = some r := H
  have A4 := Aside0.mk A40
  clear A40
  by_cases c5 : t146 = true
  ·subst c5
   have H1 : (some true) = some r := by rw [if_pos rfl] at H; exact H
   clear H
   have H := H1
   clear H1
   obtain rfl := Option.some.inj H
   go_enter Try.func4, Try.ntmps4
   go_wp2_with (first | (go_at_call 9; (with_reducible refine (laminalaw02_awake.calls  true _ A4.out).mono ?_); rintro e w6 ⟨rfl, hb⟩; have n0_ := Aside0.mk (below_step (by repeat (first | (with_reducible first | exact HB.out | apply below_alloc | apply pw_below_drewN | apply below_drew1) | exact HB.out)) hb); clear HB; have HB := n0_; clear n0_; (try clear hb); (try clear hb2); (try clear hk); (try clear hi)))
   go_ret
   exact ⟨by first | rfl | (simp [errW_none, errW_some] <;> rfl) | (simp [*, errW_none, errW_some] <;> rfl), by repeat (first | (with_reducible first | exact HB.out | apply below_alloc | apply pw_below_drewN | apply below_drew1) | exact HB.out)⟩
  ·replace c5 := Bool.eq_false_iff.mpr c5
   subst c5
   exact absurd A4.out (by simp [laminalaw02_awake.f])
 ·rw [if_neg c3] at H
  have c3b0 : decide (5000 < (l1.length : Int)) = false := decide_eq_false c3
  have c3b1 : decide (5000 < l1.length) = false := decide_eq_false (by omega)
  clear c3
  by_cases c15 : (l1.length : Int) ≤ 5000
  ·rw [if_pos c15] at H
   have c15b0 : decide ((l1.length : Int) ≤ 5000) = true := decide_eq_true c15
   have c15b1 : decide (l1.length ≤ 5000) = true := decide_eq_true (by omega)
   clear c15
   replace H := Option.bind_eq_some_iff.mp H
   obtain ⟨t150, A160, H⟩ := H
   replace H : ((laminaref02_Hash.f k a0 l1).bind fun t151 => (if t150 = t151 then ((laminalaw02_awake.f).bind fun t152 => (some t152)) else (some false))) = some r := H
   have A16 := Aside0.mk A160
   clear A160
   replace H := Option.bind_eq_some_iff.mp H
   obtain ⟨t151, A170, H⟩ := H
   replace H : (if t150 = t151 then ((laminalaw02_awake.f).bind fun t152 => (some t152)) else (some false)) = some r := H
   have A17 := Aside0.mk A170
   clear A170
   by_cases c18 : t150 = t151
   ·rw [if_pos c18] at H
    have c18b0 : (t150 == t151) = true := beq_iff_eq.mpr c18
    have c18b1 : (t150 != t151) = false := bne_eq_false_iff_eq.mpr c18
    clear c18
    replace H := Option.bind_eq_some_iff.mp H
    obtain ⟨t152, A190, H⟩ := H
    replace H : (some t152) = some r := H
    have A19 := Aside0.mk A190
    clear A190
    obtain rfl := Option.some.inj H
    go_enter Try.func4, Try.ntmps4
    go_wp2_with (first | (go_at_call 13; (with_reducible refine (checksum_Hash.calls a0 _ _ l1 t150 _ ?side1 ?side2 A16.out).mono ?_); (case side1 => repeat (first | exact HR1.out | (with_reducible refine Kd.C_alloc ?_ _) | (with_reducible refine Kd.C_drewN ?_ _) | (with_reducible refine Kd.C_drew ?_))); (case side2 => exact HC1.out); rintro e w20 ⟨rfl, hb⟩; have n0_ := Aside0.mk (below_step (by repeat (first | (with_reducible first | exact HB.out | apply below_alloc | apply pw_below_drewN | apply below_drew1) | exact HB.out)) hb); clear HB; have HB := n0_; clear n0_; (try clear hb); (try clear hb2); (try clear hk); (try clear hi)) | (go_at_call 14; (with_reducible refine (laminaref02_Hash.calls k a0 _ _ l1 t151 _ ?side1 ?side2 A17.out).mono ?_); (case side1 => repeat (first | exact (Kd.C_below HR1.out HB.out) | (with_reducible refine Kd.C_alloc ?_ _) | (with_reducible refine Kd.C_drewN ?_ _) | (with_reducible refine Kd.C_drew ?_))); (case side2 => exact HC1.out); rintro e w' ⟨rfl, ⟨nd, rfl⟩⟩; (try clear A17)) | (go_at_call 9; (with_reducible refine (laminalaw02_awake.calls  t152 _ A19.out).mono ?_); rintro e w21 ⟨rfl, hb⟩; have n0_ := Aside0.mk (below_step (by repeat (first | (with_reducible first | exact HB.out | apply below_alloc | apply pw_below_drewN | apply below_drew1) | exact HB.out)) hb); clear HB; have HB := n0_; clear n0_; (try clear hb); (try clear hb2); (try clear hk); (try clear hi)))
    go_ret
    exact ⟨by first | rfl | (simp [errW_none, errW_some] <;> rfl) | (simp [*, errW_none, errW_some] <;> rfl), by repeat (first | (with_reducible first | exact HB.out | apply below_alloc | apply pw_below_drewN | apply below_drew1) | exact HB.out)⟩
   ·rw [if_neg c18] at H
    exact absurd (H.trans (congrArg some hr_.out)) (by simp)
  ·rw [if_neg c15] at H
   exact absurd (H.trans (congrArg some hr_.out)) (by simp)

/-- THE ONE PURE STATEMENT of laminalaw02_ChecksumHash: yours. -/
def laminalaw02_ChecksumHash.Pure : Prop := ∀ (a0 : Int) (l1 : List Int), (Lit.int .u64 a0).wf = true → l1.length ≤ maxLen → l1.length * 1 ≤ 140737488351232 → (∀ x ∈ l1, (Lit.int .u8 x).wf = true) → ∃ k, laminalaw02_ChecksumHash.f k a0 l1 = some true
theorem laminalaw02_ChecksumHash.walk (P : laminalaw02_ChecksumHash.Pure) (a0 : Int) (a1 : Option Addr) (len1 cap1 : Nat) (z1 : List Int) (w : World) (w0 : (Lit.int .u64 a0).wf = true) (w1 : (a1 = none ∧ len1 = 0 ∧ cap1 = 0 ∧ z1 = []) ∨ ∃ x, a1 = some x ∧ len1 ≤ cap1 ∧ cap1 ≤ maxLen ∧ z1.length = cap1 ∧ (∀ i, i < z1.length → w.cell? (x.add i) = some (.int .u8 (z1.getD i 0))) ∧ ∀ n ∈ z1, (Lit.int .u8 n).wf = true) (y1 : len1 * 1 ≤ 140737488351232) :
  Calls Try.prog 4 #[.int .u64 a0, .slice a1 len1 cap1] w fun e w' => e = .returned (.bool true) ∧ Below w.heap.size w w' := by
 obtain ⟨l1, rfl, hr1, hm1, hw1, hc1⟩ := ReadsInt.ofRowC w1
 obtain ⟨k, h⟩ := P a0 l1 w0 hm1 y1 hw1
 refine (laminalaw02_ChecksumHash.calls k a0 _ _ l1 true w (Kd.C_of_reads (d := (0 : Int)) (h1 := fun _ => rfl) hr1) hc1 h rfl).mono ?_
 rintro e w' ⟨rfl, hd⟩
 exact ⟨rfl, hd⟩

end Go.Proofs.Ytfonjlolliiaeaa.QChecksumHash
