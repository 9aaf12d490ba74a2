-- Written by a program of this session (wip/pr2.sh): the walk of the Go text, function by function.
import Derived.Test.YtllhbjkkoogeeaaQDeltaDecodex0
namespace Go.Proofs.Ytllhbjkkoogeeaa.QDeltaDecode
open Go.RowKit Go.Proofs.YtllhbjkkoogeeaaW.PrintWords Go.Proofs.YtllhbjkkoogeeaaW.PrintLast Go.Proofs.YtllhbjkkoogeeaaW.PrintMore
open Go.Proofs.YtllhbjkkoogeeaaM
attribute [local go_sem] max2_int min2_int max_two min_two max_three min_three max_four min_four   -- for this text's walks alone
set_option linter.unusedVariables false
set_option linter.unusedSimpArgs false

/-! ### delta_PrefixSums: function 50 -/
def delta_PrefixSums.f (a0 : Int) (l1 : List Int) : Option (List Int) := if l1.length ≤ 1000000000 then some (psums a0 l1) else none
theorem makecap {P : Program} {ops : Array Oper} {rest : List Oper} {o : Oper} {a : Act} {Q : Exit → Act → World → Prop} {w0 W : World} (base e : Nat) (hgd : o.guard = none) {N : Tmp} (hd : o.dst = some N) (t : TypeId) (x y : Operand) (ho : o.op = .makeSlice t x y) (c : Nat)
    (hx : a.eval x = .int .i64 1) (hy : a.eval y = .int .i64 (c : Int)) (ht : P.underlying t = some (.slice e)) (hinfo : (P.info? e).map (fun i => (i.zero, i.size, i.bytes)) = some (some (.int .i64 0), 1, 8)) (hc : 1 ≤ c) (hl : c ≤ 2000000000) (HB : Below base w0 W) (hbase : base ≤ W.heap.size)
    (h : ∀ g w1, Kd.R (Kd.int .i64) e w1 base (fun _ => True) (.slice (some ⟨g, 0, none⟩) 1 c) [0] → w1.cell? ⟨g, 0, none⟩ = some (.int .i64 0) → w1.frozen? ⟨g, 0, none⟩ = false → base ≤ g → Below base w0 w1 → wpList P ops Q rest (a.put o.dst (.slice (some ⟨g, 0, none⟩) 1 c)) w1) : wpList P ops Q (o :: rest) a W := by
  obtain ⟨i0, hi, hzz⟩ := Option.map_eq_some_iff.1 hinfo
  simp only [Prod.mk.injEq] at hzz
  obtain ⟨hz0, hz1, hz2⟩ := hzz
  have hr := run_make (P := P) W t e i0 (.int .i64 0) ht hi hz0 .i64 .i64 1 (c : Int) (by omega) (by omega) (by rw [hz2]; omega) (by omega)
  simp only [Int.toNat_natCast] at hr
  rw [hz1, Nat.mul_one, show ((1 : Int)).toNat = 1 from rfl, show (Value.int .i64 0).cells = #[.int .i64 0] from rfl] at hr
  have own := own_made_of' (enc := Value.int .i64) (d := (0 : Int)) W base e c hbase (by omega)
  have R0 := Kd.R_of_own (enc := Value.int .i64) (h1 := fun _ => rfl) own (ok := fun _ => True) (fun _ _ => trivial)
  have R1 := Kd.R_take (m := 1) R0 (by simp; omega)
  have e1 : (List.replicate c (0 : Int)).take 1 = [0] := by
    rw [List.take_replicate, Nat.min_eq_left hc]; rfl
  rw [e1] at R1
  have hb : (W.alloc (.cells (madeCells #[.int .i64 0] c) e)).heap[W.heap.size]? = some (.cells (madeCells #[.int .i64 0] c) e (0, 0)) := blk_new W _
  have hcell : (W.alloc (.cells (madeCells #[.int .i64 0] c) e)).cell? ⟨W.heap.size, 0, none⟩ = some (.int .i64 0) := by
    have := blk_cell hb 0
    rw [this, Array.getElem?_eq_getElem (by rw [size_madeCells]; omega)]
    simp [madeCells, Nat.mod_one]
  refine Kd.event_run hgd (v := .slice (some ⟨W.heap.size, 0, none⟩) 1 c) (w1 := W.alloc (.cells (madeCells #[.int .i64 0] c) e)) ?_ (h W.heap.size _ R1 hcell (blk_frozen hb 0) hbase (HB.trans (Below.mono (below_alloc (Below.refl W.heap.size W) _) hbase)))
  simp [execOp, ho, hx, hy, hr]
set_option maxHeartbeats 2000000 in
set_option maxRecDepth 100000 in
theorem delta_PrefixSums.calls (a0 : Int) (A1 : Option Addr) (c1 : Nat) (l1 : List Int) (r : List Int) (w : World) (hr1 : Kd.C (Kd.int .i64) w A1 l1.length l1) (hc1 : l1.length ≤ c1) (h : delta_PrefixSums.f a0 l1 = some r) :
    Calls Try.prog 50 #[.int .i64 a0, .slice A1 l1.length c1] w fun e w' => ∃ v0_ : Value, e = .returned (v0_) ∧ Kd.R (Kd.int .i64) 2 w' w.heap.size (fun _ => True) v0_ r ∧ Below w.heap.size w w' := by
  unfold delta_PrefixSums.f at h
  by_cases hsz : l1.length ≤ 1000000000
  case neg => rw [if_neg hsz] at h; cases h
  rw [if_pos hsz] at h
  have hR := Option.some.inj h
  clear h
  have HR := Aside0.mk hr1
  have HS := Aside0.mk hsz
  have HX := Aside0.mk hR
  have hcap : IntKind.i64.wrap ((l1.length : Int) + 1) = ((l1.length + 1 : Nat) : Int) := by rw [IntWalk.i64_in _ (by omega)]; omega
  obtain ⟨cc, hcc⟩ : ∃ cc : Nat, cc = l1.length + 1 := ⟨_, rfl⟩
  rw [← hcc] at hcap
  have HCC := Aside0.mk hcc
  clear hr1 hR hsz hcc
  go_enter Try.func50, Try.ntmps50
  go_wp2_with ((with_reducible refine gate_dst (N := 11) rfl ?_); go_loud (refine makecap w.heap.size 2 rfl (N := 11) rfl 38 _ _ rfl cc rfl (by first | rfl | (simp only [*]; rfl)) Try.underlying38 info2 (by have := HCC.out; omega) (by have := HCC.out; have := HS.out; omega) (Below.refl _ _) (Nat.le_refl _) ?_; intro g w1 hO hcl hfz hge hb; have HO := Aside0.mk hO; have HB := Aside0.mk hb; have HGE := Aside0.mk hge; clear hO hb hge))
  have HP := Kd.R_putn HO.out 0 a0
  rw [show ((0 : Int)).toNat = 0 from rfl, List.set_cons_zero] at HP
  have HP0 := Aside0.mk HP
  have HB0 := Aside0.mk (below_set (j := 0) (v := .int .i64 a0) HB.out HGE.out)
  clear HP hcl hfz HO HB hcap
  go_loopw [0, 5, 17] (fun v0 v5 v17 wr => ∃ (f : Int) (i : Nat) (pre : List Int), i ≤ l1.length ∧ v0 = .int .i64 f ∧ v17 = .int .i64 (i : Int) ∧ Aside0 (pre ++ psums f (l1.drop i) = r ∧ pre.length = i) ∧ Aside0 (Kd.R (Kd.int .i64) 2 wr w.heap.size (fun _ => True) v5 (pre ++ [f])) ∧ Aside0 (Below w.heap.size w wr)) (fun _ _ v17 _ => l1.length - (intOf v17).toNat)
  case atStart => exact ⟨a0, 0, [], Nat.zero_le _, rfl, rfl, ⟨HX.out, rfl⟩, ⟨HP0.out⟩, ⟨HB0.out⟩⟩
  case round =>
    clear HP0 HB0 HX
    obtain ⟨f, i, pre, hi, rfl, rfl, HA, HO, HB⟩ := hrel
    by_cases hlt : i < l1.length
    · obtain ⟨ad, rfl, hcx⟩ := Kd.at_int HR.out (i : Int) (by omega) (by omega)
      obtain ⟨d, hd⟩ : ∃ d : Int, d = rd l1 (i : Int) := ⟨_, rfl⟩
      have hdr : l1.drop i = d :: l1.drop (i + 1) := by
        rw [List.drop_eq_getElem_cons hlt, hd]
        simp [rd, List.getD_eq_getElem?_getD, List.getElem?_eq_getElem hlt]
      rw [← hd, Int.toNat_natCast] at hcx
      obtain ⟨g2, hg2⟩ : ∃ g2 : Int, g2 = wrap64 (f + d) := ⟨_, rfl⟩
      have hg3 : IntKind.i64.wrap (f + d) = g2 := by rw [hg2]; exact i64_w _
      have hA2 := HA.out
      rw [hdr] at hA2
      simp only [psums] at hA2
      have hi64 : i64of (f + d) = g2 := by rw [hg2]; unfold i64of wrap64; omega
      rw [hi64] at hA2
      have HA2 := Aside0.mk hA2
      have hcx' := pw_cell_below HB.out hcx
      have hlt' : (i : Int) < (l1.length : Int) := by omega
      have ew4 : IntKind.i64.wrap ((i : Int) + 1) = (i : Int) + 1 := IntWalk.i64_in _ (by have := HS.out; omega)
      have HAL := Aside0.mk (show (pre ++ [f]).length = i + 1 by have := hA2.2; simp; omega)
      clear hd hdr hg2 hA2 hi64 HA hcx
      go_wp2_with ((with_reducible refine gate_builtin (b := .append) (xs := #[.tmp 24, .tmp 26]) rfl ?_); at_builtin; go_loud (refine Kd.R_append (Kd.int .i64) (w0 := w) w.heap.size rfl (.tmp 24) (.tmp 26) 38 2 (.int .i64 0) 8 rfl Try.underlying38 info2 rfl (by decide) (by omega) u5 (pre ++ [f]) g2 [.int .i64 g2] (fun _ => True) (fun _ => False) rfl rfl ?aP (fun _ hk => hk.elim) ?aF ?aO ?aB ?aS ?aL ?_; (case aP => exact rfl); (case aB => exact (bb_ HB)); (case aF => exact (fun _ _ => trivial)); (case aO => exact (rb_ HO)); (case aS => exact (below_size (bb_ HB))); (case aL => have := HAL.out; have := HS.out; omega); intro v9 w9 ho hb hg hat; have HO2 := Aside0.mk ho; have HB2 := Aside0.mk hb; clear ho hb hg hat))
      refine ⟨⟨g2, i + 1, pre ++ [f], by omega, rfl, by go_num, ⟨by rw [List.append_assoc]; exact HA2.out.1, by have := HAL.out; simp at this ⊢; omega⟩, HO2, HB2⟩, by simp [intOf]; omega⟩
    · have hil : i = l1.length := by omega
      subst hil
      have hA := HA.out.1
      rw [List.drop_length] at hA
      simp only [psums] at hA
      subst hA
      go_wp2
      go_ret
      exact ⟨_, rfl, HO.out, HB.out⟩

/-! ### bytes_Equal: function 68 -/
def bytes_Equal.f (l0 : List Int) (l1 : List Int) : Option (Bool) := some ((strOfNums l0).toList == (strOfNums l1).toList)
set_option maxHeartbeats 8000000 in
set_option maxRecDepth 100000 in
theorem bytes_Equal.calls (A0 : Option Addr) (c0 : Nat) (l0 : List Int) (A1 : Option Addr) (c1 : Nat) (l1 : List Int) (r : Bool) (w : World) (hr0 : Kd.C (Kd.int .u8) w A0 l0.length l0) (hc0 : l0.length ≤ c0) (hr1 : Kd.C (Kd.int .u8) w A1 l1.length l1) (hc1 : l1.length ≤ c1) (h : bytes_Equal.f l0 l1 = some r) :
  Calls Try.prog 68 #[.slice A0 l0.length c0, .slice A1 l1.length c1] w fun e w' => e = .returned (.bool r) ∧ Drawn0 w w' := by
 have HR0 := Aside0.mk hr0
 have HC0 := Aside0.mk hc0
 clear hr0 hc0
 have HR1 := Aside0.mk hr1
 have HC1 := Aside0.mk hc1
 clear hr1 hc1
 have H : (some ((strOfNums l0).toList == (strOfNums l1).toList)) = some r := h
 clear h
 obtain rfl := Option.some.inj H
 have hcv3 := Kd.C_string (P := Try.prog) (A := A0) (c := c0) Try.underlying26 Try.underlying5 Try.underlying9 HR0.out
 have hcv4 := Kd.C_string (P := Try.prog) (A := A1) (c := c1) Try.underlying26 Try.underlying5 Try.underlying9 HR1.out
 go_enter Try.func68, Try.ntmps68
 go_wp2
 go_ret
 exact ⟨fr_, dr_⟩

end Go.Proofs.Ytllhbjkkoogeeaa.QDeltaDecode
