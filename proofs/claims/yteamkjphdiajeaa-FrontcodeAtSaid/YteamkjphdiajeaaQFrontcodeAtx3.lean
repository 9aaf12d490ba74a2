-- Written by a program of this session (wip/pr2.sh): the walk of the Go text, function by function.
import Derived.Test.YteamkjphdiajeaaQFrontcodeAtx0
import Derived.Test.YteamkjphdiajeaaQFrontcodeAtx1
import Derived.Test.YteamkjphdiajeaaQFrontcodeAtx2
namespace Go.Proofs.Yteamkjphdiajeaa.QFrontcodeAt
open Go.RowKit Go.Proofs.YteamkjphdiajeaaW.PrintWords Go.Proofs.YteamkjphdiajeaaW.PrintLast Go.Proofs.YteamkjphdiajeaaW.PrintMore
open Go.Proofs.YteamkjphdiajeaaM
attribute [local go_sem] max2_int min2_int max_two min_two max_three min_three max_four min_four   -- for this text's walks alone
set_option linter.unusedVariables false
set_option linter.unusedSimpArgs false

/-! ### frontcode_Encode: function 36 -/
def frontcode_Encode.g (k : Nat) (l0 : List ByteArray) : List ByteArray → Nat → List Int → Option (List Int)
  | [], _, acc => some acc
  | s :: t, i, acc => (frontcode_shared.f k l0 (i : Int)).bind fun c => if 0 ≤ c ∧ c ≤ (s.size : Int) ∧ s.size ≤ 1000000000 ∧ acc.length ≤ 1000000000000 then (varint_Encode.f k c).bind fun e1 => (varint_Encode.f k ((s.size : Int) - c)).bind fun e2 => if e1.length ≤ 100 ∧ e2.length ≤ 100 then frontcode_Encode.g k l0 t (i + 1) (acc ++ e1 ++ e2 ++ (bytesOf s).drop c.toNat) else none else none
def frontcode_Encode.f (k : Nat) (l0 : List ByteArray) : Option (List Int) := if l0.length ≤ 1000000000 then frontcode_Encode.g k l0 l0 0 [] else none
theorem frontcode_Encode.mono_g (k : Nat) (l0 : List ByteArray) : ∀ (l : List ByteArray) (i : Nat) (acc : List Int), LeO (frontcode_Encode.g k l0 l i acc) (frontcode_Encode.g (k + 1) l0 l i acc) := by
  intro l
  induction l with
  | nil => intro i acc; exact LeO.refl _
  | cons s t ih =>
    intro i acc
    simp only [frontcode_Encode.g]
    repeat' first
    | (with_reducible exact ih _ _)
    | (with_reducible exact frontcode_shared.mono _ _ _)
    | (with_reducible exact varint_Encode.mono _ _)
    | (with_reducible exact LeO.none _)
    | (with_reducible refine LeO.ite ?_ ?_)
    | (with_reducible refine LeO.bind ?_ (fun _ => ?_))
theorem frontcode_Encode.mono (l0 : List ByteArray) (k : Nat) : LeO (frontcode_Encode.f k l0) (frontcode_Encode.f (k + 1) l0) := by
  unfold frontcode_Encode.f
  exact LeO.ite (frontcode_Encode.mono_g k l0 l0 0 []) (LeO.none _)
theorem bytesOf_drop (s : ByteArray) (k : Nat) : bytesOf (s.extract k s.size) = (bytesOf s).drop k := by
  unfold bytesOf
  rw [ByteArray.data_extract, Array.toList_extract, List.extract_eq_take_drop, List.map_take, List.map_drop, List.take_of_length_le]
  rw [List.length_drop, List.length_map]
  exact Nat.le_refl _
theorem fe_R {k : IntKind} {e base : Nat} {v : Value} {xs : List Int} {W : World} (h : W.ownsRow base e 1 v xs.length (nums k xs)) : Kd.R (Kd.int k) e W base (fun _ => True) v xs := Kd.R_of_own (enc := Value.int k) (h1 := fun _ => rfl) h (fun _ _ => trivial)
theorem fe_below_drewN {B : Nat} {w0 W : World} (h : Below B w0 W) (n : Nat) : Below B w0 (W.drewN n) := h.trans (pw_below_drewN (Below.refl _ _) n)
theorem fe_own {k : IntKind} {e base : Nat} {ok : Nat → Prop} {v : Value} {xs : List Int} {W : World} (h : Kd.R (Kd.int k) e W base ok v xs) : W.ownsRow base e 1 v xs.length (nums k xs) := Kd.own_of_R (enc := Value.int k) (h1 := fun _ => rfl) h
set_option maxHeartbeats 2000000 in
set_option maxRecDepth 100000 in
theorem frontcode_Encode.calls (k : Nat) (A0 : Option Addr) (c0 : Nat) (l0 : List ByteArray) (r : List Int) (w : World) (hr0 : Kd.C Kd.string w A0 l0.length l0) (hc0 : l0.length ≤ c0) (h : frontcode_Encode.f k l0 = some r) :
    Calls Try.prog 36 #[.slice A0 l0.length c0] w fun e w' => ∃ v0_ : Value, e = .returned (v0_) ∧ Kd.R (Kd.int .u8) 5 w' w.heap.size (fun _ => True) v0_ r ∧ Below w.heap.size w w' := by
  unfold frontcode_Encode.f at h
  by_cases hsz : l0.length ≤ 1000000000
  case neg => rw [if_neg hsz] at h; cases h
  rw [if_pos hsz] at h
  have HR := Aside0.mk hr0
  have HG := Aside0.mk h
  have hmx := Kd.C_max hr0
  clear hr0 h
  go_enter Try.func36, Try.ntmps36
  go_wp2
  go_loopw [3, 9] (fun v3 v9 wr => ∃ (i : Nat) (acc : List Int), i ≤ l0.length ∧ v9 = .int .i64 (i : Int) ∧ Aside0 (frontcode_Encode.g k l0 (l0.drop i) i acc = some r) ∧ Aside0 (Kd.R (Kd.int .u8) 5 wr w.heap.size (fun _ => True) v3 acc) ∧ Aside0 (Below w.heap.size w wr)) (fun _ v9 _ => l0.length - (intOf v9).toNat)
  case atStart => exact ⟨0, [], Nat.zero_le _, rfl, HG, ⟨Kd.R_nil _ _ _ _ _⟩, ⟨Below.refl _ _⟩⟩
  case round =>
    clear HG
    obtain ⟨i, acc, hi, rfl, HA, HO, HB⟩ := hrel
    by_cases hlt : i < l0.length
    · obtain ⟨ad, rfl, hcx⟩ := Kd.at_string HR.out (i : Int) (by omega) (by omega)
      rw [Int.toNat_natCast] at hcx
      have hH := HA.out
      obtain ⟨s, hs⟩ : ∃ s : ByteArray, s = rdOf ByteArray.empty l0 (i : Int) := ⟨_, rfl⟩
      have hdr : l0.drop i = s :: l0.drop (i + 1) := by
        rw [List.drop_eq_getElem_cons hlt, hs]
        simp [rdOf, List.getD_eq_getElem?_getD, List.getElem?_eq_getElem hlt]
      rw [hdr] at hH
      simp only [frontcode_Encode.g] at hH
      rw [← hs] at hcx
      replace hH := Option.bind_eq_some_iff.mp hH
      obtain ⟨c, hC, hH⟩ := hH
      by_cases b1 : 0 ≤ c ∧ c ≤ (s.size : Int) ∧ s.size ≤ 1000000000 ∧ acc.length ≤ 1000000000000
      case neg => rw [if_neg b1] at hH; cases hH
      rw [if_pos b1] at hH
      obtain ⟨b1, b2, b3, b4⟩ := b1
      obtain ⟨cc, rfl⟩ := Int.eq_ofNat_of_zero_le b1
      replace hH := Option.bind_eq_some_iff.mp hH
      obtain ⟨e1, hE1, hH⟩ := hH
      replace hH := Option.bind_eq_some_iff.mp hH
      obtain ⟨e2, hE2, hH⟩ := hH
      by_cases b5 : e1.length ≤ 100 ∧ e2.length ≤ 100
      case neg => rw [if_neg b5] at hH; cases hH
      rw [if_pos b5] at hH
      rw [Int.toNat_natCast] at hH
      obtain ⟨dd, hd⟩ : ∃ dd : Nat, dd = s.size - cc := ⟨_, rfl⟩
      have ed : (s.size : Int) - (cc : Int) = (dd : Int) := by omega
      rw [ed] at hE2
      obtain ⟨y, hy⟩ : ∃ y : ByteArray, y = s.extract cc s.size := ⟨_, rfl⟩
      have hyb : bytesOf y = (bytesOf s).drop cc := by rw [hy, bytesOf_drop]
      have hys : y.size ≤ 1000000000 := by rw [hy, ByteArray.size_extract]; omega
      rw [← hyb] at hH
      have ew1 : IntKind.u64.wrap (cc : Int) = (cc : Int) := wraps_u64 _ (by omega) (by omega)
      have ew2 : IntKind.u64.wrap (dd : Int) = (dd : Int) := wraps_u64 _ (by omega) (by omega)
      have ew3 : IntKind.i64.wrap (dd : Int) = (dd : Int) := IntWalk.i64_in _ (by omega)
      have ew4 : IntKind.i64.wrap ((i : Int) + 1) = (i : Int) + 1 := IntWalk.i64_in _ (by omega)
      have hcle : cc ≤ s.size := by omega
      have hex : s.extract cc s.size = y := hy.symm
      have HC1 := Aside0.mk hC
      have HE1 := Aside0.mk hE1
      have HE2 := Aside0.mk hE2
      have HH := Aside0.mk hH
      have HBD := Aside0.mk (And.intro b4 (And.intro b5.1 (And.intro b5.2 hys)))
      have HX := Aside0.mk (And.intro hcx (And.intro hd (And.intro hs hdr)))
      have hcx' := pw_cell_below HB.out hcx
      have hlt' : (i : Int) < (l0.length : Int) := by omega
      clear hC hE1 hE2 hH b1 b2 b3 b4 b5 hd hs hdr hcx HA hy hyb hys hmx
      go_wp2_with (first | (go_at_call 52; with_reducible refine (frontcode_shared.calls _ _ _ l0 _ _ _ (Kd.C_below HR.out HB.out) hc0 HC1.out).mono ?_; rintro e w' ⟨rfl, ⟨nd, rfl⟩⟩) | (go_at_call 53; with_reducible refine (varint_Encode.calls _ _ e1 _ HE1.out).mono ?_; rintro e w9 ⟨v9, rfl, ho0, hb0⟩; have HP1 := Aside0.mk (Kd.R_elder' (Kd.R_drewN HO.out _) (Kd.R_base ho0) hb0); have HT1 := Aside0.mk (Kd.R_lower ho0 (below_size (fe_below_drewN HB.out _))); have HQ1 := Aside0.mk (below_step (fe_below_drewN HB.out _) hb0); obtain ⟨Ao1, co1, eo⟩ := Kd.R_slice HT1.out; subst eo; clear ho0 hb0) | ((with_reducible refine gate_builtin (b := .append) (xs := #[.tmp 17, .tmp 20]) rfl ?_); at_builtin; refine Kd.R_append_rows (Kd.int .u8) (w0 := w) w.heap.size rfl (.tmp 17) (.tmp 20) 51 5 (.int .u8 0) 1 rfl Try.underlying51 info5 rfl (by decide) (by omega) u3 acc e1 _ _ _ (fun _ => True) (fun _ => False) rfl rfl ?aO ?aR (fun _ _ h => h) (fun _ h => h.elim) ?aF ?aB ?aS ?aL ?_; (case aR => exact (Kd.R_reads' HT1.out).2.2); (case aB => exact HQ1.out); (case aF => exact (fun _ _ => trivial)); (case aO => exact Kd.R_mono HP1.out (fun _ _ => trivial)); (case aS => exact below_size HQ1.out); (case aL => have := HBD.out; (try simp only [List.length_append]); omega); intro x1 z1 ho hb hg hat; have HW1 := Aside0.mk ho; have HV1 := Aside0.mk hb; clear ho hb hg hat) | (go_at_call 53; with_reducible refine (varint_Encode.calls _ _ e2 _ HE2.out).mono ?_; rintro e w9 ⟨v9, rfl, ho0, hb0⟩; have HP2 := Aside0.mk (Kd.R_elder' HW1.out (Kd.R_base ho0) hb0); have HT2 := Aside0.mk (Kd.R_lower ho0 (below_size HV1.out)); have HQ2 := Aside0.mk (below_step HV1.out hb0); obtain ⟨Ao2, co2, eo⟩ := Kd.R_slice HT2.out; subst eo; clear ho0 hb0) | ((with_reducible refine gate_builtin (b := .append) (xs := #[.tmp 22, .tmp 28]) rfl ?_); at_builtin; refine Kd.R_append_rows (Kd.int .u8) (w0 := w) w.heap.size rfl (.tmp 22) (.tmp 28) 51 5 (.int .u8 0) 1 rfl Try.underlying51 info5 rfl (by decide) (by omega) x1 (acc ++ e1) e2 _ _ _ (fun _ => True) (fun _ => False) rfl rfl ?aO ?aR (fun _ _ h => h) (fun _ h => h.elim) ?aF ?aB ?aS ?aL ?_; (case aR => exact (Kd.R_reads' HT2.out).2.2); (case aB => exact HQ2.out); (case aF => exact (fun _ _ => trivial)); (case aO => exact Kd.R_mono HP2.out (fun _ _ => trivial)); (case aS => exact below_size HQ2.out); (case aL => have := HBD.out; (try simp only [List.length_append]); omega); intro x2 z2 ho hb hg hat; have HW2 := Aside0.mk ho; have HV2 := Aside0.mk hb; clear ho hb hg hat) | ((with_reducible refine gate_builtin (b := .append) (xs := #[.tmp 30, .tmp 33]) rfl ?_); at_builtin; refine print_append_str (w0 := w) w.heap.size rfl (.tmp 30) (.tmp 33) 51 9 5 rfl Try.underlying51 Try.underlying9 info5 x2 (acc ++ e1 ++ e2) y rfl rfl (fe_own HW2.out) HV2.out (below_size HV2.out) (by have := HBD.out; (try simp only [List.length_append]); omega) ?_; intro x3 z3 ho hb hg; have HW3 := Aside0.mk (fe_R ho); have HV3 := Aside0.mk hb; clear ho hb hg))
      refine ⟨⟨i + 1, acc ++ e1 ++ e2 ++ bytesOf y, by omega, by go_num, HH, HW3, HV3⟩, by simp [intOf]; omega⟩
    · have hil : i = l0.length := by omega
      subst hil
      have hA := HA.out
      rw [List.drop_length] at hA
      simp only [frontcode_Encode.g] at hA
      obtain rfl := Option.some.inj hA
      clear hA HA
      go_wp2
      go_ret
      exact ⟨_, rfl, HO.out, HB.out⟩

/-! ### frontcode_Size: function 38 -/
def frontcode_Size.l0 : Nat → List ByteArray → Int → List ByteArray → Int → Int → Option (Int)
 | 0, _, _, _, _, _ => none
 | k + 1, x0, x3, x7, x8, x9 => if x9 < x8 then (if 0 ≤ x9 then (if x9 < (x7.length : Int) then ((frontcode_shared.f k x0 x9).bind fun t119 => ((varint_Encode.f k (IntKind.u64.wrap (t119))).bind fun t120 => ((varint_Encode.f k (IntKind.u64.wrap (wrap64 (((rdOf ByteArray.empty x7 x9).size : Int) - t119)))).bind fun t123 => (frontcode_Size.l0 k x0 (wrap64 (x3 + (wrap64 ((wrap64 ((wrap64 ((t120.length : Int) + (t123.length : Int))) + ((rdOf ByteArray.empty x7 x9).size : Int))) - t119)))) x7 x8 (wrap64 (x9 + 1)))))) else (none)) else (none)) else (some x3)
def frontcode_Size.f (k : Nat) (l0 : List ByteArray) : Option (Int) := frontcode_Size.l0 k l0 0 l0 (l0.length : Int) 0
theorem frontcode_Size.mono_l : ∀ k, (∀ y0 y1 y2 y3 y4, LeO (frontcode_Size.l0 k y0 y1 y2 y3 y4) (frontcode_Size.l0 (k + 1) y0 y1 y2 y3 y4))
 | 0 => fun _ _ _ _ _ r h => by simp [frontcode_Size.l0] at h
 | k + 1 => by
  have ih0 := frontcode_Size.mono_l k
  ·intro y0 y1 y2 y3 y4
   unfold frontcode_Size.l0
   repeat' first
   | (with_reducible exact ih0 _ _ _ _ _)
   | (with_reducible exact frontcode_shared.mono _ _ _)
   | (with_reducible exact varint_Encode.mono _ _)
   | (with_reducible exact LeO.refl _)
   | (with_reducible exact LeO.none _)
   | (with_reducible refine LeO.ite ?_ ?_)
   | (with_reducible refine LeO.bind ?_ (fun _ => ?_))
   | exact ih0 _ _ _ _ _
   | exact frontcode_shared.mono _ _ _
   | exact varint_Encode.mono _ _
   | exact LeO.none _
   | refine LeO.ite ?_ ?_
   | refine LeO.bind ?_ (fun _ => ?_)
theorem frontcode_Size.mono : ∀ a0 k, LeO (frontcode_Size.f k a0) (frontcode_Size.f (k + 1) a0) := by
 intro a0 k
 have ih0 := frontcode_Size.mono_l k
 unfold frontcode_Size.f
 repeat' first
   | (with_reducible exact ih0 _ _ _ _ _)
   | (with_reducible exact frontcode_shared.mono _ _ _)
   | (with_reducible exact varint_Encode.mono _ _)
   | (with_reducible exact LeO.refl _)
   | (with_reducible exact LeO.none _)
   | (with_reducible refine LeO.ite ?_ ?_)
   | (with_reducible refine LeO.bind ?_ (fun _ => ?_))
   | exact ih0 _ _ _ _ _
   | exact frontcode_shared.mono _ _ _
   | exact varint_Encode.mono _ _
   | exact LeO.none _
   | refine LeO.ite ?_ ?_
   | refine LeO.bind ?_ (fun _ => ?_)
set_option maxHeartbeats 8000000 in
set_option maxRecDepth 100000 in
theorem frontcode_Size.calls (k : Nat) (A0 : Option Addr) (c0 : Nat) (l0 : List ByteArray) (r : Int) (w : World) (hr0 : Kd.C Kd.string w A0 l0.length l0) (hc0 : l0.length ≤ c0) (h : frontcode_Size.f k l0 = some r) :
  Calls Try.prog 38 #[.slice A0 l0.length c0] w fun e w' => e = .returned (.int .i64 r) ∧ Below w.heap.size w w' := by
 have HR0 := Aside0.mk hr0
 have HC0 := Aside0.mk hc0
 clear hr0 hc0
 have HB := Aside0.mk (Below.refl w.heap.size w)
 have H : (frontcode_Size.l0 k l0 0 l0 (l0.length : Int) 0) = some r := h
 clear h
 have H' := Aside0.mk H
 clear H
 go_enter Try.func38, Try.ntmps38
 go_wp2
 go_loopg [3, 9] k (fun kq v3 v9 w' => ∃ (x3_1 : Int) (x9_1 : Int), v3 = .int .i64 x3_1 ∧ v9 = .int .i64 x9_1 ∧ Aside0 (frontcode_Size.l0 kq l0 x3_1 l0 (l0.length : Int) x9_1 = some r) ∧ Aside0 (kq ≤ k) ∧ Aside0 (Below w.heap.size w w'))
 case atStart => exact ⟨(0), (0), (by first | rfl | (simp; done) | (simp [*]; done)), (by first | rfl | (simp; done) | (simp [*]; done)), H', ⟨Nat.le_refl _⟩, ⟨by repeat (first | (with_reducible first | exact HB.out | apply below_alloc | apply pw_below_drewN | apply below_drew1) | exact HB.out)⟩⟩
 case round =>
  clear H'
  obtain ⟨x3_1, x9_1, rfl, rfl, HA, HK1, HB⟩ := hrel
  cases gk with
  | zero => exact absurd HA.out (by simp [frontcode_Size.l0])
  | succ k1 =>
   have H := HA.out
   clear HA
   simp only [frontcode_Size.l0] at H
   by_cases c2 : x9_1 < (l0.length : Int)
   ·rw [if_pos c2] at H
    have c2b0 : decide (x9_1 < (l0.length : Int)) = true := decide_eq_true c2
    clear c2
    by_cases c3 : 0 ≤ x9_1
    ·rw [if_pos c3] at H
     have c3b0 : decide (0 ≤ x9_1) = true := decide_eq_true c3
     clear c3
     by_cases c4 : x9_1 < (l0.length : Int)
     ·rw [if_pos c4] at H
      have c4b0 : decide (x9_1 < (l0.length : Int)) = true := decide_eq_true c4
      clear c4
      replace H := Option.bind_eq_some_iff.mp H
      obtain ⟨t119, A50, H⟩ := H
      replace H : ((varint_Encode.f k1 (IntKind.u64.wrap (t119))).bind fun t120 => ((varint_Encode.f k1 (IntKind.u64.wrap (wrap64 (((rdOf ByteArray.empty l0 x9_1).size : Int) - t119)))).bind fun t123 => (frontcode_Size.l0 k1 l0 (wrap64 (x3_1 + (wrap64 ((wrap64 ((wrap64 ((t120.length : Int) + (t123.length : Int))) + ((rdOf ByteArray.empty l0 x9_1).size : Int))) - t119)))) l0 (l0.length : Int) (wrap64 (x9_1 + 1))))) = some r := H
      have A5 := Aside0.mk A50
      clear A50
      replace H := Option.bind_eq_some_iff.mp H
      obtain ⟨t120, A60, H⟩ := H
      replace H : ((varint_Encode.f k1 (IntKind.u64.wrap (wrap64 (((rdOf ByteArray.empty l0 x9_1).size : Int) - t119)))).bind fun t123 => (frontcode_Size.l0 k1 l0 (wrap64 (x3_1 + (wrap64 ((wrap64 ((wrap64 ((t120.length : Int) + (t123.length : Int))) + ((rdOf ByteArray.empty l0 x9_1).size : Int))) - t119)))) l0 (l0.length : Int) (wrap64 (x9_1 + 1)))) = some r := H
      have A6 := Aside0.mk A60
      clear A60
      replace H := Option.bind_eq_some_iff.mp H
      obtain ⟨t123, A70, H⟩ := H
      replace H : (frontcode_Size.l0 k1 l0 (wrap64 (x3_1 + (wrap64 ((wrap64 ((wrap64 ((t120.length : Int) + (t123.length : Int))) + ((rdOf ByteArray.empty l0 x9_1).size : Int))) - t119)))) l0 (l0.length : Int) (wrap64 (x9_1 + 1))) = some r := H
      have A7 := Aside0.mk A70
      clear A70
      have H' := Aside0.mk H
      clear H
      have p118 : 0 ≤ (x9_1 : Int) := of_decide_eq_true (by first | (with_reducible assumption) | assumption)
      have q118 : x9_1 < (l0.length : Int) := of_decide_eq_true (by first | (with_reducible assumption) | assumption)
      obtain ⟨ad118, e118, hx118_0⟩ := Kd.at_string HR0.out x9_1 p118 q118
      cases e118
      replace hx118_0 := (HB.out.cell (World.block_lt_of_cell? w _ hx118_0)).trans hx118_0
      replace p118 := eq_true p118
      replace q118 := eq_true q118
      go_wp2_with (first | ((with_reducible refine gate_callee (f := 52) rfl ?_); refine goesL_ (some 16) rfl rfl Try.func52 (by kernel_rfl) rfl #[.slice (some ad118) l0.length c0, .int .i64 x9_1] rfl (by (try simp only [List.map_toArray, List.map_cons, List.map_nil]); first | done | rfl | (simp only [List.length_drop, List.length_take]; rfl)) ?_; (with_reducible refine (frontcode_shared.calls k1 _ _ l0 x9_1 t119 _ ?side1 ?side2 A5.out).mono ?_); (case side1 => repeat (first | exact (Kd.C_below HR0.out HB.out) | (with_reducible refine Kd.C_alloc ?_ _) | (with_reducible refine Kd.C_drewN ?_ _) | (with_reducible refine Kd.C_drew ?_))); (case side2 => exact HC0.out); rintro e w' ⟨rfl, ⟨nd, rfl⟩⟩; refine ⟨_, rfl, ?_⟩) | ((with_reducible refine gate_callee (f := 53) rfl ?_); refine goesL_ (some 20) rfl rfl Try.func53 (by kernel_rfl) rfl #[.int .u64 (IntKind.u64.wrap (t119))] rfl (by (try simp only [List.map_toArray, List.map_cons, List.map_nil]); first | done | rfl | (simp only [List.length_drop, List.length_take]; rfl)) ?_; (with_reducible refine (varint_Encode.calls k1 (IntKind.u64.wrap (t119)) t120 _ A6.out).mono ?_); rintro e w8 ⟨v121, rfl, ho0, hb⟩; refine ⟨_, rfl, ?_⟩; have n0_ := Aside0.mk (Kd.R_lower ho0 (below_size (by repeat (first | (with_reducible first | exact HB.out | apply below_alloc | apply pw_below_drewN | apply below_drew1) | exact HB.out)))); have n1_ := Aside0.mk (below_step (by repeat (first | (with_reducible first | exact HB.out | apply below_alloc | apply pw_below_drewN | apply below_drew1) | exact HB.out)) hb); clear HB; have HO122 := n0_; have HB := n1_; clear n0_ n1_; (try clear hb); (try clear hb2); (try clear hk); (try clear hi); (try clear ho0); obtain ⟨Ao9, co9, eo9⟩ := Kd.R_slice HO122.out; subst eo9) | ((with_reducible refine gate_callee (f := 53) rfl ?_); refine goesL_ (some 27) rfl rfl Try.func53 (by kernel_rfl) rfl #[.int .u64 (IntKind.u64.wrap (wrap64 (((rdOf ByteArray.empty l0 x9_1).size : Int) - t119)))] rfl (by (try simp only [List.map_toArray, List.map_cons, List.map_nil]); first | done | rfl | (simp only [List.length_drop, List.length_take]; rfl)) ?_; (with_reducible refine (varint_Encode.calls k1 (IntKind.u64.wrap (wrap64 (((rdOf ByteArray.empty l0 x9_1).size : Int) - t119))) t123 _ A7.out).mono ?_); rintro e w10 ⟨v124, rfl, ho0, hb⟩; refine ⟨_, rfl, ?_⟩; have n0_ := Aside0.mk (Kd.R_elder' (by (with_reducible repeat (first | apply Kd.R_alloc | apply Kd.R_drewN | apply Kd.R_drew)); exact HO122.out) (Kd.R_base ho0) hb); have n1_ := Aside0.mk (Kd.R_lower (Kd.R_new' ho0 (Kd.R_lt (by (with_reducible repeat (first | apply Kd.R_alloc | apply Kd.R_drewN | apply Kd.R_drew)); exact HO122.out))) (below_size (by repeat (first | (with_reducible first | exact HB.out | apply below_alloc | apply pw_below_drewN | apply below_drew1) | exact HB.out)))); have n2_ := Aside0.mk (below_step (by repeat (first | (with_reducible first | exact HB.out | apply below_alloc | apply pw_below_drewN | apply below_drew1) | exact HB.out)) hb); clear HO122; clear HB; have HO122 := n0_; have HO125 := n1_; have HB := n2_; clear n0_ n1_ n2_; (try clear hb); (try clear hb2); (try clear hk); (try clear hi); (try clear ho0); obtain ⟨Ao11, co11, eo11⟩ := Kd.R_slice HO125.out; subst eo11))
      go_roundg k1
      case measure => have := HK1.out; omega
      case rel => exact ⟨(wrap64 (x3_1 + (wrap64 ((wrap64 ((wrap64 ((t120.length : Int) + (t123.length : Int))) + ((rdOf ByteArray.empty l0 x9_1).size : Int))) - t119)))), (wrap64 (x9_1 + 1)), (by first | rfl | (simp; done) | (simp [*]; done)), (by first | rfl | (simp; done) | (simp [*]; done)), H', ⟨by have := HK1.out; omega⟩, ⟨by repeat (first | (with_reducible first | exact HB.out | apply below_alloc | apply pw_below_drewN | apply below_drew1) | exact HB.out)⟩⟩
     ·rw [if_neg c4] at H
      exact absurd H (by simp)
    ·rw [if_neg c3] at H
     exact absurd H (by simp)
   ·rw [if_neg c2] at H
    have c2b0 : decide (x9_1 < (l0.length : Int)) = false := decide_eq_false c2
    clear c2
    obtain rfl := Option.some.inj H
    go_wp2
    go_ret
    exact ⟨by first | rfl | (simp [errW_none, errW_some] <;> rfl) | (simp [*, errW_none, errW_some] <;> rfl), by repeat (first | (with_reducible first | exact HB.out | apply below_alloc | apply pw_below_drewN | apply below_drew1) | exact HB.out)⟩

/-! ### laminalaw11_awake: function 33 -/
def laminalaw11_awake.f : Option Bool := some true
theorem aw_freeze_below {B : Nat} {a w : World} (h : Below B a w) {p : Addr} (hp : B ≤ p.block) (n : Nat) : Below B a (w.freeze p n) := by
  refine h.trans ?_
  unfold World.freeze
  split
  · exact Below.refl _ _
  · refine ⟨rfl, rfl, rfl, by simp, fun i hi => ?_⟩
    have : ¬ p.block = i := by omega
    simp [Array.getElem?_modify, this]
theorem aw_freeze_cell (w : World) (p a : Addr) (n : Nat) : (w.freeze p n).cell? a = w.cell? a := by
  unfold World.freeze
  split
  · rfl
  · unfold World.cell?
    by_cases h : p.block = a.block
    · cases ho : w.heap[a.block]? with
      | none => simp [Array.getElem?_modify, h, ho]
      | some o => cases o <;> simp [Array.getElem?_modify, h, ho]
    · simp [Array.getElem?_modify, h]
theorem lit_mark {P : Program} {t e base : Nat} {ok : Nat → Prop} {v : Value} {xs : List Int} {W : World} (ht : P.underlying t = some (.slice e)) (he : P.underlying e = some (.int .u8)) (h : Kd.R (Kd.int .u8) e W base ok v xs) (hp : 0 < xs.length) :
    ∃ (A : Option Addr) (c : Nat) (W' : World), v = .slice A xs.length c ∧ xs.length ≤ c ∧ (convert t t v).run P W = .ok v W' ∧ Kd.C (Kd.int .u8) W' A xs.length xs ∧ Below base W W' := by
  obtain ⟨g, cap, rfl, hb, hlt, cells, hc⟩ := Kd.R_form h hp
  obtain ⟨_, hcap, hC⟩ := Kd.R_reads' h
  have hsh : W.shape? g = some (e, cells.size) := by unfold World.shape?; rw [hc]
  refine ⟨_, _, W.freeze ⟨g, cells.size, none⟩ 1, rfl, hcap, ?_, ?_, aw_freeze_below (Below.refl _ _) hb _⟩
  · simp [convert, run_underlying ht, run_underlying he, markStringish, hsh]
  · have h2 := Kd.reads_of_C (enc := Value.int .u8) (d := (0 : Int)) (h1 := fun _ => rfl) hC
    refine Kd.C_of_reads (enc := Value.int .u8) (d := (0 : Int)) (h1 := fun _ => rfl) ⟨h2.1, h2.2.1, fun hn => ?_⟩
    obtain ⟨ad, e1, e2⟩ := h2.2.2 hn
    exact ⟨ad, e1, fun j hj => by rw [aw_freeze_cell]; exact e2 j hj⟩
set_option maxHeartbeats 1000000 in
set_option maxRecDepth 100000 in
theorem laminalaw11_awake.calls (r : Bool) (w : World) (h : laminalaw11_awake.f = some r) :
    Calls Try.prog 33 #[] w fun e w' => e = .returned (.bool r) ∧ Below w.heap.size w w' := by
  obtain rfl := Option.some.inj h
  clear h
  obtain ⟨y1, hy1⟩ : ∃ y : List Int, y = [0, 1, 97, 0, 1, 97] := ⟨_, rfl⟩
  obtain ⟨y2, hy2⟩ : ∃ y : List ByteArray, y = [⟨#[97, 98, 99]⟩, ⟨#[97, 98, 100]⟩] := ⟨_, rfl⟩
  obtain ⟨y3, hy3⟩ : ∃ y : List Int, y = [0, 3, 97, 98, 99, 2, 1, 100] := ⟨_, rfl⟩
  have D1 := Aside0.mk (show frontcode_Decode.f 200 y1 0 2 = some ([], 0, 4) by rw [hy1]; decide +kernel)
  have D2 := Aside0.mk (show frontcode_Encode.f 200 y2 = some y3 by rw [hy2, hy3]; decide +kernel)
  have D3 := Aside0.mk (show frontcode_Size.f 200 [] = some 0 by decide +kernel)
  have D4 := Aside0.mk (show frontcode_CommonPrefix.f 200 ⟨#[97, 98, 99]⟩ ⟨#[97, 98, 100]⟩ = some 2 by decide +kernel)
  have D5 : ((strOfNums y3) == (⟨#[0, 3, 97, 98, 99, 2, 1, 100]⟩ : ByteArray)) = true := by rw [hy3]; decide +kernel
  have D6 : ((strOfNums y3).toList == ([0, 3, 97, 98, 99, 2, 1, 100] : List UInt8)) = true := by rw [hy3]; decide +kernel
  have L1 := Aside0.mk (show y1.length = 6 by rw [hy1]; rfl)
  have HY1 := Aside0.mk hy1
  have HY2 := Aside0.mk hy2
  clear hy1 hy2 hy3
  go_enter Try.func33, Try.ntmps33
  go_wp2_with (first
    | ((with_reducible refine gate_dst (N := 5) rfl ?_); refine Kd.R_lit (Kd.int .u8) _ 5 ?hg (N := 5) ?hd (xs := ([0, 1, 97, 0, 1, 97] : List Int)) (inner := [.int .u8 0, .int .u8 1, .int .u8 97, .int .u8 0, .int .u8 1, .int .u8 97]) (ok := fun _ => True) (okp := fun _ => True) ?hr ?hp (fun _ hk => hk) trivial (Below.refl _ _) (Nat.le_refl _) (by simp) ?_; (case hd => rfl); (case hg => (first | rfl | (simp only [*]; rfl) | (simp [*]; done))); (case hr => first | (go_simp; done) | (go_simp; rfl)); (case hp => exact (Reps.one (show Kd.M (Kd.int .u8) _ _ _ 0 [.int .u8 0] from rfl) (Reps.one (show Kd.M (Kd.int .u8) _ _ _ 1 [.int .u8 1] from rfl) (Reps.one (show Kd.M (Kd.int .u8) _ _ _ 97 [.int .u8 97] from rfl) (Reps.one (show Kd.M (Kd.int .u8) _ _ _ 0 [.int .u8 0] from rfl) (Reps.one (show Kd.M (Kd.int .u8) _ _ _ 1 [.int .u8 1] from rfl) (Reps.one (show Kd.M (Kd.int .u8) _ _ _ 97 [.int .u8 97] from rfl) (Reps.none _ _)))))))); intro v1 w1 ho hb1 hg_ hnew_; rw [← HY1.out] at ho; obtain ⟨A1, c1, w2, hv1, hc1, hcv, hC, hb2⟩ := lit_mark Try.underlying51 Try.underlying5 ho (by rw [L1.out]; omega); subst hv1; have HC := Aside0.mk hC; have HB := Aside0.mk (hb1.trans hb2); clear ho hb1 hb2 hC hg_ hnew_)
    | (go_at_call 40; with_reducible refine (frontcode_Decode.calls 200 _ _ y1 0 2 [] 0 4 _ HC.out hc1 D1.out).mono ?_; rintro e w3 ⟨v2, rfl, ho, hb⟩; have HB3 := Aside0.mk (below_step HB.out hb); clear ho hb)
    | ((with_reducible refine gate_dst (N := 11) rfl ?_); refine Kd.R_lit Kd.string _ 9 ?hg (N := 11) ?hd (xs := ([(⟨#[97, 98, 99]⟩ : ByteArray), (⟨#[97, 98, 100]⟩ : ByteArray)] : List ByteArray)) (inner := [.string (⟨#[97, 98, 99]⟩ : ByteArray), .string (⟨#[97, 98, 100]⟩ : ByteArray)]) (ok := fun _ => True) (okp := fun _ => True) ?hr ?hp (fun _ hk => hk) trivial (Below.refl _ _) (Nat.le_refl _) (by simp) ?_; (case hd => rfl); (case hg => (first | rfl | (simp only [*]; rfl) | (simp [*]; done))); (case hr => first | (go_simp; done) | (go_simp; rfl)); (case hp => exact (Reps.one (show Kd.M Kd.string _ _ _ (⟨#[97, 98, 99]⟩ : ByteArray) [.string (⟨#[97, 98, 99]⟩ : ByteArray)] from rfl) (Reps.one (show Kd.M Kd.string _ _ _ (⟨#[97, 98, 100]⟩ : ByteArray) [.string (⟨#[97, 98, 100]⟩ : ByteArray)] from rfl) (Reps.none _ _)))); intro v3 w4 ho hb1 hg_ hnew_; rw [← HY2.out] at ho; have HB4 := Aside0.mk (below_step HB3.out hb1); have HO := Aside0.mk ho; obtain ⟨A3, c3, e3⟩ := Kd.R_slice HO.out; subst e3; clear ho hb1 hg_ hnew_)
    | (go_at_call 36; with_reducible refine (frontcode_Encode.calls 200 _ _ y2 y3 _ ?side1 ?side2 D2.out).mono ?_; (case side1 => exact (Kd.R_reads' HO.out).2.2); (case side2 => exact (Kd.R_reads' HO.out).2.1); rintro e w5 ⟨v4, rfl, ho, hb⟩; have HB5 := Aside0.mk (below_step HB4.out hb); have hcv16 := own_string (P := Try.prog) Try.underlying51 Try.underlying5 Try.underlying9 (fe_own ho); clear ho hb)
    | (go_at_call 38; refine (frontcode_Size.calls 200 _ _ ([] : List ByteArray) 0 _ (Kd.C_nil _ _) (Nat.le_refl _) D3.out).mono ?_; rintro e w6 ⟨rfl, hb⟩; have HB6 := Aside0.mk (below_step HB5.out hb); clear hb)
    | (go_at_call 34; with_reducible refine (frontcode_CommonPrefix.calls 200 _ _ _ _ D4.out).mono ?_; rintro e w' ⟨rfl, ⟨nd, rfl⟩⟩))
  go_ret
  exact ⟨rfl, pw_below_drewN' HB6.out _⟩

/-! ### frontcode_At: function 43 -/
mutual
def frontcode_At.j0 : Nat → List Int → Int → Int → Bool → Option (ByteArray × Int)
 | 0, _, _, _, _ => none
 | k + 1, x0, x1, x3, x28 => if x28 = true then (some ((⟨#[]⟩ : ByteArray), 1)) else (frontcode_At.l0 k x0 x1 (⟨#[]⟩ : ByteArray) (wrap64 (x3 + 1)) 0)
def frontcode_At.l0 : Nat → List Int → Int → ByteArray → Int → Int → Option (ByteArray × Int)
 | 0, _, _, _, _, _ => none
 | k + 1, x0, x1, x10, x30, x31 => if x31 < x30 then ((frontcode_next.f k x0 x1 x31 x10).bind fun bt127 => (if bt127.2.2 = 0 then (frontcode_At.l0 k x0 bt127.2.1 bt127.1 x30 (wrap64 (x31 + 1))) else (some ((⟨#[]⟩ : ByteArray), bt127.2.2)))) else (some (x10, 0))
end
def frontcode_At.f (k : Nat) (l0 : List Int) (a1 : Int) (a2 : Int) (a3 : Int) : Option (ByteArray × Int) := (frontcode_valid.f l0 a1 a2).bind fun t126 => (if t126 = true then (if a3 < 0 then (frontcode_At.j0 k l0 a1 a3 true) else (frontcode_At.j0 k l0 a1 a3 (decide (a3 ≥ a2)))) else (frontcode_At.j0 k l0 a1 a3 true))
theorem frontcode_At.mono_l : ∀ k, (∀ y0 y1 y2 y3, LeO (frontcode_At.j0 k y0 y1 y2 y3) (frontcode_At.j0 (k + 1) y0 y1 y2 y3)) ∧ (∀ y0 y1 y2 y3 y4, LeO (frontcode_At.l0 k y0 y1 y2 y3 y4) (frontcode_At.l0 (k + 1) y0 y1 y2 y3 y4))
 | 0 => ⟨fun _ _ _ _ r h => by simp [frontcode_At.j0] at h, fun _ _ _ _ _ r h => by simp [frontcode_At.l0] at h⟩
 | k + 1 => by
  obtain ⟨ih0, ih1⟩ := frontcode_At.mono_l k
  refine ⟨?_, ?_⟩
  ·intro y0 y1 y2 y3
   unfold frontcode_At.j0
   repeat' first
   | (with_reducible exact ih0 _ _ _ _)
   | (with_reducible exact ih1 _ _ _ _ _)
   | (with_reducible exact frontcode_next.mono _ _ _ _ _)
   | (with_reducible exact LeO.refl _)
   | (with_reducible exact LeO.none _)
   | (with_reducible refine LeO.ite ?_ ?_)
   | (with_reducible refine LeO.bind ?_ (fun _ => ?_))
   | exact ih0 _ _ _ _
   | exact ih1 _ _ _ _ _
   | exact frontcode_next.mono _ _ _ _ _
   | exact LeO.none _
   | refine LeO.ite ?_ ?_
   | refine LeO.bind ?_ (fun _ => ?_)
  ·intro y0 y1 y2 y3 y4
   unfold frontcode_At.l0
   repeat' first
   | (with_reducible exact ih0 _ _ _ _)
   | (with_reducible exact ih1 _ _ _ _ _)
   | (with_reducible exact frontcode_next.mono _ _ _ _ _)
   | (with_reducible exact LeO.refl _)
   | (with_reducible exact LeO.none _)
   | (with_reducible refine LeO.ite ?_ ?_)
   | (with_reducible refine LeO.bind ?_ (fun _ => ?_))
   | exact ih0 _ _ _ _
   | exact ih1 _ _ _ _ _
   | exact frontcode_next.mono _ _ _ _ _
   | exact LeO.none _
   | refine LeO.ite ?_ ?_
   | refine LeO.bind ?_ (fun _ => ?_)
theorem frontcode_At.mono : ∀ a0 a1 a2 a3 k, LeO (frontcode_At.f k a0 a1 a2 a3) (frontcode_At.f (k + 1) a0 a1 a2 a3) := by
 intro a0 a1 a2 a3 k
 obtain ⟨ih0, ih1⟩ := frontcode_At.mono_l k
 unfold frontcode_At.f
 repeat' first
   | (with_reducible exact ih0 _ _ _ _)
   | (with_reducible exact ih1 _ _ _ _ _)
   | (with_reducible exact frontcode_next.mono _ _ _ _ _)
   | (with_reducible exact LeO.refl _)
   | (with_reducible exact LeO.none _)
   | (with_reducible refine LeO.ite ?_ ?_)
   | (with_reducible refine LeO.bind ?_ (fun _ => ?_))
   | exact ih0 _ _ _ _
   | exact ih1 _ _ _ _ _
   | exact frontcode_next.mono _ _ _ _ _
   | exact LeO.none _
   | refine LeO.ite ?_ ?_
   | refine LeO.bind ?_ (fun _ => ?_)
set_option maxHeartbeats 8000000 in
set_option maxRecDepth 100000 in
theorem frontcode_At.calls (k : Nat) (A0 : Option Addr) (c0 : Nat) (l0 : List Int) (a1 : Int) (a2 : Int) (a3 : Int) (r1 : ByteArray) (r2 : Int) (w : World) (hr0 : Kd.C (Kd.int .u8) w A0 l0.length l0) (hc0 : l0.length ≤ c0) (h : frontcode_At.f k l0 a1 a2 a3 = some (r1, r2)) :
  Calls Try.prog 43 #[.slice A0 l0.length c0, .int .i64 a1, .int .i64 a2, .int .i64 a3] w fun e w' => e = .returned (.tuple #[.string r1, .int .i64 r2]) ∧ Below w.heap.size w w' := by
 have HR0 := Aside0.mk hr0
 have HC0 := Aside0.mk hc0
 clear hr0 hc0
 have HB := Aside0.mk (Below.refl w.heap.size w)
 have H : ((frontcode_valid.f l0 a1 a2).bind fun t126 => (if t126 = true then (if a3 < 0 then (frontcode_At.j0 k l0 a1 a3 true) else (frontcode_At.j0 k l0 a1 a3 (decide (a3 ≥ a2)))) else (frontcode_At.j0 k l0 a1 a3 true))) = some (r1, r2) := h
 clear h
 have HC5 := Aside0.mk H
 clear H
 go_enter Try.func43, Try.ntmps43
 go_upto_region 1 with (fail)
 go_cut [28] (fun v28 wc => ∃ (kq : Nat) (x28_4 : Bool), v28 = .bool x28_4 ∧ Aside0 (frontcode_At.j0 kq l0 a1 a3 x28_4 = some (r1, r2)) ∧ Aside0 (kq ≤ k) ∧ Aside0 (Below w.heap.size w wc))
 case first =>
  have H := HC5.out
  clear HC5
  replace H := Option.bind_eq_some_iff.mp H
  obtain ⟨t126, A60, H⟩ := H
  replace H : (if t126 = true then (if a3 < 0 then (frontcode_At.j0 k l0 a1 a3 true) else (frontcode_At.j0 k l0 a1 a3 (decide (a3 ≥ a2)))) else (frontcode_At.j0 k l0 a1 a3 true)) = some (r1, r2) := H
  have A6 := Aside0.mk A60
  clear A60
  by_cases c7 : t126 = true
  ·subst c7
   have H1 : (if a3 < 0 then (frontcode_At.j0 k l0 a1 a3 true) else (frontcode_At.j0 k l0 a1 a3 (decide (a3 ≥ a2)))) = some (r1, r2) := by rw [if_pos rfl] at H; exact H
   clear H
   have H := H1
   clear H1
   by_cases c8 : a3 < 0
   ·rw [if_pos c8] at H
    have c8b0 : decide (a3 < 0) = true := decide_eq_true c8
    clear c8
    (first | rw [c8b0] | (simp only [i64_w, i32_w]; rw [c8b0]) | skip)
    have H' := Aside0.mk H
    clear H
    go_wp2_with (first | ((with_reducible refine gate_callee (f := 56) rfl ?_); refine goesL_ (some 18) rfl rfl Try.func56 (by kernel_rfl) rfl #[.slice A0 l0.length c0, .int .i64 a1, .int .i64 a2] rfl (by (try simp only [List.map_toArray, List.map_cons, List.map_nil]); first | done | rfl | (simp only [List.length_drop, List.length_take]; rfl)) ?_; (with_reducible refine (frontcode_valid.calls _ _ l0 a1 a2 true _ ?side1 ?side2 A6.out).mono ?_); (case side1 => repeat (first | exact (Kd.C_below HR0.out HB.out) | (with_reducible refine Kd.C_alloc ?_ _) | (with_reducible refine Kd.C_drewN ?_ _) | (with_reducible refine Kd.C_drew ?_))); (case side2 => exact HC0.out); rintro e w' ⟨rfl, ⟨nd, rfl⟩⟩; refine ⟨_, rfl, ?_⟩))
    go_meet
    case rel => exact ⟨_, (true), (by first | rfl | (simp; done) | (simp [*]; done)), H', ⟨by first | omega | exact Nat.le_refl _⟩, ⟨by repeat (first | (with_reducible first | exact HB.out | apply below_alloc | apply pw_below_drewN | apply below_drew1) | exact HB.out)⟩⟩
   ·rw [if_neg c8] at H
    have c8b0 : decide (a3 < 0) = false := decide_eq_false c8
    clear c8
    (first | rw [c8b0] | (simp only [i64_w, i32_w]; rw [c8b0]) | skip)
    have H' := Aside0.mk H
    clear H
    go_wp2_with (first | ((with_reducible refine gate_callee (f := 56) rfl ?_); refine goesL_ (some 18) rfl rfl Try.func56 (by kernel_rfl) rfl #[.slice A0 l0.length c0, .int .i64 a1, .int .i64 a2] rfl (by (try simp only [List.map_toArray, List.map_cons, List.map_nil]); first | done | rfl | (simp only [List.length_drop, List.length_take]; rfl)) ?_; (with_reducible refine (frontcode_valid.calls _ _ l0 a1 a2 true _ ?side1 ?side2 A6.out).mono ?_); (case side1 => repeat (first | exact (Kd.C_below HR0.out HB.out) | (with_reducible refine Kd.C_alloc ?_ _) | (with_reducible refine Kd.C_drewN ?_ _) | (with_reducible refine Kd.C_drew ?_))); (case side2 => exact HC0.out); rintro e w' ⟨rfl, ⟨nd, rfl⟩⟩; refine ⟨_, rfl, ?_⟩))
    go_meet
    case rel => exact ⟨_, (decide (a3 ≥ a2)), (by first | rfl | (simp; done) | (simp [*]; done)), H', ⟨by first | omega | exact Nat.le_refl _⟩, ⟨by repeat (first | (with_reducible first | exact HB.out | apply below_alloc | apply pw_below_drewN | apply below_drew1) | exact HB.out)⟩⟩
  ·replace c7 := Bool.eq_false_iff.mpr c7
   subst c7
   have H1 : (frontcode_At.j0 k l0 a1 a3 true) = some (r1, r2) := by rw [if_neg (show ¬ (false = true) by decide)] at H; exact H
   clear H
   have H := H1
   clear H1
   have H' := Aside0.mk H
   clear H
   go_wp2_with (first | ((with_reducible refine gate_callee (f := 56) rfl ?_); refine goesL_ (some 18) rfl rfl Try.func56 (by kernel_rfl) rfl #[.slice A0 l0.length c0, .int .i64 a1, .int .i64 a2] rfl (by (try simp only [List.map_toArray, List.map_cons, List.map_nil]); first | done | rfl | (simp only [List.length_drop, List.length_take]; rfl)) ?_; (with_reducible refine (frontcode_valid.calls _ _ l0 a1 a2 false _ ?side1 ?side2 A6.out).mono ?_); (case side1 => repeat (first | exact (Kd.C_below HR0.out HB.out) | (with_reducible refine Kd.C_alloc ?_ _) | (with_reducible refine Kd.C_drewN ?_ _) | (with_reducible refine Kd.C_drew ?_))); (case side2 => exact HC0.out); rintro e w' ⟨rfl, ⟨nd, rfl⟩⟩; refine ⟨_, rfl, ?_⟩))
   go_meet
   case rel => exact ⟨_, (true), (by first | rfl | (simp; done) | (simp [*]; done)), H', ⟨by first | omega | exact Nat.le_refl _⟩, ⟨by repeat (first | (with_reducible first | exact HB.out | apply below_alloc | apply pw_below_drewN | apply below_drew1) | exact HB.out)⟩⟩
 case rest =>
  clear HC5
  try clear p2
  try clear c4
  try clear c5
  try clear c7
  try clear c8
  try clear c8b0
  obtain ⟨kq, x28_4, rfl, HA, HJ4, HB⟩ := hcut
  cases kq with
  | zero => exact absurd HA.out (by simp [frontcode_At.j0])
  | succ kj4 =>
   have H := HA.out
   clear HA
   simp only [frontcode_At.j0] at H
   by_cases c9 : x28_4 = true
   ·subst c9
    have H1 : (some ((⟨#[]⟩ : ByteArray), 1)) = some (r1, r2) := by rw [if_pos rfl] at H; exact H
    clear H
    have H := H1
    clear H1
    simp only [Option.some.injEq, Prod.mk.injEq] at H
    obtain ⟨rfl, rfl⟩ := H
    go_wp2
    go_ret2
    exact ⟨by first | rfl | (simp [errW_none, errW_some] <;> rfl) | (simp [*, errW_none, errW_some] <;> rfl), by repeat (first | (with_reducible first | exact HB.out | apply below_alloc | apply pw_below_drewN | apply below_drew1) | exact HB.out)⟩
   ·replace c9 := Bool.eq_false_iff.mpr c9
    subst c9
    have H1 : (frontcode_At.l0 kj4 l0 a1 (⟨#[]⟩ : ByteArray) (wrap64 (a3 + 1)) 0) = some (r1, r2) := by rw [if_neg (show ¬ (false = true) by decide)] at H; exact H
    clear H
    have H := H1
    clear H1
    have H' := Aside0.mk H
    clear H
    go_wp2
    go_loopg [1, 10, 31] kj4 (fun kq v1 v10 v31 w' => ∃ (x1_2 : Int) (x10_2 : ByteArray) (x31_2 : Int), v1 = .int .i64 x1_2 ∧ v10 = .string x10_2 ∧ v31 = .int .i64 x31_2 ∧ Aside0 (frontcode_At.l0 kq l0 x1_2 x10_2 (wrap64 (a3 + 1)) x31_2 = some (r1, r2)) ∧ Aside0 (kq ≤ kj4) ∧ Aside0 (Below w.heap.size w w'))
    case atStart => exact ⟨(a1), ((⟨#[]⟩ : ByteArray)), (0), (by first | rfl | (simp; done) | (simp [*]; done)), (by first | rfl | (simp; done) | (simp [*]; done)), (by first | rfl | (simp; done) | (simp [*]; done)), H', ⟨Nat.le_refl _⟩, ⟨by repeat (first | (with_reducible first | exact HB.out | apply below_alloc | apply pw_below_drewN | apply below_drew1) | exact HB.out)⟩⟩
    case round =>
     clear H'
     try clear p2
     try clear c4
     try clear c5
     try clear p6
     try clear c7
     try clear c8
     try clear c8b0
     try clear c9
     try clear p2
     obtain ⟨x1_2, x10_2, x31_2, rfl, rfl, rfl, HA, HK2, HB⟩ := hrel
     cases gk with
     | zero => exact absurd HA.out (by simp [frontcode_At.l0])
     | succ k2 =>
      have H := HA.out
      clear HA
      simp only [frontcode_At.l0] at H
      by_cases c10 : x31_2 < (wrap64 (a3 + 1))
      ·rw [if_pos c10] at H
       have c10b0 : decide (x31_2 < (wrap64 (a3 + 1))) = true := decide_eq_true c10
       clear c10
       replace H := Option.bind_eq_some_iff.mp H
       obtain ⟨⟨t127, t128, t129⟩, A110, H⟩ := H
       replace H : (if t129 = 0 then (frontcode_At.l0 k2 l0 t128 t127 (wrap64 (a3 + 1)) (wrap64 (x31_2 + 1))) else (some ((⟨#[]⟩ : ByteArray), t129))) = some (r1, r2) := H
       have A11 := Aside0.mk A110
       clear A110
       by_cases c12 : t129 = 0
       ·rw [if_pos c12] at H
        have c12b0 : (t129 == 0) = true := beq_iff_eq.mpr c12
        have c12b1 : (t129 != 0) = false := bne_eq_false_iff_eq.mpr c12
        clear c12
        have H' := Aside0.mk H
        clear H
        go_wp2_with (first | ((with_reducible refine gate_callee (f := 57) rfl ?_); refine goesL_ (some 39) rfl rfl Try.func57 (by kernel_rfl) rfl #[.slice A0 l0.length c0, .int .i64 x1_2, .int .i64 x31_2, .string x10_2] rfl (by (try simp only [List.map_toArray, List.map_cons, List.map_nil]); first | done | rfl | (simp only [List.length_drop, List.length_take]; rfl)) ?_; (with_reducible refine (frontcode_next.calls k2 _ _ l0 x1_2 x31_2 x10_2 t127 t128 t129 _ ?side1 ?side2 A11.out).mono ?_); (case side1 => repeat (first | exact (Kd.C_below HR0.out HB.out) | (with_reducible refine Kd.C_alloc ?_ _) | (with_reducible refine Kd.C_drewN ?_ _) | (with_reducible refine Kd.C_drew ?_))); (case side2 => exact HC0.out); rintro e w13 ⟨rfl, hb⟩; refine ⟨_, rfl, ?_⟩; have n0_ := Aside0.mk (below_step (by repeat (first | (with_reducible first | exact HB.out | apply below_alloc | apply pw_below_drewN | apply below_drew1) | exact HB.out)) hb); clear HB; have HB := n0_; clear n0_; (try clear hb); (try clear hb2); (try clear hk); (try clear hi)))
        go_roundg k2
        case measure => have := HJ4.out; have := HK2.out; omega
        case rel => exact ⟨(t128), (t127), (wrap64 (x31_2 + 1)), (by first | rfl | (simp; done) | (simp [*]; done)), (by first | rfl | (simp; done) | (simp [*]; done)), (by first | rfl | (simp; done) | (simp [*]; done)), H', ⟨by have := HJ4.out; have := HK2.out; omega⟩, ⟨by repeat (first | (with_reducible first | exact HB.out | apply below_alloc | apply pw_below_drewN | apply below_drew1) | exact HB.out)⟩⟩
       ·rw [if_neg c12] at H
        have c12b0 : (t129 == 0) = false := beq_eq_false_iff_ne.mpr c12
        have c12b1 : (t129 != 0) = true := bne_iff_ne.mpr c12
        simp only [Option.some.injEq, Prod.mk.injEq] at H
        obtain ⟨rfl, rfl⟩ := H
        go_wp2_with (first | ((with_reducible refine gate_callee (f := 57) rfl ?_); refine goesL_ (some 39) rfl rfl Try.func57 (by kernel_rfl) rfl #[.slice A0 l0.length c0, .int .i64 x1_2, .int .i64 x31_2, .string x10_2] rfl (by (try simp only [List.map_toArray, List.map_cons, List.map_nil]); first | done | rfl | (simp only [List.length_drop, List.length_take]; rfl)) ?_; (with_reducible refine (frontcode_next.calls k2 _ _ l0 x1_2 x31_2 x10_2 t127 t128 t129 _ ?side1 ?side2 A11.out).mono ?_); (case side1 => repeat (first | exact (Kd.C_below HR0.out HB.out) | (with_reducible refine Kd.C_alloc ?_ _) | (with_reducible refine Kd.C_drewN ?_ _) | (with_reducible refine Kd.C_drew ?_))); (case side2 => exact HC0.out); rintro e w14 ⟨rfl, hb⟩; refine ⟨_, rfl, ?_⟩; have n0_ := Aside0.mk (below_step (by repeat (first | (with_reducible first | exact HB.out | apply below_alloc | apply pw_below_drewN | apply below_drew1) | exact HB.out)) hb); clear HB; have HB := n0_; clear n0_; (try clear hb); (try clear hb2); (try clear hk); (try clear hi)))
        go_ret2
        exact ⟨by first | rfl | (simp [errW_none, errW_some] <;> rfl) | (simp [*, errW_none, errW_some] <;> rfl), by repeat (first | (with_reducible first | exact HB.out | apply below_alloc | apply pw_below_drewN | apply below_drew1) | exact HB.out)⟩
      ·rw [if_neg c10] at H
       have c10b0 : decide (x31_2 < (wrap64 (a3 + 1))) = false := decide_eq_false c10
       clear c10
       simp only [Option.some.injEq, Prod.mk.injEq] at H
       obtain ⟨rfl, rfl⟩ := H
       go_wp2
       go_ret2
       exact ⟨by first | rfl | (simp [errW_none, errW_some] <;> rfl) | (simp [*, errW_none, errW_some] <;> rfl), by repeat (first | (with_reducible first | exact HB.out | apply below_alloc | apply pw_below_drewN | apply below_drew1) | exact HB.out)⟩

/-! ### laminaref01_Decode: function 64 -/
mutual
def laminaref01_Decode.j0 : Nat → List Int → Int → Bool → Option (Int × Int × Int)
 | 0, _, _, _ => none
 | k + 1, x0, x1, x18 => if x18 = true then (some (0, 0, 1)) else (laminaref01_Decode.l0 k x0 x1 0 1 0)
def laminaref01_Decode.l0 : Nat → List Int → Int → Int → Int → Int → Option (Int × Int × Int)
 | 0, _, _, _, _, _ => none
 | k + 1, x0, x1, x7, x8, x9 => if (wrap64 (x1 + x9)) ≥ (x0.length : Int) then (some (0, 0, 2)) else (if 0 ≤ (wrap64 (x1 + x9)) then (if (wrap64 (x1 + x9)) < (x0.length : Int) then (if x9 = 9 then (if (rd x0 (wrap64 (x1 + x9))) > 1 then (laminaref01_Decode.j2 k x0 x1 x7 x8 x9 (rd x0 (wrap64 (x1 + x9))) true) else (if x9 > 0 then (laminaref01_Decode.j2 k x0 x1 x7 x8 x9 (rd x0 (wrap64 (x1 + x9))) ((rd x0 (wrap64 (x1 + x9))) == 0)) else (laminaref01_Decode.j2 k x0 x1 x7 x8 x9 (rd x0 (wrap64 (x1 + x9))) false))) else (if x9 > 0 then (laminaref01_Decode.j2 k x0 x1 x7 x8 x9 (rd x0 (wrap64 (x1 + x9))) ((rd x0 (wrap64 (x1 + x9))) == 0)) else (laminaref01_Decode.j2 k x0 x1 x7 x8 x9 (rd x0 (wrap64 (x1 + x9))) false))) else (none)) else (none))
def laminaref01_Decode.j2 : Nat → List Int → Int → Int → Int → Int → Int → Bool → Option (Int × Int × Int)
 | 0, _, _, _, _, _, _, _ => none
 | k + 1, x0, x1, x7, x8, x9, x10, x46 => if x46 = true then (some (0, 0, 4)) else (if x10 < 128 then (some (IntKind.u64.wrap (x7 + (IntKind.u64.wrap ((IntKind.u64.wrap (Int.tmod x10 128)) * x8))), wrap64 ((wrap64 (x1 + x9)) + 1), 0)) else (laminaref01_Decode.l0 k x0 x1 (IntKind.u64.wrap (x7 + (IntKind.u64.wrap ((IntKind.u64.wrap (Int.tmod x10 128)) * x8)))) (IntKind.u64.wrap (x8 * 128)) (wrap64 (x9 + 1))))
end
def laminaref01_Decode.f (k : Nat) (l0 : List Int) (a1 : Int) : Option (Int × Int × Int) := if a1 < 0 then (laminaref01_Decode.j0 k l0 a1 true) else (laminaref01_Decode.j0 k l0 a1 (decide (a1 > (l0.length : Int))))
theorem laminaref01_Decode.mono_l : ∀ k, (∀ y0 y1 y2, LeO (laminaref01_Decode.j0 k y0 y1 y2) (laminaref01_Decode.j0 (k + 1) y0 y1 y2)) ∧ (∀ y0 y1 y2 y3 y4, LeO (laminaref01_Decode.l0 k y0 y1 y2 y3 y4) (laminaref01_Decode.l0 (k + 1) y0 y1 y2 y3 y4)) ∧ (∀ y0 y1 y2 y3 y4 y5 y6, LeO (laminaref01_Decode.j2 k y0 y1 y2 y3 y4 y5 y6) (laminaref01_Decode.j2 (k + 1) y0 y1 y2 y3 y4 y5 y6))
 | 0 => ⟨fun _ _ _ r h => by simp [laminaref01_Decode.j0] at h, fun _ _ _ _ _ r h => by simp [laminaref01_Decode.l0] at h, fun _ _ _ _ _ _ _ r h => by simp [laminaref01_Decode.j2] at h⟩
 | k + 1 => by
  obtain ⟨ih0, ih1, ih2⟩ := laminaref01_Decode.mono_l k
  refine ⟨?_, ?_, ?_⟩
  ·intro y0 y1 y2
   unfold laminaref01_Decode.j0
   repeat' first
   | (with_reducible exact ih0 _ _ _)
   | (with_reducible exact ih1 _ _ _ _ _)
   | (with_reducible exact ih2 _ _ _ _ _ _ _)
   | (with_reducible exact LeO.refl _)
   | (with_reducible exact LeO.none _)
   | (with_reducible refine LeO.ite ?_ ?_)
   | (with_reducible refine LeO.bind ?_ (fun _ => ?_))
   | exact ih0 _ _ _
   | exact ih1 _ _ _ _ _
   | exact ih2 _ _ _ _ _ _ _
   | exact LeO.none _
   | refine LeO.ite ?_ ?_
   | refine LeO.bind ?_ (fun _ => ?_)
  ·intro y0 y1 y2 y3 y4
   unfold laminaref01_Decode.l0
   repeat' first
   | (with_reducible exact ih0 _ _ _)
   | (with_reducible exact ih1 _ _ _ _ _)
   | (with_reducible exact ih2 _ _ _ _ _ _ _)
   | (with_reducible exact LeO.refl _)
   | (with_reducible exact LeO.none _)
   | (with_reducible refine LeO.ite ?_ ?_)
   | (with_reducible refine LeO.bind ?_ (fun _ => ?_))
   | exact ih0 _ _ _
   | exact ih1 _ _ _ _ _
   | exact ih2 _ _ _ _ _ _ _
   | exact LeO.none _
   | refine LeO.ite ?_ ?_
   | refine LeO.bind ?_ (fun _ => ?_)
  ·intro y0 y1 y2 y3 y4 y5 y6
   unfold laminaref01_Decode.j2
   repeat' first
   | (with_reducible exact ih0 _ _ _)
   | (with_reducible exact ih1 _ _ _ _ _)
   | (with_reducible exact ih2 _ _ _ _ _ _ _)
   | (with_reducible exact LeO.refl _)
   | (with_reducible exact LeO.none _)
   | (with_reducible refine LeO.ite ?_ ?_)
   | (with_reducible refine LeO.bind ?_ (fun _ => ?_))
   | exact ih0 _ _ _
   | exact ih1 _ _ _ _ _
   | exact ih2 _ _ _ _ _ _ _
   | exact LeO.none _
   | refine LeO.ite ?_ ?_
   | refine LeO.bind ?_ (fun _ => ?_)
theorem laminaref01_Decode.mono : ∀ a0 a1 k, LeO (laminaref01_Decode.f k a0 a1) (laminaref01_Decode.f (k + 1) a0 a1) := by
 intro a0 a1 k
 obtain ⟨ih0, ih1, ih2⟩ := laminaref01_Decode.mono_l k
 unfold laminaref01_Decode.f
 repeat' first
   | (with_reducible exact ih0 _ _ _)
   | (with_reducible exact ih1 _ _ _ _ _)
   | (with_reducible exact ih2 _ _ _ _ _ _ _)
   | (with_reducible exact LeO.refl _)
   | (with_reducible exact LeO.none _)
   | (with_reducible refine LeO.ite ?_ ?_)
   | (with_reducible refine LeO.bind ?_ (fun _ => ?_))
   | exact ih0 _ _ _
   | exact ih1 _ _ _ _ _
   | exact ih2 _ _ _ _ _ _ _
   | exact LeO.none _
   | refine LeO.ite ?_ ?_
   | refine LeO.bind ?_ (fun _ => ?_)
set_option maxHeartbeats 8000000 in
set_option maxRecDepth 100000 in
theorem laminaref01_Decode.calls (k : Nat) (A0 : Option Addr) (c0 : Nat) (l0 : List Int) (a1 : Int) (r1 : Int) (r2 : Int) (r3 : Int) (w : World) (hr0 : Kd.C (Kd.int .u8) w A0 l0.length l0) (hc0 : l0.length ≤ c0) (h : laminaref01_Decode.f k l0 a1 = some (r1, r2, r3)) :
  Calls Try.prog 64 #[.slice A0 l0.length c0, .int .i64 a1] w fun e w' => e = .returned (.tuple #[.int .u64 r1, .int .i64 r2, .int .i64 r3]) ∧ Drawn0 w w' := by
 have HR0 := Aside0.mk hr0
 have HC0 := Aside0.mk hc0
 clear hr0 hc0
 have H : (if a1 < 0 then (laminaref01_Decode.j0 k l0 a1 true) else (laminaref01_Decode.j0 k l0 a1 (decide (a1 > (l0.length : Int))))) = some (r1, r2, r3) := h
 clear h
 have HC3 := Aside0.mk H
 clear H
 go_enter Try.func64, Try.ntmps64
 go_upto_region 1 with (fail)
 go_cut [18] (fun v18 wc => ∃ (kq : Nat) (x18_2 : Bool), v18 = .bool x18_2 ∧ Aside0 (laminaref01_Decode.j0 kq l0 a1 x18_2 = some (r1, r2, r3)) ∧ Aside0 (kq ≤ k) ∧ Drawn0 w wc)
 case first =>
  have H := HC3.out
  clear HC3
  by_cases c4 : a1 < 0
  ·rw [if_pos c4] at H
   have c4b0 : decide (a1 < 0) = true := decide_eq_true c4
   clear c4
   (first | rw [c4b0] | (simp only [i64_w, i32_w]; rw [c4b0]) | skip)
   have H' := Aside0.mk H
   clear H
   go_wp2
   go_meet
   case rel => exact ⟨_, (true), (by first | rfl | (simp; done) | (simp [*]; done)), H', ⟨by first | omega | exact Nat.le_refl _⟩, by repeat (first | exact Drawn0.refl _ | apply Drawn0.step)⟩
  ·rw [if_neg c4] at H
   have c4b0 : decide (a1 < 0) = false := decide_eq_false c4
   clear c4
   (first | rw [c4b0] | (simp only [i64_w, i32_w]; rw [c4b0]) | skip)
   have H' := Aside0.mk H
   clear H
   go_wp2
   go_meet
   case rel => exact ⟨_, (decide (a1 > (l0.length : Int))), (by first | rfl | (simp; done) | (simp [*]; done)), H', ⟨by first | omega | exact Nat.le_refl _⟩, by repeat (first | exact Drawn0.refl _ | apply Drawn0.step)⟩
 case rest =>
  clear HC3
  try clear p2
  try clear c4
  try clear c4b0
  obtain ⟨kq, x18_2, rfl, HA, HJ2, ⟨mc2, rfl⟩⟩ := hcut
  cases kq with
  | zero => exact absurd HA.out (by simp [laminaref01_Decode.j0])
  | succ kj2 =>
   have H := HA.out
   clear HA
   simp only [laminaref01_Decode.j0] at H
   by_cases c5 : x18_2 = true
   ·subst c5
    have H1 : (some (0, 0, 1)) = some (r1, r2, r3) := by rw [if_pos rfl] at H; exact H
    clear H
    have H := H1
    clear H1
    simp only [Option.some.injEq, Prod.mk.injEq] at H
    obtain ⟨rfl, rfl, rfl⟩ := H
    go_wp2
    go_ret3
    exact ⟨by first | rfl | (simp; done) | (simp [*]; done), by repeat (first | exact Drawn0.refl _ | apply Drawn0.step)⟩
   ·replace c5 := Bool.eq_false_iff.mpr c5
    subst c5
    have H1 : (laminaref01_Decode.l0 kj2 l0 a1 0 1 0) = some (r1, r2, r3) := by rw [if_neg (show ¬ (false = true) by decide)] at H; exact H
    clear H
    have H := H1
    clear H1
    have H' := Aside0.mk H
    clear H
    go_wp2
    go_loopg [7, 8, 9] kj2 (fun kq v7 v8 v9 w' => ∃ (x7_2 : Int) (x8_2 : Int) (x9_2 : Int), v7 = .int .u64 x7_2 ∧ v8 = .int .u64 x8_2 ∧ v9 = .int .i64 x9_2 ∧ Aside0 (laminaref01_Decode.l0 kq l0 a1 x7_2 x8_2 x9_2 = some (r1, r2, r3)) ∧ Aside0 (kq ≤ kj2) ∧ Drawn0 w w')
    case atStart => exact ⟨(0), (1), (0), (by first | rfl | (simp; done) | (simp [*]; done)), (by first | rfl | (simp; done) | (simp [*]; done)), (by first | rfl | (simp; done) | (simp [*]; done)), H', ⟨Nat.le_refl _⟩, by repeat (first | exact Drawn0.refl _ | apply Drawn0.step)⟩
    case round =>
     clear H'
     try clear c2
     try clear p2
     try clear c4
     try clear c4b0
     try clear c5
     try clear p2
     obtain ⟨x7_2, x8_2, x9_2, rfl, rfl, rfl, HA, HK2, ⟨m2, rfl⟩⟩ := hrel
     cases gk with
     | zero => exact absurd HA.out (by simp [laminaref01_Decode.l0])
     | succ k2 =>
      have H := HA.out
      clear HA
      simp only [laminaref01_Decode.l0] at H
      by_cases c6 : (wrap64 (a1 + x9_2)) ≥ (l0.length : Int)
      ·rw [if_pos c6] at H
       have c6b0 : decide ((l0.length : Int) ≤ (wrap64 (a1 + x9_2))) = true := decide_eq_true c6
       clear c6
       simp only [Option.some.injEq, Prod.mk.injEq] at H
       obtain ⟨rfl, rfl, rfl⟩ := H
       go_wp2
       go_ret3
       exact ⟨by first | rfl | (simp; done) | (simp [*]; done), by repeat (first | exact Drawn0.refl _ | apply Drawn0.step)⟩
      ·rw [if_neg c6] at H
       have c6b0 : decide ((l0.length : Int) ≤ (wrap64 (a1 + x9_2))) = false := decide_eq_false c6
       clear c6
       obtain ⟨ji7, hji7⟩ : ∃ j_ : Int, (wrap64 (a1 + x9_2)) = j_ := ⟨_, rfl⟩
       replace H : (if 0 ≤ (ji7) then (if (ji7) < (l0.length : Int) then (if x9_2 = 9 then (if (rd l0 (ji7)) > 1 then (laminaref01_Decode.j2 k2 l0 a1 x7_2 x8_2 x9_2 (rd l0 (ji7)) true) else (if x9_2 > 0 then (laminaref01_Decode.j2 k2 l0 a1 x7_2 x8_2 x9_2 (rd l0 (ji7)) ((rd l0 (ji7)) == 0)) else (laminaref01_Decode.j2 k2 l0 a1 x7_2 x8_2 x9_2 (rd l0 (ji7)) false))) else (if x9_2 > 0 then (laminaref01_Decode.j2 k2 l0 a1 x7_2 x8_2 x9_2 (rd l0 (ji7)) ((rd l0 (ji7)) == 0)) else (laminaref01_Decode.j2 k2 l0 a1 x7_2 x8_2 x9_2 (rd l0 (ji7)) false))) else (none)) else (none)) = some (r1, r2, r3) := by first | (rw [hji7] at H; exact H) | (simp only [hji7] at H ⊢; exact H)
       (try rw [hji7] at c6b0)
       have hji7w : (IntKind.i64.wrap (a1 + x9_2)) = ji7 := (i64_w _).trans hji7
       by_cases c8 : 0 ≤ (ji7)
       ·rw [if_pos c8] at H
        have c8b0 : decide (0 ≤ (ji7)) = true := decide_eq_true c8
        clear c8
        by_cases c9 : (ji7) < (l0.length : Int)
        ·rw [if_pos c9] at H
         have c9b0 : decide ((ji7) < (l0.length : Int)) = true := decide_eq_true c9
         clear c9
         have HC10 := Aside0.mk H
         clear H
         have p130 : 0 ≤ ((ji7) : Int) := of_decide_eq_true (by first | (with_reducible assumption) | assumption)
         have q130 : (ji7) < (l0.length : Int) := of_decide_eq_true (by first | (with_reducible assumption) | assumption)
         obtain ⟨ad130, e130, hx130_0⟩ := Kd.at_int HR0.out (ji7) p130 q130
         cases e130
         replace p130 := eq_true p130
         replace q130 := eq_true q130
         go_upto_region 9 with (fail)
         go_cut [46] (fun v46 wc => ∃ (kq : Nat) (x46_9 : Bool), v46 = .bool x46_9 ∧ Aside0 (laminaref01_Decode.j2 kq l0 a1 x7_2 x8_2 x9_2 (rd l0 (ji7)) x46_9 = some (r1, r2, r3)) ∧ Aside0 (kq ≤ k2) ∧ Drawn0 w wc)
         case first =>
          have H := HC10.out
          clear HC10
          by_cases c11 : x9_2 = 9
          ·rw [if_pos c11] at H
           have c11b0 : (x9_2 == 9) = true := beq_iff_eq.mpr c11
           have c11b1 : (x9_2 != 9) = false := bne_eq_false_iff_eq.mpr c11
           clear c11
           (first | rw [c11b0] | (simp only [i64_w, i32_w]; rw [c11b0]) | skip)
           by_cases c12 : (rd l0 (ji7)) > 1
           ·rw [if_pos c12] at H
            have c12b0 : decide (1 < (rd l0 (ji7))) = true := decide_eq_true c12
            clear c12
            have H' := Aside0.mk H
            clear H
            go_wp2
            go_meet
            case rel => exact ⟨_, (true), (by first | rfl | (simp; done) | (simp [*]; done)), H', ⟨by have := HJ2.out; have := HK2.out; first | omega | exact Nat.le_refl _⟩, by repeat (first | exact Drawn0.refl _ | apply Drawn0.step)⟩
           ·rw [if_neg c12] at H
            have c12b0 : decide (1 < (rd l0 (ji7))) = false := decide_eq_false c12
            clear c12
            by_cases c13 : x9_2 > 0
            ·rw [if_pos c13] at H
             have c13b0 : decide (0 < x9_2) = true := decide_eq_true c13
             clear c13
             have H' := Aside0.mk H
             clear H
             go_wp2
             go_meet
             case rel => exact ⟨_, (((rd l0 (ji7)) == 0)), (by first | rfl | (simp; done) | (simp only [← hji7] <;> (first | rfl | simp)) | (simp [*]; done)), H', ⟨by have := HJ2.out; have := HK2.out; first | omega | exact Nat.le_refl _⟩, by repeat (first | exact Drawn0.refl _ | apply Drawn0.step)⟩
            ·rw [if_neg c13] at H
             have c13b0 : decide (0 < x9_2) = false := decide_eq_false c13
             clear c13
             have H' := Aside0.mk H
             clear H
             go_wp2
             go_meet
             case rel => exact ⟨_, (false), (by first | rfl | (simp; done) | (simp [*]; done)), H', ⟨by have := HJ2.out; have := HK2.out; first | omega | exact Nat.le_refl _⟩, by repeat (first | exact Drawn0.refl _ | apply Drawn0.step)⟩
          ·rw [if_neg c11] at H
           have c11b0 : (x9_2 == 9) = false := beq_eq_false_iff_ne.mpr c11
           have c11b1 : (x9_2 != 9) = true := bne_iff_ne.mpr c11
           (first | rw [c11b0] | (simp only [i64_w, i32_w]; rw [c11b0]) | skip)
           by_cases c14 : x9_2 > 0
           ·rw [if_pos c14] at H
            have c14b0 : decide (0 < x9_2) = true := decide_eq_true c14
            clear c14
            have H' := Aside0.mk H
            clear H
            go_wp2
            go_meet
            case rel => exact ⟨_, (((rd l0 (ji7)) == 0)), (by first | rfl | (simp; done) | (simp only [← hji7] <;> (first | rfl | simp)) | (simp [*]; done)), H', ⟨by have := HJ2.out; have := HK2.out; first | omega | exact Nat.le_refl _⟩, by repeat (first | exact Drawn0.refl _ | apply Drawn0.step)⟩
           ·rw [if_neg c14] at H
            have c14b0 : decide (0 < x9_2) = false := decide_eq_false c14
            clear c14
            have H' := Aside0.mk H
            clear H
            go_wp2
            go_meet
            case rel => exact ⟨_, (false), (by first | rfl | (simp; done) | (simp [*]; done)), H', ⟨by have := HJ2.out; have := HK2.out; first | omega | exact Nat.le_refl _⟩, by repeat (first | exact Drawn0.refl _ | apply Drawn0.step)⟩
         case rest =>
          clear HC10
          try clear c1
          try clear p1
          try clear q1
          try clear hx1
          try clear c2
          try clear p2
          try clear c4
          try clear c4b0
          try clear c5
          try clear c6
          try clear c6b0
          try clear p6
          try clear c8
          try clear c8b0
          try clear c9
          try clear c9b0
          try clear c11
          try clear c11b0
          try clear c11b1
          try clear c12
          try clear c12b0
          try clear c13
          try clear c13b0
          try clear p13
          try clear q13
          try clear hx13
          try clear c14
          try clear c14b0
          try clear hx130_0
          try clear p130
          try clear p2
          try clear q130
          obtain ⟨kq, x46_9, rfl, HA, HJ9, ⟨mc9, rfl⟩⟩ := hcut
          cases kq with
          | zero => exact absurd HA.out (by simp [laminaref01_Decode.j2])
          | succ kj9 =>
           have H := HA.out
           clear HA
           simp only [laminaref01_Decode.j2] at H
           by_cases c15 : x46_9 = true
           ·subst c15
            have H1 : (some (0, 0, 4)) = some (r1, r2, r3) := by rw [if_pos rfl] at H; exact H
            clear H
            have H := H1
            clear H1
            simp only [Option.some.injEq, Prod.mk.injEq] at H
            obtain ⟨rfl, rfl, rfl⟩ := H
            go_wp2
            go_ret3
            exact ⟨by first | rfl | (simp; done) | (simp only [← hji7] <;> (first | rfl | simp)) | (simp [*]; done), by repeat (first | exact Drawn0.refl _ | apply Drawn0.step)⟩
           ·replace c15 := Bool.eq_false_iff.mpr c15
            subst c15
            have H1 : (if (rd l0 (ji7)) < 128 then (some (IntKind.u64.wrap (x7_2 + (IntKind.u64.wrap ((IntKind.u64.wrap (Int.tmod (rd l0 (ji7)) 128)) * x8_2))), wrap64 ((wrap64 (a1 + x9_2)) + 1), 0)) else (laminaref01_Decode.l0 kj9 l0 a1 (IntKind.u64.wrap (x7_2 + (IntKind.u64.wrap ((IntKind.u64.wrap (Int.tmod (rd l0 (ji7)) 128)) * x8_2)))) (IntKind.u64.wrap (x8_2 * 128)) (wrap64 (x9_2 + 1)))) = some (r1, r2, r3) := by rw [if_neg (show ¬ (false = true) by decide)] at H; exact H
            clear H
            have H := H1
            clear H1
            by_cases c16 : (rd l0 (ji7)) < 128
            ·rw [if_pos c16] at H
             have c16b0 : decide ((rd l0 (ji7)) < 128) = true := decide_eq_true c16
             clear c16
             simp only [Option.some.injEq, Prod.mk.injEq] at H
             obtain ⟨rfl, rfl, rfl⟩ := H
             go_wp2
             go_ret3
             exact ⟨by first | rfl | (simp; done) | (simp only [← hji7] <;> (first | rfl | simp)) | (simp [*]; done), by repeat (first | exact Drawn0.refl _ | apply Drawn0.step)⟩
            ·rw [if_neg c16] at H
             have c16b0 : decide ((rd l0 (ji7)) < 128) = false := decide_eq_false c16
             clear c16
             have H' := Aside0.mk H
             clear H
             go_wp2
             go_roundg kj9
             case measure => have := HJ2.out; have := HK2.out; have := HJ9.out; omega
             case rel => exact ⟨(IntKind.u64.wrap (x7_2 + (IntKind.u64.wrap ((IntKind.u64.wrap (Int.tmod (rd l0 (ji7)) 128)) * x8_2)))), (IntKind.u64.wrap (x8_2 * 128)), (wrap64 (x9_2 + 1)), (by first | rfl | (simp; done) | (simp only [← hji7] <;> (first | rfl | simp)) | (simp [*]; done)), (by first | rfl | (simp; done) | (simp [*]; done)), (by first | rfl | (simp; done) | (simp [*]; done)), H', ⟨by have := HJ2.out; have := HK2.out; have := HJ9.out; omega⟩, by repeat (first | exact Drawn0.refl _ | apply Drawn0.step)⟩
        ·rw [if_neg c9] at H
         exact absurd H (by simp)
       ·rw [if_neg c8] at H
        exact absurd H (by simp)

end Go.Proofs.Yteamkjphdiajeaa.QFrontcodeAt
