-- Written by a program of this session (wip/pr2.sh): the walk of the Go text, function by function.
import Derived.Test.YteamkjphdiajeaaQFrontcodeCanonicalx0
import Derived.Test.YteamkjphdiajeaaQFrontcodeCanonicalx1
import Derived.Test.YteamkjphdiajeaaQFrontcodeCanonicalx2
namespace Go.Proofs.Yteamkjphdiajeaa.QFrontcodeCanonical
open Go.RowKit Go.Proofs.YteamkjphdiajeaaW.PrintWords Go.Proofs.YteamkjphdiajeaaW.PrintLast Go.Proofs.YteamkjphdiajeaaW.PrintMore
open Go.Proofs.YteamkjphdiajeaaM
attribute [local go_sem] max2_int min2_int max_two min_two max_three min_three max_four min_four   -- for this text's walks alone
set_option linter.unusedVariables false
set_option linter.unusedSimpArgs false

/-! ### frontcode_Encode: function 36 -/
def frontcode_Encode.g (k : Nat) (l0 : List ByteArray) : List ByteArray → Nat → List Int → Option (List Int)
  | [], _, acc => some acc
  | s :: t, i, acc => (frontcode_shared.f k l0 (i : Int)).bind fun c => if 0 ≤ c ∧ c ≤ (s.size : Int) ∧ s.size ≤ 1000000000 ∧ acc.length ≤ 1000000000000 then (varint_Encode.f k c).bind fun e1 => (varint_Encode.f k ((s.size : Int) - c)).bind fun e2 => if e1.length ≤ 100 ∧ e2.length ≤ 100 then frontcode_Encode.g k l0 t (i + 1) (acc ++ e1 ++ e2 ++ (bytesOf s).drop c.toNat) else none else none
def frontcode_Encode.f (k : Nat) (l0 : List ByteArray) : Option (List Int) := if l0.length ≤ 1000000000 then frontcode_Encode.g k l0 l0 0 [] else none
theorem frontcode_Encode.mono_g (k : Nat) (l0 : List ByteArray) : ∀ (l : List ByteArray) (i : Nat) (acc : List Int), LeO (frontcode_Encode.g k l0 l i acc) (frontcode_Encode.g (k + 1) l0 l i acc) := by
  intro l
  induction l with
  | nil => intro i acc; exact LeO.refl _
  | cons s t ih =>
    intro i acc
    simp only [frontcode_Encode.g]
    repeat' first
    | (with_reducible exact ih _ _)
    | (with_reducible exact frontcode_shared.mono _ _ _)
    | (with_reducible exact varint_Encode.mono _ _)
    | (with_reducible exact LeO.none _)
    | (with_reducible refine LeO.ite ?_ ?_)
    | (with_reducible refine LeO.bind ?_ (fun _ => ?_))
theorem frontcode_Encode.mono (l0 : List ByteArray) (k : Nat) : LeO (frontcode_Encode.f k l0) (frontcode_Encode.f (k + 1) l0) := by
  unfold frontcode_Encode.f
  exact LeO.ite (frontcode_Encode.mono_g k l0 l0 0 []) (LeO.none _)
theorem bytesOf_drop (s : ByteArray) (k : Nat) : bytesOf (s.extract k s.size) = (bytesOf s).drop k := by
  unfold bytesOf
  rw [ByteArray.data_extract, Array.toList_extract, List.extract_eq_take_drop, List.map_take, List.map_drop, List.take_of_length_le]
  rw [List.length_drop, List.length_map]
  exact Nat.le_refl _
theorem fe_R {k : IntKind} {e base : Nat} {v : Value} {xs : List Int} {W : World} (h : W.ownsRow base e 1 v xs.length (nums k xs)) : Kd.R (Kd.int k) e W base (fun _ => True) v xs := Kd.R_of_own (enc := Value.int k) (h1 := fun _ => rfl) h (fun _ _ => trivial)
theorem fe_below_drewN {B : Nat} {w0 W : World} (h : Below B w0 W) (n : Nat) : Below B w0 (W.drewN n) := h.trans (pw_below_drewN (Below.refl _ _) n)
theorem fe_own {k : IntKind} {e base : Nat} {ok : Nat → Prop} {v : Value} {xs : List Int} {W : World} (h : Kd.R (Kd.int k) e W base ok v xs) : W.ownsRow base e 1 v xs.length (nums k xs) := Kd.own_of_R (enc := Value.int k) (h1 := fun _ => rfl) h
set_option maxHeartbeats 2000000 in
set_option maxRecDepth 100000 in
theorem frontcode_Encode.calls (k : Nat) (A0 : Option Addr) (c0 : Nat) (l0 : List ByteArray) (r : List Int) (w : World) (hr0 : Kd.C Kd.string w A0 l0.length l0) (hc0 : l0.length ≤ c0) (h : frontcode_Encode.f k l0 = some r) :
    Calls Try.prog 36 #[.slice A0 l0.length c0] w fun e w' => ∃ v0_ : Value, e = .returned (v0_) ∧ Kd.R (Kd.int .u8) 5 w' w.heap.size (fun _ => True) v0_ r ∧ Below w.heap.size w w' := by
  unfold frontcode_Encode.f at h
  by_cases hsz : l0.length ≤ 1000000000
  case neg => rw [if_neg hsz] at h; cases h
  rw [if_pos hsz] at h
  have HR := Aside0.mk hr0
  have HG := Aside0.mk h
  have hmx := Kd.C_max hr0
  clear hr0 h
  go_enter Try.func36, Try.ntmps36
  go_wp2
  go_loopw [3, 9] (fun v3 v9 wr => ∃ (i : Nat) (acc : List Int), i ≤ l0.length ∧ v9 = .int .i64 (i : Int) ∧ Aside0 (frontcode_Encode.g k l0 (l0.drop i) i acc = some r) ∧ Aside0 (Kd.R (Kd.int .u8) 5 wr w.heap.size (fun _ => True) v3 acc) ∧ Aside0 (Below w.heap.size w wr)) (fun _ v9 _ => l0.length - (intOf v9).toNat)
  case atStart => exact ⟨0, [], Nat.zero_le _, rfl, HG, ⟨Kd.R_nil _ _ _ _ _⟩, ⟨Below.refl _ _⟩⟩
  case round =>
    clear HG
    obtain ⟨i, acc, hi, rfl, HA, HO, HB⟩ := hrel
    by_cases hlt : i < l0.length
    · obtain ⟨ad, rfl, hcx⟩ := Kd.at_string HR.out (i : Int) (by omega) (by omega)
      rw [Int.toNat_natCast] at hcx
      have hH := HA.out
      obtain ⟨s, hs⟩ : ∃ s : ByteArray, s = rdOf ByteArray.empty l0 (i : Int) := ⟨_, rfl⟩
      have hdr : l0.drop i = s :: l0.drop (i + 1) := by
        rw [List.drop_eq_getElem_cons hlt, hs]
        simp [rdOf, List.getD_eq_getElem?_getD, List.getElem?_eq_getElem hlt]
      rw [hdr] at hH
      simp only [frontcode_Encode.g] at hH
      rw [← hs] at hcx
      replace hH := Option.bind_eq_some_iff.mp hH
      obtain ⟨c, hC, hH⟩ := hH
      by_cases b1 : 0 ≤ c ∧ c ≤ (s.size : Int) ∧ s.size ≤ 1000000000 ∧ acc.length ≤ 1000000000000
      case neg => rw [if_neg b1] at hH; cases hH
      rw [if_pos b1] at hH
      obtain ⟨b1, b2, b3, b4⟩ := b1
      obtain ⟨cc, rfl⟩ := Int.eq_ofNat_of_zero_le b1
      replace hH := Option.bind_eq_some_iff.mp hH
      obtain ⟨e1, hE1, hH⟩ := hH
      replace hH := Option.bind_eq_some_iff.mp hH
      obtain ⟨e2, hE2, hH⟩ := hH
      by_cases b5 : e1.length ≤ 100 ∧ e2.length ≤ 100
      case neg => rw [if_neg b5] at hH; cases hH
      rw [if_pos b5] at hH
      rw [Int.toNat_natCast] at hH
      obtain ⟨dd, hd⟩ : ∃ dd : Nat, dd = s.size - cc := ⟨_, rfl⟩
      have ed : (s.size : Int) - (cc : Int) = (dd : Int) := by omega
      rw [ed] at hE2
      obtain ⟨y, hy⟩ : ∃ y : ByteArray, y = s.extract cc s.size := ⟨_, rfl⟩
      have hyb : bytesOf y = (bytesOf s).drop cc := by rw [hy, bytesOf_drop]
      have hys : y.size ≤ 1000000000 := by rw [hy, ByteArray.size_extract]; omega
      rw [← hyb] at hH
      have ew1 : IntKind.u64.wrap (cc : Int) = (cc : Int) := wraps_u64 _ (by omega) (by omega)
      have ew2 : IntKind.u64.wrap (dd : Int) = (dd : Int) := wraps_u64 _ (by omega) (by omega)
      have ew3 : IntKind.i64.wrap (dd : Int) = (dd : Int) := IntWalk.i64_in _ (by omega)
      have ew4 : IntKind.i64.wrap ((i : Int) + 1) = (i : Int) + 1 := IntWalk.i64_in _ (by omega)
      have hcle : cc ≤ s.size := by omega
      have hex : s.extract cc s.size = y := hy.symm
      have HC1 := Aside0.mk hC
      have HE1 := Aside0.mk hE1
      have HE2 := Aside0.mk hE2
      have HH := Aside0.mk hH
      have HBD := Aside0.mk (And.intro b4 (And.intro b5.1 (And.intro b5.2 hys)))
      have HX := Aside0.mk (And.intro hcx (And.intro hd (And.intro hs hdr)))
      have hcx' := pw_cell_below HB.out hcx
      have hlt' : (i : Int) < (l0.length : Int) := by omega
      clear hC hE1 hE2 hH b1 b2 b3 b4 b5 hd hs hdr hcx HA hy hyb hys hmx
      go_wp2_with (first | (go_at_call 52; with_reducible refine (frontcode_shared.calls _ _ _ l0 _ _ _ (Kd.C_below HR.out HB.out) hc0 HC1.out).mono ?_; rintro e w' ⟨rfl, ⟨nd, rfl⟩⟩) | (go_at_call 53; with_reducible refine (varint_Encode.calls _ _ e1 _ HE1.out).mono ?_; rintro e w9 ⟨v9, rfl, ho0, hb0⟩; have HP1 := Aside0.mk (Kd.R_elder' (Kd.R_drewN HO.out _) (Kd.R_base ho0) hb0); have HT1 := Aside0.mk (Kd.R_lower ho0 (below_size (fe_below_drewN HB.out _))); have HQ1 := Aside0.mk (below_step (fe_below_drewN HB.out _) hb0); obtain ⟨Ao1, co1, eo⟩ := Kd.R_slice HT1.out; subst eo; clear ho0 hb0) | ((with_reducible refine gate_builtin (b := .append) (xs := #[.tmp 17, .tmp 20]) rfl ?_); at_builtin; refine Kd.R_append_rows (Kd.int .u8) (w0 := w) w.heap.size rfl (.tmp 17) (.tmp 20) 51 5 (.int .u8 0) 1 rfl Try.underlying51 info5 rfl (by decide) (by omega) u3 acc e1 _ _ _ (fun _ => True) (fun _ => False) rfl rfl ?aO ?aR (fun _ _ h => h) (fun _ h => h.elim) ?aF ?aB ?aS ?aL ?_; (case aR => exact (Kd.R_reads' HT1.out).2.2); (case aB => exact HQ1.out); (case aF => exact (fun _ _ => trivial)); (case aO => exact Kd.R_mono HP1.out (fun _ _ => trivial)); (case aS => exact below_size HQ1.out); (case aL => have := HBD.out; (try simp only [List.length_append]); omega); intro x1 z1 ho hb hg hat; have HW1 := Aside0.mk ho; have HV1 := Aside0.mk hb; clear ho hb hg hat) | (go_at_call 53; with_reducible refine (varint_Encode.calls _ _ e2 _ HE2.out).mono ?_; rintro e w9 ⟨v9, rfl, ho0, hb0⟩; have HP2 := Aside0.mk (Kd.R_elder' HW1.out (Kd.R_base ho0) hb0); have HT2 := Aside0.mk (Kd.R_lower ho0 (below_size HV1.out)); have HQ2 := Aside0.mk (below_step HV1.out hb0); obtain ⟨Ao2, co2, eo⟩ := Kd.R_slice HT2.out; subst eo; clear ho0 hb0) | ((with_reducible refine gate_builtin (b := .append) (xs := #[.tmp 22, .tmp 28]) rfl ?_); at_builtin; refine Kd.R_append_rows (Kd.int .u8) (w0 := w) w.heap.size rfl (.tmp 22) (.tmp 28) 51 5 (.int .u8 0) 1 rfl Try.underlying51 info5 rfl (by decide) (by omega) x1 (acc ++ e1) e2 _ _ _ (fun _ => True) (fun _ => False) rfl rfl ?aO ?aR (fun _ _ h => h) (fun _ h => h.elim) ?aF ?aB ?aS ?aL ?_; (case aR => exact (Kd.R_reads' HT2.out).2.2); (case aB => exact HQ2.out); (case aF => exact (fun _ _ => trivial)); (case aO => exact Kd.R_mono HP2.out (fun _ _ => trivial)); (case aS => exact below_size HQ2.out); (case aL => have := HBD.out; (try simp only [List.length_append]); omega); intro x2 z2 ho hb hg hat; have HW2 := Aside0.mk ho; have HV2 := Aside0.mk hb; clear ho hb hg hat) | ((with_reducible refine gate_builtin (b := .append) (xs := #[.tmp 30, .tmp 33]) rfl ?_); at_builtin; refine print_append_str (w0 := w) w.heap.size rfl (.tmp 30) (.tmp 33) 51 9 5 rfl Try.underlying51 Try.underlying9 info5 x2 (acc ++ e1 ++ e2) y rfl rfl (fe_own HW2.out) HV2.out (below_size HV2.out) (by have := HBD.out; (try simp only [List.length_append]); omega) ?_; intro x3 z3 ho hb hg; have HW3 := Aside0.mk (fe_R ho); have HV3 := Aside0.mk hb; clear ho hb hg))
      refine ⟨⟨i + 1, acc ++ e1 ++ e2 ++ bytesOf y, by omega, by go_num, HH, HW3, HV3⟩, by simp [intOf]; omega⟩
    · have hil : i = l0.length := by omega
      subst hil
      have hA := HA.out
      rw [List.drop_length] at hA
      simp only [frontcode_Encode.g] at hA
      obtain rfl := Option.some.inj hA
      clear hA HA
      go_wp2
      go_ret
      exact ⟨_, rfl, HO.out, HB.out⟩

/-! ### frontcode_Size: function 38 -/
def frontcode_Size.l0 : Nat → List ByteArray → Int → List ByteArray → Int → Int → Option (Int)
 | 0, _, _, _, _, _ => none
 | k + 1, x0, x3, x7, x8, x9 => if x9 < x8 then (if 0 ≤ x9 then (if x9 < (x7.length : Int) then ((frontcode_shared.f k x0 x9).bind fun t120 => ((varint_Encode.f k (IntKind.u64.wrap (t120))).bind fun t121 => ((varint_Encode.f k (IntKind.u64.wrap (wrap64 (((rdOf ByteArray.empty x7 x9).size : Int) - t120)))).bind fun t124 => (frontcode_Size.l0 k x0 (wrap64 (x3 + (wrap64 ((wrap64 ((wrap64 ((t121.length : Int) + (t124.length : Int))) + ((rdOf ByteArray.empty x7 x9).size : Int))) - t120)))) x7 x8 (wrap64 (x9 + 1)))))) else (none)) else (none)) else (some x3)
def frontcode_Size.f (k : Nat) (l0 : List ByteArray) : Option (Int) := frontcode_Size.l0 k l0 0 l0 (l0.length : Int) 0
theorem frontcode_Size.mono_l : ∀ k, (∀ y0 y1 y2 y3 y4, LeO (frontcode_Size.l0 k y0 y1 y2 y3 y4) (frontcode_Size.l0 (k + 1) y0 y1 y2 y3 y4))
 | 0 => fun _ _ _ _ _ r h => by simp [frontcode_Size.l0] at h
 | k + 1 => by
  have ih0 := frontcode_Size.mono_l k
  ·intro y0 y1 y2 y3 y4
   unfold frontcode_Size.l0
   repeat' first
   | (with_reducible exact ih0 _ _ _ _ _)
   | (with_reducible exact frontcode_shared.mono _ _ _)
   | (with_reducible exact varint_Encode.mono _ _)
   | (with_reducible exact LeO.refl _)
   | (with_reducible exact LeO.none _)
   | (with_reducible refine LeO.ite ?_ ?_)
   | (with_reducible refine LeO.bind ?_ (fun _ => ?_))
   | exact ih0 _ _ _ _ _
   | exact frontcode_shared.mono _ _ _
   | exact varint_Encode.mono _ _
   | exact LeO.none _
   | refine LeO.ite ?_ ?_
   | refine LeO.bind ?_ (fun _ => ?_)
theorem frontcode_Size.mono : ∀ a0 k, LeO (frontcode_Size.f k a0) (frontcode_Size.f (k + 1) a0) := by
 intro a0 k
 have ih0 := frontcode_Size.mono_l k
 unfold frontcode_Size.f
 repeat' first
   | (with_reducible exact ih0 _ _ _ _ _)
   | (with_reducible exact frontcode_shared.mono _ _ _)
   | (with_reducible exact varint_Encode.mono _ _)
   | (with_reducible exact LeO.refl _)
   | (with_reducible exact LeO.none _)
   | (with_reducible refine LeO.ite ?_ ?_)
   | (with_reducible refine LeO.bind ?_ (fun _ => ?_))
   | exact ih0 _ _ _ _ _
   | exact frontcode_shared.mono _ _ _
   | exact varint_Encode.mono _ _
   | exact LeO.none _
   | refine LeO.ite ?_ ?_
   | refine LeO.bind ?_ (fun _ => ?_)
set_option maxHeartbeats 8000000 in
set_option maxRecDepth 100000 in
theorem frontcode_Size.calls (k : Nat) (A0 : Option Addr) (c0 : Nat) (l0 : List ByteArray) (r : Int) (w : World) (hr0 : Kd.C Kd.string w A0 l0.length l0) (hc0 : l0.length ≤ c0) (h : frontcode_Size.f k l0 = some r) :
  Calls Try.prog 38 #[.slice A0 l0.length c0] w fun e w' => e = .returned (.int .i64 r) ∧ Below w.heap.size w w' := by
 have HR0 := Aside0.mk hr0
 have HC0 := Aside0.mk hc0
 clear hr0 hc0
 have HB := Aside0.mk (Below.refl w.heap.size w)
 have H : (frontcode_Size.l0 k l0 0 l0 (l0.length : Int) 0) = some r := h
 clear h
 have H' := Aside0.mk H
 clear H
 go_enter Try.func38, Try.ntmps38
 go_wp2
 go_loopg [3, 9] k (fun kq v3 v9 w' => ∃ (x3_1 : Int) (x9_1 : Int), v3 = .int .i64 x3_1 ∧ v9 = .int .i64 x9_1 ∧ Aside0 (frontcode_Size.l0 kq l0 x3_1 l0 (l0.length : Int) x9_1 = some r) ∧ Aside0 (kq ≤ k) ∧ Aside0 (Below w.heap.size w w'))
 case atStart => exact ⟨(0), (0), (by first | rfl | (simp; done) | (simp [*]; done)), (by first | rfl | (simp; done) | (simp [*]; done)), H', ⟨Nat.le_refl _⟩, ⟨by repeat (first | (with_reducible first | exact HB.out | apply below_alloc | apply pw_below_drewN | apply below_drew1) | exact HB.out)⟩⟩
 case round =>
  clear H'
  obtain ⟨x3_1, x9_1, rfl, rfl, HA, HK1, HB⟩ := hrel
  cases gk with
  | zero => exact absurd HA.out (by simp [frontcode_Size.l0])
  | succ k1 =>
   have H := HA.out
   clear HA
   simp only [frontcode_Size.l0] at H
   by_cases c2 : x9_1 < (l0.length : Int)
   ·rw [if_pos c2] at H
    have c2b0 : decide (x9_1 < (l0.length : Int)) = true := decide_eq_true c2
    clear c2
    by_cases c3 : 0 ≤ x9_1
    ·rw [if_pos c3] at H
     have c3b0 : decide (0 ≤ x9_1) = true := decide_eq_true c3
     clear c3
     by_cases c4 : x9_1 < (l0.length : Int)
     ·rw [if_pos c4] at H
      have c4b0 : decide (x9_1 < (l0.length : Int)) = true := decide_eq_true c4
      clear c4
      replace H := Option.bind_eq_some_iff.mp H
      obtain ⟨t120, A50, H⟩ := H
      replace H : ((varint_Encode.f k1 (IntKind.u64.wrap (t120))).bind fun t121 => ((varint_Encode.f k1 (IntKind.u64.wrap (wrap64 (((rdOf ByteArray.empty l0 x9_1).size : Int) - t120)))).bind fun t124 => (frontcode_Size.l0 k1 l0 (wrap64 (x3_1 + (wrap64 ((wrap64 ((wrap64 ((t121.length : Int) + (t124.length : Int))) + ((rdOf ByteArray.empty l0 x9_1).size : Int))) - t120)))) l0 (l0.length : Int) (wrap64 (x9_1 + 1))))) = some r := H
      have A5 := Aside0.mk A50
      clear A50
      replace H := Option.bind_eq_some_iff.mp H
      obtain ⟨t121, A60, H⟩ := H
      replace H : ((varint_Encode.f k1 (IntKind.u64.wrap (wrap64 (((rdOf ByteArray.empty l0 x9_1).size : Int) - t120)))).bind fun t124 => (frontcode_Size.l0 k1 l0 (wrap64 (x3_1 + (wrap64 ((wrap64 ((wrap64 ((t121.length : Int) + (t124.length : Int))) + ((rdOf ByteArray.empty l0 x9_1).size : Int))) - t120)))) l0 (l0.length : Int) (wrap64 (x9_1 + 1)))) = some r := H
      have A6 := Aside0.mk A60
      clear A60
      replace H := Option.bind_eq_some_iff.mp H
      obtain ⟨t124, A70, H⟩ := H
      replace H : (frontcode_Size.l0 k1 l0 (wrap64 (x3_1 + (wrap64 ((wrap64 ((wrap64 ((t121.length : Int) + (t124.length : Int))) + ((rdOf ByteArray.empty l0 x9_1).size : Int))) - t120)))) l0 (l0.length : Int) (wrap64 (x9_1 + 1))) = some r := H
      have A7 := Aside0.mk A70
      clear A70
      have H' := Aside0.mk H
      clear H
      have p119 : 0 ≤ (x9_1 : Int) := of_decide_eq_true (by first | (with_reducible assumption) | assumption)
      have q119 : x9_1 < (l0.length : Int) := of_decide_eq_true (by first | (with_reducible assumption) | assumption)
      obtain ⟨ad119, e119, hx119_0⟩ := Kd.at_string HR0.out x9_1 p119 q119
      cases e119
      replace hx119_0 := (HB.out.cell (World.block_lt_of_cell? w _ hx119_0)).trans hx119_0
      replace p119 := eq_true p119
      replace q119 := eq_true q119
      go_wp2_with (first | ((with_reducible refine gate_callee (f := 52) rfl ?_); refine goesL_ (some 16) rfl rfl Try.func52 (by kernel_rfl) rfl #[.slice (some ad119) l0.length c0, .int .i64 x9_1] rfl (by (try simp only [List.map_toArray, List.map_cons, List.map_nil]); first | done | rfl | (simp only [List.length_drop, List.length_take]; rfl)) ?_; (with_reducible refine (frontcode_shared.calls k1 _ _ l0 x9_1 t120 _ ?side1 ?side2 A5.out).mono ?_); (case side1 => repeat (first | exact (Kd.C_below HR0.out HB.out) | (with_reducible refine Kd.C_alloc ?_ _) | (with_reducible refine Kd.C_drewN ?_ _) | (with_reducible refine Kd.C_drew ?_))); (case side2 => exact HC0.out); rintro e w' ⟨rfl, ⟨nd, rfl⟩⟩; refine ⟨_, rfl, ?_⟩) | ((with_reducible refine gate_callee (f := 53) rfl ?_); refine goesL_ (some 20) rfl rfl Try.func53 (by kernel_rfl) rfl #[.int .u64 (IntKind.u64.wrap (t120))] rfl (by (try simp only [List.map_toArray, List.map_cons, List.map_nil]); first | done | rfl | (simp only [List.length_drop, List.length_take]; rfl)) ?_; (with_reducible refine (varint_Encode.calls k1 (IntKind.u64.wrap (t120)) t121 _ A6.out).mono ?_); rintro e w8 ⟨v122, rfl, ho0, hb⟩; refine ⟨_, rfl, ?_⟩; have n0_ := Aside0.mk (Kd.R_lower ho0 (below_size (by repeat (first | (with_reducible first | exact HB.out | apply below_alloc | apply pw_below_drewN | apply below_drew1) | exact HB.out)))); have n1_ := Aside0.mk (below_step (by repeat (first | (with_reducible first | exact HB.out | apply below_alloc | apply pw_below_drewN | apply below_drew1) | exact HB.out)) hb); clear HB; have HO123 := n0_; have HB := n1_; clear n0_ n1_; (try clear hb); (try clear hb2); (try clear hk); (try clear hi); (try clear ho0); obtain ⟨Ao9, co9, eo9⟩ := Kd.R_slice HO123.out; subst eo9) | ((with_reducible refine gate_callee (f := 53) rfl ?_); refine goesL_ (some 27) rfl rfl Try.func53 (by kernel_rfl) rfl #[.int .u64 (IntKind.u64.wrap (wrap64 (((rdOf ByteArray.empty l0 x9_1).size : Int) - t120)))] rfl (by (try simp only [List.map_toArray, List.map_cons, List.map_nil]); first | done | rfl | (simp only [List.length_drop, List.length_take]; rfl)) ?_; (with_reducible refine (varint_Encode.calls k1 (IntKind.u64.wrap (wrap64 (((rdOf ByteArray.empty l0 x9_1).size : Int) - t120))) t124 _ A7.out).mono ?_); rintro e w10 ⟨v125, rfl, ho0, hb⟩; refine ⟨_, rfl, ?_⟩; have n0_ := Aside0.mk (Kd.R_elder' (by (with_reducible repeat (first | apply Kd.R_alloc | apply Kd.R_drewN | apply Kd.R_drew)); exact HO123.out) (Kd.R_base ho0) hb); have n1_ := Aside0.mk (Kd.R_lower (Kd.R_new' ho0 (Kd.R_lt (by (with_reducible repeat (first | apply Kd.R_alloc | apply Kd.R_drewN | apply Kd.R_drew)); exact HO123.out))) (below_size (by repeat (first | (with_reducible first | exact HB.out | apply below_alloc | apply pw_below_drewN | apply below_drew1) | exact HB.out)))); have n2_ := Aside0.mk (below_step (by repeat (first | (with_reducible first | exact HB.out | apply below_alloc | apply pw_below_drewN | apply below_drew1) | exact HB.out)) hb); clear HO123; clear HB; have HO123 := n0_; have HO126 := n1_; have HB := n2_; clear n0_ n1_ n2_; (try clear hb); (try clear hb2); (try clear hk); (try clear hi); (try clear ho0); obtain ⟨Ao11, co11, eo11⟩ := Kd.R_slice HO126.out; subst eo11))
      go_roundg k1
      case measure => have := HK1.out; omega
      case rel => exact ⟨(wrap64 (x3_1 + (wrap64 ((wrap64 ((wrap64 ((t121.length : Int) + (t124.length : Int))) + ((rdOf ByteArray.empty l0 x9_1).size : Int))) - t120)))), (wrap64 (x9_1 + 1)), (by first | rfl | (simp; done) | (simp [*]; done)), (by first | rfl | (simp; done) | (simp [*]; done)), H', ⟨by have := HK1.out; omega⟩, ⟨by repeat (first | (with_reducible first | exact HB.out | apply below_alloc | apply pw_below_drewN | apply below_drew1) | exact HB.out)⟩⟩
     ·rw [if_neg c4] at H
      exact absurd H (by simp)
    ·rw [if_neg c3] at H
     exact absurd H (by simp)
   ·rw [if_neg c2] at H
    have c2b0 : decide (x9_1 < (l0.length : Int)) = false := decide_eq_false c2
    clear c2
    obtain rfl := Option.some.inj H
    go_wp2
    go_ret
    exact ⟨by first | rfl | (simp [errW_none, errW_some] <;> rfl) | (simp [*, errW_none, errW_some] <;> rfl), by repeat (first | (with_reducible first | exact HB.out | apply below_alloc | apply pw_below_drewN | apply below_drew1) | exact HB.out)⟩

/-! ### laminalaw11_awake: function 33 -/
def laminalaw11_awake.f : Option Bool := some true
theorem aw_freeze_below {B : Nat} {a w : World} (h : Below B a w) {p : Addr} (hp : B ≤ p.block) (n : Nat) : Below B a (w.freeze p n) := by
  refine h.trans ?_
  unfold World.freeze
  split
  · exact Below.refl _ _
  · refine ⟨rfl, rfl, rfl, by simp, fun i hi => ?_⟩
    have : ¬ p.block = i := by omega
    simp [Array.getElem?_modify, this]
theorem aw_freeze_cell (w : World) (p a : Addr) (n : Nat) : (w.freeze p n).cell? a = w.cell? a := by
  unfold World.freeze
  split
  · rfl
  · unfold World.cell?
    by_cases h : p.block = a.block
    · cases ho : w.heap[a.block]? with
      | none => simp [Array.getElem?_modify, h, ho]
      | some o => cases o <;> simp [Array.getElem?_modify, h, ho]
    · simp [Array.getElem?_modify, h]
theorem lit_mark {P : Program} {t e base : Nat} {ok : Nat → Prop} {v : Value} {xs : List Int} {W : World} (ht : P.underlying t = some (.slice e)) (he : P.underlying e = some (.int .u8)) (h : Kd.R (Kd.int .u8) e W base ok v xs) (hp : 0 < xs.length) :
    ∃ (A : Option Addr) (c : Nat) (W' : World), v = .slice A xs.length c ∧ xs.length ≤ c ∧ (convert t t v).run P W = .ok v W' ∧ Kd.C (Kd.int .u8) W' A xs.length xs ∧ Below base W W' := by
  obtain ⟨g, cap, rfl, hb, hlt, cells, hc⟩ := Kd.R_form h hp
  obtain ⟨_, hcap, hC⟩ := Kd.R_reads' h
  have hsh : W.shape? g = some (e, cells.size) := by unfold World.shape?; rw [hc]
  refine ⟨_, _, W.freeze ⟨g, cells.size, none⟩ 1, rfl, hcap, ?_, ?_, aw_freeze_below (Below.refl _ _) hb _⟩
  · simp [convert, run_underlying ht, run_underlying he, markStringish, hsh]
  · have h2 := Kd.reads_of_C (enc := Value.int .u8) (d := (0 : Int)) (h1 := fun _ => rfl) hC
    refine Kd.C_of_reads (enc := Value.int .u8) (d := (0 : Int)) (h1 := fun _ => rfl) ⟨h2.1, h2.2.1, fun hn => ?_⟩
    obtain ⟨ad, e1, e2⟩ := h2.2.2 hn
    exact ⟨ad, e1, fun j hj => by rw [aw_freeze_cell]; exact e2 j hj⟩
set_option maxHeartbeats 1000000 in
set_option maxRecDepth 100000 in
theorem laminalaw11_awake.calls (r : Bool) (w : World) (h : laminalaw11_awake.f = some r) :
    Calls Try.prog 33 #[] w fun e w' => e = .returned (.bool r) ∧ Below w.heap.size w w' := by
  obtain rfl := Option.some.inj h
  clear h
  obtain ⟨y1, hy1⟩ : ∃ y : List Int, y = [0, 1, 97, 0, 1, 97] := ⟨_, rfl⟩
  obtain ⟨y2, hy2⟩ : ∃ y : List ByteArray, y = [⟨#[97, 98, 99]⟩, ⟨#[97, 98, 100]⟩] := ⟨_, rfl⟩
  obtain ⟨y3, hy3⟩ : ∃ y : List Int, y = [0, 3, 97, 98, 99, 2, 1, 100] := ⟨_, rfl⟩
  have D1 := Aside0.mk (show frontcode_Decode.f 200 y1 0 2 = some ([], 0, 4) by rw [hy1]; decide +kernel)
  have D2 := Aside0.mk (show frontcode_Encode.f 200 y2 = some y3 by rw [hy2, hy3]; decide +kernel)
  have D3 := Aside0.mk (show frontcode_Size.f 200 [] = some 0 by decide +kernel)
  have D4 := Aside0.mk (show frontcode_CommonPrefix.f 200 ⟨#[97, 98, 99]⟩ ⟨#[97, 98, 100]⟩ = some 2 by decide +kernel)
  have D5 : ((strOfNums y3) == (⟨#[0, 3, 97, 98, 99, 2, 1, 100]⟩ : ByteArray)) = true := by rw [hy3]; decide +kernel
  have D6 : ((strOfNums y3).toList == ([0, 3, 97, 98, 99, 2, 1, 100] : List UInt8)) = true := by rw [hy3]; decide +kernel
  have L1 := Aside0.mk (show y1.length = 6 by rw [hy1]; rfl)
  have HY1 := Aside0.mk hy1
  have HY2 := Aside0.mk hy2
  clear hy1 hy2 hy3
  go_enter Try.func33, Try.ntmps33
  go_wp2_with (first
    | ((with_reducible refine gate_dst (N := 5) rfl ?_); refine Kd.R_lit (Kd.int .u8) _ 5 ?hg (N := 5) ?hd (xs := ([0, 1, 97, 0, 1, 97] : List Int)) (inner := [.int .u8 0, .int .u8 1, .int .u8 97, .int .u8 0, .int .u8 1, .int .u8 97]) (ok := fun _ => True) (okp := fun _ => True) ?hr ?hp (fun _ hk => hk) trivial (Below.refl _ _) (Nat.le_refl _) (by simp) ?_; (case hd => rfl); (case hg => (first | rfl | (simp only [*]; rfl) | (simp [*]; done))); (case hr => first | (go_simp; done) | (go_simp; rfl)); (case hp => exact (Reps.one (show Kd.M (Kd.int .u8) _ _ _ 0 [.int .u8 0] from rfl) (Reps.one (show Kd.M (Kd.int .u8) _ _ _ 1 [.int .u8 1] from rfl) (Reps.one (show Kd.M (Kd.int .u8) _ _ _ 97 [.int .u8 97] from rfl) (Reps.one (show Kd.M (Kd.int .u8) _ _ _ 0 [.int .u8 0] from rfl) (Reps.one (show Kd.M (Kd.int .u8) _ _ _ 1 [.int .u8 1] from rfl) (Reps.one (show Kd.M (Kd.int .u8) _ _ _ 97 [.int .u8 97] from rfl) (Reps.none _ _)))))))); intro v1 w1 ho hb1 hg_ hnew_; rw [← HY1.out] at ho; obtain ⟨A1, c1, w2, hv1, hc1, hcv, hC, hb2⟩ := lit_mark Try.underlying51 Try.underlying5 ho (by rw [L1.out]; omega); subst hv1; have HC := Aside0.mk hC; have HB := Aside0.mk (hb1.trans hb2); clear ho hb1 hb2 hC hg_ hnew_)
    | (go_at_call 40; with_reducible refine (frontcode_Decode.calls 200 _ _ y1 0 2 [] 0 4 _ HC.out hc1 D1.out).mono ?_; rintro e w3 ⟨v2, rfl, ho, hb⟩; have HB3 := Aside0.mk (below_step HB.out hb); clear ho hb)
    | ((with_reducible refine gate_dst (N := 11) rfl ?_); refine Kd.R_lit Kd.string _ 9 ?hg (N := 11) ?hd (xs := ([(⟨#[97, 98, 99]⟩ : ByteArray), (⟨#[97, 98, 100]⟩ : ByteArray)] : List ByteArray)) (inner := [.string (⟨#[97, 98, 99]⟩ : ByteArray), .string (⟨#[97, 98, 100]⟩ : ByteArray)]) (ok := fun _ => True) (okp := fun _ => True) ?hr ?hp (fun _ hk => hk) trivial (Below.refl _ _) (Nat.le_refl _) (by simp) ?_; (case hd => rfl); (case hg => (first | rfl | (simp only [*]; rfl) | (simp [*]; done))); (case hr => first | (go_simp; done) | (go_simp; rfl)); (case hp => exact (Reps.one (show Kd.M Kd.string _ _ _ (⟨#[97, 98, 99]⟩ : ByteArray) [.string (⟨#[97, 98, 99]⟩ : ByteArray)] from rfl) (Reps.one (show Kd.M Kd.string _ _ _ (⟨#[97, 98, 100]⟩ : ByteArray) [.string (⟨#[97, 98, 100]⟩ : ByteArray)] from rfl) (Reps.none _ _)))); intro v3 w4 ho hb1 hg_ hnew_; rw [← HY2.out] at ho; have HB4 := Aside0.mk (below_step HB3.out hb1); have HO := Aside0.mk ho; obtain ⟨A3, c3, e3⟩ := Kd.R_slice HO.out; subst e3; clear ho hb1 hg_ hnew_)
    | (go_at_call 36; with_reducible refine (frontcode_Encode.calls 200 _ _ y2 y3 _ ?side1 ?side2 D2.out).mono ?_; (case side1 => exact (Kd.R_reads' HO.out).2.2); (case side2 => exact (Kd.R_reads' HO.out).2.1); rintro e w5 ⟨v4, rfl, ho, hb⟩; have HB5 := Aside0.mk (below_step HB4.out hb); have hcv16 := own_string (P := Try.prog) Try.underlying51 Try.underlying5 Try.underlying9 (fe_own ho); clear ho hb)
    | (go_at_call 38; refine (frontcode_Size.calls 200 _ _ ([] : List ByteArray) 0 _ (Kd.C_nil _ _) (Nat.le_refl _) D3.out).mono ?_; rintro e w6 ⟨rfl, hb⟩; have HB6 := Aside0.mk (below_step HB5.out hb); clear hb)
    | (go_at_call 34; with_reducible refine (frontcode_CommonPrefix.calls 200 _ _ _ _ D4.out).mono ?_; rintro e w' ⟨rfl, ⟨nd, rfl⟩⟩))
  go_ret
  exact ⟨rfl, pw_below_drewN' HB6.out _⟩

end Go.Proofs.Yteamkjphdiajeaa.QFrontcodeCanonical
