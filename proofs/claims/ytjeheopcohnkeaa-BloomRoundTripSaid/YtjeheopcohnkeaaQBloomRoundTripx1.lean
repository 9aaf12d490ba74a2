-- Written by a program of this session (wip/pr2.sh): the walk of the Go text, function by function.
import Derived.Test.YtjeheopcohnkeaaQBloomRoundTripx0
namespace Go.Proofs.Ytjeheopcohnkeaa.QBloomRoundTrip
open Go.RowKit Go.Proofs.YtjeheopcohnkeaaW.PrintWords Go.Proofs.YtjeheopcohnkeaaW.PrintLast Go.Proofs.YtjeheopcohnkeaaW.PrintMore
open Go.Proofs.YtjeheopcohnkeaaM
attribute [local go_sem] max2_int min2_int max_two min_two max_three min_three max_four min_four   -- for this text's walks alone
set_option linter.unusedVariables false
set_option linter.unusedSimpArgs false

/-! ### checksum_Mix: function 57 -/
def checksum_Mix.f (a0 : Int) : Option (Int) := some (Go.bits .xor .u64 (IntKind.u64.wrap ((Go.bits .xor .u64 (IntKind.u64.wrap ((Go.bits .xor .u64 a0 (a0 / 1073741824)) * 13787848793156543929)) ((IntKind.u64.wrap ((Go.bits .xor .u64 a0 (a0 / 1073741824)) * 13787848793156543929)) / 134217728)) * 10723151780598845931)) ((IntKind.u64.wrap ((Go.bits .xor .u64 (IntKind.u64.wrap ((Go.bits .xor .u64 a0 (a0 / 1073741824)) * 13787848793156543929)) ((IntKind.u64.wrap ((Go.bits .xor .u64 a0 (a0 / 1073741824)) * 13787848793156543929)) / 134217728)) * 10723151780598845931)) / 2147483648))
set_option maxHeartbeats 8000000 in
set_option maxRecDepth 100000 in
theorem checksum_Mix.calls (a0 : Int) (r : Int) (w : World) (h : checksum_Mix.f a0 = some r) :
  Calls Try.prog 57 #[.int .u64 a0] w fun e w' => e = .returned (.int .u64 r) ∧ Drawn0 w w' := by
 have H : (some (Go.bits .xor .u64 (IntKind.u64.wrap ((Go.bits .xor .u64 (IntKind.u64.wrap ((Go.bits .xor .u64 a0 (a0 / 1073741824)) * 13787848793156543929)) ((IntKind.u64.wrap ((Go.bits .xor .u64 a0 (a0 / 1073741824)) * 13787848793156543929)) / 134217728)) * 10723151780598845931)) ((IntKind.u64.wrap ((Go.bits .xor .u64 (IntKind.u64.wrap ((Go.bits .xor .u64 a0 (a0 / 1073741824)) * 13787848793156543929)) ((IntKind.u64.wrap ((Go.bits .xor .u64 a0 (a0 / 1073741824)) * 13787848793156543929)) / 134217728)) * 10723151780598845931)) / 2147483648))) = some r := h
 clear h
 obtain rfl := Option.some.inj H
 go_enter Try.func57, Try.ntmps57
 go_wp2
 go_ret
 exact ⟨by first | rfl | (simp; done) | (simp [*]; done), by repeat (first | exact Drawn0.refl _ | apply Drawn0.step)⟩

/-! ### checksum_Hash: function 58 -/
def mixI (x : Int) : Int := (checksum_Mix.f x).getD 0
theorem mix_some (x : Int) : checksum_Mix.f x = some (mixI x) := rfl
/-- n groups of eight bytes. -/
def hashI : Nat → Int → List Int → Int
  | 0, h, _ => h
  | n + 1, h, b => hashI n (mixI (bits .xor .u64 h ((le (b.take 8) : Nat) : Int))) (b.drop 8)
def checksum_Hash.f (a0 : Int) (l1 : List Int) : Option Int := if (l1.all fun x => decide (0 ≤ x) && decide (x < 256)) = true ∧ l1.length ≤ 1000000000 then some (hashI ((l1.length + 7) / 8) (mixI (bits .xor .u64 a0 (l1.length : Int))) l1) else none
/-- Eight bytes: the list's, then zeros. -/
def grp (b : List Int) : List Int := b.take 8 ++ List.replicate (8 - b.length) 0
theorem grp_len (b : List Int) : (grp b).length = 8 := by simp [grp]; omega
theorem le_grp (b : List Int) : le (grp b) = le (b.take 8) := by
  unfold grp; rw [le_append, le_zeros]; simp
theorem grp_range {b : List Int} (h : ∀ x ∈ b, 0 ≤ x ∧ x < 256) : ∀ x ∈ grp b, 0 ≤ x ∧ x < 256 := by
  intro x hx
  rcases List.mem_append.1 hx with h1 | h1
  · exact h x (List.mem_of_mem_take h1)
  · have := List.eq_of_mem_replicate h1; omega
theorem le_take_succ (G : List Int) (j : Nat) (h : j < G.length) : le (G.take (j + 1)) = le (G.take j) + (G.getD j 0).toNat * 2 ^ (8 * j) := by
  rw [List.take_succ_eq_append_getElem h, le_append, List.length_take, Nat.min_eq_left (by omega), pow256]
  simp only [le, List.getD_eq_getElem?_getD, List.getElem?_eq_getElem h, Option.getD_some, Nat.mul_zero, Nat.add_zero]
  rw [Nat.mul_comm]
/-- The copy into an array of eight bytes. -/
theorem copy_arr {P : Program} {dT sT ty e g n sCap dCap : Nat} {A0 : Option Addr} {c : Nat} (W : World) (l0 : List Int) (at_ : Nat) (hu : P.underlying dT = some (.slice e)) (hs : (P.info? e).map (·.size) = some 1)
    (h : W.heap[g]? = some (.cells (Array.replicate 8 (.int .u8 0)) c (0, 0))) (hC : Kd.C (Kd.int .u8) W A0 l0.length l0) (hn : n = min 8 (l0.length - at_)) (h1 : 1 ≤ n) :
    ∃ w3, (Builtin.copy_ #[dT, sT] ty #[.slice (some ⟨g, 0, none⟩) 8 dCap, .slice (A0.map fun x => x.add at_) n sCap]).run P W = .ok (.int .i64 (n : Int)) w3 ∧ w3.heap[g]? = some (.cells (((grp (l0.drop at_)).map (Value.int .u8)).toArray) c (0, 0)) ∧ (∀ B, B ≤ g → Below B W w3) := by
  obtain ⟨ad, rfl, _⟩ := Kd.at_int hC 0 (by omega) (by omega)
  have hl : ((l0.drop at_).take 8).length = n := by rw [List.length_take, List.length_drop]; omega
  have hlm : (((l0.drop at_).take 8).map (Value.int .u8)).length = n := by rw [List.length_map, hl]
  have hr := run_copy_cells (P := P) W dT sT ty e g 0 8 dCap (ad.add at_) n sCap (((l0.drop at_).take 8).map (Value.int .u8)) hu hs (by rw [hlm]; exact (Nat.min_eq_left (by omega)).symm) ?_ ?_ ?_ (by intro v hv; obtain ⟨q, _, rfl⟩ := List.mem_map.1 hv; rfl)
  · rw [hlm] at hr
    obtain ⟨cur', q1, q2, q3⟩ := setCells_row (((l0.drop at_).take 8).map (Value.int .u8)) 0 W (Array.replicate 8 (.int .u8 0)) h (by rw [hlm]; simp; omega)
    refine ⟨_, hr, ?_, ?_⟩
    · rw [q1]
      congr 2
      apply Array.ext'
      rw [q3]
      unfold grp
      rw [List.map_append, List.map_replicate, Nat.zero_add, hlm, List.length_drop]
      simp only [List.take_zero, List.nil_append, Array.toList_replicate, List.drop_replicate]
      congr 2
      omega
    · intro B hB
      have h3 : ∀ (vs : List Value) (o : Nat) (W' : World), Below B W W' → Below B W (W'.setCells g o vs) := by
        intro vs
        induction vs with
        | nil => intro o W' h; exact h
        | cons v vs ih => intro o W' h; exact ih (o + 1) _ (h.setCell hB _)
      exact h3 _ _ _ (Below.refl _ _)
  · intro j v hv
    rw [List.getElem?_map] at hv
    obtain ⟨x, hx, rfl⟩ := Option.map_eq_some_iff.1 hv
    have hj : j < n := by
      rcases Nat.lt_or_ge j n with h1 | h1
      · exact h1
      · rw [List.getElem?_eq_none (by rw [hl]; exact h1)] at hx; cases hx
    obtain ⟨ad2, he, hc⟩ := Kd.at_int hC ((at_ + j : Nat) : Int) (by omega) (by omega)
    injection he with he
    subst he
    rw [Int.toNat_natCast] at hc
    rw [Addr.add_add, hc]
    rw [List.getElem?_take_of_lt (by omega), List.getElem?_drop] at hx
    rw [rd_nat, List.getD_eq_getElem?_getD, hx]; rfl
  · intro j hj
    rw [hlm] at hj
    rw [blk_cell h]; simp; omega
  · intro j hj
    exact blk_frozen h _
set_option maxHeartbeats 1000000 in
set_option maxRecDepth 100000 in
theorem checksum_Hash.calls (a0 : Int) (A1 : Option Addr) (c1 : Nat) (l1 : List Int) (r : Int) (w : World) (hr1 : Kd.C (Kd.int .u8) w A1 l1.length l1) (hc1 : l1.length ≤ c1) (h : checksum_Hash.f a0 l1 = some r) :
    Calls Try.prog 58 #[.int .u64 a0, .slice A1 l1.length c1] w fun e w' => e = .returned (.int .u64 r) ∧ Below w.heap.size w w' := by
  unfold checksum_Hash.f at h
  split at h
  case isFalse => cases h
  case isTrue hok =>
  have hres := (Option.some.inj h)
  obtain ⟨hb, hl9⟩ := hok
  have hl : ∀ x ∈ l1, 0 ≤ x ∧ x < 256 := by simpa only [List.all_eq_true, Bool.and_eq_true, decide_eq_true_eq] using hb
  have HR := Aside0.mk hr1
  have HL := Aside0.mk hl
  have HS := Aside0.mk hres
  have eln : IntKind.u64.wrap (l1.length : Int) = (l1.length : Int) := wraps_u64 _ (by omega) (by omega)
  clear hr1 hl hb h hres
  go_enter Try.func58, Try.ntmps58
  go_wp2_with (go_at_call 57; refine (checksum_Mix.calls _ _ _ (mix_some _)).mono ?_; rintro e w1 ⟨rfl, ⟨nd1, rfl⟩⟩)
  go_loopw [5, 6] (fun v5 v6 wr => ∃ (i : Nat) (h : Int), 8 * i ≤ l1.length + 7 ∧ Aside0 (hashI ((l1.length + 7) / 8 - i) h (l1.drop (8 * i)) = r) ∧ v5 = .int .u64 h ∧ v6 = .int .i64 ((8 * i : Nat) : Int) ∧ Below w.heap.size w wr) (fun _ v6 _ => l1.length + 8 - (intOf v6).toNat)
  case atStart => exact ⟨0, _, by omega, ⟨by simpa using HS.out⟩, rfl, rfl, pw_below_drewN (Below.refl _ _) _⟩
  case round =>
    obtain ⟨i, h, hi, hh, rfl, rfl, hB⟩ := hrel
    obtain ⟨o, ho⟩ : ∃ o, o = 8 * i := ⟨_, rfl⟩
    rw [← ho] at hh ⊢
    have HO := Aside0.mk ho
    by_cases hlt : o < l1.length
    · have hlt' : (o : Int) < (l1.length : Int) := by omega
      clear ho
      go_wp2_with ((with_reducible refine gate_dst (N := 7) rfl ?_); refine box_event ?hg (N := 7) ?hd (cs := Array.replicate 8 (.int .u8 0)) (t := 93) ?hr ?_; (case hd => rfl); (case hg => rfl); (case hr => first | (go_simp; done) | (go_simp; rfl)); intro g0 hg0 w2 hb0 hB0)
      subst hg0
      obtain ⟨o8, ho8⟩ : ∃ o8, o8 = o + 8 := ⟨_, rfl⟩
      have e8 : (o : Int) + 8 = (o8 : Int) := by omega
      have ew8 : IntKind.i64.wrap (o8 : Int) = (o8 : Int) := IntWalk.i64_in _ (by omega)
      have B2 : Aside0 (Below w.heap.size w w2) := ⟨below_then hB hB.size hB0⟩
      have hb2 : (w2.drew).heap[wr.heap.size]? = some (.cells (Array.replicate 8 (.int .u8 0)) 93 (0, 0)) := hb0
      obtain ⟨ad, hA1, _⟩ := Kd.at_int HR.out (o : Int) (by omega) (by omega)
      subst hA1
      have q3 : ¬ c1 = o := by omega
      have HB0 := Aside0.mk hb2
      have HO8 := Aside0.mk ho8
      have hol : o ≤ l1.length := by omega
      have hlc : (l1.length : Int) ≤ (c1 : Int) := by omega
      simp only [Act.put, List.setIfInBounds_toArray, List.set_cons_zero, List.set_cons_succ]
      by_cases hc8 : (l1.length : Int) < (o8 : Int)
      · obtain ⟨w3, hrun, hw3, hB3⟩ := copy_arr (dT := 43) (sT := 43) (ty := 3) (n := l1.length - o) (sCap := c1 - o) (dCap := 8) w2.drew l1 o Try.underlying43 (by kernel_rfl) hb2 (Kd.C_drew (Kd.C_below HR.out B2.out)) (by omega) (by omega)
        have HB3 := Aside0.mk hB3
        have HW3 := Aside0.mk hw3
        rw [Option.map_some] at hrun
        clear ho8 hB3 hw3 hb2 hb0
        go_region
        have HG := Aside0.mk (grp_range (b := l1.drop o) (fun x hx => HL.out x (List.mem_of_mem_drop hx)))
        have HGL := Aside0.mk (grp_len (l1.drop o))
        have HGE := Aside0.mk (le_grp (l1.drop o))
        obtain ⟨G, hG⟩ : ∃ G, G = grp (l1.drop o) := ⟨_, rfl⟩
        rw [← hG] at HW3 HG HGL HGE
        have HGG := Aside0.mk hG
        clear hG
        go_wp2
        go_loopw [8, 32] (fun v8 v32 wr' => ∃ (j acc : Nat), j ≤ 8 ∧ Aside0 (acc = le (G.take j)) ∧ v8 = .int .u64 (acc : Int) ∧ v32 = .int .i64 (j : Int) ∧ w3 = wr') (fun _ v32 _ => 8 - (intOf v32).toNat)
        case atStart => exact ⟨0, 0, by omega, ⟨by simp [le]⟩, rfl, rfl, rfl⟩
        case round =>
          obtain ⟨j, acc, hj, ha, rfl, rfl, rfl⟩ := hrel
          by_cases hj8 : j < 8
          · have hx := getD_range HG.out (show j < G.length by rw [HGL.out]; exact hj8)
            obtain ⟨x, hxe⟩ : ∃ x : Nat, G.getD j 0 = (x : Int) := ⟨(G.getD j 0).toNat, by omega⟩
            have hck : w3.cell? ⟨wr.heap.size, j, none⟩ = some (.int .u8 (x : Int)) := by
              rw [blk_cell HW3.out]
              have h1 : j < G.length := by rw [HGL.out]; exact hj8
              simp only [List.getElem?_toArray, List.getElem?_map, List.getElem?_eq_getElem h1, Option.map_some]
              rw [← hxe, List.getD_eq_getElem?_getD, List.getElem?_eq_getElem h1]; rfl
            have hx256 : x < 256 := by omega
            have hstep : le (G.take (j + 1)) = acc + x * 2 ^ (8 * j) := by
              rw [le_take_succ _ _ (by rw [HGL.out]; exact hj8), ← ha.out, hxe, Int.toNat_natCast]
            have hacc : acc < 2 ^ (8 * j) := by
              have h1 := le_lt (G.take j) (fun y hy => HG.out y (List.mem_of_mem_take hy))
              rw [List.length_take, HGL.out, Nat.min_eq_left (by omega), pow256, ← ha.out] at h1
              exact h1
            have hp : (2 : Nat) ^ (8 * j) ≤ 72057594037927936 := Nat.pow_le_pow_right (by decide) (show 8 * j ≤ 56 by omega)
            have hxm : x * 2 ^ (8 * j) ≤ 255 * 72057594037927936 := Nat.mul_le_mul (by omega) hp
            have eor : bits .or .u64 (acc : Int) ((x * 2 ^ (8 * j) : Nat) : Int) = ((acc + x * 2 ^ (8 * j) : Nat) : Int) := or_u64 (8 * j) acc x hacc (by omega) (by omega)
            have eww : IntKind.u64.wrap ((x * 2 ^ (8 * j) : Nat) : Int) = ((x * 2 ^ (8 * j) : Nat) : Int) := wraps_u64 _ (by omega) (by omega)
            have E1 := Aside0.mk eor
            have E2 := Aside0.mk eww
            have E3 := Aside0.mk hstep
            have hxi : (x : Int) < 256 := by omega
            have hji : (j : Int) < 8 := by omega
            clear eor eww hstep hp hxm hacc hxe hx
            go_wp2
            refine ⟨⟨j + 1, le (G.take (j + 1)), by omega, ⟨rfl⟩, ?_, by simp, by first | rfl | simp⟩, ?_⟩
            · rw [E3.out, ← pow_cast, ← Int.natCast_mul, E2.out, E1.out]
            · simp [intOf]; omega
          · obtain rfl : j = 8 := by omega
            have hf := ha.out
            rw [List.take_of_length_le (by rw [HGL.out]; exact Nat.le_refl 8), HGE.out] at hf
            have HF := Aside0.mk hf
            clear hf
            go_wp2_with (go_at_call 57; refine (checksum_Mix.calls _ _ _ (mix_some _)).mono ?_; rintro e w4 ⟨rfl, ⟨nd4, rfl⟩⟩)
            refine ⟨⟨i + 1, _, by have := HO.out; omega, ⟨?_⟩, rfl, ?_, ?_⟩, ?_⟩
            · have e1 := hh.out
              rw [show (l1.length + 7) / 8 - i = ((l1.length + 7) / 8 - (i + 1)) + 1 by have := HO.out; omega] at e1
              rw [← e1]
              show _ = hashI _ (mixI (bits .xor .u64 h ((le ((l1.drop o).take 8) : Nat) : Int))) ((l1.drop o).drop 8)
              rw [List.drop_drop, ← HF.out, show o + 8 = 8 * (i + 1) by have := HO.out; omega]
            · rw [show o8 = 8 * (i + 1) by have := HO.out; have := HO8.out; omega]
            · exact pw_below_drewN ((pw_below_drewN B2.out 1).trans (HB3.out _ hB.size)) _
            · have := HO8.out
              simp [intOf]; omega
      · obtain ⟨w3, hrun, hw3, hB3⟩ := copy_arr (dT := 43) (sT := 43) (ty := 3) (n := o8 - o) (sCap := c1 - o) (dCap := 8) w2.drew l1 o Try.underlying43 (by kernel_rfl) hb2 (Kd.C_drew (Kd.C_below HR.out B2.out)) (by omega) (by omega)
        have q4 : o ≤ o8 := by omega
        have q5 : (o8 : Int) ≤ (c1 : Int) := by omega
        have q6 : (0 : Int) ≤ (o8 : Int) := by omega
        have HB3 := Aside0.mk hB3
        have HW3 := Aside0.mk hw3
        rw [Option.map_some] at hrun
        clear ho8 hB3 hw3 hb2 hb0
        go_region
        have HG := Aside0.mk (grp_range (b := l1.drop o) (fun x hx => HL.out x (List.mem_of_mem_drop hx)))
        have HGL := Aside0.mk (grp_len (l1.drop o))
        have HGE := Aside0.mk (le_grp (l1.drop o))
        obtain ⟨G, hG⟩ : ∃ G, G = grp (l1.drop o) := ⟨_, rfl⟩
        rw [← hG] at HW3 HG HGL HGE
        have HGG := Aside0.mk hG
        clear hG
        go_wp2
        go_loopw [8, 32] (fun v8 v32 wr' => ∃ (j acc : Nat), j ≤ 8 ∧ Aside0 (acc = le (G.take j)) ∧ v8 = .int .u64 (acc : Int) ∧ v32 = .int .i64 (j : Int) ∧ w3 = wr') (fun _ v32 _ => 8 - (intOf v32).toNat)
        case atStart => exact ⟨0, 0, by omega, ⟨by simp [le]⟩, rfl, rfl, rfl⟩
        case round =>
          obtain ⟨j, acc, hj, ha, rfl, rfl, rfl⟩ := hrel
          by_cases hj8 : j < 8
          · have hx := getD_range HG.out (show j < G.length by rw [HGL.out]; exact hj8)
            obtain ⟨x, hxe⟩ : ∃ x : Nat, G.getD j 0 = (x : Int) := ⟨(G.getD j 0).toNat, by omega⟩
            have hck : w3.cell? ⟨wr.heap.size, j, none⟩ = some (.int .u8 (x : Int)) := by
              rw [blk_cell HW3.out]
              have h1 : j < G.length := by rw [HGL.out]; exact hj8
              simp only [List.getElem?_toArray, List.getElem?_map, List.getElem?_eq_getElem h1, Option.map_some]
              rw [← hxe, List.getD_eq_getElem?_getD, List.getElem?_eq_getElem h1]; rfl
            have hx256 : x < 256 := by omega
            have hstep : le (G.take (j + 1)) = acc + x * 2 ^ (8 * j) := by
              rw [le_take_succ _ _ (by rw [HGL.out]; exact hj8), ← ha.out, hxe, Int.toNat_natCast]
            have hacc : acc < 2 ^ (8 * j) := by
              have h1 := le_lt (G.take j) (fun y hy => HG.out y (List.mem_of_mem_take hy))
              rw [List.length_take, HGL.out, Nat.min_eq_left (by omega), pow256, ← ha.out] at h1
              exact h1
            have hp : (2 : Nat) ^ (8 * j) ≤ 72057594037927936 := Nat.pow_le_pow_right (by decide) (show 8 * j ≤ 56 by omega)
            have hxm : x * 2 ^ (8 * j) ≤ 255 * 72057594037927936 := Nat.mul_le_mul (by omega) hp
            have eor : bits .or .u64 (acc : Int) ((x * 2 ^ (8 * j) : Nat) : Int) = ((acc + x * 2 ^ (8 * j) : Nat) : Int) := or_u64 (8 * j) acc x hacc (by omega) (by omega)
            have eww : IntKind.u64.wrap ((x * 2 ^ (8 * j) : Nat) : Int) = ((x * 2 ^ (8 * j) : Nat) : Int) := wraps_u64 _ (by omega) (by omega)
            have E1 := Aside0.mk eor
            have E2 := Aside0.mk eww
            have E3 := Aside0.mk hstep
            have hxi : (x : Int) < 256 := by omega
            have hji : (j : Int) < 8 := by omega
            clear eor eww hstep hp hxm hacc hxe hx
            go_wp2
            refine ⟨⟨j + 1, le (G.take (j + 1)), by omega, ⟨rfl⟩, ?_, by simp, by first | rfl | simp⟩, ?_⟩
            · rw [E3.out, ← pow_cast, ← Int.natCast_mul, E2.out, E1.out]
            · simp [intOf]; omega
          · obtain rfl : j = 8 := by omega
            have hf := ha.out
            rw [List.take_of_length_le (by rw [HGL.out]; exact Nat.le_refl 8), HGE.out] at hf
            have HF := Aside0.mk hf
            clear hf
            go_wp2_with (go_at_call 57; refine (checksum_Mix.calls _ _ _ (mix_some _)).mono ?_; rintro e w4 ⟨rfl, ⟨nd4, rfl⟩⟩)
            refine ⟨⟨i + 1, _, by have := HO.out; omega, ⟨?_⟩, rfl, ?_, ?_⟩, ?_⟩
            · have e1 := hh.out
              rw [show (l1.length + 7) / 8 - i = ((l1.length + 7) / 8 - (i + 1)) + 1 by have := HO.out; omega] at e1
              rw [← e1]
              show _ = hashI _ (mixI (bits .xor .u64 h ((le ((l1.drop o).take 8) : Nat) : Int))) ((l1.drop o).drop 8)
              rw [List.drop_drop, ← HF.out, show o + 8 = 8 * (i + 1) by have := HO.out; omega]
            · rw [show o8 = 8 * (i + 1) by have := HO.out; have := HO8.out; omega]
            · exact pw_below_drewN ((pw_below_drewN B2.out 1).trans (HB3.out _ hB.size)) _
            · have := HO8.out
              simp [intOf]; omega
    · have q0 : ¬ ((o : Int) < (l1.length : Int)) := by omega
      have hf := hh.out
      rw [show (l1.length + 7) / 8 - i = 0 by omega] at hf
      have HF := Aside0.mk hf
      clear hf hh ho
      go_wp2
      go_ret
      exact ⟨by rw [← HF.out]; rfl, hB⟩

/-! ### value_Hash: function 52 -/
def vhI (h : Int) (v : S24) : Option Int :=
  if v.f0 = 0 then checksum_Mix.f (Go.bits .xor .u64 h 1)
  else if v.f0 = 1 then (checksum_Mix.f (Go.bits .xor .u64 h 2)).bind fun m => checksum_Mix.f (Go.bits .xor .u64 m (IntKind.u64.wrap v.f1))
  else if v.f0 = 2 then (checksum_Mix.f (Go.bits .xor .u64 h 3)).bind fun m => checksum_Mix.f (Go.bits .xor .u64 m (IntKind.u64.wrap v.f1))
  else if v.f0 = 3 then (if v.f2.size ≤ 1000000000 then (checksum_Mix.f (Go.bits .xor .u64 h 4)).bind fun m => checksum_Hash.f m (bytesOf v.f2) else none)
  else some h
def vhL : List S24 → Int → Option Int
  | [], h => some h
  | v :: l, h => (vhI h v).bind (vhL l)
def value_Hash.f (a0 : Int) (l1 : List S24) : Option Int := (checksum_Mix.f a0).bind (vhL l1)
set_option maxHeartbeats 4000000 in
set_option maxRecDepth 100000 in
theorem value_Hash.calls (a0 : Int) (A1 : Option Addr) (c1 : Nat) (l1 : List S24) (r : Int) (w : World) (hr1 : Kd.C k24 w A1 l1.length l1) (hc1 : l1.length ≤ c1) (h : value_Hash.f a0 l1 = some r) :
    Calls Try.prog 52 #[.int .u64 a0, .slice A1 l1.length c1] w fun e w' => e = .returned (.int .u64 r) ∧ Below w.heap.size w w' := by
  unfold value_Hash.f at h
  replace h := Option.bind_eq_some_iff.mp h
  obtain ⟨h0, hM, h⟩ := h
  have HM := Aside0.mk hM
  have HS := Aside0.mk h
  have HR := Aside0.mk hr1
  have hmx := Kd.C_max hr1
  clear hr1 hM h
  go_enter Try.func52, Try.ntmps52
  go_wp2_with (go_at_call 57; (with_reducible refine (checksum_Mix.calls _ _ _ HM.out).mono ?_); rintro e w1 ⟨rfl, ⟨nd1, rfl⟩⟩)
  go_loopw [5, 12] (fun v5 v12 wr => ∃ (k : Nat) (h : Int), k ≤ l1.length ∧ Aside0 (vhL (l1.drop k) h = some r) ∧ v5 = .int .u64 h ∧ v12 = .int .i64 (k : Int) ∧ Below w.heap.size w wr) (fun _ v12 _ => l1.length - (intOf v12).toNat)
  case atStart => exact ⟨0, _, by omega, ⟨by simpa using HS.out⟩, rfl, rfl, pw_below_drewN (Below.refl _ _) _⟩
  case round =>
    obtain ⟨k, h, hk, hh, rfl, rfl, hB⟩ := hrel
    by_cases hlt : k < l1.length
    · have hlt' : (k : Int) < (l1.length : Int) := by omega
      have hkp : (0 : Int) ≤ (k : Int) := Int.natCast_nonneg k
      obtain ⟨ad, hA1, c0, c1_, c2⟩ := at_T24 (Kd.C_below HR.out hB) (k : Int) hkp hlt'
      subst hA1
      obtain ⟨x, hx⟩ : ∃ x, x = rd_T24 l1 (k : Int) := ⟨_, rfl⟩
      rw [← hx] at c0 c1_ c2
      rw [Int.toNat_natCast] at c0 c1_ c2
      have hdrop : l1.drop k = x :: l1.drop (k + 1) := by
        rw [List.drop_eq_getElem_cons hlt, hx]
        unfold rd_T24
        rw [Int.toNat_natCast, List.getD_eq_getElem?_getD, List.getElem?_eq_getElem hlt]
        rfl
      have hh1 := hh.out
      rw [hdrop] at hh1
      simp only [vhL] at hh1
      replace hh1 := Option.bind_eq_some_iff.mp hh1
      obtain ⟨h2, hv, hh2⟩ := hh1
      have HH := Aside0.mk hh2
      have ewk : IntKind.i64.wrap ((k : Int) + 1) = ((k + 1 : Nat) : Int) := by rw [IntWalk.i64_in _ (by omega)]; omega
      clear hh hh2 hdrop hx
      unfold vhI at hv
      by_cases z0 : x.f0 = 0
      · rw [if_pos z0] at hv
        have e0 : (x.f0 == 0) = true := by simpa using z0
        have HV := Aside0.mk hv
        clear hv z0
        go_wp2_with (go_at_call 57; (with_reducible refine (checksum_Mix.calls _ _ _ HV.out).mono ?_); rintro e w1 ⟨rfl, ⟨nd2, rfl⟩⟩)
        go_roundw
        case rel => exact ⟨k + 1, h2, by omega, HH, rfl, by simp, pw_below_drewN (below_alloc hB _) _⟩
        case measure => simp [intOf]; omega
      rw [if_neg z0] at hv
      have n0 : (x.f0 == 0) = false := by simpa using z0
      by_cases z1 : x.f0 = 1
      · have e1 : (x.f0 == 1) = true := by simpa using z1
        rw [if_pos z1] at hv
        replace hv := Option.bind_eq_some_iff.mp hv
        obtain ⟨m, hm, hv⟩ := hv
        have HM1 := Aside0.mk hm
        have HV := Aside0.mk hv
        clear hv hm z1
        try go_wp2
        have hA0 : (wr.alloc (.cells #[.int .i64 x.f0, .int .i64 x.f1, .string x.f2] 24)).heap[wr.heap.size]? = some (.cells #[.int .i64 x.f0, .int .i64 x.f1, .string x.f2] 24 (0, 0)) := blk_new wr _
        have hB2 : Below w.heap.size w (wr.alloc (.cells #[.int .i64 x.f0, .int .i64 x.f1, .string x.f2] 24)) := below_alloc hB _
        generalize (wr.alloc (.cells #[.int .i64 x.f0, .int .i64 x.f1, .string x.f2] 24)) = W1 at hA0 hB2 ⊢
        refine start_ (n := 9) (S := fun w' => w'.cell? ⟨wr.heap.size, 1, none⟩ = some (.int .i64 x.f1)) (ds := []) #[false, false, false, false, false, false, false, false, false] (by kernel_rfl) rfl rfl ((blk_cell hA0 1).trans rfl) (fun hHeld => ?_)
        have hA1 : W1.drew.heap[wr.heap.size]? = some (.cells #[.int .i64 x.f0, .int .i64 x.f1, .string x.f2] 24 (0, 0)) := hA0
        have hB3 : Below w.heap.size w W1.drew := below_drew1 hB2
        clear hA0 hB2
        generalize W1.drew = W2 at hA1 hB3 hHeld ⊢
        refine pure_ (i := 0) (N := some 25) (v := ?_) (a' := ?_) #[true, false, false, false, false, false, false, false, false] rfl rfl (by kernel_rfl) (fun _ _ _ h => h) (Or.inl ⟨by (first | rfl | (simp only [*]; rfl) | (simp [*]; done)), ?_⟩) ?_ ?_
        rotate_left
        · intro w'
          go_simp
          with_reducible rfl
        rotate_left
        · simp only [Act.put, List.setIfInBounds_toArray, List.set_cons_zero, List.set_cons_succ]
          rfl
        refine pure_ (i := 1) (N := some 26) (v := ?_) (a' := ?_) #[true, true, false, false, false, false, false, false, false] rfl rfl (by kernel_rfl) (fun _ _ _ h => h) (Or.inl ⟨by (first | rfl | (simp only [*]; rfl) | (simp [*]; done)), ?_⟩) ?_ ?_
        rotate_left
        · intro w'
          go_simp
          with_reducible rfl
        rotate_left
        · simp only [Act.put, List.setIfInBounds_toArray, List.set_cons_zero, List.set_cons_succ]
          rfl
        refine pure_ (i := 3) (N := some 28) (v := ?_) (a' := ?_) #[true, true, false, true, false, false, false, false, false] rfl rfl (by kernel_rfl) (fun _ _ _ h => h) (Or.inl ⟨by (first | rfl | (simp only [*]; rfl) | (simp [*]; done)), ?_⟩) ?_ ?_
        rotate_left
        · intro w'
          go_simp
          with_reducible rfl
        rotate_left
        · simp only [Act.put, List.setIfInBounds_toArray, List.set_cons_zero, List.set_cons_succ]
          rfl
        refine take_ (i := 4) (N := some 29) (v := ?_) (a' := ?_) #[true, true, false, true, true, false, false, false, false] rfl rfl (by kernel_rfl) (fun _ _ _ h => h) (Or.inl ⟨by (first | rfl | (simp only [*]; rfl) | (simp [*]; done)), ?_⟩) hHeld ?_ ?_
        rotate_left
        · intro w' s0
          go_simp
          with_reducible rfl
        rotate_left
        · simp only [Act.put, List.setIfInBounds_toArray, List.set_cons_zero, List.set_cons_succ]
          rfl
        refine pure_ (i := 5) (N := some 30) (v := ?_) (a' := ?_) #[true, true, false, true, true, true, false, false, false] rfl rfl (by kernel_rfl) (fun _ _ _ h => h) (Or.inl ⟨by (first | rfl | (simp only [*]; rfl) | (simp [*]; done)), ?_⟩) ?_ ?_
        rotate_left
        · intro w'
          go_simp
          with_reducible rfl
        rotate_left
        · simp only [Act.put, List.setIfInBounds_toArray, List.set_cons_zero, List.set_cons_succ]
          rfl
        refine one_ (i := 2) (N := some 27) #[true, true, true, true, true, true, false, false, false] rfl rfl (by kernel_rfl) (by decide) (fun K hK => ?_)
        refine goes_ Try.func57 (by kernel_rfl) rfl #[.int .u64 (Go.bits .xor .u64 h 2)] (by (first | rfl | (simp only [*]; rfl) | (simp [*]; done))) rfl rfl (by simp [Act.eval]) ?_
        (with_reducible refine (checksum_Mix.calls _ m _ HM1.out).mono ?_)
        rintro e W3 ⟨rfl, hd⟩
        refine ⟨_, rfl, ?_⟩
        replace hB3 := below_step hB3 hd.below
        replace hA1 := blk_below hA1 hd.below
        refine hK.out _ _ ((blk_cell hA1 1).trans rfl) (fun hHeld => ?_)
        clear hK K
        refine norm_ (a' := ?_) ?_ ?_
        rotate_left
        · show Act.put _ (some 27) _ = _
          simp only [Act.put, List.setIfInBounds_toArray, List.set_cons_zero, List.set_cons_succ]
          rfl
        refine pure_ (i := 6) (N := some 31) (v := ?_) (a' := ?_) #[true, true, true, true, true, true, true, false, false] rfl rfl (by kernel_rfl) (fun _ _ _ h => h) (Or.inl ⟨by (first | rfl | (simp only [*]; rfl) | (simp [*]; done)), ?_⟩) ?_ ?_
        rotate_left
        · intro w'
          go_simp
          with_reducible rfl
        rotate_left
        · simp only [Act.put, List.setIfInBounds_toArray, List.set_cons_zero, List.set_cons_succ]
          rfl
        refine one_ (i := 7) (N := some 32) #[true, true, true, true, true, true, true, true, false] rfl rfl (by kernel_rfl) (by decide) (fun K hK => ?_)
        refine goes_ Try.func57 (by kernel_rfl) rfl #[.int .u64 (Go.bits .xor .u64 m (IntKind.u64.wrap x.f1))] (by (first | rfl | (simp only [*]; rfl) | (simp [*]; done))) rfl rfl (by simp [Act.eval]) ?_
        (with_reducible refine (checksum_Mix.calls _ h2 _ HV.out).mono ?_)
        rintro e W4 ⟨rfl, hd2⟩
        refine ⟨_, rfl, ?_⟩
        replace hB3 := below_step hB3 hd2.below
        replace hA1 := blk_below hA1 hd2.below
        refine hK.out _ _ ((blk_cell hA1 1).trans rfl) (fun hHeld => ?_)
        clear hK K
        refine norm_ (a' := ?_) ?_ ?_
        rotate_left
        · show Act.put _ (some 32) _ = _
          simp only [Act.put, List.setIfInBounds_toArray, List.set_cons_zero, List.set_cons_succ]
          rfl
        refine pure_ (i := 8) (N := some 5) (v := ?_) (a' := ?_) #[true, true, true, true, true, true, true, true, true] rfl rfl (by kernel_rfl) (fun _ _ _ h => h) (Or.inl ⟨by (first | rfl | (simp only [*]; rfl) | (simp [*]; done)), ?_⟩) ?_ ?_
        rotate_left
        · intro w'
          go_simp
          with_reducible rfl
        rotate_left
        · simp only [Act.put, List.setIfInBounds_toArray, List.set_cons_zero, List.set_cons_succ]
          rfl
        refine done_ (by kernel_rfl) ?_
        try go_wp2
        go_roundw
        case rel => exact ⟨k + 1, h2, by omega, HH, rfl, by simp, hB3⟩
        case measure => simp [intOf]; omega
      rw [if_neg z1] at hv
      have n1 : (x.f0 == 1) = false := by simpa using z1
      by_cases z2 : x.f0 = 2
      · have e2 : (x.f0 == 2) = true := by simpa using z2
        rw [if_pos z2] at hv
        replace hv := Option.bind_eq_some_iff.mp hv
        obtain ⟨m, hm, hv⟩ := hv
        have HM1 := Aside0.mk hm
        have HV := Aside0.mk hv
        clear hv hm z2
        try go_wp2
        have hA0 : (wr.alloc (.cells #[.int .i64 x.f0, .int .i64 x.f1, .string x.f2] 24)).heap[wr.heap.size]? = some (.cells #[.int .i64 x.f0, .int .i64 x.f1, .string x.f2] 24 (0, 0)) := blk_new wr _
        have hB2 : Below w.heap.size w (wr.alloc (.cells #[.int .i64 x.f0, .int .i64 x.f1, .string x.f2] 24)) := below_alloc hB _
        generalize (wr.alloc (.cells #[.int .i64 x.f0, .int .i64 x.f1, .string x.f2] 24)) = W1 at hA0 hB2 ⊢
        refine start_ (n := 9) (S := fun w' => w'.cell? ⟨wr.heap.size, 1, none⟩ = some (.int .i64 x.f1)) (ds := []) #[false, false, false, false, false, false, false, false, false] (by kernel_rfl) rfl rfl ((blk_cell hA0 1).trans rfl) (fun hHeld => ?_)
        have hA1 : W1.drew.heap[wr.heap.size]? = some (.cells #[.int .i64 x.f0, .int .i64 x.f1, .string x.f2] 24 (0, 0)) := hA0
        have hB3 : Below w.heap.size w W1.drew := below_drew1 hB2
        clear hA0 hB2
        generalize W1.drew = W2 at hA1 hB3 hHeld ⊢
        refine pure_ (i := 0) (N := some 35) (v := ?_) (a' := ?_) #[true, false, false, false, false, false, false, false, false] rfl rfl (by kernel_rfl) (fun _ _ _ h => h) (Or.inl ⟨by (first | rfl | (simp only [*]; rfl) | (simp [*]; done)), ?_⟩) ?_ ?_
        rotate_left
        · intro w'
          go_simp
          with_reducible rfl
        rotate_left
        · simp only [Act.put, List.setIfInBounds_toArray, List.set_cons_zero, List.set_cons_succ]
          rfl
        refine pure_ (i := 1) (N := some 36) (v := ?_) (a' := ?_) #[true, true, false, false, false, false, false, false, false] rfl rfl (by kernel_rfl) (fun _ _ _ h => h) (Or.inl ⟨by (first | rfl | (simp only [*]; rfl) | (simp [*]; done)), ?_⟩) ?_ ?_
        rotate_left
        · intro w'
          go_simp
          with_reducible rfl
        rotate_left
        · simp only [Act.put, List.setIfInBounds_toArray, List.set_cons_zero, List.set_cons_succ]
          rfl
        refine pure_ (i := 3) (N := some 38) (v := ?_) (a' := ?_) #[true, true, false, true, false, false, false, false, false] rfl rfl (by kernel_rfl) (fun _ _ _ h => h) (Or.inl ⟨by (first | rfl | (simp only [*]; rfl) | (simp [*]; done)), ?_⟩) ?_ ?_
        rotate_left
        · intro w'
          go_simp
          with_reducible rfl
        rotate_left
        · simp only [Act.put, List.setIfInBounds_toArray, List.set_cons_zero, List.set_cons_succ]
          rfl
        refine take_ (i := 4) (N := some 39) (v := ?_) (a' := ?_) #[true, true, false, true, true, false, false, false, false] rfl rfl (by kernel_rfl) (fun _ _ _ h => h) (Or.inl ⟨by (first | rfl | (simp only [*]; rfl) | (simp [*]; done)), ?_⟩) hHeld ?_ ?_
        rotate_left
        · intro w' s0
          go_simp
          with_reducible rfl
        rotate_left
        · simp only [Act.put, List.setIfInBounds_toArray, List.set_cons_zero, List.set_cons_succ]
          rfl
        refine pure_ (i := 5) (N := some 40) (v := ?_) (a' := ?_) #[true, true, false, true, true, true, false, false, false] rfl rfl (by kernel_rfl) (fun _ _ _ h => h) (Or.inl ⟨by (first | rfl | (simp only [*]; rfl) | (simp [*]; done)), ?_⟩) ?_ ?_
        rotate_left
        · intro w'
          go_simp
          with_reducible rfl
        rotate_left
        · simp only [Act.put, List.setIfInBounds_toArray, List.set_cons_zero, List.set_cons_succ]
          rfl
        refine one_ (i := 2) (N := some 37) #[true, true, true, true, true, true, false, false, false] rfl rfl (by kernel_rfl) (by decide) (fun K hK => ?_)
        refine goes_ Try.func57 (by kernel_rfl) rfl #[.int .u64 (Go.bits .xor .u64 h 3)] (by (first | rfl | (simp only [*]; rfl) | (simp [*]; done))) rfl rfl (by simp [Act.eval]) ?_
        (with_reducible refine (checksum_Mix.calls _ m _ HM1.out).mono ?_)
        rintro e W3 ⟨rfl, hd⟩
        refine ⟨_, rfl, ?_⟩
        replace hB3 := below_step hB3 hd.below
        replace hA1 := blk_below hA1 hd.below
        refine hK.out _ _ ((blk_cell hA1 1).trans rfl) (fun hHeld => ?_)
        clear hK K
        refine norm_ (a' := ?_) ?_ ?_
        rotate_left
        · show Act.put _ (some 37) _ = _
          simp only [Act.put, List.setIfInBounds_toArray, List.set_cons_zero, List.set_cons_succ]
          rfl
        refine pure_ (i := 6) (N := some 41) (v := ?_) (a' := ?_) #[true, true, true, true, true, true, true, false, false] rfl rfl (by kernel_rfl) (fun _ _ _ h => h) (Or.inl ⟨by (first | rfl | (simp only [*]; rfl) | (simp [*]; done)), ?_⟩) ?_ ?_
        rotate_left
        · intro w'
          go_simp
          with_reducible rfl
        rotate_left
        · simp only [Act.put, List.setIfInBounds_toArray, List.set_cons_zero, List.set_cons_succ]
          rfl
        refine one_ (i := 7) (N := some 42) #[true, true, true, true, true, true, true, true, false] rfl rfl (by kernel_rfl) (by decide) (fun K hK => ?_)
        refine goes_ Try.func57 (by kernel_rfl) rfl #[.int .u64 (Go.bits .xor .u64 m (IntKind.u64.wrap x.f1))] (by (first | rfl | (simp only [*]; rfl) | (simp [*]; done))) rfl rfl (by simp [Act.eval]) ?_
        (with_reducible refine (checksum_Mix.calls _ h2 _ HV.out).mono ?_)
        rintro e W4 ⟨rfl, hd2⟩
        refine ⟨_, rfl, ?_⟩
        replace hB3 := below_step hB3 hd2.below
        replace hA1 := blk_below hA1 hd2.below
        refine hK.out _ _ ((blk_cell hA1 1).trans rfl) (fun hHeld => ?_)
        clear hK K
        refine norm_ (a' := ?_) ?_ ?_
        rotate_left
        · show Act.put _ (some 42) _ = _
          simp only [Act.put, List.setIfInBounds_toArray, List.set_cons_zero, List.set_cons_succ]
          rfl
        refine pure_ (i := 8) (N := some 5) (v := ?_) (a' := ?_) #[true, true, true, true, true, true, true, true, true] rfl rfl (by kernel_rfl) (fun _ _ _ h => h) (Or.inl ⟨by (first | rfl | (simp only [*]; rfl) | (simp [*]; done)), ?_⟩) ?_ ?_
        rotate_left
        · intro w'
          go_simp
          with_reducible rfl
        rotate_left
        · simp only [Act.put, List.setIfInBounds_toArray, List.set_cons_zero, List.set_cons_succ]
          rfl
        refine done_ (by kernel_rfl) ?_
        try go_wp2
        go_roundw
        case rel => exact ⟨k + 1, h2, by omega, HH, rfl, by simp, hB3⟩
        case measure => simp [intOf]; omega
      rw [if_neg z2] at hv
      have n2 : (x.f0 == 2) = false := by simpa using z2
      by_cases z3 : x.f0 = 3
      · have e3 : (x.f0 == 3) = true := by simpa using z3
        rw [if_pos z3] at hv
        by_cases hsz : x.f2.size ≤ 1000000000
        case neg => rw [if_neg hsz] at hv; cases hv
        rw [if_pos hsz] at hv
        replace hv := Option.bind_eq_some_iff.mp hv
        obtain ⟨m, hm, hv⟩ := hv
        have HM1 := Aside0.mk hm
        have HV := Aside0.mk hv
        have HZ := Aside0.mk hsz
        clear hv hm z3 hsz
        try go_wp2
        have hA0 : (wr.alloc (.cells #[.int .i64 x.f0, .int .i64 x.f1, .string x.f2] 24)).heap[wr.heap.size]? = some (.cells #[.int .i64 x.f0, .int .i64 x.f1, .string x.f2] 24 (0, 0)) := blk_new wr _
        have hB2 : Below w.heap.size w (wr.alloc (.cells #[.int .i64 x.f0, .int .i64 x.f1, .string x.f2] 24)) := below_alloc hB _
        generalize (wr.alloc (.cells #[.int .i64 x.f0, .int .i64 x.f1, .string x.f2] 24)) = W1 at hA0 hB2 ⊢
        refine start_ (n := 8) (S := fun w' => w'.cell? ⟨wr.heap.size, 2, none⟩ = some (.string x.f2)) (ds := []) #[false, false, false, false, false, false, false, false] (by kernel_rfl) rfl rfl ((blk_cell hA0 2).trans rfl) (fun hHeld => ?_)
        have hA1 : W1.drew.heap[wr.heap.size]? = some (.cells #[.int .i64 x.f0, .int .i64 x.f1, .string x.f2] 24 (0, 0)) := hA0
        have hB3 : Below w.heap.size w W1.drew := below_drew1 hB2
        clear hA0 hB2
        generalize W1.drew = W2 at hA1 hB3 hHeld ⊢
        refine pure_ (i := 0) (N := some 45) (v := ?_) (a' := ?_) #[true, false, false, false, false, false, false, false] rfl rfl (by kernel_rfl) (fun _ _ _ h => h) (Or.inl ⟨by (first | rfl | (simp only [*]; rfl) | (simp [*]; done)), ?_⟩) ?_ ?_
        rotate_left
        · intro w'
          go_simp
          with_reducible rfl
        rotate_left
        · simp only [Act.put, List.setIfInBounds_toArray, List.set_cons_zero, List.set_cons_succ]
          rfl
        refine pure_ (i := 1) (N := some 46) (v := ?_) (a' := ?_) #[true, true, false, false, false, false, false, false] rfl rfl (by kernel_rfl) (fun _ _ _ h => h) (Or.inl ⟨by (first | rfl | (simp only [*]; rfl) | (simp [*]; done)), ?_⟩) ?_ ?_
        rotate_left
        · intro w'
          go_simp
          with_reducible rfl
        rotate_left
        · simp only [Act.put, List.setIfInBounds_toArray, List.set_cons_zero, List.set_cons_succ]
          rfl
        refine pure_ (i := 3) (N := some 48) (v := ?_) (a' := ?_) #[true, true, false, true, false, false, false, false] rfl rfl (by kernel_rfl) (fun _ _ _ h => h) (Or.inl ⟨by (first | rfl | (simp only [*]; rfl) | (simp [*]; done)), ?_⟩) ?_ ?_
        rotate_left
        · intro w'
          go_simp
          with_reducible rfl
        rotate_left
        · simp only [Act.put, List.setIfInBounds_toArray, List.set_cons_zero, List.set_cons_succ]
          rfl
        refine take_ (i := 4) (N := some 49) (v := ?_) (a' := ?_) #[true, true, false, true, true, false, false, false] rfl rfl (by kernel_rfl) (fun _ _ _ h => h) (Or.inl ⟨by (first | rfl | (simp only [*]; rfl) | (simp [*]; done)), ?_⟩) hHeld ?_ ?_
        rotate_left
        · intro w' s0
          go_simp
          with_reducible rfl
        rotate_left
        · simp only [Act.put, List.setIfInBounds_toArray, List.set_cons_zero, List.set_cons_succ]
          rfl
        refine join_ (σ := Value) 2 #[true, true, true, true, true, true, false, false] (fun s_ => [(47, .int .u64 m), (50, s_)]) (fun s_ w' => Below w.heap.size w w' ∧ w'.heap[wr.heap.size]? = some (.cells #[.int .i64 x.f0, .int .i64 x.f1, .string x.f2] 24 (0, 0)) ∧ ∃ A c, s_ = .slice A (bytesOf x.f2).length c ∧ (bytesOf x.f2).length ≤ c ∧ Kd.C (Kd.int .u8) w' A (bytesOf x.f2).length (bytesOf x.f2)) ?_ ?_
        rotate_left
        · intro hCont
          refine two_ (i := 2) (j := 5) (Ni := some 47) (Nj := some 50) #[true, true, true, true, true, false, false, false] #[true, true, false, true, true, true, false, false] rfl rfl rfl rfl (by kernel_rfl) (by decide) (by decide) (fun K hK => ?_) (fun K hK => ?_)
          · skip
            refine goes_ Try.func57 (by kernel_rfl) rfl #[.int .u64 (Go.bits .xor .u64 h 4)] (by (first | rfl | (simp only [*]; rfl) | (simp [*]; done))) rfl rfl (by simp [Act.eval]) ?_
            (with_reducible refine (checksum_Mix.calls _ m _ HM1.out).mono ?_)
            rintro e W3 ⟨rfl, hd⟩
            refine ⟨_, rfl, ?_⟩
            have hb := hd.below
            replace hB3 := below_step hB3 hb
            replace hA1 := blk_below hA1 hb
            refine hK.out _ _ ((blk_cell hA1 2).trans rfl) (fun hHeld => ?_)
            clear hK K
            refine norm_ (a' := ?_) ?_ ?_
            rotate_left
            · show Act.put _ (some 47) _ = _
              simp only [Act.put, List.setIfInBounds_toArray, List.set_cons_zero, List.set_cons_succ]
              rfl
            refine one_ (i := 5) (N := some 50) #[true, true, true, true, true, true, false, false] rfl rfl (by kernel_rfl) (by decide) (fun K hK => ?_)
            obtain ⟨A5, c5, W5, hrun, hl5, hC5, hb5⟩ := conv_run (P := Try.prog) (src := 9) (dst := 43) Try.underlying9 Try.underlying43 Try.underlying5 x.f2 (by have := HZ.out; omega) W3
            refine value_ (v := .slice A5 (bytesOf x.f2).length c5) (w1 := W5) (by (first | rfl | (simp only [*]; rfl) | (simp [*]; done))) rfl (by first | (go_simp; done) | (go_simp; exact hrun) | (simp [execOp, Act.eval]; exact hrun)) ?_
            clear hrun
            replace hB3 := below_step hB3 hb5
            replace hA1 := blk_below hA1 hb5
            refine hK.out _ _ ((blk_cell hA1 2).trans rfl) (fun hHeld => ?_)
            clear hK K
            refine norm_ (a' := ?_) ?_ ?_
            rotate_left
            · show Act.put _ (some 50) _ = _
              simp only [Act.put, List.setIfInBounds_toArray, List.set_cons_zero, List.set_cons_succ]
              rfl
            exact norm_ (by simp only [putAll, Act.put, List.setIfInBounds_toArray, List.set_cons_zero, List.set_cons_succ]) (hCont (.slice A5 (bytesOf x.f2).length c5) _ ⟨hB3, hA1, A5, c5, rfl, hl5, hC5⟩)
          · skip
            obtain ⟨A5, c5, W5, hrun, hl5, hC5, hb5⟩ := conv_run (P := Try.prog) (src := 9) (dst := 43) Try.underlying9 Try.underlying43 Try.underlying5 x.f2 (by have := HZ.out; omega) W2
            refine value_ (v := .slice A5 (bytesOf x.f2).length c5) (w1 := W5) (by (first | rfl | (simp only [*]; rfl) | (simp [*]; done))) rfl (by first | (go_simp; done) | (go_simp; exact hrun) | (simp [execOp, Act.eval]; exact hrun)) ?_
            clear hrun
            replace hB3 := below_step hB3 hb5
            replace hA1 := blk_below hA1 hb5
            refine hK.out _ _ ((blk_cell hA1 2).trans rfl) (fun hHeld => ?_)
            clear hK K
            refine norm_ (a' := ?_) ?_ ?_
            rotate_left
            · show Act.put _ (some 50) _ = _
              simp only [Act.put, List.setIfInBounds_toArray, List.set_cons_zero, List.set_cons_succ]
              rfl
            refine one_ (i := 2) (N := some 47) #[true, true, true, true, true, true, false, false] rfl rfl (by kernel_rfl) (by decide) (fun K hK => ?_)
            refine goes_ Try.func57 (by kernel_rfl) rfl #[.int .u64 (Go.bits .xor .u64 h 4)] (by (first | rfl | (simp only [*]; rfl) | (simp [*]; done))) rfl rfl (by simp [Act.eval]) ?_
            (with_reducible refine (checksum_Mix.calls _ m _ HM1.out).mono ?_)
            rintro e W3 ⟨rfl, hd⟩
            refine ⟨_, rfl, ?_⟩
            have hb := hd.below
            replace hB3 := below_step hB3 hb
            replace hA1 := blk_below hA1 hb
            replace hC5 := Kd.C_below hC5 hb
            refine hK.out _ _ ((blk_cell hA1 2).trans rfl) (fun hHeld => ?_)
            clear hK K
            refine norm_ (a' := ?_) ?_ ?_
            rotate_left
            · show Act.put _ (some 47) _ = _
              simp only [Act.put, List.setIfInBounds_toArray, List.set_cons_zero, List.set_cons_succ]
              rfl
            exact norm_ (by simp only [putAll, Act.put, List.setIfInBounds_toArray, List.set_cons_zero, List.set_cons_succ]) (hCont (.slice A5 (bytesOf x.f2).length c5) _ ⟨hB3, hA1, A5, c5, rfl, hl5, hC5⟩)
        clear hHeld hA1 hB3
        rintro _ W6 ⟨hB3, hA1, A6, c6, rfl, hl6, hC6⟩
        refine norm_ (a' := ?_) ?_ ?_
        rotate_left
        · simp only [putAll, Act.put, List.setIfInBounds_toArray, List.set_cons_zero, List.set_cons_succ]
          rfl
        refine one_ (i := 6) (N := some 51) #[true, true, true, true, true, true, true, false] rfl rfl (by kernel_rfl) (by decide) (fun K hK => ?_)
        refine goes_ Try.func58 (by kernel_rfl) rfl #[.int .u64 m, .slice A6 (bytesOf x.f2).length c6] (by (first | rfl | (simp only [*]; rfl) | (simp [*]; done))) rfl rfl (by simp [Act.eval]) ?_
        (with_reducible refine (checksum_Hash.calls m A6 c6 (bytesOf x.f2) h2 _ hC6 hl6 HV.out).mono ?_)
        rintro e W7 ⟨rfl, hb7⟩
        refine ⟨_, rfl, ?_⟩
        replace hB3 := below_step hB3 hb7
        replace hA1 := blk_below hA1 hb7
        refine hK.out _ _ ((blk_cell hA1 2).trans rfl) (fun hHeld => ?_)
        clear hK K
        refine norm_ (a' := ?_) ?_ ?_
        rotate_left
        · show Act.put _ (some 51) _ = _
          simp only [Act.put, List.setIfInBounds_toArray, List.set_cons_zero, List.set_cons_succ]
          rfl
        refine pure_ (i := 7) (N := some 5) (v := ?_) (a' := ?_) #[true, true, true, true, true, true, true, true] rfl rfl (by kernel_rfl) (fun _ _ _ h => h) (Or.inl ⟨by (first | rfl | (simp only [*]; rfl) | (simp [*]; done)), ?_⟩) ?_ ?_
        rotate_left
        · intro w'
          go_simp
          with_reducible rfl
        rotate_left
        · simp only [Act.put, List.setIfInBounds_toArray, List.set_cons_zero, List.set_cons_succ]
          rfl
        refine done_ (by kernel_rfl) ?_
        try go_wp2
        go_roundw
        case rel => exact ⟨k + 1, h2, by omega, HH, rfl, by simp, hB3⟩
        case measure => simp [intOf]; omega
      rw [if_neg z3] at hv
      have n3 : (x.f0 == 3) = false := by simpa using z3
      have hv2 := Option.some.inj hv
      subst hv2
      try go_wp2
      go_roundw
      case rel => exact ⟨k + 1, _, by omega, HH, rfl, by simp, below_alloc hB _⟩
      case measure => simp [intOf]; omega
    · obtain rfl : k = l1.length := by omega
      have he := hh.out
      rw [List.drop_length] at he
      cases he
      go_wp2
      go_ret
      exact ⟨rfl, hB⟩

end Go.Proofs.Ytjeheopcohnkeaa.QBloomRoundTrip
