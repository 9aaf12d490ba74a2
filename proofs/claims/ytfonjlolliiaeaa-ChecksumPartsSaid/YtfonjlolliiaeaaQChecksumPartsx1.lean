-- Written by a program of this session (wip/pr2.sh): the walk of the Go text, function by function.
import Derived.Test.YtfonjlolliiaeaaQChecksumPartsx0
namespace Go.Proofs.Ytfonjlolliiaeaa.QChecksumParts
open Go.RowKit Go.Proofs.YtfonjlolliiaeaaW.PrintWords Go.Proofs.YtfonjlolliiaeaaW.PrintLast Go.Proofs.YtfonjlolliiaeaaW.PrintMore
open Go.Proofs.YtfonjlolliiaeaaM
attribute [local go_sem] max2_int min2_int max_two min_two max_three min_three max_four min_four   -- for this text's walks alone
set_option linter.unusedVariables false
set_option linter.unusedSimpArgs false

/-! ### checksum_remainders: function 29 -/
theorem Tn_last (k x : Nat) : Tn (k + 1) x = T (Tn k x) := by rw [Tn_add]; rfl
/-- The table of remainders. -/
def tabL : List Int := (List.range 256).map fun i => ((Tn 8 i : Nat) : Int)
def tabA : Array Value := (encs (Value.int .u32) tabL).toArray
def checksum_remainders.f : Option Unit := some ()
theorem tab_get (i : Nat) (h : i < 256) : tabA[i]? = some (.int .u32 ((Tn 8 i : Nat) : Int)) := by
  simp [tabA, tabL, encs, h]
theorem below_row {B g : Nat} {w0 w : World} (hb : Below B w0 w) (hg : B ≤ g) (cs : Array Value) : Below B w0 (w.setRow g cs) :=
  ⟨hb.os, hb.tape, hb.output, by rw [size_setRow]; exact hb.size, fun k hk => (setRow_other w g k cs (by omega)).trans (hb.block k hk)⟩
theorem and_nat32 (a b : Nat) (ha : a < 2 ^ 32) (hb : b < 2 ^ 32) : bits .and .u32 a b = ((a &&& b : Nat) : Int) := by
  have ha' : a % 2 ^ IntKind.u32.bits = a := Nat.mod_eq_of_lt ha
  have hb' : b % 2 ^ IntKind.u32.bits = b := Nat.mod_eq_of_lt hb
  have h : a &&& b < 2 ^ 32 := Nat.and_lt_two_pow a hb
  simp only [bits, BitVec.ofInt_natCast, BitVec.toNat_and, BitVec.toNat_ofNat, ha', hb']
  rw [IntKind.wrap_u32]; omega
theorem and1_32 (r : Nat) (h : r < 2 ^ 32) : bits .and .u32 (r : Int) 1 = ((r % 2 : Nat) : Int) := by
  have := and_nat32 r 1 h (by decide)
  rw [Nat.and_one_is_mod] at this
  exact this
theorem xor_nat32 (a b : Nat) (ha : a < 2 ^ 32) (hb : b < 2 ^ 32) : bits .xor .u32 a b = ((a ^^^ b : Nat) : Int) := by
  have ha' : a % 2 ^ IntKind.u32.bits = a := Nat.mod_eq_of_lt ha
  have hb' : b % 2 ^ IntKind.u32.bits = b := Nat.mod_eq_of_lt hb
  have h : a ^^^ b < 2 ^ 32 := Nat.xor_lt_two_pow ha hb
  simp only [bits, BitVec.ofInt_natCast, BitVec.toNat_xor, BitVec.toNat_ofNat, ha', hb']
  rw [IntKind.wrap_u32]; omega
set_option maxHeartbeats 1000000 in
set_option maxRecDepth 100000 in
theorem checksum_remainders.calls (w : World) :
    Calls Try.prog 29 #[] w fun e w' => e = .returned (.agg tabA) ∧ Below w.heap.size w w' := by
  go_enter Try.func29, Try.ntmps29
  go_wp2_with (first
    | ((with_reducible refine gate_dst (N := 0) rfl ?_); refine box_event ?hg (N := 0) ?hd (cs := Array.replicate 256 (.int .u32 0)) (t := 53) ?hr ?_; (case hd => rfl); (case hg => rfl); (case hr => first | (go_simp; done) | (go_simp; rfl)); intro g0 hg0 w1 hb0 hB0)
    | ((with_reducible refine gate_dst (N := 1) rfl ?_); refine box_event ?hg (N := 1) ?hd (cs := Array.replicate 256 (.int .u32 0)) (t := 53) ?hr ?_; (case hd => rfl); (case hg => rfl); (case hr => first | (go_simp; done) | (go_simp; rfl)); intro g1 hg1 w2 hb1 hB1))
  go_loopw [4] (fun v4 wr => ∃ (i : Nat) (cs : Array Value), i ≤ 256 ∧ v4 = .int .i64 (i : Int) ∧ wr.heap[w.heap.size]? = some (.cells (Array.replicate 256 (.int .u32 0)) 53 (0, 0)) ∧ wr.heap[w1.heap.size]? = some (.cells cs 53 (0, 0)) ∧ Aside0 (cs.size = 256 ∧ (∀ j, j < i → cs[j]? = some (.int .u32 ((Tn 8 j : Nat) : Int))) ∧ ∀ j, j < 256 → ∃ x, cs[j]? = some (.int .u32 x)) ∧ Below w.heap.size w wr) (fun v4 _ => 256 - (intOf v4).toNat)
  case atStart =>
    exact ⟨0, _, by omega, rfl, by rw [← hg0]; exact blk_below hb0 hB1, by rw [← hg1]; exact hb1, ⟨by simp, fun j hj => by omega, fun j hj => ⟨0, by simp [hj]⟩⟩, below_then hB0 hB0.size hB1⟩
  case round =>
    obtain ⟨i, cs, hi, rfl, hT, hS, HC, hB⟩ := hrel
    by_cases hlt : i < 256
    · have hlt' : (i : Int) < 256 := by omega
      have hi32 : i < 4294967296 := by omega
      go_wp2
      go_loopw [3, 9] (fun v3 v9 wq => ∃ (j r : Nat), j ≤ 8 ∧ Aside0 (r = Tn j i) ∧ r < 4294967296 ∧ v3 = .int .u32 (r : Int) ∧ v9 = .int .i64 (j : Int) ∧ wq = wr) (fun _ v9 _ => 8 - (intOf v9).toNat)
      case atStart => exact ⟨0, i, by omega, ⟨rfl⟩, hi32, rfl, rfl, rfl⟩
      case round =>
        obtain ⟨j, r, hj, hr, hr32, rfl, rfl, rfl⟩ := hrel
        by_cases hjl : j < 8
        · have hjl' : (j : Int) < 8 := by omega
          by_cases ho : r % 2 = 1
          · have e1 : bits .and .u32 (r : Int) 1 = 1 := by rw [and1_32 r (by omega), ho]; rfl
            have e2 : bits .xor .u32 ((r : Int) / 2) 2197175160 = ((Tn (j + 1) i : Nat) : Int) := by
              have h3 := xor_nat32 (r / 2) 2197175160 (by omega) (by decide)
              rw [Tn_last, ← hr.out]
              unfold T
              rw [if_pos ho]
              have h4 : (((r / 2 : Nat) : Int)) = (r : Int) / 2 := by omega
              rw [← h4]
              exact h3
            have E2 := Aside0.mk e2
            clear e2
            go_wp2
            refine ⟨⟨j + 1, Tn (j + 1) i, by omega, ⟨rfl⟩, Tn_lt _ _ hi32, by rw [E2.out], by simp, trivial⟩, ?_⟩
            simp [intOf]; omega
          · have e1 : ¬ bits .and .u32 (r : Int) 1 = 1 := by rw [and1_32 r (by omega)]; omega
            go_wp2
            refine ⟨⟨j + 1, Tn (j + 1) i, by omega, ⟨rfl⟩, Tn_lt _ _ hi32, ?_, by simp, trivial⟩, ?_⟩
            · rw [Tn_last, ← hr.out]
              unfold T
              rw [if_neg ho]
              simp
            · simp [intOf]; omega
        · obtain rfl : j = 8 := by omega
          have hb1' := HC.out.2.2 i hlt
          obtain ⟨xo, hxo⟩ := hb1'
          have hcx : wr.cell? ⟨w1.heap.size, i, none⟩ = some (.int .u32 xo) := by rw [blk_cell hS]; exact hxo
          have hfx : wr.frozen? ⟨w1.heap.size, i, none⟩ = false := blk_frozen hS i
          have hi0 : (0 : Int) ≤ (i : Int) := by omega
          have hne : w1.heap.size ≠ w.heap.size := by have := blk_lt hb0; omega
          have ew : IntKind.i64.wrap (i : Int) = (i : Int) := IntWalk.i64_in _ (by omega)
          go_wp2
          go_roundw
          case rel =>
            refine ⟨i + 1, cs.setIfInBounds i (.int .u32 (r : Int)), by omega, by simp, blk_far hT (Ne.symm hne) _, blk_put hS i _ rfl, ⟨by simp [HC.out.1], fun j hj => ?_, fun j hj => ?_⟩, hB.setCell (p := ⟨w1.heap.size, i, none⟩) hB0.size _⟩
            · by_cases e : j = i
              · subst e; rw [Array.getElem?_setIfInBounds_self_of_lt (by have := HC.out.1; omega), hr.out]
              · rw [Array.getElem?_setIfInBounds_ne (Ne.symm e)]; exact HC.out.2.1 j (by omega)
            · by_cases e : j = i
              · subst e; exact ⟨_, Array.getElem?_setIfInBounds_self_of_lt (by have := HC.out.1; omega)⟩
              · rw [Array.getElem?_setIfInBounds_ne (Ne.symm e)]; exact HC.out.2.2 j hj
          case measure => simp [intOf]; omega
    · obtain rfl : i = 256 := by omega
      have hcs : cs = tabA := by
        apply Array.ext_getElem?
        intro j
        by_cases hj : j < 256
        · rw [HC.out.2.1 j hj, tab_get j hj]
        · rw [Array.getElem?_eq_none (by have := HC.out.1; omega), Array.getElem?_eq_none (by simp [tabA, tabL, encs]; omega)]
      subst hcs
      have hsz : tabA.size = 256 := by simp [tabA, tabL, encs]
      have hi : (Try.prog.info? 53).map (·.size) = some 256 := by kernel_rfl
      go_wp2_with (first
        | ((with_reducible refine gate_dst (N := 24) rfl ?_); refine wpList_load_row rfl 53 _ rfl w1.heap.size rfl 53 tabA (0, 0) _ hS Try.underlying53 rfl (by rw [hsz]; exact hi) ?_)
        | (refine wpList_store_row rfl 53 _ _ rfl w.heap.size tabA rfl rfl 53 _ hT (by rw [hsz]; exact hi) (by rw [hsz]; simp) (by decide +kernel) ?_))
      exact bodyPost_ret (results_cell_row rfl _ _ w.heap.size 53 tabA (0, 0) _ rfl (setRow_heap _ _ _ _ _ _ hT) Try.underlying53 rfl (by rw [hsz]; exact hi)) rfl ⟨rfl, below_row hB (Nat.le_refl _) _⟩

/-! ### checksum_advance: function 30 -/
def checksum_advance.f : Option Unit := some ()
theorem tab_step (r : Nat) (x : Nat) (hr : r < 2 ^ 32) (hx : x < 256) : (r / 256) ^^^ Tn 8 ((r ^^^ x) % 256) = Tn 8 (r ^^^ x) := by
  have e : r ^^^ x = ((r ^^^ x) % 256) ^^^ (256 * (r / 256)) := by
    have h1 : r ^^^ x = (r ^^^ x) % 2 ^ 8 + 2 ^ 8 * ((r ^^^ x) / 2 ^ 8) := by omega
    have h2 : (r ^^^ x) / 2 ^ 8 = r / 256 := by
      rw [Nat.xor_div_two_pow, show x / 2 ^ 8 = 0 by omega, Nat.xor_zero]
    conv => lhs; rw [h1]
    rw [h2, add_eq_xor _ _ 8 (Nat.mod_lt _ (by decide))]
  conv => rhs; rw [e]
  rw [Tn_xor, show 256 = 2 ^ 8 by rfl, Tn_shift, Nat.xor_comm]
theorem xor_nat8 (a b : Nat) (ha : a < 2 ^ 8) (hb : b < 2 ^ 8) : bits .xor .u8 a b = ((a ^^^ b : Nat) : Int) := by
  have ha' : a % 2 ^ IntKind.u8.bits = a := Nat.mod_eq_of_lt ha
  have hb' : b % 2 ^ IntKind.u8.bits = b := Nat.mod_eq_of_lt hb
  have h : a ^^^ b < 2 ^ 8 := Nat.xor_lt_two_pow ha hb
  simp only [bits, BitVec.ofInt_natCast, BitVec.toNat_xor, BitVec.toNat_ofNat, ha', hb']
  exact wraps_u8' _ (by omega) (by omega)
theorem crcR_take (r0 : Nat) (l : List Int) (i : Nat) (h : i < l.length) : crcR r0 (l.take (i + 1)) = stp (crcR r0 (l.take i)) (l.getD i 0) := by
  rw [List.take_succ_eq_append_getElem h, crcR_append]
  simp [crcR, List.getD, List.getElem?_eq_getElem h]
set_option maxHeartbeats 1000000 in
set_option maxRecDepth 100000 in
theorem checksum_advance.calls (g : Nat) (A0 : Option Addr) (c0 : Nat) (l : List Int) (r0 : Nat) (w : World) (hT : w.heap[g]? = some (.cells tabA 53 (0, 0))) (hr0 : Kd.C (Kd.int .u8) w A0 l.length l) (hl : ∀ x ∈ l, 0 ≤ x ∧ x < 256) (hr : r0 < 4294967296) :
    Calls Try.prog 30 #[.pointer (some ⟨g, 0, none⟩), .int .u32 (r0 : Int), .slice A0 l.length c0] w fun e w' => e = .returned (.int .u32 ((crcR r0 l : Nat) : Int)) ∧ Drawn0 w w' := by
  have hmx := Kd.C_max hr0
  have HR := Aside0.mk hr0
  have HL := Aside0.mk hl
  clear hr0 hl
  go_enter Try.func30, Try.ntmps30
  go_wp2
  go_loopw [1, 11] (fun v1 v11 wr => ∃ (i r : Nat), i ≤ l.length ∧ Aside0 (r = crcR r0 (l.take i)) ∧ r < 4294967296 ∧ v1 = .int .u32 (r : Int) ∧ v11 = .int .i64 (i : Int) ∧ Drawn0 w wr) (fun _ v11 _ => l.length - (intOf v11).toNat)
  case atStart => exact ⟨0, r0, Nat.zero_le _, ⟨rfl⟩, hr, rfl, rfl, Drawn0.refl _⟩
  case round =>
    obtain ⟨i, r, hi, hrr, hr32, rfl, rfl, ⟨m, rfl⟩⟩ := hrel
    by_cases hlt : i < l.length
    · obtain ⟨ad, rfl, hcx⟩ := Kd.at_int HR.out (i : Int) (by omega) (by omega)
      rw [Int.toNat_natCast, rd_nat] at hcx
      have hx := getD_range HL.out hlt
      obtain ⟨x, hxe⟩ : ∃ x : Nat, l.getD i 0 = (x : Int) := ⟨(l.getD i 0).toNat, by omega⟩
      rw [hxe] at hcx hx
      have hcx' : (w.drewN m).cell? (ad.add i) = some (.int .u8 (x : Int)) := hcx
      have HXE := Aside0.mk hxe
      have hx256 : x < 256 := by omega
      clear hcx hxe hx
      have hlt' : (i : Int) < (l.length : Int) := by omega
      obtain ⟨k, hk⟩ : ∃ k : Nat, k = (r ^^^ x) % 256 := ⟨_, rfl⟩
      have hk256 : k < 256 := by omega
      have e1 : bits .xor .u8 ((r : Int) % 256) (x : Int) = (k : Int) := by
        have h1 := xor_nat8 (r % 256) x (by omega) hx256
        rw [show (r % 256) ^^^ x = k by rw [hk, show 256 = 2 ^ 8 by rfl, Nat.xor_mod_two_pow, Nat.mod_eq_of_lt (show x < 2 ^ 8 by omega)]] at h1
        rw [← h1]; congr 1
      have hck : (w.drewN m).cell? ⟨g, k, none⟩ = some (.int .u32 ((Tn 8 k : Nat) : Int)) := by
        have : (w.drewN m).heap[g]? = some (.cells tabA 53 (0, 0)) := hT
        rw [blk_cell this]; exact tab_get k hk256
      have e2 : bits .xor .u32 ((r : Int) / 256) ((Tn 8 k : Nat) : Int) = ((crcR r0 (l.take (i + 1)) : Nat) : Int) := by
        have h1 := xor_nat32 (r / 256) (Tn 8 k) (by omega) (Tn_lt 8 k (by omega))
        rw [crcR_take r0 l i hlt, ← hrr.out, HXE.out]
        unfold stp
        rw [Int.toNat_natCast, ← tab_step r x (by omega) hx256, ← hk, ← h1]
        congr 1
      have hlt2 : crcR r0 (l.take (i + 1)) < 4294967296 := crcR_lt _ _ (by omega) (fun y hy => HL.out y (List.mem_of_mem_take hy))
      have E2 := Aside0.mk e2
      have HK := Aside0.mk hk
      have hk256' : (k : Int) < 256 := by omega
      have hk0 : (0 : Int) ≤ (k : Int) := by omega
      clear e2 hk
      go_wp2
      refine ⟨⟨i + 1, crcR r0 (l.take (i + 1)), by omega, ⟨rfl⟩, hlt2, by rw [E2.out], by simp, ⟨m, rfl⟩⟩, ?_⟩
      simp [intOf]; omega
    · obtain rfl : i = l.length := by omega
      have hf := hrr.out
      rw [List.take_length] at hf
      have HF := Aside0.mk hf
      clear hf
      go_wp2
      go_ret
      exact ⟨by rw [← HF.out]; rfl, m, rfl⟩

/-! ### checksum_CRC: function 16 -/
/-- What CRC answers, for bytes. -/
def crcF (r : Nat) (ls : List (List Int)) : Nat := ls.foldl crcR r
def checksum_CRC.f (l0 : List (List Int)) : Option Int := if (l0.all fun l => l.all fun x => decide (0 ≤ x) && decide (x < 256)) = true then some ((4294967295 ^^^ crcF 4294967295 l0 : Nat) : Int) else none
theorem crcF_take (r0 : Nat) (ls : List (List Int)) (i : Nat) (h : i < ls.length) : crcF r0 (ls.take (i + 1)) = crcR (crcF r0 (ls.take i)) (ls.getD i []) := by
  unfold crcF
  rw [List.take_succ_eq_append_getElem h, List.foldl_append]
  simp [List.getD, List.getElem?_eq_getElem h]
theorem crcF_lt : ∀ (ls : List (List Int)) (r : Nat), r < 2 ^ 32 → (∀ l ∈ ls, ∀ x ∈ l, 0 ≤ x ∧ x < 256) → crcF r ls < 2 ^ 32 := by
  intro ls
  induction ls with
  | nil => intro r h _; exact h
  | cons l ls ih =>
    intro r h hl
    exact ih _ (crcR_lt l r h (hl l List.mem_cons_self)) (fun x hx => hl x (List.mem_cons_of_mem _ hx))
theorem at_bss {w : World} {A : Option Addr} {n : Nat} {xs : List (List Int)} (h : Kd.C (Kd.slice 5 (Kd.int .u8)) w A n xs) (i : Int) (h0 : 0 ≤ i) (h1 : i < n) : ∃ ad A0 c0, A = some ad ∧ w.cell? (ad.add i.toNat) = some (.slice A0 (xs.getD i.toNat []).length c0) ∧ (xs.getD i.toNat []).length ≤ c0 ∧ (Kd.int .u8).C w A0 (xs.getD i.toNat []).length (xs.getD i.toNat []) := by
  obtain ⟨ad, c, e, _, ⟨A0, c0, hc, hl, hr⟩, hcell⟩ := Kd.C_get h [] i h0 h1
  subst hc
  refine ⟨ad, A0, c0, e, ?_, hl, hr⟩
  have := hcell 0 _ rfl
  simpa [Kd.slice] using this
theorem not32 (r : Nat) (h : r < 2 ^ 32) : bits .xor .u32 4294967295 (r : Int) = ((4294967295 ^^^ r : Nat) : Int) := xor_nat32 4294967295 r (by decide) h
set_option maxHeartbeats 1000000 in
set_option maxRecDepth 100000 in
theorem checksum_CRC.calls (A0 : Option Addr) (c0 : Nat) (l0 : List (List Int)) (r : Int) (w : World) (hr0 : Kd.C (Kd.slice 5 (Kd.int .u8)) w A0 l0.length l0) (hc0 : l0.length ≤ c0) (h : checksum_CRC.f l0 = some r) :
    Calls Try.prog 16 #[.slice A0 l0.length c0] w fun e w' => e = .returned (.int .u32 r) ∧ Below w.heap.size w w' := by
  have hmx := Kd.C_max hr0
  unfold checksum_CRC.f at h
  split at h
  case isFalse => cases h
  case isTrue hok =>
  obtain rfl := Option.some.inj h
  have hl : ∀ l ∈ l0, ∀ x ∈ l, 0 ≤ x ∧ x < 256 := by
    simpa only [List.all_eq_true, Bool.and_eq_true, decide_eq_true_eq] using hok
  have HR := Aside0.mk hr0
  have HL := Aside0.mk hl
  have hsz : tabA.size = 256 := by simp [tabA, tabL, encs]
  have HZ := Aside0.mk hsz
  clear hr0 hl hok h hsz
  go_enter Try.func16, Try.ntmps16
  go_wp2_with (first
    | (go_at_call 29; refine (checksum_remainders.calls _).mono ?_; rintro e w1 ⟨rfl, hB1⟩; have HB1 := Aside0.mk hB1; clear hB1)
    | ((with_reducible refine gate_dst (N := 3) rfl ?_); refine box_event ?hg (N := 3) ?hd (cs := Array.replicate 256 (.int .u32 0)) (t := 53) ?hr ?_; (case hd => rfl); (case hg => rfl); (case hr => first | (go_simp; done) | (go_simp; rfl)); intro g0 hg0 w2 hb0 hB0)
    | (refine wpList_store_row rfl 53 _ _ rfl g0 tabA (by first | rfl | (rw [hg0]; rfl)) rfl 53 _ hb0 (by rw [HZ.out]; kernel_rfl) (by rw [HZ.out]; simp) (by decide +kernel) ?_))
  obtain ⟨w3, hw3⟩ : ∃ w3, w3 = w2.setRow w1.heap.size tabA := ⟨_, rfl⟩
  rw [← hw3]
  subst hg0
  have k3 : Aside0 (w3.heap[w1.heap.size]? = some (.cells tabA 53 (0, 0))) := ⟨by rw [hw3]; exact setRow_heap _ _ _ _ _ _ hb0⟩
  have B3 : Aside0 (Below w.heap.size w w3) := ⟨by rw [hw3]; exact below_row (below_then HB1.out HB1.out.size hB0) HB1.out.size _⟩
  have C3 : Aside0 (Kd.C (Kd.slice 5 (Kd.int .u8)) w3 A0 l0.length l0) := ⟨Kd.C_below HR.out B3.out⟩
  clear hw3 hb0 hB0
  go_loopw [4, 10] (fun v4 v10 wr => ∃ (i r : Nat), i ≤ l0.length ∧ Aside0 (r = crcF 4294967295 (l0.take i)) ∧ r < 4294967296 ∧ v4 = .int .u32 (r : Int) ∧ v10 = .int .i64 (i : Int) ∧ Drawn0 w3 wr) (fun _ v10 _ => l0.length - (intOf v10).toNat)
  case atStart => exact ⟨0, 4294967295, Nat.zero_le _, ⟨rfl⟩, by decide, rfl, rfl, Drawn0.refl _⟩
  case round =>
    obtain ⟨i, r, hi, hrr, hr32, rfl, rfl, ⟨m, rfl⟩⟩ := hrel
    by_cases hlt : i < l0.length
    · obtain ⟨ad, A1, c1, rfl, hcx, hc1, hr1⟩ := at_bss C3.out (i : Int) (by omega) (by omega)
      rw [Int.toNat_natCast] at hcx hc1 hr1
      obtain ⟨b, hb⟩ : ∃ b, b = l0.getD i [] := ⟨_, rfl⟩
      rw [← hb] at hcx hc1 hr1
      have hbb : ∀ x ∈ b, 0 ≤ x ∧ x < 256 := by
        have h1 : l0.getD i [] ∈ l0 := by rw [List.getD_eq_getElem?_getD, List.getElem?_eq_getElem hlt]; exact List.getElem_mem _
        rw [hb]; exact HL.out _ h1
      have HBB := Aside0.mk hbb
      have HBE := Aside0.mk hb
      have HR1 := Aside0.mk hr1
      have hcx' : (w3.drewN m).cell? (ad.add i) = some (.slice A1 b.length c1) := hcx
      clear hbb hb hr1 hcx
      have hlt' : (i : Int) < (l0.length : Int) := by omega
      go_wp2_with (go_at_call 30; go_loud (refine (checksum_advance.calls w1.heap.size A1 c1 b r (w3.drewN m) k3.out (Kd.C_drewN HR1.out _) HBB.out hr32).mono ?_; rintro e w4 ⟨rfl, ⟨m2, rfl⟩⟩))
      have e1 : crcF 4294967295 (l0.take (i + 1)) = crcR r b := by rw [crcF_take _ _ _ hlt, ← hrr.out, ← HBE.out]
      refine ⟨⟨i + 1, crcR r b, by omega, ⟨e1.symm⟩, crcR_lt _ _ (by omega) HBB.out, by simp, by simp, ⟨m + m2, rfl⟩⟩, ?_⟩
      simp [intOf]; omega
    · obtain rfl : i = l0.length := by omega
      have hf := hrr.out
      rw [List.take_length] at hf
      have e1 := not32 r (by omega)
      have HF := Aside0.mk hf
      clear hf
      go_wp2
      go_ret
      exact ⟨by rw [← HF.out, ← e1]; rfl, pw_below_drewN B3.out _⟩

/-! ### varint_ReadFixed: function 25 -/
mutual
def varint_ReadFixed.j0 : Nat → List Int → Int → Int → Bool → Option (Int × Int)
 | 0, _, _, _, _ => none
 | k + 1, x0, x1, x2, x25 => if x25 = true then (some (0, 1)) else (if (wrap64 ((x0.length : Int) - x1)) < x2 then (some (0, 2)) else (varint_ReadFixed.l0 k x0 x1 0 x2 0))
def varint_ReadFixed.l0 : Nat → List Int → Int → Int → Int → Int → Option (Int × Int)
 | 0, _, _, _, _, _ => none
 | k + 1, x0, x1, x8, x32, x33 => if x33 < x32 then (if 0 ≤ (wrap64 (x1 + x33)) then (if (wrap64 (x1 + x33)) < (x0.length : Int) then (if 0 ≤ (wrap64 (8 * x33)) then (varint_ReadFixed.l0 k x0 x1 (Go.bits .or .u64 x8 (shl .u64 (IntKind.u64.wrap (rd x0 (wrap64 (x1 + x33)))) (wrap64 (8 * x33)))) x32 (wrap64 (x33 + 1))) else (none)) else (none)) else (none)) else (some (x8, 0))
end
def varint_ReadFixed.f (k : Nat) (l0 : List Int) (a1 : Int) (a2 : Int) : Option (Int × Int) := if a2 < 1 then (varint_ReadFixed.j0 k l0 a1 a2 true) else (if a2 > 8 then (varint_ReadFixed.j0 k l0 a1 a2 true) else (if a1 < 0 then (varint_ReadFixed.j0 k l0 a1 a2 true) else (varint_ReadFixed.j0 k l0 a1 a2 (decide (a1 > (l0.length : Int))))))
theorem varint_ReadFixed.mono_l : ∀ k, (∀ y0 y1 y2 y3, LeO (varint_ReadFixed.j0 k y0 y1 y2 y3) (varint_ReadFixed.j0 (k + 1) y0 y1 y2 y3)) ∧ (∀ y0 y1 y2 y3 y4, LeO (varint_ReadFixed.l0 k y0 y1 y2 y3 y4) (varint_ReadFixed.l0 (k + 1) y0 y1 y2 y3 y4))
 | 0 => ⟨fun _ _ _ _ r h => by simp [varint_ReadFixed.j0] at h, fun _ _ _ _ _ r h => by simp [varint_ReadFixed.l0] at h⟩
 | k + 1 => by
  obtain ⟨ih0, ih1⟩ := varint_ReadFixed.mono_l k
  refine ⟨?_, ?_⟩
  ·intro y0 y1 y2 y3
   unfold varint_ReadFixed.j0
   repeat' first
   | (with_reducible exact ih0 _ _ _ _)
   | (with_reducible exact ih1 _ _ _ _ _)
   | (with_reducible exact LeO.refl _)
   | (with_reducible exact LeO.none _)
   | (with_reducible refine LeO.ite ?_ ?_)
   | (with_reducible refine LeO.bind ?_ (fun _ => ?_))
   | exact ih0 _ _ _ _
   | exact ih1 _ _ _ _ _
   | exact LeO.none _
   | refine LeO.ite ?_ ?_
   | refine LeO.bind ?_ (fun _ => ?_)
  ·intro y0 y1 y2 y3 y4
   unfold varint_ReadFixed.l0
   repeat' first
   | (with_reducible exact ih0 _ _ _ _)
   | (with_reducible exact ih1 _ _ _ _ _)
   | (with_reducible exact LeO.refl _)
   | (with_reducible exact LeO.none _)
   | (with_reducible refine LeO.ite ?_ ?_)
   | (with_reducible refine LeO.bind ?_ (fun _ => ?_))
   | exact ih0 _ _ _ _
   | exact ih1 _ _ _ _ _
   | exact LeO.none _
   | refine LeO.ite ?_ ?_
   | refine LeO.bind ?_ (fun _ => ?_)
theorem varint_ReadFixed.mono : ∀ a0 a1 a2 k, LeO (varint_ReadFixed.f k a0 a1 a2) (varint_ReadFixed.f (k + 1) a0 a1 a2) := by
 intro a0 a1 a2 k
 obtain ⟨ih0, ih1⟩ := varint_ReadFixed.mono_l k
 unfold varint_ReadFixed.f
 repeat' first
   | (with_reducible exact ih0 _ _ _ _)
   | (with_reducible exact ih1 _ _ _ _ _)
   | (with_reducible exact LeO.refl _)
   | (with_reducible exact LeO.none _)
   | (with_reducible refine LeO.ite ?_ ?_)
   | (with_reducible refine LeO.bind ?_ (fun _ => ?_))
   | exact ih0 _ _ _ _
   | exact ih1 _ _ _ _ _
   | exact LeO.none _
   | refine LeO.ite ?_ ?_
   | refine LeO.bind ?_ (fun _ => ?_)
set_option maxHeartbeats 8000000 in
set_option maxRecDepth 100000 in
theorem varint_ReadFixed.calls (k : Nat) (A0 : Option Addr) (c0 : Nat) (l0 : List Int) (a1 : Int) (a2 : Int) (r1 : Int) (r2 : Int) (w : World) (hr0 : Kd.C (Kd.int .u8) w A0 l0.length l0) (hc0 : l0.length ≤ c0) (h : varint_ReadFixed.f k l0 a1 a2 = some (r1, r2)) :
  Calls Try.prog 25 #[.slice A0 l0.length c0, .int .i64 a1, .int .i64 a2] w fun e w' => e = .returned (.tuple #[.int .u64 r1, .int .i64 r2]) ∧ Drawn0 w w' := by
 have HR0 := Aside0.mk hr0
 have HC0 := Aside0.mk hc0
 clear hr0 hc0
 have H : (if a2 < 1 then (varint_ReadFixed.j0 k l0 a1 a2 true) else (if a2 > 8 then (varint_ReadFixed.j0 k l0 a1 a2 true) else (if a1 < 0 then (varint_ReadFixed.j0 k l0 a1 a2 true) else (varint_ReadFixed.j0 k l0 a1 a2 (decide (a1 > (l0.length : Int))))))) = some (r1, r2) := h
 clear h
 have HC4 := Aside0.mk H
 clear H
 go_enter Try.func25, Try.ntmps25
 go_upto_region 1 with (fail)
 go_cut [25] (fun v25 wc => ∃ (kq : Nat) (x25_3 : Bool), v25 = .bool x25_3 ∧ Aside0 (varint_ReadFixed.j0 kq l0 a1 a2 x25_3 = some (r1, r2)) ∧ Aside0 (kq ≤ k) ∧ Drawn0 w wc)
 case first =>
  have H := HC4.out
  clear HC4
  by_cases c5 : a2 < 1
  ·rw [if_pos c5] at H
   have c5b0 : decide (a2 < 1) = true := decide_eq_true c5
   clear c5
   (first | rw [c5b0] | (simp only [i64_w, i32_w]; rw [c5b0]) | skip)
   have H' := Aside0.mk H
   clear H
   go_wp2
   go_meet
   case rel => exact ⟨_, (true), (by first | rfl | (simp; done) | (simp [*]; done)), H', ⟨by first | omega | exact Nat.le_refl _⟩, by repeat (first | exact Drawn0.refl _ | apply Drawn0.step)⟩
  ·rw [if_neg c5] at H
   have c5b0 : decide (a2 < 1) = false := decide_eq_false c5
   clear c5
   (first | rw [c5b0] | (simp only [i64_w, i32_w]; rw [c5b0]) | skip)
   by_cases c6 : a2 > 8
   ·rw [if_pos c6] at H
    have c6b0 : decide (8 < a2) = true := decide_eq_true c6
    clear c6
    have H' := Aside0.mk H
    clear H
    go_wp2
    go_meet
    case rel => exact ⟨_, (true), (by first | rfl | (simp; done) | (simp [*]; done)), H', ⟨by first | omega | exact Nat.le_refl _⟩, by repeat (first | exact Drawn0.refl _ | apply Drawn0.step)⟩
   ·rw [if_neg c6] at H
    have c6b0 : decide (8 < a2) = false := decide_eq_false c6
    clear c6
    by_cases c7 : a1 < 0
    ·rw [if_pos c7] at H
     have c7b0 : decide (a1 < 0) = true := decide_eq_true c7
     clear c7
     have H' := Aside0.mk H
     clear H
     go_wp2
     go_meet
     case rel => exact ⟨_, (true), (by first | rfl | (simp; done) | (simp [*]; done)), H', ⟨by first | omega | exact Nat.le_refl _⟩, by repeat (first | exact Drawn0.refl _ | apply Drawn0.step)⟩
    ·rw [if_neg c7] at H
     have c7b0 : decide (a1 < 0) = false := decide_eq_false c7
     clear c7
     have H' := Aside0.mk H
     clear H
     go_wp2
     go_meet
     case rel => exact ⟨_, (decide (a1 > (l0.length : Int))), (by first | rfl | (simp; done) | (simp [*]; done)), H', ⟨by first | omega | exact Nat.le_refl _⟩, by repeat (first | exact Drawn0.refl _ | apply Drawn0.step)⟩
 case rest =>
  clear HC4
  try clear c2
  try clear p2
  try clear c5
  try clear c5b0
  try clear c6
  try clear c6b0
  try clear c7
  try clear c7b0
  obtain ⟨kq, x25_3, rfl, HA, HJ3, ⟨mc3, rfl⟩⟩ := hcut
  cases kq with
  | zero => exact absurd HA.out (by simp [varint_ReadFixed.j0])
  | succ kj3 =>
   have H := HA.out
   clear HA
   simp only [varint_ReadFixed.j0] at H
   by_cases c8 : x25_3 = true
   ·subst c8
    have H1 : (some (0, 1)) = some (r1, r2) := by rw [if_pos rfl] at H; exact H
    clear H
    have H := H1
    clear H1
    simp only [Option.some.injEq, Prod.mk.injEq] at H
    obtain ⟨rfl, rfl⟩ := H
    go_wp2
    go_ret2
    exact ⟨by first | rfl | (simp; done) | (simp [*]; done), by repeat (first | exact Drawn0.refl _ | apply Drawn0.step)⟩
   ·replace c8 := Bool.eq_false_iff.mpr c8
    subst c8
    have H1 : (if (wrap64 ((l0.length : Int) - a1)) < a2 then (some (0, 2)) else (varint_ReadFixed.l0 kj3 l0 a1 0 a2 0)) = some (r1, r2) := by rw [if_neg (show ¬ (false = true) by decide)] at H; exact H
    clear H
    have H := H1
    clear H1
    by_cases c9 : (wrap64 ((l0.length : Int) - a1)) < a2
    ·rw [if_pos c9] at H
     have c9b0 : decide ((wrap64 ((l0.length : Int) - a1)) < a2) = true := decide_eq_true c9
     clear c9
     simp only [Option.some.injEq, Prod.mk.injEq] at H
     obtain ⟨rfl, rfl⟩ := H
     go_wp2
     go_ret2
     exact ⟨by first | rfl | (simp; done) | (simp [*]; done), by repeat (first | exact Drawn0.refl _ | apply Drawn0.step)⟩
    ·rw [if_neg c9] at H
     have c9b0 : decide ((wrap64 ((l0.length : Int) - a1)) < a2) = false := decide_eq_false c9
     clear c9
     have H' := Aside0.mk H
     clear H
     go_wp2
     go_loopg [8, 33] kj3 (fun kq v8 v33 w' => ∃ (x8_2 : Int) (x33_2 : Int), v8 = .int .u64 x8_2 ∧ v33 = .int .i64 x33_2 ∧ Aside0 (varint_ReadFixed.l0 kq l0 a1 x8_2 a2 x33_2 = some (r1, r2)) ∧ Aside0 (kq ≤ kj3) ∧ Drawn0 w w')
     case atStart => exact ⟨(0), (0), (by first | rfl | (simp; done) | (simp [*]; done)), (by first | rfl | (simp; done) | (simp [*]; done)), H', ⟨Nat.le_refl _⟩, by repeat (first | exact Drawn0.refl _ | apply Drawn0.step)⟩
     case round =>
      clear H'
      try clear c2
      try clear p2
      try clear c3
      try clear c5
      try clear c5b0
      try clear c6
      try clear c6b0
      try clear p6
      try clear c7
      try clear c7b0
      try clear c8
      try clear c9
      try clear c9b0
      try clear p2
      obtain ⟨x8_2, x33_2, rfl, rfl, HA, HK2, ⟨m2, rfl⟩⟩ := hrel
      cases gk with
      | zero => exact absurd HA.out (by simp [varint_ReadFixed.l0])
      | succ k2 =>
       have H := HA.out
       clear HA
       simp only [varint_ReadFixed.l0] at H
       by_cases c10 : x33_2 < a2
       ·rw [if_pos c10] at H
        have c10b0 : decide (x33_2 < a2) = true := decide_eq_true c10
        clear c10
        obtain ⟨ji11, hji11⟩ : ∃ j_ : Int, (wrap64 (a1 + x33_2)) = j_ := ⟨_, rfl⟩
        replace H : (if 0 ≤ (ji11) then (if (ji11) < (l0.length : Int) then (if 0 ≤ (wrap64 (8 * x33_2)) then (varint_ReadFixed.l0 k2 l0 a1 (Go.bits .or .u64 x8_2 (shl .u64 (IntKind.u64.wrap (rd l0 (ji11))) (wrap64 (8 * x33_2)))) a2 (wrap64 (x33_2 + 1))) else (none)) else (none)) else (none)) = some (r1, r2) := by first | (rw [hji11] at H; exact H) | (simp only [hji11] at H ⊢; exact H)
        have hji11w : (IntKind.i64.wrap (a1 + x33_2)) = ji11 := (i64_w _).trans hji11
        by_cases c12 : 0 ≤ (ji11)
        ·rw [if_pos c12] at H
         have c12b0 : decide (0 ≤ (ji11)) = true := decide_eq_true c12
         clear c12
         by_cases c13 : (ji11) < (l0.length : Int)
         ·rw [if_pos c13] at H
          have c13b0 : decide ((ji11) < (l0.length : Int)) = true := decide_eq_true c13
          clear c13
          obtain ⟨ji14, hji14⟩ : ∃ j_ : Int, (wrap64 (8 * x33_2)) = j_ := ⟨_, rfl⟩
          replace H : (if 0 ≤ (ji14) then (varint_ReadFixed.l0 k2 l0 a1 (Go.bits .or .u64 x8_2 (shl .u64 (IntKind.u64.wrap (rd l0 (ji11))) (ji14))) a2 (wrap64 (x33_2 + 1))) else (none)) = some (r1, r2) := by first | (rw [hji14] at H; exact H) | (simp only [hji14] at H ⊢; exact H)
          have hji14w : (IntKind.i64.wrap (8 * x33_2)) = ji14 := (i64_w _).trans hji14
          by_cases c15 : 0 ≤ (ji14)
          ·rw [if_pos c15] at H
           have c15b0 := eq_true c15
           have c15b1 : decide (0 ≤ (ji14)) = true := decide_eq_true c15
           clear c15
           obtain ⟨ji16, hji16⟩ : ∃ j_ : Int, (shl .u64 (IntKind.u64.wrap (rd l0 (ji11))) (ji14)) = j_ := ⟨_, rfl⟩
           replace H : (varint_ReadFixed.l0 k2 l0 a1 (Go.bits .or .u64 x8_2 (ji16)) a2 (wrap64 (x33_2 + 1))) = some (r1, r2) := by first | (rw [hji16] at H; exact H) | (simp only [hji16] at H ⊢; exact H)
           have hji16_ : (IntKind.u64.wrap ((IntKind.u64.wrap (rd l0 (ji11))) * 2 ^ min (ji14).toNat 64)) = ji16 := hji16
           have hji16z : (ji14) ≤ 64 → (IntKind.u64.wrap ((IntKind.u64.wrap (rd l0 (ji11))) * 2 ^ (ji14).toNat)) = ji16 := shl_small hji16
           have H' := Aside0.mk H
           clear H
           have p101 : 0 ≤ ((ji11) : Int) := of_decide_eq_true (by first | (with_reducible assumption) | assumption)
           have q101 : (ji11) < (l0.length : Int) := of_decide_eq_true (by first | (with_reducible assumption) | assumption)
           obtain ⟨ad101, e101, hx101_0⟩ := Kd.at_int HR0.out (ji11) p101 q101
           cases e101
           replace p101 := eq_true p101
           replace q101 := eq_true q101
           go_wp2
           go_roundg k2
           case measure => have := HJ3.out; have := HK2.out; omega
           case rel => exact ⟨(Go.bits .or .u64 x8_2 (ji16)), (wrap64 (x33_2 + 1)), (by first | rfl | (simp; done) | (simp only [← hji16] <;> (first | rfl | simp)) | (simp [*]; done)), (by first | rfl | (simp; done) | (simp [*]; done)), H', ⟨by have := HJ3.out; have := HK2.out; omega⟩, by repeat (first | exact Drawn0.refl _ | apply Drawn0.step)⟩
          ·rw [if_neg c15] at H
           exact absurd H (by simp)
         ·rw [if_neg c13] at H
          exact absurd H (by simp)
        ·rw [if_neg c12] at H
         exact absurd H (by simp)
       ·rw [if_neg c10] at H
        have c10b0 : decide (x33_2 < a2) = false := decide_eq_false c10
        clear c10
        simp only [Option.some.injEq, Prod.mk.injEq] at H
        obtain ⟨rfl, rfl⟩ := H
        go_wp2
        go_ret2
        exact ⟨by first | rfl | (simp; done) | (simp [*]; done), by repeat (first | exact Drawn0.refl _ | apply Drawn0.step)⟩

/-! ### checksum_Open: function 10 -/
def checksum_Open.f (k : Nat) (l0 : List Int) : Option (List Int × Int) := if (wrap64 ((l0.length : Int) - 4)) < 0 then (some (([] : List Int), 2)) else ((varint_ReadFixed.f k l0 (wrap64 ((l0.length : Int) - 4)) 4).bind fun bt102 => (if bt102.2 = 0 then (if 0 ≤ (wrap64 ((l0.length : Int) - 4)) then (if (wrap64 ((l0.length : Int) - 4)) ≤ (l0.length : Int) then ((checksum_CRC.f (([(l0.take ((wrap64 ((l0.length : Int) - 4)) : Int).toNat)] : List (List Int)))).bind fun t112 => (if (IntKind.u64.wrap (t112)) = bt102.1 then ((some (l0.take ((wrap64 ((l0.length : Int) - 4)) : Int).toNat : List Int)).bind fun y113 => (if ([] : List Int).length + y113.length < 140737488355328 then (some ((([] : List Int) ++ y113), 0)) else (none))) else (some (([] : List Int), 5)))) else (none)) else (none)) else (some (([] : List Int), bt102.2))))
theorem checksum_Open.mono : ∀ a0 k, LeO (checksum_Open.f k a0) (checksum_Open.f (k + 1) a0) := by
 intro a0 k
 unfold checksum_Open.f
 repeat' first
   | (with_reducible exact varint_ReadFixed.mono _ _ _ _)
   | (with_reducible exact LeO.refl _)
   | (with_reducible exact LeO.none _)
   | (with_reducible refine LeO.ite ?_ ?_)
   | (with_reducible refine LeO.bind ?_ (fun _ => ?_))
   | exact varint_ReadFixed.mono _ _ _ _
   | exact LeO.none _
   | refine LeO.ite ?_ ?_
   | refine LeO.bind ?_ (fun _ => ?_)
set_option maxHeartbeats 8000000 in
set_option maxRecDepth 100000 in
theorem checksum_Open.calls (k : Nat) (P0_ : Nat → Prop) (A0 : Option Addr) (c0 : Nat) (l0 : List Int) (r1 : List Int) (r2 : Int) (w : World) (hs0 : Kd.V (Kd.int .u8) 5 w w.heap.size (fun k_ => P0_ k_) (.slice A0 l0.length c0) l0) (h : checksum_Open.f k l0 = some (r1, r2)) :
  Calls Try.prog 10 #[.slice A0 l0.length c0] w fun e w' => ∃ v0_ : Value, e = .returned (.tuple #[v0_, .int .i64 r2]) ∧ Kd.R (Kd.int .u8) 5 w' w.heap.size (fun k_ => (w.heap.size ≤ k_)) v0_ r1 ∧ Below w.heap.size w w' := by
 have HO0 := Aside0.mk (show Kd.V (Kd.int .u8) 5 w w.heap.size (fun k_ => (P0_ k_ ∨ w.heap.size ≤ k_)) (.slice A0 l0.length c0) l0 from Kd.V_mono hs0 (fun k_ hk => .inl hk))
 have HB := Aside0.mk (Below.refl w.heap.size w)
 have H : (if (wrap64 ((l0.length : Int) - 4)) < 0 then (some (([] : List Int), 2)) else ((varint_ReadFixed.f k l0 (wrap64 ((l0.length : Int) - 4)) 4).bind fun bt102 => (if bt102.2 = 0 then (if 0 ≤ (wrap64 ((l0.length : Int) - 4)) then (if (wrap64 ((l0.length : Int) - 4)) ≤ (l0.length : Int) then ((checksum_CRC.f (([(l0.take ((wrap64 ((l0.length : Int) - 4)) : Int).toNat)] : List (List Int)))).bind fun t112 => (if (IntKind.u64.wrap (t112)) = bt102.1 then ((some (l0.take ((wrap64 ((l0.length : Int) - 4)) : Int).toNat : List Int)).bind fun y113 => (if ([] : List Int).length + y113.length < 140737488355328 then (some ((([] : List Int) ++ y113), 0)) else (none))) else (some (([] : List Int), 5)))) else (none)) else (none)) else (some (([] : List Int), bt102.2))))) = some (r1, r2) := h
 clear h
 by_cases c2 : (wrap64 ((l0.length : Int) - 4)) < 0
 ·rw [if_pos c2] at H
  have c2b0 : decide ((wrap64 ((l0.length : Int) - 4)) < 0) = true := decide_eq_true c2
  clear c2
  simp only [Option.some.injEq, Prod.mk.injEq] at H
  obtain ⟨rfl, rfl⟩ := H
  go_enter Try.func10, Try.ntmps10
  go_wp2
  go_ret2
  exact ⟨_, by first | rfl | (simp [errW_none, errW_some] <;> rfl) | (simp [*, errW_none, errW_some] <;> rfl), by first | exact Kd.R_nil _ _ _ _ _ | exact Kd.N_nil _ _ _ _ _ | exact Kd.V_nil _ _ _ _ _ | exact Kd.Q_nil _ _ _ _ _ | exact Kd.S_nil _ _ _ _ _, by repeat (first | (with_reducible first | exact HB.out | apply below_alloc | apply pw_below_drewN | apply below_drew1) | exact HB.out)⟩
 ·rw [if_neg c2] at H
  have c2b0 : decide ((wrap64 ((l0.length : Int) - 4)) < 0) = false := decide_eq_false c2
  clear c2
  replace H := Option.bind_eq_some_iff.mp H
  obtain ⟨⟨t102, t103⟩, A30, H⟩ := H
  replace H : (if t103 = 0 then (if 0 ≤ (wrap64 ((l0.length : Int) - 4)) then (if (wrap64 ((l0.length : Int) - 4)) ≤ (l0.length : Int) then ((checksum_CRC.f (([(l0.take ((wrap64 ((l0.length : Int) - 4)) : Int).toNat)] : List (List Int)))).bind fun t112 => (if (IntKind.u64.wrap (t112)) = t102 then ((some (l0.take ((wrap64 ((l0.length : Int) - 4)) : Int).toNat : List Int)).bind fun y113 => (if ([] : List Int).length + y113.length < 140737488355328 then (some ((([] : List Int) ++ y113), 0)) else (none))) else (some (([] : List Int), 5)))) else (none)) else (none)) else (some (([] : List Int), t103))) = some (r1, r2) := H
  have A3 := Aside0.mk A30
  clear A30
  by_cases c4 : t103 = 0
  ·rw [if_pos c4] at H
   have c4b0 : (t103 == 0) = true := beq_iff_eq.mpr c4
   have c4b1 : (t103 != 0) = false := bne_eq_false_iff_eq.mpr c4
   clear c4
   obtain ⟨ji5, hji5⟩ : ∃ j_ : Int, (wrap64 ((l0.length : Int) - 4)) = j_ := ⟨_, rfl⟩
   replace H : (if 0 ≤ (ji5) then (if (ji5) ≤ (l0.length : Int) then ((checksum_CRC.f (([(l0.take ((ji5) : Int).toNat)] : List (List Int)))).bind fun t112 => (if (IntKind.u64.wrap (t112)) = t102 then ((some (l0.take ((ji5) : Int).toNat : List Int)).bind fun y113 => (if ([] : List Int).length + y113.length < 140737488355328 then (some ((([] : List Int) ++ y113), 0)) else (none))) else (some (([] : List Int), 5)))) else (none)) else (none)) = some (r1, r2) := by first | (rw [hji5] at H; exact H) | (simp only [hji5] at H ⊢; exact H)
   (try rw [hji5] at c2b0)
   (try rw [hji5] at A3)
   have hji5w : (IntKind.i64.wrap ((l0.length : Int) - 4)) = ji5 := (i64_w _).trans hji5
   by_cases c6 : 0 ≤ (ji5)
   ·rw [if_pos c6] at H
    have c6b0 := eq_true c6
    have c6b1 : decide (0 ≤ (ji5)) = true := decide_eq_true c6
    clear c6
    by_cases c7 : (ji5) ≤ (l0.length : Int)
    ·rw [if_pos c7] at H
     have c7b0 := eq_true c7
     have c7b1 : decide ((ji5) ≤ (l0.length : Int)) = true := decide_eq_true c7
     clear c7
     obtain ⟨y104, hy104⟩ : ∃ y_ : List Int, y_ = (l0.take ((ji5) : Int).toNat) := ⟨_, rfl⟩
     replace H : ((checksum_CRC.f (([y104] : List (List Int)))).bind fun t112 => (if (IntKind.u64.wrap (t112)) = t102 then ((some (l0.take ((ji5) : Int).toNat : List Int)).bind fun y113 => (if ([] : List Int).length + y113.length < 140737488355328 then (some ((([] : List Int) ++ y113), 0)) else (none))) else (some (([] : List Int), 5)))) = some (r1, r2) := by first | (rw [hy104]; with_reducible exact H) | (have H2_ := (Option.bind_some _ _).symm.trans H; rw [hy104]; with_reducible exact H2_) | (have H2_ := (Option.bind_some _ _).symm.trans H; with_reducible exact H2_) | with_reducible exact H | (rw [hy104]; exact H) | exact H
     have Ny104 := Aside0.mk hy104
     clear hy104
     obtain ⟨y109, hy109⟩ : ∃ y_ : List (List Int), y_ = (([y104] : List (List Int))) := ⟨_, rfl⟩
     replace H : ((checksum_CRC.f y109).bind fun t112 => (if (IntKind.u64.wrap (t112)) = t102 then ((some (l0.take ((ji5) : Int).toNat : List Int)).bind fun y113 => (if ([] : List Int).length + y113.length < 140737488355328 then (some ((([] : List Int) ++ y113), 0)) else (none))) else (some (([] : List Int), 5)))) = some (r1, r2) := by first | (rw [hy109]; with_reducible exact H) | (have H2_ := (Option.bind_some _ _).symm.trans H; rw [hy109]; with_reducible exact H2_) | (have H2_ := (Option.bind_some _ _).symm.trans H; with_reducible exact H2_) | with_reducible exact H | (rw [hy109]; exact H) | exact H
     have Ny109 := Aside0.mk hy109
     clear hy109
     replace H := Option.bind_eq_some_iff.mp H
     obtain ⟨t112, A80, H⟩ := H
     replace H : (if (IntKind.u64.wrap (t112)) = t102 then ((some (l0.take ((ji5) : Int).toNat : List Int)).bind fun y113 => (if ([] : List Int).length + y113.length < 140737488355328 then (some ((([] : List Int) ++ y113), 0)) else (none))) else (some (([] : List Int), 5))) = some (r1, r2) := H
     have A8 := Aside0.mk A80
     clear A80
     by_cases c9 : (IntKind.u64.wrap (t112)) = t102
     ·rw [if_pos c9] at H
      have c9b0 : ((IntKind.u64.wrap (t112)) == t102) = true := beq_iff_eq.mpr c9
      have c9b1 : ((IntKind.u64.wrap (t112)) != t102) = false := bne_eq_false_iff_eq.mpr c9
      clear c9
      have c10b0 := eq_true (of_decide_eq_true (by first | (with_reducible assumption) | assumption) : 0 ≤ (ji5))
      have c11b0 := eq_true (of_decide_eq_true (by first | (with_reducible assumption) | assumption) : (ji5) ≤ (l0.length : Int))
      obtain ⟨y113, hy113⟩ : ∃ y_ : List Int, y_ = (l0.take ((ji5) : Int).toNat) := ⟨_, rfl⟩
      replace H : (if ([] : List Int).length + y113.length < 140737488355328 then (some ((([] : List Int) ++ y113), 0)) else (none)) = some (r1, r2) := by first | (rw [hy113]; with_reducible exact H) | (have H2_ := (Option.bind_some _ _).symm.trans H; rw [hy113]; with_reducible exact H2_) | (have H2_ := (Option.bind_some _ _).symm.trans H; with_reducible exact H2_) | with_reducible exact H | (rw [hy113]; exact H) | exact H
      have Ny113 := Aside0.mk hy113
      clear hy113
      by_cases c12 : ([] : List Int).length + y113.length < 140737488355328
      ·rw [if_pos c12] at H
       have LMc12 := Aside0.mk c12
       clear c12
       obtain ⟨y118, hy118⟩ : ∃ y_ : List Int, y_ = (([] : List Int) ++ y113) := ⟨_, rfl⟩
       replace H : (some (y118, 0)) = some (r1, r2) := by first | (rw [hy118]; with_reducible exact H) | (have H2_ := (Option.bind_some _ _).symm.trans H; rw [hy118]; with_reducible exact H2_) | (have H2_ := (Option.bind_some _ _).symm.trans H; with_reducible exact H2_) | with_reducible exact H | (rw [hy118]; exact H) | exact H
       have Ny118 := Aside0.mk hy118
       clear hy118
       simp only [Option.some.injEq, Prod.mk.injEq] at H
       obtain ⟨rfl, rfl⟩ := H
       go_enter Try.func10, Try.ntmps10
       go_wp2_with (first | ((with_reducible refine gate_callee (f := 25) rfl ?_); refine goesL_ (some 15) rfl rfl Try.func25 (by kernel_rfl) rfl #[.slice A0 l0.length c0, .int .i64 ji5, .int .i64 4] rfl (by (try simp only [List.map_toArray, List.map_cons, List.map_nil]); first | done | (simp only [hji5]; rfl) | rfl | (simp only [List.length_drop, List.length_take]; rfl)) ?_; (with_reducible refine (varint_ReadFixed.calls k _ _ l0 ji5 4 t102 t103 _ ?side1 ?side2 A3.out).mono ?_); (case side1 => repeat (first | exact (Kd.V_reads' HO0.out).2.2 | (with_reducible refine Kd.C_alloc ?_ _) | (with_reducible refine Kd.C_drewN ?_ _) | (with_reducible refine Kd.C_drew ?_))); (case side2 => exact (Kd.V_reads' HO0.out).2.1); rintro e w' ⟨rfl, ⟨nd, rfl⟩⟩; refine ⟨_, rfl, ?_⟩; have q13 : ((ji5) : Int) ≤ ((l0.length : Int) : Int) := of_decide_eq_true (by first | (with_reducible assumption) | assumption); obtain ⟨i013, hi013, _, hsz13, _⟩ := info_parts info5; have hroom13 : l0.length ≤ c0 := (Kd.V_reads' HO0.out).2.1; have hC13 : Kd.F (Kd.int .u8) _ _ A0 l0.length l0 := (Kd.V_at (base := w.heap.size) (show Kd.V (Kd.int .u8) _ (w.drewN nd) w.heap.size _ _ _ from Kd.V_drewN HO0.out nd)).2.2; have hcut13 := cut_to (P := Try.prog) 22 5 .i64 Try.underlying22 hi013 A0 l0.length c0 (ji5) (of_decide_eq_true (by first | (with_reducible assumption) | assumption)) q13 hroom13; have hr13 := Kd.F_take (m := ((ji5) : Int).toNat) hC13 (by omega); have hy13 : y104.length = ((ji5) : Int).toNat := (by rw [Ny104.out, List.length_take]; omega); rw [← Ny104.out] at hr13; rw [← hy13] at hcut13; have HO108 := Aside0.mk (show Kd.V (Kd.int .u8) 5 _ w.heap.size _ (.slice A0 y104.length c0) y104 from Kd.V_mk (by omega) hr13); have HC108 := Aside0.mk (show y104.length ≤ c0 from by omega); clear hr13 hC13 hroom13 hi013 hsz13; have KY13 := Aside0.mk hy13; clear hy13; replace q13 := eq_true q13) | ((with_reducible refine gate_dst (N := 24) rfl ?_); refine Kd.N_lit (Kd.slice 5 (Kd.int .u8)) _ 22 ?hg (N' := 24) ?hd (xs := ([y104] : List (List Int))) (inner := [.slice A0 y104.length c0]) (ok := (fun k_ => (P0_ k_ ∨ w.heap.size ≤ k_))) (okp := (fun k_ => (P0_ k_ ∨ w.heap.size ≤ k_))) ?hr ?hp (fun _ hk => hk) ((show ∀ k_, w.heap.size ≤ k_ → (fun k_ => (P0_ k_ ∨ w.heap.size ≤ k_)) k_ from fun k_ hk => (.inr (Nat.le_trans (below_size (by repeat (first | (with_reducible first | exact HB.out | apply below_alloc | apply pw_below_drewN | apply below_drew1) | exact HB.out))) hk))) _ (Nat.le_refl _)) (Below.refl _ _) (Nat.le_refl _) (by simp) ?_; (case hd => rfl); (case hg => (first | rfl | (simp only [*]; rfl) | (simp [*]; done))); (case hr => first | (go_simp; done) | (go_simp; rfl)); (case hp => exact (Reps.one (show Kd.FK (Kd.slice 5 (Kd.int .u8)) _ _ y104 [.slice A0 y104.length c0] from (Kd.FK_slice_mk (Kd.V_reads' (Kd.V_mono (ok' := (fun k_ => (P0_ k_ ∨ w.heap.size ≤ k_))) (HO108.out) (fun k_ hk => hk))).2.1 (Kd.V_F (Kd.V_mono (ok' := (fun k_ => (P0_ k_ ∨ w.heap.size ≤ k_))) (HO108.out) (fun k_ hk => hk))))) (Reps.none _ _))); intro v110 w14 ho15 hb hg_ hnew_; clear hg_ hnew_; (first | rw [← Ny109.out] at ho15 | (simp only [Int.reduceToNat] at ho15; rw [← Ny109.out] at ho15)); have n0_ := Aside0.mk (Kd.V_elder' (by first | (with_reducible exact HO0.out) | (with_reducible repeat (first | apply Kd.V_alloc | apply Kd.V_drewN | apply Kd.V_drew)); exact HO0.out) (Kd.N_base ho15) hb); have n1_ := Aside0.mk (Kd.V_elder' (by first | (with_reducible exact HO108.out) | (with_reducible repeat (first | apply Kd.V_alloc | apply Kd.V_drewN | apply Kd.V_drew)); exact HO108.out) (Kd.N_base ho15) hb); have n2_ := Aside0.mk (Kd.N_lower ho15 (below_size (by repeat (first | (with_reducible first | exact HB.out | apply below_alloc | apply pw_below_drewN | apply below_drew1) | exact HB.out)))); have n3_ := Aside0.mk (below_step (by repeat (first | (with_reducible first | exact HB.out | apply below_alloc | apply pw_below_drewN | apply below_drew1) | exact HB.out)) hb); clear HO0; clear HO108; clear HB; have HO0 := n0_; have HO108 := n1_; have HO111 := n2_; have HB := n3_; clear n0_ n1_ n2_ n3_; clear hb ho15; obtain ⟨Ao16, co16, eo16⟩ := Kd.N_slice HO111.out; subst eo16) | ((with_reducible refine gate_callee (f := 16) rfl ?_); refine goesL_ (some 25) rfl rfl Try.func16 (by kernel_rfl) rfl #[.slice Ao16 y109.length co16] rfl (by (try simp only [List.map_toArray, List.map_cons, List.map_nil]); first | done | rfl | (simp only [List.length_drop, List.length_take]; rfl)) ?_; (with_reducible refine (checksum_CRC.calls _ _ y109 t112 _ ?side1 ?side2 A8.out).mono ?_); (case side1 => repeat (first | exact (Kd.N_reads' HO111.out).2.2 | (with_reducible refine Kd.C_alloc ?_ _) | (with_reducible refine Kd.C_drewN ?_ _) | (with_reducible refine Kd.C_drew ?_))); (case side2 => exact (Kd.N_reads' HO111.out).2.1); rintro e w17 ⟨rfl, hb⟩; refine ⟨_, rfl, ?_⟩; have n0_ := Aside0.mk (Kd.V_below (by first | (with_reducible exact HO0.out) | (with_reducible repeat (first | apply Kd.V_alloc | apply Kd.V_drewN | apply Kd.V_drew)); exact HO0.out) hb); have n1_ := Aside0.mk (Kd.V_below (by first | (with_reducible exact HO108.out) | (with_reducible repeat (first | apply Kd.V_alloc | apply Kd.V_drewN | apply Kd.V_drew)); exact HO108.out) hb); have n2_ := Aside0.mk (Kd.N_below (by (with_reducible repeat (first | apply Kd.N_alloc | apply Kd.N_drewN | apply Kd.N_drew)); exact HO111.out) hb); have n3_ := Aside0.mk (below_step (by repeat (first | (with_reducible first | exact HB.out | apply below_alloc | apply pw_below_drewN | apply below_drew1) | exact HB.out)) hb); clear HO0; clear HO108; clear HO111; clear HB; have HO0 := n0_; have HO108 := n1_; have HO111 := n2_; have HB := n3_; clear n0_ n1_ n2_ n3_; (try clear hb); (try clear hb2); (try clear hk); (try clear hi); have q18 : ((ji5) : Int) ≤ ((l0.length : Int) : Int) := of_decide_eq_true (by first | (with_reducible assumption) | assumption); obtain ⟨i018, hi018, _, hsz18, _⟩ := info_parts info5; have hroom18 : l0.length ≤ c0 := (Kd.V_reads' HO0.out).2.1; have hC18 : Kd.F (Kd.int .u8) _ _ A0 l0.length l0 := (Kd.V_at (base := w.heap.size) HO0.out).2.2; have hcut18 := cut_to (P := Try.prog) 22 5 .i64 Try.underlying22 hi018 A0 l0.length c0 (ji5) (of_decide_eq_true (by first | (with_reducible assumption) | assumption)) q18 hroom18; have hr18 := Kd.F_take (m := ((ji5) : Int).toNat) hC18 (by omega); have hy18 : y113.length = ((ji5) : Int).toNat := (by rw [Ny113.out, List.length_take]; omega); rw [← Ny113.out] at hr18; rw [← hy18] at hcut18; have HO117 := Aside0.mk (show Kd.V (Kd.int .u8) 5 _ w.heap.size _ (.slice A0 y113.length c0) y113 from Kd.V_mk (by omega) hr18); have HC117 := Aside0.mk (show y113.length ≤ c0 from by omega); clear hr18 hC18 hroom18 hi018 hsz18; have KY18 := Aside0.mk hy18; clear hy18; replace q18 := eq_true q18) | ((with_reducible refine gate_builtin (b := .append) (xs := #[.const (.slice none 0 0), .tmp 31]) rfl ?_); at_builtin; refine Kd.R_append_rows (Kd.int .u8) (w0 := w) w.heap.size rfl (.const (.slice none 0 0)) (.tmp 31) 22 5 (.int .u8 0) 1 rfl Try.underlying22 info5 rfl (by decide) (by omega) (.slice none 0 0) ([] : List Int) y113 _ _ _ (fun k_ => (w.heap.size ≤ k_)) (fun _ => False) rfl rfl ?aO ?aR (fun _ _ h => h) (fun _ h => h.elim) ?aF ?aB ?aS ?aL ?_; (case aR => rw [show y104 = y113 from Ny104.out.trans Ny113.out.symm]; repeat (first | exact (Kd.V_reads' HO117.out).2.2 | (with_reducible refine Kd.C_alloc ?_ _) | (with_reducible refine Kd.C_drewN ?_ _) | (with_reducible refine Kd.C_drew ?_))); (case aB => exact (by repeat (first | (with_reducible first | exact HB.out | apply below_alloc | apply pw_below_drewN | apply below_drew1) | exact HB.out))); (case aF => exact (fun k_ hk => (Nat.le_trans (below_size (by repeat (first | (with_reducible first | exact HB.out | apply below_alloc | apply pw_below_drewN | apply below_drew1) | exact HB.out))) hk))); (case aO => exact ((Kd.R_nil _ _ _ _ (fun k_ => (w.heap.size ≤ k_))))); (case aS => exact (below_size (by repeat (first | (with_reducible first | exact HB.out | apply below_alloc | apply pw_below_drewN | apply below_drew1) | exact HB.out)))); (case aL => have := LMc12.out; have e_ : y104 = y113 := Ny104.out.trans Ny113.out.symm; rw [← e_] at this; omega); intro v119 w19 ho hb hg hat; rw [← Ny118.out] at ho; have n0_ := Aside0.mk (Kd.V_afterv (Kd.V_apart_nil (by first | (with_reducible exact HO0.out) | (with_reducible repeat (first | apply Kd.V_alloc | apply Kd.V_drewN | apply Kd.V_drew)); exact HO0.out)) hg hat); have n1_ := Aside0.mk (Kd.V_afterv (Kd.V_apart_nil (by first | (with_reducible exact HO108.out) | (with_reducible repeat (first | apply Kd.V_alloc | apply Kd.V_drewN | apply Kd.V_drew)); exact HO108.out)) hg hat); have n2_ := Aside0.mk (Kd.N_afterv (Kd.N_apart_nil (by (with_reducible repeat (first | apply Kd.N_alloc | apply Kd.N_drewN | apply Kd.N_drew)); exact HO111.out)) hg hat); have n3_ := Aside0.mk (Kd.V_afterv (Kd.V_apart_nil (by first | (with_reducible exact HO117.out) | (with_reducible repeat (first | apply Kd.V_alloc | apply Kd.V_drewN | apply Kd.V_drew)); exact HO117.out)) hg hat); have n4_ := Aside0.mk (hb); have n5_ := Aside0.mk (ho); clear HO0; clear HO108; clear HO111; clear HO117; clear HB; have HO0 := n0_; have HO108 := n1_; have HO111 := n2_; have HO117 := n3_; have HB := n4_; have HO120 := n5_; clear n0_ n1_ n2_ n3_ n4_ n5_; clear ho hb hg hat))
       go_ret2
       exact ⟨_, by first | rfl | (simp [errW_none, errW_some] <;> rfl) | (simp only [← hji5]; first | rfl | (simp [errW_none, errW_some] <;> rfl)) | (simp [*, errW_none, errW_some] <;> rfl), by (with_reducible repeat (first | apply Kd.R_alloc | apply Kd.R_drewN | apply Kd.R_drew)); exact HO120.out, by repeat (first | (with_reducible first | exact HB.out | apply below_alloc | apply pw_below_drewN | apply below_drew1) | exact HB.out)⟩
      ·rw [if_neg c12] at H
       exact absurd H (by simp)
     ·rw [if_neg c9] at H
      have c9b0 : ((IntKind.u64.wrap (t112)) == t102) = false := beq_eq_false_iff_ne.mpr c9
      have c9b1 : ((IntKind.u64.wrap (t112)) != t102) = true := bne_iff_ne.mpr c9
      simp only [Option.some.injEq, Prod.mk.injEq] at H
      obtain ⟨rfl, rfl⟩ := H
      go_enter Try.func10, Try.ntmps10
      go_wp2_with (first | ((with_reducible refine gate_callee (f := 25) rfl ?_); refine goesL_ (some 15) rfl rfl Try.func25 (by kernel_rfl) rfl #[.slice A0 l0.length c0, .int .i64 ji5, .int .i64 4] rfl (by (try simp only [List.map_toArray, List.map_cons, List.map_nil]); first | done | (simp only [hji5]; rfl) | rfl | (simp only [List.length_drop, List.length_take]; rfl)) ?_; (with_reducible refine (varint_ReadFixed.calls k _ _ l0 ji5 4 t102 t103 _ ?side1 ?side2 A3.out).mono ?_); (case side1 => repeat (first | exact (Kd.V_reads' HO0.out).2.2 | (with_reducible refine Kd.C_alloc ?_ _) | (with_reducible refine Kd.C_drewN ?_ _) | (with_reducible refine Kd.C_drew ?_))); (case side2 => exact (Kd.V_reads' HO0.out).2.1); rintro e w' ⟨rfl, ⟨nd, rfl⟩⟩; refine ⟨_, rfl, ?_⟩; have q20 : ((ji5) : Int) ≤ ((l0.length : Int) : Int) := of_decide_eq_true (by first | (with_reducible assumption) | assumption); obtain ⟨i020, hi020, _, hsz20, _⟩ := info_parts info5; have hroom20 : l0.length ≤ c0 := (Kd.V_reads' HO0.out).2.1; have hC20 : Kd.F (Kd.int .u8) _ _ A0 l0.length l0 := (Kd.V_at (base := w.heap.size) (show Kd.V (Kd.int .u8) _ (w.drewN nd) w.heap.size _ _ _ from Kd.V_drewN HO0.out nd)).2.2; have hcut20 := cut_to (P := Try.prog) 22 5 .i64 Try.underlying22 hi020 A0 l0.length c0 (ji5) (of_decide_eq_true (by first | (with_reducible assumption) | assumption)) q20 hroom20; have hr20 := Kd.F_take (m := ((ji5) : Int).toNat) hC20 (by omega); have hy20 : y104.length = ((ji5) : Int).toNat := (by rw [Ny104.out, List.length_take]; omega); rw [← Ny104.out] at hr20; rw [← hy20] at hcut20; have HO108 := Aside0.mk (show Kd.V (Kd.int .u8) 5 _ w.heap.size _ (.slice A0 y104.length c0) y104 from Kd.V_mk (by omega) hr20); have HC108 := Aside0.mk (show y104.length ≤ c0 from by omega); clear hr20 hC20 hroom20 hi020 hsz20; have KY20 := Aside0.mk hy20; clear hy20; replace q20 := eq_true q20) | ((with_reducible refine gate_dst (N := 24) rfl ?_); refine Kd.N_lit (Kd.slice 5 (Kd.int .u8)) _ 22 ?hg (N' := 24) ?hd (xs := ([y104] : List (List Int))) (inner := [.slice A0 y104.length c0]) (ok := (fun k_ => (P0_ k_ ∨ w.heap.size ≤ k_))) (okp := (fun k_ => (P0_ k_ ∨ w.heap.size ≤ k_))) ?hr ?hp (fun _ hk => hk) ((show ∀ k_, w.heap.size ≤ k_ → (fun k_ => (P0_ k_ ∨ w.heap.size ≤ k_)) k_ from fun k_ hk => (.inr (Nat.le_trans (below_size (by repeat (first | (with_reducible first | exact HB.out | apply below_alloc | apply pw_below_drewN | apply below_drew1) | exact HB.out))) hk))) _ (Nat.le_refl _)) (Below.refl _ _) (Nat.le_refl _) (by simp) ?_; (case hd => rfl); (case hg => (first | rfl | (simp only [*]; rfl) | (simp [*]; done))); (case hr => first | (go_simp; done) | (go_simp; rfl)); (case hp => exact (Reps.one (show Kd.FK (Kd.slice 5 (Kd.int .u8)) _ _ y104 [.slice A0 y104.length c0] from (Kd.FK_slice_mk (Kd.V_reads' (Kd.V_mono (ok' := (fun k_ => (P0_ k_ ∨ w.heap.size ≤ k_))) (HO108.out) (fun k_ hk => hk))).2.1 (Kd.V_F (Kd.V_mono (ok' := (fun k_ => (P0_ k_ ∨ w.heap.size ≤ k_))) (HO108.out) (fun k_ hk => hk))))) (Reps.none _ _))); intro v110 w21 ho22 hb hg_ hnew_; clear hg_ hnew_; (first | rw [← Ny109.out] at ho22 | (simp only [Int.reduceToNat] at ho22; rw [← Ny109.out] at ho22)); have n0_ := Aside0.mk (Kd.V_elder' (by first | (with_reducible exact HO0.out) | (with_reducible repeat (first | apply Kd.V_alloc | apply Kd.V_drewN | apply Kd.V_drew)); exact HO0.out) (Kd.N_base ho22) hb); have n1_ := Aside0.mk (Kd.V_elder' (by first | (with_reducible exact HO108.out) | (with_reducible repeat (first | apply Kd.V_alloc | apply Kd.V_drewN | apply Kd.V_drew)); exact HO108.out) (Kd.N_base ho22) hb); have n2_ := Aside0.mk (Kd.N_lower ho22 (below_size (by repeat (first | (with_reducible first | exact HB.out | apply below_alloc | apply pw_below_drewN | apply below_drew1) | exact HB.out)))); have n3_ := Aside0.mk (below_step (by repeat (first | (with_reducible first | exact HB.out | apply below_alloc | apply pw_below_drewN | apply below_drew1) | exact HB.out)) hb); clear HO0; clear HO108; clear HB; have HO0 := n0_; have HO108 := n1_; have HO111 := n2_; have HB := n3_; clear n0_ n1_ n2_ n3_; clear hb ho22; obtain ⟨Ao23, co23, eo23⟩ := Kd.N_slice HO111.out; subst eo23) | ((with_reducible refine gate_callee (f := 16) rfl ?_); refine goesL_ (some 25) rfl rfl Try.func16 (by kernel_rfl) rfl #[.slice Ao23 y109.length co23] rfl (by (try simp only [List.map_toArray, List.map_cons, List.map_nil]); first | done | rfl | (simp only [List.length_drop, List.length_take]; rfl)) ?_; (with_reducible refine (checksum_CRC.calls _ _ y109 t112 _ ?side1 ?side2 A8.out).mono ?_); (case side1 => repeat (first | exact (Kd.N_reads' HO111.out).2.2 | (with_reducible refine Kd.C_alloc ?_ _) | (with_reducible refine Kd.C_drewN ?_ _) | (with_reducible refine Kd.C_drew ?_))); (case side2 => exact (Kd.N_reads' HO111.out).2.1); rintro e w24 ⟨rfl, hb⟩; refine ⟨_, rfl, ?_⟩; have n0_ := Aside0.mk (Kd.V_below (by first | (with_reducible exact HO0.out) | (with_reducible repeat (first | apply Kd.V_alloc | apply Kd.V_drewN | apply Kd.V_drew)); exact HO0.out) hb); have n1_ := Aside0.mk (Kd.V_below (by first | (with_reducible exact HO108.out) | (with_reducible repeat (first | apply Kd.V_alloc | apply Kd.V_drewN | apply Kd.V_drew)); exact HO108.out) hb); have n2_ := Aside0.mk (Kd.N_below (by (with_reducible repeat (first | apply Kd.N_alloc | apply Kd.N_drewN | apply Kd.N_drew)); exact HO111.out) hb); have n3_ := Aside0.mk (below_step (by repeat (first | (with_reducible first | exact HB.out | apply below_alloc | apply pw_below_drewN | apply below_drew1) | exact HB.out)) hb); clear HO0; clear HO108; clear HO111; clear HB; have HO0 := n0_; have HO108 := n1_; have HO111 := n2_; have HB := n3_; clear n0_ n1_ n2_ n3_; (try clear hb); (try clear hb2); (try clear hk); (try clear hi)))
      go_ret2
      exact ⟨_, by first | rfl | (simp [errW_none, errW_some] <;> rfl) | (simp only [← hji5]; first | rfl | (simp [errW_none, errW_some] <;> rfl)) | (simp [*, errW_none, errW_some] <;> rfl), by first | exact Kd.R_nil _ _ _ _ _ | exact Kd.N_nil _ _ _ _ _ | exact Kd.V_nil _ _ _ _ _ | exact Kd.Q_nil _ _ _ _ _ | exact Kd.S_nil _ _ _ _ _, by repeat (first | (with_reducible first | exact HB.out | apply below_alloc | apply pw_below_drewN | apply below_drew1) | exact HB.out)⟩
    ·rw [if_neg c7] at H
     exact absurd H (by simp)
   ·rw [if_neg c6] at H
    exact absurd H (by simp)
  ·rw [if_neg c4] at H
   have c4b0 : (t103 == 0) = false := beq_eq_false_iff_ne.mpr c4
   have c4b1 : (t103 != 0) = true := bne_iff_ne.mpr c4
   simp only [Option.some.injEq, Prod.mk.injEq] at H
   obtain ⟨rfl, rfl⟩ := H
   go_enter Try.func10, Try.ntmps10
   go_wp2_with (first | ((with_reducible refine gate_callee (f := 25) rfl ?_); refine goesL_ (some 15) rfl rfl Try.func25 (by kernel_rfl) rfl #[.slice A0 l0.length c0, .int .i64 (wrap64 ((l0.length : Int) - 4)), .int .i64 4] rfl (by (try simp only [List.map_toArray, List.map_cons, List.map_nil]); first | done | rfl | (simp only [List.length_drop, List.length_take]; rfl)) ?_; (with_reducible refine (varint_ReadFixed.calls k _ _ l0 (wrap64 ((l0.length : Int) - 4)) 4 t102 t103 _ ?side1 ?side2 A3.out).mono ?_); (case side1 => repeat (first | exact (Kd.V_reads' HO0.out).2.2 | (with_reducible refine Kd.C_alloc ?_ _) | (with_reducible refine Kd.C_drewN ?_ _) | (with_reducible refine Kd.C_drew ?_))); (case side2 => exact (Kd.V_reads' HO0.out).2.1); rintro e w' ⟨rfl, ⟨nd, rfl⟩⟩; refine ⟨_, rfl, ?_⟩))
   go_ret2
   exact ⟨_, by first | rfl | (simp [errW_none, errW_some] <;> rfl) | (simp [*, errW_none, errW_some] <;> rfl), by first | exact Kd.R_nil _ _ _ _ _ | exact Kd.N_nil _ _ _ _ _ | exact Kd.V_nil _ _ _ _ _ | exact Kd.Q_nil _ _ _ _ _ | exact Kd.S_nil _ _ _ _ _, by repeat (first | (with_reducible first | exact HB.out | apply below_alloc | apply pw_below_drewN | apply below_drew1) | exact HB.out)⟩

/-! ### varint_Concat: function 27 -/
def varint_Concat.l0 : Nat → List Int → List (List Int) → Int → Int → Option (List Int)
 | 0, _, _, _, _ => none
 | k + 1, x3, x6, x7, x8 => if x8 < x7 then (if 0 ≤ x8 then (if x8 < (x6.length : Int) then (if x3.length + (rd_L2 x6 x8).length < 140737488355328 then (varint_Concat.l0 k (x3 ++ (rd_L2 x6 x8)) x6 x7 (wrap64 (x8 + 1))) else (none)) else (none)) else (none)) else (some x3)
def varint_Concat.f (k : Nat) (l0 : List (List Int)) : Option (List Int) := varint_Concat.l0 k ([] : List Int) l0 (l0.length : Int) 0
theorem varint_Concat.mono_l : ∀ k, (∀ y0 y1 y2 y3, LeO (varint_Concat.l0 k y0 y1 y2 y3) (varint_Concat.l0 (k + 1) y0 y1 y2 y3))
 | 0 => fun _ _ _ _ r h => by simp [varint_Concat.l0] at h
 | k + 1 => by
  have ih0 := varint_Concat.mono_l k
  ·intro y0 y1 y2 y3
   unfold varint_Concat.l0
   repeat' first
   | (with_reducible exact ih0 _ _ _ _)
   | (with_reducible exact LeO.refl _)
   | (with_reducible exact LeO.none _)
   | (with_reducible refine LeO.ite ?_ ?_)
   | (with_reducible refine LeO.bind ?_ (fun _ => ?_))
   | exact ih0 _ _ _ _
   | exact LeO.none _
   | refine LeO.ite ?_ ?_
   | refine LeO.bind ?_ (fun _ => ?_)
theorem varint_Concat.mono : ∀ a0 k, LeO (varint_Concat.f k a0) (varint_Concat.f (k + 1) a0) := by
 intro a0 k
 have ih0 := varint_Concat.mono_l k
 unfold varint_Concat.f
 repeat' first
   | (with_reducible exact ih0 _ _ _ _)
   | (with_reducible exact LeO.refl _)
   | (with_reducible exact LeO.none _)
   | (with_reducible refine LeO.ite ?_ ?_)
   | (with_reducible refine LeO.bind ?_ (fun _ => ?_))
   | exact ih0 _ _ _ _
   | exact LeO.none _
   | refine LeO.ite ?_ ?_
   | refine LeO.bind ?_ (fun _ => ?_)
set_option maxHeartbeats 8000000 in
set_option maxRecDepth 100000 in
theorem varint_Concat.calls (k : Nat) (A0 : Option Addr) (c0 : Nat) (l0 : List (List Int)) (r : List Int) (w : World) (hr0 : Kd.C (Kd.slice 5 (Kd.int .u8)) w A0 l0.length l0) (hc0 : l0.length ≤ c0) (h : varint_Concat.f k l0 = some r) :
  Calls Try.prog 27 #[.slice A0 l0.length c0] w fun e w' => ∃ v0_ : Value, e = .returned (v0_) ∧ Kd.R (Kd.int .u8) 5 w' w.heap.size (fun _ => True) v0_ r ∧ Below w.heap.size w w' := by
 have HR0 := Aside0.mk hr0
 have HC0 := Aside0.mk hc0
 clear hr0 hc0
 have HB := Aside0.mk (Below.refl w.heap.size w)
 have H : (varint_Concat.l0 k ([] : List Int) l0 (l0.length : Int) 0) = some r := h
 clear h
 have H' := Aside0.mk H
 clear H
 go_enter Try.func27, Try.ntmps27
 go_wp2
 go_loopg [3, 8] k (fun kq v3 v8 w' => ∃ (x3_1 : List Int) (x8_1 : Int), v8 = .int .i64 x8_1 ∧ Aside0 (varint_Concat.l0 kq x3_1 l0 (l0.length : Int) x8_1 = some r) ∧ Aside0 (kq ≤ k) ∧ Aside0 (Kd.R (Kd.int .u8) 5 w' w.heap.size (fun _ => True) v3 x3_1) ∧ Aside0 (Below w.heap.size w w'))
 case atStart => exact ⟨(([] : List Int)), (0), (by first | rfl | (simp; done) | (simp [*]; done)), H', ⟨Nat.le_refl _⟩, ⟨by first | exact Kd.R_nil _ _ _ _ _ | exact Kd.N_nil _ _ _ _ _ | exact Kd.V_nil _ _ _ _ _ | exact Kd.Q_nil _ _ _ _ _ | exact Kd.S_nil _ _ _ _ _⟩, ⟨by repeat (first | (with_reducible first | exact HB.out | apply below_alloc | apply pw_below_drewN | apply below_drew1) | exact HB.out)⟩⟩
 case round =>
  clear H'
  obtain ⟨x3_1, x8_1, rfl, HA, HK1, HO_3, HB⟩ := hrel
  cases gk with
  | zero => exact absurd HA.out (by simp [varint_Concat.l0])
  | succ k1 =>
   have H := HA.out
   clear HA
   simp only [varint_Concat.l0] at H
   by_cases c2 : x8_1 < (l0.length : Int)
   ·rw [if_pos c2] at H
    have c2b0 : decide (x8_1 < (l0.length : Int)) = true := decide_eq_true c2
    clear c2
    by_cases c3 : 0 ≤ x8_1
    ·rw [if_pos c3] at H
     have c3b0 : decide (0 ≤ x8_1) = true := decide_eq_true c3
     clear c3
     by_cases c4 : x8_1 < (l0.length : Int)
     ·rw [if_pos c4] at H
      have c4b0 : decide (x8_1 < (l0.length : Int)) = true := decide_eq_true c4
      clear c4
      by_cases c5 : x3_1.length + (rd_L2 l0 x8_1).length < 140737488355328
      ·rw [if_pos c5] at H
       have LMc5 := Aside0.mk c5
       clear c5
       obtain ⟨y122, hy122⟩ : ∃ y_ : List Int, y_ = (x3_1 ++ (rd_L2 l0 x8_1)) := ⟨_, rfl⟩
       replace H : (varint_Concat.l0 k1 y122 l0 (l0.length : Int) (wrap64 (x8_1 + 1))) = some r := by first | (rw [hy122]; with_reducible exact H) | (have H2_ := (Option.bind_some _ _).symm.trans H; rw [hy122]; with_reducible exact H2_) | (have H2_ := (Option.bind_some _ _).symm.trans H; with_reducible exact H2_) | with_reducible exact H | (rw [hy122]; exact H) | exact H
       have Ny122 := Aside0.mk hy122
       clear hy122
       have H' := Aside0.mk H
       clear H
       have p121 : 0 ≤ (x8_1 : Int) := of_decide_eq_true (by first | (with_reducible assumption) | assumption)
       have q121 : x8_1 < (l0.length : Int) := of_decide_eq_true (by first | (with_reducible assumption) | assumption)
       obtain ⟨ad121, A121_0, c121_0, e121, hx121_0, hl121_0, hi121_0⟩ := at_L2 HR0.out x8_1 p121 q121
       cases e121
       replace hx121_0 := (HB.out.cell (World.block_lt_of_cell? w _ hx121_0)).trans hx121_0
       have HR121_0 := Aside0.mk hi121_0
       have HC121_0 := Aside0.mk hl121_0
       clear hi121_0 hl121_0
       replace p121 := eq_true p121
       replace q121 := eq_true q121
       go_wp2_with (first | ((with_reducible refine gate_builtin (b := .append) (xs := #[.tmp 12, .tmp 13]) rfl ?_); at_builtin; refine Kd.R_append_rows (Kd.int .u8) (w0 := w) w.heap.size rfl (.tmp 12) (.tmp 13) 22 5 (.int .u8 0) 1 rfl Try.underlying22 info5 rfl (by decide) (by omega) u3 x3_1 (rd_L2 l0 x8_1) _ _ _ (fun _ => True) (fun _ => False) rfl rfl ?aO ?aR (fun _ _ h => h) (fun _ h => h.elim) ?aF ?aB ?aS ?aL ?_; (case aR => repeat (first | exact (Kd.C_below HR121_0.out HB.out) | (with_reducible refine Kd.C_alloc ?_ _) | (with_reducible refine Kd.C_drewN ?_ _) | (with_reducible refine Kd.C_drew ?_))); (case aB => exact (by repeat (first | (with_reducible first | exact HB.out | apply below_alloc | apply pw_below_drewN | apply below_drew1) | exact HB.out))); (case aF => exact (fun _ _ => trivial)); (case aO => exact (by (with_reducible repeat (first | apply Kd.R_alloc | apply Kd.R_drewN | apply Kd.R_drew)); exact HO_3.out)); (case aS => exact (below_size (by repeat (first | (with_reducible first | exact HB.out | apply below_alloc | apply pw_below_drewN | apply below_drew1) | exact HB.out)))); (case aL => have := LMc5.out; omega); intro v123 w6 ho hb hg hat; rw [← Ny122.out] at ho; have n0_ := Aside0.mk (hb); have n1_ := Aside0.mk (ho); clear HB; clear HO_3; have HB := n0_; have HO124 := n1_; clear n0_ n1_; clear ho hb hg hat))
       go_roundg k1
       case measure => have := HK1.out; omega
       case rel => exact ⟨(y122), (wrap64 (x8_1 + 1)), (by first | rfl | (simp; done) | (simp [*]; done)), H', ⟨by have := HK1.out; omega⟩, ⟨by (with_reducible repeat (first | apply Kd.R_alloc | apply Kd.R_drewN | apply Kd.R_drew)); exact HO124.out⟩, ⟨by repeat (first | (with_reducible first | exact HB.out | apply below_alloc | apply pw_below_drewN | apply below_drew1) | exact HB.out)⟩⟩
      ·rw [if_neg c5] at H
       exact absurd H (by simp)
     ·rw [if_neg c4] at H
      exact absurd H (by simp)
    ·rw [if_neg c3] at H
     exact absurd H (by simp)
   ·rw [if_neg c2] at H
    have c2b0 : decide (x8_1 < (l0.length : Int)) = false := decide_eq_false c2
    clear c2
    obtain rfl := Option.some.inj H
    go_wp2
    go_ret
    exact ⟨_, by first | rfl | (simp [errW_none, errW_some] <;> rfl) | (simp [*, errW_none, errW_some] <;> rfl), by (with_reducible repeat (first | apply Kd.R_alloc | apply Kd.R_drewN | apply Kd.R_drew)); exact HO_3.out, by repeat (first | (with_reducible first | exact HB.out | apply below_alloc | apply pw_below_drewN | apply below_drew1) | exact HB.out)⟩

end Go.Proofs.Ytfonjlolliiaeaa.QChecksumParts
