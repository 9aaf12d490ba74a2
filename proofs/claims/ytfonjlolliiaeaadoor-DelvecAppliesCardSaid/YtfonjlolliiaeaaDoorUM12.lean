/- The iterator of a bitset, range over it: its contract. -/
import Derived.RangeFuncNested
import Derived.RangeFuncBound
import Derived.RangeFuncCalls
import Derived.RangeFuncLeaves
import Derived.Shelf.Abstract
import Derived.Shelf.RegionOpen
import Derived.RangeFuncBox
import Derived.RangeFuncWrites
import Derived.Maps.AppendAt
import Derived.WalkKit
import Derived.OwnWalkIn
import Derived.TacticsInMore
import Derived.LoopNIn
import Derived.LoopIn
import Derived.Test.YtfonjlolliiaeaaDoorProg
import Derived.Test.YtfonjlolliiaeaaDoorUMore
import Derived.Test.YtfonjlolliiaeaaDoorUM02
import Derived.Test.YtfonjlolliiaeaaDoorUM08
import Derived.Test.YtfonjlolliiaeaaDoorUM11
set_option linter.unusedVariables false
set_option linter.unusedSimpArgs false
namespace Go.Proofs.YtfonjlolliiaeaaDoorM
open Go Go.RowKit Go.Shelf Go.Proofs.YtfonjlolliiaeaaDoorW.PrintWords
attribute [local go_sem] Oper.semAt_some

def tz64 : List Int := [0, 1, 56, 2, 57, 49, 28, 3, 61, 58, 42, 50, 38, 29, 17, 4, 62, 47, 59, 36, 45, 43, 51, 22, 53, 39, 33, 30, 24, 18, 12, 5, 63, 55, 48, 27, 60, 41, 37, 16, 46, 35, 44, 21, 52, 32, 23, 11, 54, 26, 40, 15, 34, 20, 31, 10, 25, 14, 19, 9, 13, 8, 7, 6]
/-- The table of math/bits lies where the program lays it. -/
def TabAt (w : World) : Prop := ∀ i : Nat, i < 64 → w.cell? ⟨0, i, none⟩ = some (.int .u8 (tz64.getD i 0))
theorem TabAt.below {n₀ : Nat} {w w' : World} (h : TabAt w) (hb : Below n₀ w w') (hn : 0 < n₀) : TabAt w' := fun i hi => (hb.cell (p := ⟨0, i, none⟩) hn).trans (h i hi)
theorem tz_all : ∀ t : Fin 64, 2 ^ t.val * 285870213051353865 % 18446744073709551616 / 288230376151711744 < 64 ∧ tz64.getD (2 ^ t.val * 285870213051353865 % 18446744073709551616 / 288230376151711744) 0 = (t.val : Int) := by decide +kernel
theorem shr58 (m : Nat) : shr .u64 (m : Int) 58 = ((m / 288230376151711744 : Nat) : Int) := by
  unfold shr
  rw [show min ((58 : Int).toNat) IntKind.u64.bits = 58 by rfl]
  rfl
set_option maxRecDepth 100000 in
set_option maxHeartbeats 2000000 in
theorem tz_in (F : Fence) (n : Nat) (hf : F.fn 71) (hro : F.round = none) (t q x : Nat) (hxe : x = 2 ^ t * (2 * q + 1)) (hx : x < 18446744073709551616) (W : World) (hT : TabAt W) :
    CallsIn F n Tryd.prog 71 #[.int .u64 (x : Int)] W fun e W' => e = .returned (.int .i64 (t : Int)) ∧ W' = W := by
  have ht : t < 64 := by
    rcases Nat.lt_or_ge t 64 with h | h
    · exact h
    · have h1 : 2 ^ 64 ≤ 2 ^ t := Nat.pow_le_pow_right (by decide) h
      have h2 : 2 ^ t ≤ 2 ^ t * (2 * q + 1) := Nat.le_mul_of_pos_right _ (by omega)
      omega
  have hpos : 0 < x := by rw [hxe]; exact Nat.mul_pos (Nat.two_pow_pos t) (by omega)
  have hlow : x &&& (2 ^ 64 - x) = 2 ^ t := by rw [hxe]; exact low_bit t q 64 (by rw [← hxe]; omega)
  have htab := tz_all ⟨t, ht⟩
  simp only at htab
  obtain ⟨p, hp⟩ : ∃ p, p = 2 ^ t := ⟨_, rfl⟩
  have hp64 : p < 18446744073709551616 := by rw [hp]; exact pow_lt64 t ht
  obtain ⟨y, hy⟩ : ∃ y, y = 2 ^ 64 - x := ⟨_, rfl⟩
  rw [← hp] at hlow htab
  rw [← hy] at hlow
  obtain ⟨m, hm⟩ : ∃ m, m = p * 285870213051353865 % 18446744073709551616 := ⟨_, rfl⟩
  rw [← hm] at htab
  have e0 : ((x : Int) == 0) = false := by simp; omega
  have e1 : IntKind.u64.wrap (-(x : Int)) = (y : Int) := by rw [wrap_u64]; omega
  have e2 : Go.bits .and .u64 (x : Int) (y : Int) = (p : Int) := by rw [and_nat x y (by omega) (by omega), hlow]
  have e3 : IntKind.u64.wrap ((p : Int) * 285870213051353865) = (m : Int) := by rw [wrap_u64, hm]; omega
  have hc := hT (m / 288230376151711744) htab.1
  rw [htab.2] at hc
  have e5 : IntKind.i64.wrap (t : Int) = (t : Int) := IntWalk.i64_in _ (by omega)
  have hs64 : ((m : Int) / 288230376151711744) < 64 := by omega
  have hs0 : (0 : Int) ≤ ((m : Int) / 288230376151711744) := by omega
  clear htab hlow hm hp hy hxe hx hpos hp64 hT
  refine callsIn_of_wp Tryd.func71 rfl hf ?_ hro
  simp only [Tryd.ntmps71, List.size_toArray, List.length_cons, List.length_nil, Nat.reduceAdd, Nat.reduceSub, Array.replicate_succ, Array.replicate_zero, List.push_toArray, List.append_toArray, List.nil_append, List.cons_append]
  gi_wp2
  go_ret
  exact ⟨rfl, rfl⟩
theorem addr_block (ad : Addr) (k : Nat) : (ad.add k).block = ad.block := by unfold Addr.add; first | rfl | (split <;> rfl)
/-- The elements, as All yields them. -/
def elsI (ws : List Int) (n : Nat) : List Int := (els (gb ws) 0 n).map fun i : Nat => (i : Int)
theorem elsI_step (ws : List Int) (k lo t x q : Nat) (hx : x = 2 ^ t * (2 * q + 1)) (hlo : lo ≤ t) (ht : t < 64) (hb : ∀ i, i < 64 → x.testBit i = (decide (lo ≤ i) && gb ws (64 * k + i))) :
    elsI ws (64 * k + (t + 1)) = elsI ws (64 * k + lo) ++ [((64 * k + t : Nat) : Int)] := by
  have h1 : els (gb ws) 0 (64 * k + (t + 1)) = els (gb ws) 0 (64 * k + lo) ++ [64 * k + t] := by
    rw [show 64 * k + (t + 1) = (64 * k + lo) + (t + 1 - lo) by omega, els_split, Nat.zero_add]
    congr 1
    have hbit : ∀ i, lo ≤ i → i ≤ t → gb ws (64 * k + i) = decide (i = t) := by
      intro i h1 h2
      have h3 := hb i (by omega)
      rw [hx, bit_odd, decide_eq_true h1, Bool.true_and, decide_eq_false (show ¬ t < i by omega), Bool.false_and, Bool.or_false] at h3
      exact h3.symm
    rw [els_first (f := gb ws) (lo := 64 * k + lo) (t := 64 * k + t) (n := t + 1 - lo) (by omega) (by omega) (fun i h1 h2 => by
      have := hbit (i - 64 * k) (by omega) (by omega)
      rw [show 64 * k + (i - 64 * k) = i by omega] at this
      rw [this]; exact decide_eq_false (by omega)) (by rw [hbit t hlo (Nat.le_refl _)]; exact decide_eq_true rfl)]
    rw [show 64 * k + lo + (t + 1 - lo) - (64 * k + t + 1) = 0 by omega]
    rfl
  unfold elsI
  rw [h1, List.map_append]
  rfl
theorem elsI_end (ws : List Int) (k lo : Nat) (hlo : lo ≤ 64) (hb : ∀ i, i < 64 → (0 : Nat).testBit i = (decide (lo ≤ i) && gb ws (64 * k + i))) : elsI ws (64 * k + lo) = elsI ws (64 * (k + 1)) := by
  unfold elsI
  obtain ⟨a, ha⟩ : ∃ a, a = 64 * k + lo := ⟨_, rfl⟩
  rw [show 64 * (k + 1) = a + (64 - lo) by omega, ← ha, els_split a 0 (64 - lo), Nat.zero_add, ha, els_none (64 - lo) (64 * k + lo) (fun i h1 h2 => by
    have := hb (i - 64 * k) (by omega)
    rw [Nat.zero_testBit, decide_eq_true (by omega), Bool.true_and, show 64 * k + (i - 64 * k) = i by omega] at this
    exact this.symm), List.append_nil]
theorem low_next (ws : List Int) (k lo t x q : Nat) (hx : x = 2 ^ t * (2 * q + 1)) (hlo : lo ≤ t) (hb : ∀ i, i < 64 → x.testBit i = (decide (lo ≤ i) && gb ws (64 * k + i))) :
    ∀ i, i < 64 → (x &&& (x - 1)).testBit i = (decide (t + 1 ≤ i) && gb ws (64 * k + i)) := by
  intro i hi
  have h := hb i hi
  rw [hx, clear_low, Nat.testBit_two_pow_mul]
  rw [hx, bit_odd] at h
  by_cases c : t + 1 ≤ i
  · rw [decide_eq_true (show i ≥ t + 1 from c), Bool.true_and, Bool.true_and]
    rw [decide_eq_true (show lo ≤ i by omega), Bool.true_and, decide_eq_false (show ¬ i = t by omega), Bool.false_or, decide_eq_true (show t < i by omega), Bool.true_and] at h
    rw [← h, show i - t - 1 = i - (t + 1) by omega]
  · rw [decide_eq_false (show ¬ i ≥ t + 1 from c), Bool.false_and, Bool.false_and]
theorem low_lt (x t q : Nat) (hx : x = 2 ^ t * (2 * q + 1)) : x &&& (x - 1) < x := by
  have h1 : 0 < x := by rw [hx]; exact Nat.mul_pos (Nat.two_pow_pos t) (by omega)
  have h2 : x &&& (x - 1) ≤ x - 1 := Nat.and_le_right
  omega
theorem t_lt64 {x t q : Nat} (hx : x = 2 ^ t * (2 * q + 1)) (h : x < 18446744073709551616) : t < 64 := by
  rcases Nat.lt_or_ge t 64 with h0 | h0
  · exact h0
  · have h1 : 2 ^ 64 ≤ 2 ^ t := Nat.pow_le_pow_right (by decide) h0
    have h2 : 2 ^ t ≤ 2 ^ t * (2 * q + 1) := Nat.le_mul_of_pos_right _ (by omega)
    omega
theorem t_ge_lo {ws : List Int} {k lo t x q : Nat} (hx : x = 2 ^ t * (2 * q + 1)) (ht : t < 64) (hb : ∀ i, i < 64 → x.testBit i = (decide (lo ≤ i) && gb ws (64 * k + i))) : lo ≤ t := by
  have h := hb t ht
  rw [hx, bit_odd, decide_eq_true rfl, Bool.true_or] at h
  by_cases c : lo ≤ t
  · exact c
  · rw [decide_eq_false c, Bool.false_and] at h; exact absurd h (by decide)
theorem elsI_len_lt (ws : List Int) (a b : Nat) (h : a ≤ b) : (elsI ws a).length ≤ (elsI ws b).length := by
  unfold elsI
  obtain ⟨c, rfl⟩ : ∃ c, b = a + c := ⟨b - a, by omega⟩
  rw [List.length_map, List.length_map, els_split, List.length_append]
  omega
theorem elsI_pre (ws : List Int) (a b : Nat) (h : a ≤ b) : elsI ws a <+: elsI ws b := by
  unfold elsI
  obtain ⟨c, rfl⟩ : ∃ c, b = a + c := ⟨b - a, by omega⟩
  rw [els_split, List.map_append]
  exact ⟨_, rfl⟩
set_option maxRecDepth 100000 in
set_option maxHeartbeats 2000000 in
/-- All's closure, for every loop body that keeps what lay below n0. -/
theorem all1_in (F : Fence) (n : Nat) (hf : F.fn 70) (hf2 : F.fn 71) (hro : F.round = none) (hn : 2 ≤ n) (l Bs n₀ len cap : Nat) (A : Option Addr) (N0 : Int) (ws : List Int) (hwok : wok ws) (hlen : ws.length = len) (hreach : len ≤ 10000000) (hn0 : 0 < n₀) (J Jx : List Int → World → Prop)
    (hY : ∀ pre x W, J pre W → pre ++ [x] <+: elsI ws (64 * len) → YieldAt F (n - 1) Tryd.prog l #[.int .i64 x] W fun e W' =>
      (e = .returned (.bool true) ∧ J (pre ++ [x]) W' ∧ Below n₀ W W') ∨ (e = .returned (.bool false) ∧ Jx (pre ++ [x]) W'))
    (W : World) (hBs : W.cell? ⟨Bs, 1, none⟩ = some (.slice A len cap)) (hc : ∀ j : Nat, j < len → ∃ ad : Addr, A = some ad ∧ ad.block < n₀ ∧ W.cell? (ad.add j) = some (.int .u64 (ws.getD j 0))) (hT : TabAt W) (h0 : J [] W) :
    CallsIn F n Tryd.prog 70 #[.func (.yield l) #[] #[], .pointer (some ⟨Bs, 0, none⟩)] W fun e W' => (∃ v, e = .returned v) ∧
      ((∃ ys, ys = elsI ws (64 * len) ∧ J ys W') ∨ (∃ pre, pre <+: elsI ws (64 * len) ∧ Jx pre W')) := by
  have hn1 : 1 ≤ n := by omega
  refine callsIn_of_wp Tryd.func70 rfl hf ?_ hro
  simp only [Tryd.ntmps70, List.size_toArray, List.length_cons, List.length_nil, Nat.reduceAdd, Nat.reduceSub, Array.replicate_succ, Array.replicate_zero, List.push_toArray, List.append_toArray, List.nil_append, List.cons_append]
  gi_wp2
  gi_loopw [8] (fun i wr => ∃ k : Nat, k ≤ len ∧ i = .int .i64 k ∧ J (elsI ws (64 * k)) wr ∧ Below n₀ W wr)
    (fun i _ => len - (intOf i).toNat)
  case atStart => exact ⟨0, Nat.zero_le _, rfl, by simpa [elsI, els] using h0, Below.refl _ _⟩
  case round =>
    obtain ⟨k, hk, rfl, hJs, hnx⟩ := hrel
    by_cases hlt : k < len
    · obtain ⟨ad, hA, had, hcx⟩ := hc k hlt
      subst hA
      have hcx' : wr.cell? (ad.add k) = some (.int .u64 (ws.getD k 0)) := (hnx.cell (p := ad.add k) ((addr_block ad k).symm ▸ had)).trans hcx
      have hw := wok_get hwok k
      obtain ⟨x0, hx0⟩ := Int.eq_ofNat_of_zero_le hw.1
      rw [hx0] at hcx' hw
      have hlt' : (k : Int) < (len : Int) := by omega
      have hb0 : ∀ i, i < 64 → x0.testBit i = (decide (0 ≤ i) && gb ws (64 * k + i)) := by
        intro i hi
        unfold gb
        rw [show (64 * k + i) / 64 = k by omega, show (64 * k + i) % 64 = i by omega, hx0, Int.toNat_natCast]
        simp
      gi_wp2
      clear hcx hcx' hx0 hc hBs
      gi_loopw [4] (fun v wq => ∃ lo x : Nat, lo ≤ 64 ∧ x < 18446744073709551616 ∧ v = .int .u64 (x : Int) ∧ (∀ i, i < 64 → x.testBit i = (decide (lo ≤ i) && gb ws (64 * k + i))) ∧ J (elsI ws (64 * k + lo)) wq ∧ Below n₀ W wq)
        (fun v _ => (intOf v).toNat)
      case atStart => exact ⟨0, x0, by omega, by omega, rfl, hb0, hJs, hnx⟩
      case round =>
        clear hJs hnx hb0 hw
        obtain ⟨lo, x, hlo, hx, rfl, hbx, hJx, hnq⟩ := hrel
        by_cases hz : x = 0
        · subst hz
          have hend := elsI_end ws k lo hlo hbx
          rw [hend] at hJx
          gi_wp2
          go_roundw
          case rel => exact ⟨k + 1, by omega, by simp, hJx, hnq⟩
          case measure => simp [intOf]; omega
        · obtain ⟨t, q, hxe⟩ := odd_part x hz
          have ht := t_lt64 hxe hx
          have hlt2 := t_ge_lo hxe ht hbx
          have hst := elsI_step ws k lo t x q hxe hlt2 ht hbx
          have hnx2 := low_next ws k lo t x q hxe hlt2 hbx
          have hlw := low_lt x t q hxe
          obtain ⟨x2, hx2⟩ : ∃ x2, x2 = x &&& (x - 1) := ⟨_, rfl⟩
          rw [← hx2] at hnx2 hlw
          have hpl : elsI ws (64 * k + lo) ++ [((64 * k + t : Nat) : Int)] <+: elsI ws (64 * len) := by
            rw [← hst]; exact elsI_pre ws (64 * k + (t + 1)) (64 * len) (by omega)
          obtain ⟨e, he⟩ : ∃ e : Int, e = ((64 * k + t : Nat) : Int) := ⟨_, rfl⟩
          rw [← he] at hst hpl
          obtain ⟨fn, tmps, assign, body, hy, hR⟩ := hY (elsI ws (64 * k + lo)) e wr hJx hpl
          have hTq := hT.below hnq hn0
          have htz := tz_in F (n - 1) hf2 hro t q x hxe hx wr hTq
          have e0 : ((x : Int) == 0) = false := by simp; omega
          have e0n : ((x : Int) != 0) = true := by simp; omega
          have e1 : IntKind.i64.wrap (64 * (k : Int)) = 64 * (k : Int) := IntWalk.i64_in _ (by omega)
          have e2 : IntKind.i64.wrap (64 * (k : Int) + (t : Int)) = e := by rw [IntWalk.i64_in _ (by omega), he]; omega
          have e3 : IntKind.u64.wrap ((x : Int) - 1) = ((x - 1 : Nat) : Int) := by rw [wrap_u64]; omega
          obtain ⟨y, hy1⟩ : ∃ y, y = x - 1 := ⟨_, rfl⟩
          rw [← hy1] at e3 hx2
          have e4 : Go.bits .and .u64 (x : Int) (y : Int) = (x2 : Int) := by rw [and_nat x y (by omega) (by omega), hx2]
          clear hxe hpl hTq hx2 hy1 hbx he
          gi_wp2_with (gi_at_call 71; refine htz.mono ?_; rintro e9 w9 ⟨rfl, rfl⟩)
          refine hR.mono ?_
          rintro e9 W3 (⟨rfl, hJ3, hk3⟩ | ⟨rfl, hJx3⟩)
          · rw [← hst] at hJ3
            gi_wp2
            go_roundw
            case rel => exact ⟨t + 1, x2, by omega, by omega, rfl, hnx2, hJ3, hnq.trans hk3⟩
            case measure => simp [intOf]; omega
          · have hpre := elsI_pre ws (64 * k + (t + 1)) (64 * len) (by omega)
            rw [hst] at hpre
            gi_wp2
            refine bodyPost_ret (results_none rfl _ _ _) rfl ?_
            exact ⟨⟨_, rfl⟩, .inr ⟨_, hpre, hJx3⟩⟩
    · obtain rfl : k = len := by omega
      gi_wp2
      go_end0
      exact ⟨⟨_, rfl⟩, .inl ⟨_, rfl, hJs⟩⟩
/-- The contract of what All hands back. -/
theorem all_stops (F : Fence) (n : Nat) (hf : F.fn 70) (hf2 : F.fn 71) (hro : F.round = none) (hn : 2 ≤ n) (Bs n₀ len cap : Nat) (A : Option Addr) (ws : List Int) (hwok : wok ws) (hlen : ws.length = len) (hreach : len ≤ 10000000) (hn0 : 0 < n₀)
    (w : World) (hBl : Bs < w.heap.size) (hnl : n₀ ≤ w.heap.size) (hBs : w.cell? ⟨Bs, 1, none⟩ = some (.slice A len cap)) (hc : ∀ j : Nat, j < len → ∃ ad : Addr, A = some ad ∧ ad.block < n₀ ∧ w.cell? (ad.add j) = some (.int .u64 (ws.getD j 0))) (hT : TabAt w) :
    SeqStopsK F n Tryd.prog 70 #[.pointer (some ⟨Bs, 0, none⟩)] (fun x : Int => #[Value.int .i64 x]) (Below n₀) (fun ys => ys = elsI ws (64 * len)) (fun pre => pre <+: elsI ws (64 * len)) (elsI ws (64 * len)).length w := fun l J Jx W hW _ _ hY h0 =>
  all1_in F n hf hf2 hro hn l Bs n₀ len cap A 0 ws hwok hlen hreach hn0 J Jx (fun pre x W hj hp => hY pre x W hj (by have := hp.length_le; simp at this; omega)) W ((hW.cell (p := ⟨Bs, 1, none⟩) hBl).trans hBs)
    (fun j hj => by
      obtain ⟨ad, e1, e2, e3⟩ := hc j hj
      exact ⟨ad, e1, e2, (hW.cell (p := ad.add j) ((addr_block ad j).symm ▸ (by omega : ad.block < w.heap.size))).trans e3⟩)
    (hT.below hW (by omega)) h0
theorem elsI_in (ws : List Int) (n : Nat) : ∀ x ∈ elsI ws n, 0 ≤ x ∧ x < (n : Int) := by
  intro x hx
  unfold elsI at hx
  obtain ⟨i, hi, rfl⟩ := List.mem_map.1 hx
  have := els_mem n 0 i hi
  omega
/-- The numbers that All yields. -/
abbrev SubR (M : Nat) := { x : Int // 0 ≤ x ∧ x < (M : Int) }
/-- The same contract, where the body is told that what it is handed lies in the set's reach. -/
theorem all_stopsR (F : Fence) (n : Nat) (hf : F.fn 70) (hf2 : F.fn 71) (hro : F.round = none) (hn : 2 ≤ n) (Bs n₀ len cap : Nat) (A : Option Addr) (ws : List Int) (hwok : wok ws) (hlen : ws.length = len) (hreach : len ≤ 10000000) (hn0 : 0 < n₀)
    (w : World) (hBl : Bs < w.heap.size) (hnl : n₀ ≤ w.heap.size) (hBs : w.cell? ⟨Bs, 1, none⟩ = some (.slice A len cap)) (hc : ∀ j : Nat, j < len → ∃ ad : Addr, A = some ad ∧ ad.block < n₀ ∧ w.cell? (ad.add j) = some (.int .u64 (ws.getD j 0))) (hT : TabAt w) :
    SeqStopsK F n Tryd.prog 70 #[.pointer (some ⟨Bs, 0, none⟩)] (fun x : SubR (64 * len) => #[Value.int .i64 x.1]) (Below n₀) (fun ys => ys.map (·.1) = elsI ws (64 * len)) (fun pre => pre.map (·.1) <+: elsI ws (64 * len)) (elsI ws (64 * len)).length w := fun l J Jx W hW _ _ hY h0 => by
  refine (all1_in F n hf hf2 hro hn l Bs n₀ len cap A 0 ws hwok hlen hreach hn0 (fun pre W => ∃ p : List (SubR (64 * len)), p.map (·.1) = pre ∧ J p W) (fun pre W => ∃ p : List (SubR (64 * len)), p.map (·.1) = pre ∧ Jx p W) ?_ W ((hW.cell (p := ⟨Bs, 1, none⟩) hBl).trans hBs)
    (fun j hj => by
      obtain ⟨ad, e1, e2, e3⟩ := hc j hj
      exact ⟨ad, e1, e2, (hW.cell (p := ad.add j) ((addr_block ad j).symm ▸ (by omega : ad.block < w.heap.size))).trans e3⟩)
    (hT.below hW (by omega)) ⟨[], rfl, h0⟩).mono ?_
  · rintro pre x W1 ⟨p, rfl, hj⟩ hp
    have hx := elsI_in ws (64 * len) x (hp.subset (List.mem_append_right _ List.mem_cons_self))
    refine (hY p ⟨x, hx⟩ W1 hj (by have := hp.length_le; simp at this; omega)).mono ?_
    rintro e W2 (⟨h1, h2, h3⟩ | ⟨h1, h2⟩)
    · exact .inl ⟨h1, ⟨p ++ [⟨x, hx⟩], by simp, h2⟩, h3⟩
    · exact .inr ⟨h1, ⟨p ++ [⟨x, hx⟩], by simp, h2⟩⟩
  · rintro e W1 ⟨hv, (⟨ys, rfl, p, hp, hj⟩ | ⟨pre, hpre, p, rfl, hj⟩)⟩
    · exact ⟨hv, .inl ⟨p, hp, hj⟩⟩
    · exact ⟨hv, .inr ⟨p, hpre, hj⟩⟩
set_option maxRecDepth 100000 in
set_option maxHeartbeats 2000000 in
theorem all_in (F : Fence) (n : Nat) (hf : F.fn 52) (hro : F.round = none) (N0 : Int) (A : Option Addr) (len cap : Nat) (w : World) :
    CallsIn F n Tryd.prog 52 #[.agg #[.int .i64 N0, .slice A len cap]] w fun e W' => e = .returned (.func (.func 70) #[] #[.pointer (some ⟨w.heap.size, 0, none⟩)]) ∧ W' = w.alloc (.cells #[.int .i64 N0, .slice A len cap] 24) := by
  refine callsIn_of_wp Tryd.func52 rfl hf ?_ hro
  simp only [Tryd.ntmps52, List.size_toArray, List.length_cons, List.length_nil, Nat.reduceAdd, Nat.reduceSub, Array.replicate_succ, Array.replicate_zero, List.push_toArray, List.append_toArray, List.nil_append, List.cons_append]
  gi_wp2
  go_ret
  exact ⟨rfl, rfl⟩
def wokB (ws : List Int) : Bool := ws.all fun x => decide (0 ≤ x) && decide (x < 18446744073709551616)
theorem wokB_wok {ws : List Int} (h : wokB ws = true) : wok ws := by
  simpa only [wokB, wok, List.all_eq_true, Bool.and_eq_true, decide_eq_true_eq] using h
theorem wokB_of {ws : List Int} (h : wok ws) : wokB ws = true := by
  simpa only [wokB, wok, List.all_eq_true, Bool.and_eq_true, decide_eq_true_eq] using h
/-- What Select answers. -/
def selI (ws : List Int) (k : Int) : Int := if k < 0 then -1 else (elsI ws (64 * ws.length)).getD k.toNat (-1)
theorem TabAt.pos {w : World} (h : TabAt w) : 0 < w.heap.size := World.block_lt_of_cell? w _ (h 0 (by decide))
theorem words_at {w : World} {A : Option Addr} {ws : List Int} (h : Kd.C (Kd.int .u64) w A ws.length ws) : ∀ j : Nat, j < ws.length → ∃ ad : Addr, A = some ad ∧ ad.block < w.heap.size ∧ w.cell? (ad.add j) = some (.int .u64 (ws.getD j 0)) := by
  intro j hj
  obtain ⟨ad, e1, e2⟩ := Kd.at_int h (j : Int) (by omega) (by omega)
  rw [Int.toNat_natCast, rd_nat] at e2
  exact ⟨ad, e1, by have := World.block_lt_of_cell? w _ e2; rwa [addr_block] at this, e2⟩
/-! ### cells of one's own, behind steps of the heap -/
theorem r_box {W : World} {B : Nat} {v : Value} {t : TypeId} (h : W.heap[B]? = some (.cells #[v] t (0, 0))) : W.cell? ⟨B, 0, none⟩ = some v ∧ W.frozen? ⟨B, 0, none⟩ = false := by
  constructor <;> simp [World.cell?, World.frozen?, h]
theorem r_new (W : World) (v : Value) (t : TypeId) : (W.alloc (.cells #[v] t)).cell? ⟨W.heap.size, 0, none⟩ = some v ∧ (W.alloc (.cells #[v] t)).frozen? ⟨W.heap.size, 0, none⟩ = false := r_box (World.alloc_heap_new W _)
theorem r_new2 (W : World) (u v : Value) (t : TypeId) : (W.alloc (.cells #[u, v] t)).cell? ⟨W.heap.size, 1, none⟩ = some v := (blk_cell (blk_new W (.cells #[u, v] t)) 1).trans rfl
theorem r_alloc {W : World} {a : Addr} {v : Value} (o : Obj) (h : W.cell? a = some v) : (W.alloc o).cell? a = some v := _root_.Go.cell_kept h (World.grownBy_alloc W o none) (fun r e => by cases e)
theorem r_falloc {W : World} {a : Addr} {v : Value} (o : Obj) (h : W.cell? a = some v) (hf : W.frozen? a = false) : (W.alloc o).frozen? a = false := (_root_.Go.frozen_kept h (World.grownBy_alloc W o none) (fun r e => by cases e)).trans hf
theorem r_other {W : World} {a b : Addr} {v : Value} (h : W.cell? b = some v) (hne : a.block ≠ b.block) (u : Value) : (W.setCell a u).cell? b = some v := (World.cell?_setCell_other _ _ _ _ (fun e => hne (by rw [e]))).trans h
end Go.Proofs.YtfonjlolliiaeaaDoorM
