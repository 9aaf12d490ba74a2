-- Written by a program of this session (wip/pr2.sh): the walk of the Go text, function by function.
import Derived.Test.YtjeheopcohnkeaaQBloomRoundTripx0
import Derived.Test.YtjeheopcohnkeaaQBloomRoundTripx1
import Derived.Test.YtjeheopcohnkeaaQBloomRoundTripx2
namespace Go.Proofs.Ytjeheopcohnkeaa.QBloomRoundTrip
open Go.RowKit Go.Proofs.YtjeheopcohnkeaaW.PrintWords Go.Proofs.YtjeheopcohnkeaaW.PrintLast Go.Proofs.YtjeheopcohnkeaaW.PrintMore
open Go.Proofs.YtjeheopcohnkeaaM
attribute [local go_sem] max2_int min2_int max_two min_two max_three min_three max_four min_four   -- for this text's walks alone
set_option linter.unusedVariables false
set_option linter.unusedSimpArgs false

/-! ### bloom_Build: function 11 -/
section
open Go.Shelf
attribute [local go_sem] Oper.semAt_some
theorem wpListIn_append_at {F : Fence} {n : Nat} {P : Program} (w : World) {ops : Array Oper} {rest : List Oper} {o : Oper} {a : Act} {Q : Exit → Act → World → Prop}
    (hg : o.guard = none) (s x : Operand) (t : TypeId) (hop : o.op = Op.call { callee := Callee.builtin Builtin.append, args := #[s, x], argTypes := #[t, t] })
    (base : Nat) (e : TypeId) (i : TypeInfo) (z : Value) (size bytes : Nat) (h1 : P.underlying t = some (.slice e)) (h2 : P.info? e = some i) (h3 : i.zero = some z) (h4 : i.size = size) (h5 : i.bytes = bytes) (h6 : z.cells.size = size) (h7 : 0 < size)
    (v : Value) (k : Nat) (xs : List Value) (hs : a.eval s = v) (hown : w.ownsRow base e size v k xs) (ad : Addr) (m c : Nat) (news : List Value) (hx : a.eval x = .slice (some ad) m c) (hn : news.length = m * size)
    (hc : ∀ j u, news[j]? = some u → w.cell? (ad.add j) = some u) (h1c : ∀ u ∈ news, u.oneCell' = true) (b1 : k + m ≤ maxLen) (b2 : (k + m) * bytes ≤ 140737488355328) (b3 : base ≤ w.heap.size)
    (hK : ∀ v' w', w'.ownsRow base e size v' (k + m) (xs ++ news) → w.grownBy w' v.ownBlock → (v'.ownBlock = v.ownBlock ∨ v'.ownBlock = some w.heap.size) → wpListIn F n P ops Q rest (a.put o.dst v') w') :
    wpListIn F n P ops Q (o :: rest) a w := by
  refine wpListIn_plain hg fun K hK' => ?_
  obtain ⟨v', w', hrun, r1, r2, _, r4⟩ := run_append_own_at (P := P) w base t o.type e i z size bytes h1 h2 h3 h4 h5 h6 h7 v k xs hown ad m c news hn hc h1c b1 b2 b3
  unfold Oper.wpIn
  refine ⟨?_, ?_⟩
  · simp [Oper.about, hop, resolve, Target.leads, Sem.run_pure]
  · rw [Oper.semAt_plain F _ _ (by rw [hop]; intro c hc'; cases hc')]
    simp [execOp, hop, resolve, invoke, builtin, hs, hx, hrun, Result.andThen]
    exact hK' _ _ (hK v' w' r1 r2 r4)
theorem grow2 {W w1 : World} {B : Nat} {v v' : Value} {tmp : Obj} (hgrow : (W.alloc tmp).grownBy w1 v.ownBlock) (i : Nat) (hi : i < W.heap.size) (hiB : i ≠ B) (hio : some i ≠ v.ownBlock) : (w1.setCell ⟨B, 0, none⟩ v').heap[i]? = W.heap[i]? := by
  have e1 : (W.alloc tmp).heap[i]? = W.heap[i]? := Below.heap_alloc _ _ _ hi
  have e2 : w1.heap[i]? = (W.alloc tmp).heap[i]? := hgrow.block i (by simp; omega) hio
  have h3 : i < w1.heap.size := by
    have := hgrow.size
    simp at this
    omega
  exact ((grownBy_setCell' w1 B v').block i h3 (by simp; omega)).trans (e2.trans e1)
theorem as_info : (Try.prog.info? 3).map (fun i => (i.zero, i.size, i.bytes)) = some (some (.int .i64 0), 1, 8) := by kernel_rfl
set_option maxHeartbeats 4000000 in
set_option maxRecDepth 100000 in
/-- AppendSeq over the probes: the row grows, everything else lies as it lay. -/
theorem as_in (n₀ Bp : Nat) (v : S24) (hs n h0 g1 : Int) (hn0 : 0 < n) (hn1 : n < 9223372036854775808) (hh : hs ≤ 1000000) (hH1 : value_Hash.f 1 [v] = some h0) (hH2 : value_Hash.f 2 [v] = some g1) (r : List Int) (hr : r = prL n (Go.bits .or .u64 g1 1) hs.toNat h0)
    (xs : List Int) (vl : Value) (w : World) (hB1 : w.heap[Bp]? = some (.cells #[.int .i64 hs] 3 (0, 0))) (hB2 : w.heap[Bp + 1]? = some (.cells #[.int .i64 n] 3 (0, 0))) (hB3 : w.heap[Bp + 2]? = some (.cells #[.int .i64 v.f0, .int .i64 v.f1, .string v.f2] 24 (0, 0)))
    (hn : n₀ ≤ w.heap.size) (hrow : w.ownsRow n₀ 3 1 vl xs.length (xs.map (Value.int .i64))) (hne1 : some Bp ≠ vl.ownBlock) (hne2 : some (Bp + 1) ≠ vl.ownBlock) (hlen : xs.length + r.length ≤ 1000000) :
    CallsIn Fence.wide 9 Try.prog 26 #[vl, .func (.func 51) #[] #[.pointer (some ⟨Bp + 2, 0, none⟩), .pointer (some ⟨Bp, 0, none⟩), .pointer (some ⟨Bp + 1, 0, none⟩)]] w fun e W' =>
      ∃ v', e = .returned v' ∧ W'.ownsRow n₀ 3 1 v' (xs ++ r).length ((xs ++ r).map (Value.int .i64)) ∧ Below n₀ w W' ∧ (∀ k, k < w.heap.size → some k ≠ vl.ownBlock → W'.heap[k]? = w.heap[k]?) := by
  have hro : Fence.wide.round = none := rfl
  obtain ⟨i0, hi, hz0, hz1, hz2⟩ := info_parts as_info
  obtain ⟨A, cap, hvl⟩ := own_slice hrow
  have e1 : (Value.slice A xs.length cap).oneCell' = true := rfl
  subst hvl
  refine callsIn_of_wp_marks Try.func26 rfl trivial ?_ hro
  simp only [Try.ntmps26, List.size_toArray, List.length_cons, List.length_nil, Nat.reduceAdd, Nat.reduceSub, Array.replicate_succ, Array.replicate_zero, List.push_toArray, List.append_toArray, List.nil_append, List.cons_append]
  gi_wp2
  have hl1 := (Array.getElem?_eq_some_iff.1 hB1).1
  have hl2 := (Array.getElem?_eq_some_iff.1 hB2).1
  have hl3 := (Array.getElem?_eq_some_iff.1 hB3).1
  have bO := Boxed.new w 55 (Value.slice A xs.length cap)
  have hB0 : Below w.heap.size w (w.alloc (.cells #[(Value.slice A xs.length cap)] 55)) := (Below.refl _ w).alloc (Nat.le_refl _) _
  have hsz : (w.alloc (.cells #[(Value.slice A xs.length cap)] 55)).heap.size = w.heap.size + 1 := by simp
  have hro0 := hrow.alloc (.cells #[(Value.slice A xs.length cap)] 55)
  have y1 := (hB0.block _ hl1).trans hB1
  have y2 := (hB0.block _ hl2).trans hB2
  have y3 := (hB0.block _ hl3).trans hB3
  obtain ⟨W0, hW0⟩ : ∃ W0, W0 = w.alloc (.cells #[(Value.slice A xs.length cap)] 55) := ⟨_, rfl⟩
  rw [← hW0] at bO hB0 hsz hro0 y1 y2 y3 ⊢
  clear hW0
  refine wpIn_rangeFunc_ownG hro (by decide) (gf := 51) (lb := #[.pointer (some ⟨Bp + 2, 0, none⟩), .pointer (some ⟨Bp, 0, none⟩), .pointer (some ⟨Bp + 1, 0, none⟩)]) rfl trivial (enters_of Try.func51 (by kernel_rfl) rfl)
    (pr_stopsR Bp n₀ v hs n h0 g1 hn0 hn1 hh hH1 hH2 r hr W0 y1 y2 y3 (by omega))
    (fun h k => LK.trans h k) (LK.putObj (by omega) (by omega)) (Below.refl _ _) (fun _ => rfl)
    (fun pre W => ((∃ v, Boxed W w.heap.size 55 v ∧ W.ownsRow n₀ 3 1 v (xs.length + pre.length) (xs.map (Value.int .i64) ++ pre.map (fun x => Value.int .i64 x.1)) ∧ (v.ownBlock = (Value.slice A xs.length cap).ownBlock ∨ ∃ b, v.ownBlock = some b ∧ w.heap.size < b)) ∧ Below n₀ w W) ∧ ((∀ k, k < w.heap.size → some k ≠ (Value.slice A xs.length cap).ownBlock → W.heap[k]? = w.heap[k]?) ∧ w.heap.size + 1 ≤ W.heap.size))
    (fun _ _ _ => False)
    (OwnFrom.and (OwnFrom.and (Own.from (holdsRow_own n₀ w.heap.size 55 3 1 (fun pre : List { x : Int // x ∈ r } => xs.length + pre.length) (fun pre : List { x : Int // x ∈ r } => xs.map (Value.int .i64) ++ pre.map (fun x => Value.int .i64 x.1)) (fun _ v => v.ownBlock = (Value.slice A xs.length cap).ownBlock ∨ ∃ b, v.ownBlock = some b ∧ w.heap.size < b)) _) (ownFrom_below hn (by omega)))
      (fun s A B row hs hg hr => ⟨fun k hk hne => (hg.block k (by have := hs.2; omega) (fun e => by have := (hr k e.symm).1; omega)).trans (hs.1 k hk hne), Nat.le_trans hs.2 hg.size⟩))
    (fun _ _ _ _ _ hs _ _ => hs)
    ⟨⟨⟨_, bO, by simpa using hro0, .inl rfl⟩, hB0.mono hn⟩, fun k hk _ => hB0.block k hk, by omega⟩
    (fun x => { tmps := #[(Value.slice A xs.length cap), .func (.func 51) #[] #[.pointer (some ⟨Bp + 2, 0, none⟩), .pointer (some ⟨Bp, 0, none⟩), .pointer (some ⟨Bp + 1, 0, none⟩)], .pointer (some ⟨w.heap.size, 0, none⟩), undef, .slice none 0 0, .int .i64 x.1, .func (.func 51) #[] #[.pointer (some ⟨Bp + 2, 0, none⟩), .pointer (some ⟨Bp, 0, none⟩), .pointer (some ⟨Bp + 1, 0, none⟩)], .int .i64 x.1, undef, undef, undef, undef, undef], defers := [] }) ?assign ?body ?done ?stop
  case assign =>
    intro l x W K hK
    gi_wp2
    exact hK
  case body =>
    rintro l pre x W ⟨⟨⟨v, hv, hrow, hob⟩, hB⟩, hKp, hS⟩ hlt
    have hc := hv.cell
    have g1 : some Bp ≠ v.ownBlock := by rcases hob with h | ⟨b, h, hb⟩ <;> rw [h] <;> first | exact hne1 | (intro e; cases e; omega)
    have g2 : some (Bp + 1) ≠ v.ownBlock := by rcases hob with h | ⟨b, h, hb⟩ <;> rw [h] <;> first | exact hne2 | (intro e; cases e; omega)
    gi_wp2_with (gi_at_builtin; refine wpListIn_append_at _ rfl _ _ 55 rfl n₀ 3 i0 (.int .i64 0) 1 8 Try.underlying55 hi hz0 hz1 hz2 rfl (by decide) _ _ _ rfl (hrow.alloc _) ⟨W.heap.size, 0, none⟩ 1 1 [.int .i64 x.1] rfl rfl (cell_one_new _ _ _) (by simp [Value.oneCell']) (by simp only [maxLen]; omega) (by omega) (by simp; omega) ?_; intro v' w1 hown' hgrow hat; obtain ⟨g', cap', rfl⟩ := ownsRow_succ hown'; obtain ⟨hv1, hv2, hr2, hk2, hb2⟩ := hv.appended (by decide) hrow (by omega) hn hown' hgrow; have hc1 := hv1.cell; have hf1 := hv1.frozen)
    refine ⟨hk2.from _, ⟨hb2, grow2 hgrow Bp (by omega) (by omega) g1, grow2 hgrow (Bp + 1) (by omega) (by omega) g2⟩, ⟨⟨_, hv2, by simpa [Nat.add_assoc] using hr2, ?_⟩, hB.trans hb2⟩, fun k hk hne => (grow2 hgrow k (by omega) (by omega) ?_).trans (hKp k hk hne), Nat.le_trans hS hk2.size⟩
    · rcases hat with h | h
      · rw [h]; exact hob
      · exact .inr ⟨_, h, by simp; omega⟩
    · show some k ≠ v.ownBlock
      rcases hob with h | ⟨b, h, hb⟩
      · rw [h]; exact hne
      · rw [h]; intro e; cases e; omega
  case done =>
    rintro D ys W hD hys ⟨⟨⟨v, hv, hrow, hob⟩, hB⟩, hKp, hS⟩ hK
    have hc := hv.cell
    gi_wp2
    refine ⟨by simp, .inl ⟨_, _, rfl, run_takeDeferred hK, ?_⟩⟩
    have hy1 : ys.map (fun x => Value.int .i64 x.1) = r.map (Value.int .i64) := by
      have h := congrArg (List.map (Value.int .i64)) hys
      rwa [List.map_map] at h
    have hy2 : ys.length = r.length := by
      have h := congrArg List.length hys
      simpa using h
    have hgb := grownBy_putObj' W D (.deferred none)
    have hDo : some D ≠ v.ownBlock := by
      intro e
      rcases hrow.2 with ⟨rfl, _⟩ | ⟨g, cap, cur, rfl, _, hgb, _⟩
      · simp [Value.ownBlock] at e
      · obtain rfl : D = g := by simpa [Value.ownBlock] using e
        rw [hgb] at hK; cases hK
    refine ⟨_, results_tmp rfl _ _ _, v, rfl, ?_, hB.trans (belowK_b (w := w) hn W D _ _ (by omega) hK rfl rfl), fun k hk hne => (World.putObj_heap_other (by omega)).trans (hKp k hk hne)⟩
    rw [List.map_append, ← hy1, List.length_append, ← hy2]
    exact ownsRow_putObj hrow _ hK rfl
  case stop =>
    rintro D c pre W _ _ h _
    exact h.elim
end
theorem box3 (W : World) (o1 o2 o3 : Obj) : (((W.alloc o1).alloc o2).alloc o3).heap[W.heap.size]? = some o1 ∧ (((W.alloc o1).alloc o2).alloc o3).heap[W.heap.size + 1]? = some o2 ∧ (((W.alloc o1).alloc o2).alloc o3).heap[W.heap.size + 2]? = some o3 ∧ (((W.alloc o1).alloc o2).alloc o3).heap.size = W.heap.size + 3 ∧ Below W.heap.size W (((W.alloc o1).alloc o2).alloc o3) := by
  have e2 := World.alloc_heap_new (W.alloc o1) o2
  have e3 := World.alloc_heap_new ((W.alloc o1).alloc o2) o3
  simp only [World.size_alloc] at e2 e3
  refine ⟨(Below.heap_alloc _ _ _ (by simp; omega)).trans ((Below.heap_alloc _ _ _ (by simp)).trans (World.alloc_heap_new W o1)), (Below.heap_alloc _ _ _ (by simp)).trans e2, e3, by simp, (((Below.refl _ W).alloc (Nat.le_refl _) _).alloc (by simp) _).alloc (by simp; omega) _⟩
theorem own_lt2 {w : World} {base n : Nat} {e : TypeId} {size : Nat} {v : Value} {xs : List Value} (h : w.ownsRow base e size v n xs) {k : Nat} (hk : w.heap.size ≤ k) : some k ≠ v.ownBlock := by
  rcases h.2 with ⟨rfl, _⟩ | ⟨g, cap, cur, rfl, _, hgb, _⟩
  · simp [Value.ownBlock]
  · intro e
    obtain rfl : k = g := by simpa [Value.ownBlock] using e
    have := (Array.getElem?_eq_some_iff.1 hgb).1
    omega
def dblN : Nat → Int → Int → Int
  | 0, n, _ => n
  | k + 1, n, m => if n < m then dblN k (n * 2) m else n
def bvL (n h : Int) : List S24 → Option (List Int)
  | [] => some []
  | v :: l => (value_Hash.f 1 [v]).bind fun h0 => (value_Hash.f 2 [v]).bind fun g1 => (bvL n h l).bind fun r => some (prL n (Go.bits .or .u64 g1 1) h.toNat h0 ++ r)
def bldN (l0 : List S24) (p : Int) : Int := dblN 10 64 ((l0.length : Int) * p)
def bldH (p : Int) : Int := mx 1 (wrap64 (Int.tdiv (wrap64 (p * 7)) 10))
def bloom_Build.f (k : Nat) (l0 : List S24) (a1 : Int) : Option (Int × Int × List Int) :=
  if a1 < 1 then some (0, 0, ([] : List Int))
  else if l0.length ≤ 1000 then
    (bitset_New.f (bldN l0 (mn a1 16))).bind fun _ => (bvL (bldN l0 (mn a1 16)) (bldH (mn a1 16)) l0).bind fun l =>
      if l.length ≤ 1000000 then (bitset_Of.f k (bldN l0 (mn a1 16)) l).bind fun b => some (bldH (mn a1 16), b.1, b.2) else none
  else none
theorem bloom_Build.mono (l0 : List S24) (a1 : Int) (k : Nat) : LeO (bloom_Build.f k l0 a1) (bloom_Build.f (k + 1) l0 a1) := by
  unfold bloom_Build.f
  repeat' first
  | (with_reducible exact bitset_Of.mono _ _ _)
  | (with_reducible exact LeO.refl _)
  | (with_reducible exact LeO.none _)
  | (with_reducible refine LeO.ite ?_ ?_)
  | (with_reducible refine LeO.bind ?_ (fun _ => ?_))
theorem mn16 (a : Int) (h : ¬ a < 1) : 1 ≤ mn a 16 ∧ mn a 16 ≤ 16 := by unfold mn; split <;> omega
theorem bldH_in (p : Int) (h1 : 1 ≤ p) (h2 : p ≤ 16) : 1 ≤ bldH p ∧ bldH p ≤ 11 := by
  have e1 : wrap64 (p * 7) = p * 7 := by unfold wrap64; omega
  have e2 : Int.tdiv (p * 7) 10 = p * 7 / 10 := Int.tdiv_eq_ediv_of_nonneg (by omega)
  have e3 : wrap64 (p * 7 / 10) = p * 7 / 10 := by unfold wrap64; omega
  unfold bldH mx
  rw [e1, e2, e3]
  split <;> omega
theorem dblN_in : ∀ (k : Nat) (n m : Int), 0 < n → m ≤ 16000 → n ≤ 32000 → 0 < dblN k n m ∧ dblN k n m ≤ 32000
  | 0, n, m, h1, h2, h3 => ⟨h1, h3⟩
  | k + 1, n, m, h1, h2, h3 => by
    unfold dblN
    by_cases c : n < m
    · rw [if_pos c]; exact dblN_in k (n * 2) m (by omega) h2 (by omega)
    · rw [if_neg c]; exact ⟨h1, h3⟩
section
open Go.Shelf
set_option maxHeartbeats 4000000 in
set_option maxRecDepth 100000 in
theorem bloom_Build.calls (k : Nat) (A0 : Option Addr) (c0 : Nat) (l0 : List S24) (a1 : Int) (r1 : Int) (r2 : Int) (r3 : List Int) (w : World) (hr0 : Kd.C k24 w A0 l0.length l0) (hc0 : l0.length ≤ c0) (h : bloom_Build.f k l0 a1 = some (r1, r2, r3)) :
    Calls Try.prog 11 #[.slice A0 l0.length c0, .int .i64 a1] w fun e w' => ∃ v2_ : Value, e = .returned (.agg #[.int .i64 r1, .int .i64 r2, v2_]) ∧ Kd.R (Kd.int .u64) 53 w' w.heap.size (fun _ => True) v2_ r3 ∧ Below w.heap.size w w' := by
  unfold bloom_Build.f at h
  have hu32 := Try.underlying32
  have hu30 := Try.underlying30
  have hu24 := Try.underlying24
  have b0 := blk_new w (.cells #[.int .i64 0, .int .i64 0, .slice none 0 0] 32 (0, 0))
  by_cases ha : a1 < 1
  · rw [if_pos ha] at h
    simp only [Option.some.injEq, Prod.mk.injEq] at h
    obtain ⟨rfl, rfl, rfl⟩ := h
    have ea : decide (a1 < 1) = true := decide_eq_true ha
    go_enter Try.func11, Try.ntmps11
    go_wp2
    refine bodyPost_ret (results_cell_row rfl _ _ w.heap.size 32 #[.int .i64 0, .int .i64 0, .slice none 0 0] (0, 0) _ rfl b0 Try.underlying32 rfl (by kernel_rfl)) rfl ?_
    exact ⟨_, rfl, Kd.R_nil _ _ _ _ _, below_alloc (Below.refl _ _) _⟩
  · rw [if_neg ha] at h
    have ea : decide (a1 < 1) = false := decide_eq_false ha
    by_cases hl : l0.length ≤ 1000
    case neg => rw [if_neg hl] at h; cases h
    rw [if_pos hl] at h
    obtain ⟨hp1, hp2⟩ := mn16 a1 ha
    obtain ⟨p, hp⟩ : ∃ p, p = mn a1 16 := ⟨_, rfl⟩
    rw [← hp] at h hp1 hp2
    have hp' : (if 16 < a1 then 16 else a1) = p := hp.symm
    obtain ⟨hH1, hH2⟩ := bldH_in p hp1 hp2
    obtain ⟨m, hm⟩ : ∃ m, m = (l0.length : Int) * p := ⟨_, rfl⟩
    have hm1 : m ≤ 16000 := by
      rw [hm]
      have := Int.mul_le_mul (show (l0.length : Int) ≤ 1000 by omega) hp2 (by omega) (by omega)
      omega
    have hm0 : 0 ≤ m := by rw [hm]; exact Int.mul_nonneg (by omega) (by omega)
    have hmw : IntKind.i64.wrap ((l0.length : Int) * p) = m := by rw [← hm]; exact IntWalk.i64_in _ (by omega)
    obtain ⟨hN1, hN2⟩ := dblN_in 10 64 m (by omega) hm1 (by omega)
    unfold bldN at h
    rw [← hm] at h
    obtain ⟨N, hN⟩ : ∃ N, N = dblN 10 64 m := ⟨_, rfl⟩
    obtain ⟨H, hH⟩ : ∃ H, H = bldH p := ⟨_, rfl⟩
    rw [← hN] at h hN1 hN2
    rw [← hH] at h hH1 hH2
    replace h := Option.bind_eq_some_iff.mp h
    obtain ⟨⟨nb1, nb2⟩, hNew, h⟩ := h
    replace h := Option.bind_eq_some_iff.mp h
    obtain ⟨tot, hTot, h⟩ := h
    by_cases hT : tot.length ≤ 1000000
    case neg => rw [if_neg hT] at h; cases h
    rw [if_pos hT] at h
    replace h := Option.bind_eq_some_iff.mp h
    obtain ⟨⟨o1, o2⟩, hOf, h⟩ := h
    simp only [Option.some.injEq, Prod.mk.injEq] at h
    obtain ⟨rfl, rfl, rfl⟩ := h
    unfold bldH at hH
    have hHm : (if 1 < p * 7 / 10 then p * 7 / 10 else 1) = H := by
      have e1 : wrap64 (p * 7) = p * 7 := by unfold wrap64; omega
      have e2 : Int.tdiv (p * 7) 10 = p * 7 / 10 := Int.tdiv_eq_ediv_of_nonneg (by omega)
      have e3 : wrap64 (p * 7 / 10) = p * 7 / 10 := by unfold wrap64; omega
      rw [e1, e2, e3] at hH
      exact hH.symm
    have HNew := Aside0.mk hNew
    have HTot := Aside0.mk hTot
    have HOf := Aside0.mk hOf
    have HR := Aside0.mk hr0
    have HL := Aside0.mk hl
    have HT := Aside0.mk hT
    have HN := Aside0.mk hN
    have HH := Aside0.mk hH
    clear hNew hTot hOf hr0 hl hT hN hH hp hm ha
    go_enter Try.func11, Try.ntmps11
    have hB0 : Below w.heap.size w (w.alloc (.cells #[.int .i64 0, .int .i64 0, .slice none 0 0] 32)) := below_alloc (Below.refl _ _) _
    go_wp2
    go_loopw [6] (fun v6 wr => ∃ (j : Nat) (y : Int), v6 = .int .i64 y ∧ j ≤ 10 ∧ Aside0 (y * 2 ^ j = 65536) ∧ 0 < y ∧ Aside0 (dblN j y m = N) ∧ Aside0 (wr.heap[w.heap.size]? = some (.cells #[.int .i64 0, .int .i64 0, .slice none 0 0] 32 (0, 0))) ∧ Aside0 (Below w.heap.size w wr)) (fun v6 _ => 70000 - (intOf v6).toNat)
    case atStart => exact ⟨10, 64, rfl, by omega, ⟨by decide⟩, by omega, ⟨HN.out.symm⟩, ⟨b0⟩, ⟨hB0⟩⟩
    case round =>
      clear b0 hB0
      obtain ⟨j, y, rfl, hj, hpw, hy, hd, HK0, HB0⟩ := hrel
      by_cases c : y < m
      · cases j with
        | zero => exact absurd hpw.out (by simp; omega)
        | succ j =>
          have hd2 : Aside0 (dblN j (y * 2) m = N) := ⟨by have := hd.out; unfold dblN at this; rwa [if_pos c] at this⟩
          have hpw2 : Aside0 (y * 2 * 2 ^ j = 65536) := ⟨by have := hpw.out; rw [Int.pow_succ] at this; rw [← this, Int.mul_assoc, Int.mul_comm 2]⟩
          have ew : IntKind.i64.wrap (y * 2) = y * 2 := IntWalk.i64_in _ (by omega)
          clear hd hpw
          go_wp2
          go_roundw
          case rel => exact ⟨j, y * 2, by simp, by omega, hpw2, by omega, hd2, HK0, HB0⟩
          case measure => simp [intOf]; omega
      · have hyN : y = N := by
          have := hd.out
          cases j with
          | zero => exact this
          | succ j => unfold dblN at this; rwa [if_neg c] at this
        subst hyN
        clear hd hpw
        go_wp2_with (go_at_call 25; (with_reducible refine (bitset_New.calls _ nb1 nb2 _ HNew.out).mono ?_); rintro e w1 ⟨v1, rfl, hv1, hb1⟩; obtain ⟨A1, c1, rfl⟩ := Kd.R_slice hv1; have hk1 := blk_below HK0.out hb1)
        have hlt1 := blk_lt hk1
        have hB1 : Below w.heap.size w (w1.alloc (.cells #[.int .i64 H, .int .i64 nb1, .slice A1 nb2.length c1] 32)) := below_alloc (below_step HB0.out hb1) _
        have hkA := blk_alloc hk1 (.cells #[.int .i64 H, .int .i64 nb1, .slice A1 nb2.length c1] 32)
        have hkF := blk_new w1 (.cells #[.int .i64 H, .int .i64 nb1, .slice A1 nb2.length c1] 32)
        go_loopw [8, 33] (fun v8 v33 wr => ∃ (i : Nat) (xs rest : List Int), i ≤ l0.length ∧ v33 = .int .i64 (i : Int) ∧ Aside0 (bvL y H (l0.drop i) = some rest) ∧ Aside0 (xs ++ rest = tot) ∧ Aside0 (wr.ownsRow w.heap.size 3 1 v8 xs.length (xs.map (Value.int .i64))) ∧ Aside0 (wr.heap[w.heap.size]? = some (.cells #[.int .i64 0, .int .i64 0, .slice none 0 0] 32 (0, 0))) ∧ Aside0 (wr.heap[w1.heap.size]? = some (.cells #[.int .i64 H, .int .i64 nb1, .slice A1 nb2.length c1] 32 (0, 0))) ∧ Aside0 (Below w.heap.size w wr)) (fun _ v33 _ => l0.length - (intOf v33).toNat)
        case atStart => exact ⟨0, [], tot, by omega, rfl, ⟨by simpa using HTot.out⟩, ⟨rfl⟩, ⟨World.ownsRow_nil _ _ _ _⟩, ⟨hkA⟩, ⟨hkF⟩, ⟨hB1⟩⟩
        case round =>
          clear hk1 hB1 hkA hkF hb1 hv1 HNew HK0 HB0 HTot
          obtain ⟨i, xs, rest, hi, rfl, hbv, htot, hrow, HK0, HKF, HB⟩ := hrel
          by_cases hlt : i < l0.length
          · have hlt' : (i : Int) < (l0.length : Int) := by omega
            have hip : (0 : Int) ≤ (i : Int) := Int.natCast_nonneg i
            obtain ⟨ad, hA0, q0, q1, q2⟩ := at_T24 (Kd.C_below HR.out HB.out) (i : Int) hip hlt'
            subst hA0
            obtain ⟨x, hx⟩ : ∃ x, x = rd_T24 l0 (i : Int) := ⟨_, rfl⟩
            rw [← hx] at q0 q1 q2
            rw [Int.toNat_natCast] at q0 q1 q2
            have hdrop : l0.drop i = x :: l0.drop (i + 1) := by
              rw [List.drop_eq_getElem_cons hlt, hx]
              unfold rd_T24
              rw [Int.toNat_natCast, List.getD_eq_getElem?_getD, List.getElem?_eq_getElem hlt]
              rfl
            have hb1 := hbv.out
            rw [hdrop] at hb1
            simp only [bvL] at hb1
            replace hb1 := Option.bind_eq_some_iff.mp hb1
            obtain ⟨h0, hH1, hb1⟩ := hb1
            replace hb1 := Option.bind_eq_some_iff.mp hb1
            obtain ⟨g1, hH2, hb1⟩ := hb1
            replace hb1 := Option.bind_eq_some_iff.mp hb1
            obtain ⟨r2, hr2, hb1⟩ := hb1
            have hb2 := Option.some.inj hb1
            obtain ⟨pr, hpr⟩ : ∃ pr, pr = prL y (Go.bits .or .u64 g1 1) (Int.toNat H) h0 := ⟨_, rfl⟩
            rw [← hpr] at hb2
            subst hb2
            have HX1 := Aside0.mk hH1
            have HX2 := Aside0.mk hH2
            have HX3 := Aside0.mk hpr
            have HX4 := Aside0.mk hr2
            have ewi : IntKind.i64.wrap ((i : Int) + 1) = ((i + 1 : Nat) : Int) := by rw [IntWalk.i64_in _ (by have := HL.out; omega)]; omega
            have hfa := blk_alloc HKF.out (.cells #[.int .i64 x.f0, .int .i64 x.f1, .string x.f2] 24)
            have f0 := (blk_cell hfa 0).trans rfl
            clear hbv hb1 hdrop hx hH1 hH2 hpr hr2
            have hsz := HB.out.size
            obtain ⟨wa, hwa⟩ : ∃ wa, wa = wr.alloc (.cells #[.int .i64 x.f0, .int .i64 x.f1, .string x.f2] 24) := ⟨_, rfl⟩
            have hsa : wa.heap.size = wr.heap.size + 1 := by rw [hwa]; simp
            have hba : Below wr.heap.size wr wa := by rw [hwa]; exact (Below.refl _ _).alloc (Nat.le_refl _) _
            have hra := hrow.out.alloc (.cells #[.int .i64 x.f0, .int .i64 x.f1, .string x.f2] 24)
            rw [← hwa] at hra
            obtain ⟨z1, z2, z3, z4, z5⟩ := box3 wa (.cells #[.int .i64 H] 3) (.cells #[.int .i64 y] 3) (.cells #[.int .i64 x.f0, .int .i64 x.f1, .string x.f2] 24)
            have hrb := ((hra.alloc (.cells #[.int .i64 H] 3)).alloc (.cells #[.int .i64 y] 3)).alloc (.cells #[.int .i64 x.f0, .int .i64 x.f1, .string x.f2] 24)
            have hlen : xs.length + pr.length ≤ 1000000 := by have := HT.out; rw [← htot.out] at this; simp at this; omega
            have n1 : some (wr.heap.size + 1) ≠ u8.ownBlock := own_lt2 hrow.out (by omega)
            have n2 : some (wr.heap.size + 1 + 1) ≠ u8.ownBlock := own_lt2 hrow.out (by omega)
            have n3 : some w.heap.size ≠ u8.ownBlock := own_ne hrow.out HK0.out (by decide)
            have n4 : some w1.heap.size ≠ u8.ownBlock := own_ne hrow.out HKF.out (by decide)
            have lk0 := (Array.getElem?_eq_some_iff.1 HK0.out).1
            have lkF := (Array.getElem?_eq_some_iff.1 HKF.out).1
            rw [hsa] at z1 z2 z3 z4
            have has := (callsIn_wide (n := 9)).1 (as_in w.heap.size (wr.heap.size + 1) x H y h0 g1 (by omega) (by omega) (by omega) HX1.out HX2.out pr HX3.out xs u8 _ z1 z2 z3 (by omega) hrb n1 n2 hlen)
            rw [hwa] at has
            have HAS := Aside0.mk has
            have HZ4 := Aside0.mk z4
            have HZ5 := Aside0.mk z5
            have HBA := Aside0.mk hba
            clear z1 z2 z3 z4 z5 hra hrb has hba hlen n1 n2
            go_wp2_with (first
              | (go_at_call 27; (with_reducible refine ((callsIn_wide (n := 8)).1 (pr_in H y x _)).mono ?_); rintro e w2 ⟨rfl, rfl⟩)
              | (go_at_call 26; refine HAS.out.mono ?_; rintro e w3 ⟨v3, rfl, hrow3, hB3, hkeep3⟩))
            have hBW := HB.out.trans ((HBA.out.mono (by omega)).trans (HZ5.out.mono (by omega)))
            rw [hwa] at HZ5 HBA HZ4
            go_roundw
            case rel => exact ⟨i + 1, xs ++ pr, r2, by omega, by simp, HX4, ⟨by have := htot.out; simpa using this⟩, ⟨hrow3⟩, ⟨((hkeep3 _ (by have := HZ4.out; omega) n3).trans ((HZ5.out.block _ (by simp; omega)).trans (HBA.out.block _ lk0))).trans HK0.out⟩, ⟨((hkeep3 _ (by have := HZ4.out; omega) n4).trans ((HZ5.out.block _ (by simp; omega)).trans (HBA.out.block _ lkF))).trans HKF.out⟩, ⟨by rw [hwa] at hBW; exact hBW.trans hB3⟩⟩
            case measure => simp [intOf]; omega
          · obtain rfl : i = l0.length := by omega
            have hbv0 := hbv.out
            rw [List.drop_length] at hbv0
            have hrest := Option.some.inj hbv0
            subst hrest
            have htt := htot.out
            rw [List.append_nil] at htt
            subst htt
            obtain ⟨A8, c8, hu8⟩ := own_slice hrow.out
            subst hu8
            have hR8 : Kd.R (Kd.int .i64) 3 wr w.heap.size (fun _ => True) (.slice A8 xs.length c8) xs := Kd.R_of_own (enc := Value.int .i64) (h1 := fun _ => rfl) hrow.out (fun _ _ => trivial)
            obtain ⟨_, hle8, hC8⟩ := Kd.R_reads' hR8
            have HC8 := Aside0.mk hC8
            have HL8 := Aside0.mk hle8
            have hsz := HB.out.size
            have lk0 := (Array.getElem?_eq_some_iff.1 HK0.out).1
            have lkF := (Array.getElem?_eq_some_iff.1 HKF.out).1
            have hne1 : w.heap.size ≠ w1.heap.size := by omega
            have hne2 : w1.heap.size ≠ w.heap.size := by omega
            clear hbv hbv0 htot hC8 hle8 hR8 hrow
            go_wp2_with (go_at_call 28; (with_reducible refine (bitset_Of.calls k y A8 c8 xs o1 o2 _ HC8.out HL8.out HOf.out).mono ?_); rintro e w4 ⟨v4, rfl, hv4, hb4⟩; obtain ⟨A4, c4, rfl⟩ := Kd.R_slice hv4; have hk4 := blk_below HK0.out hb4; have hf4 := blk_below HKF.out hb4; have d0 := (blk_cell hk4 0).trans rfl; have d1 := (blk_cell hk4 1).trans rfl; have d2 := (blk_cell hk4 2).trans rfl; have g0 := blk_frozen hk4 0; have g1 := blk_frozen hk4 1; have g2 := blk_frozen hk4 2; have k0 := (blk_cell hf4 0).trans rfl; have k1 := (blk_cell hf4 1).trans rfl; have k2 := (blk_cell hf4 2).trans rfl; have l0_ := blk_frozen hf4 0; have l1_ := blk_frozen hf4 1; have l2_ := blk_frozen hf4 2)
            refine bodyPost_ret (results_cell_row rfl _ _ w.heap.size 32 #[.int .i64 H, .int .i64 o1, .slice A4 o2.length c4] (0, 0) _ rfl (by refine blk_put (cs := #[.int .i64 H, .int .i64 o1, .slice none 0 0]) ?_ 2 _ rfl; refine blk_put (cs := #[.int .i64 H, .int .i64 0, .slice none 0 0]) ?_ 1 _ rfl; refine blk_put (cs := #[.int .i64 0, .int .i64 0, .slice none 0 0]) ?_ 0 _ rfl; refine blk_far ?_ hne1 _; refine blk_far ?_ hne1 _; exact hk4) Try.underlying32 rfl (by kernel_rfl)) rfl ?_
            refine ⟨_, rfl, ?_, ?_⟩
            · have hR := Kd.R_types (Kd.R_types hv4 hk4 (by decide)) hf4 (by decide)
              have hR2 := Kd.R_far (p := ⟨w.heap.size, 2, none⟩) (Kd.R_far (p := ⟨w.heap.size, 1, none⟩) (Kd.R_far (p := ⟨w.heap.size, 0, none⟩) (Kd.R_far (p := ⟨w1.heap.size, 2, none⟩) (Kd.R_far (p := ⟨w1.heap.size, 1, none⟩) hR (fun _ hk => hk.2) (.int .i64 o1)) (fun _ hk => hk.2) (.slice A4 o2.length c4)) (fun _ hk => hk.1.2) (.int .i64 H)) (fun _ hk => hk.1.2) (.int .i64 o1)) (fun _ hk => hk.1.2) (.slice A4 o2.length c4)
              exact Kd.R_mono (Kd.R_lower hR2 hsz) (fun _ _ => trivial)
            · exact below_set (below_set (below_set (below_set (below_set (below_step HB.out hb4) (by omega)) (by omega)) (Nat.le_refl _)) (Nat.le_refl _)) (Nat.le_refl _)
end

/-! ### laminalaw15_one: function 24 -/
def laminalaw15_one.f  : Option (Int × Int × ByteArray) := some (2, 1, (⟨#[]⟩ : ByteArray))
set_option maxHeartbeats 8000000 in
set_option maxRecDepth 100000 in
theorem laminalaw15_one.calls  (r1 : Int) (r2 : Int) (r3 : ByteArray) (w : World) (h : laminalaw15_one.f  = some (r1, r2, r3)) :
  Calls Try.prog 24 #[] w fun e w' => e = .returned (.agg #[.int .i64 r1, .int .i64 r2, .string r3]) ∧ Below w.heap.size w w' := by
 have hu24 := Try.underlying24
 have HB := Aside0.mk (Below.refl w.heap.size w)
 have H : (some (2, 1, (⟨#[]⟩ : ByteArray))) = some (r1, r2, r3) := h
 clear h
 simp only [Option.some.injEq, Prod.mk.injEq] at H
 obtain ⟨rfl, rfl, rfl⟩ := H
 go_enter Try.func24, Try.ntmps24
 go_wp2_with (first | ((with_reducible refine gate_dst (N := 0) rfl ?_); refine box_event ?hg (N := 0) ?hd (cs := #[.int .i64 0, .int .i64 0, .string (⟨#[]⟩ : ByteArray)]) (t := 24) ?hr ?_; (case hd => rfl); (case hg => (first | rfl | (simp only [*]; rfl) | (simp [*]; done))); (case hr => first | (go_simp; done) | (go_simp; rfl)); intro gb123 hg w1 hbox hb; have n0_ := Aside0.mk (below_step (by repeat (first | (with_reducible first | exact HB.out | apply below_alloc | apply pw_below_drewN | apply below_drew1) | exact HB.out)) hb); have n1_ := Aside0.mk (hbox); have n2_ := Aside0.mk ((by rw [hg]; exact (below_size (by repeat (first | (with_reducible first | exact HB.out | apply below_alloc | apply pw_below_drewN | apply below_drew1) | exact HB.out))) : w.heap.size ≤ gb123)); have n3_ := Aside0.mk ((by rw [hg]; exact (below_size (by repeat (first | (with_reducible first | exact HB.out | apply below_alloc | apply pw_below_drewN | apply below_drew1) | exact HB.out))) : w.heap.size ≤ gb123)); clear HB; have HB := n0_; have BK123 := n1_; have GW123 := n2_; have GE123 := n3_; clear n0_ n1_ n2_ n3_; clear hb hbox hg; have hcz2_0 : w1.cell? ⟨gb123, 0, none⟩ = some (.int .i64 0) := (blk_cell BK123.out 0).trans rfl; have hcz2_1 : w1.cell? ⟨gb123, 1, none⟩ = some (.int .i64 0) := (blk_cell BK123.out 1).trans rfl; have hcz2_2 : w1.cell? ⟨gb123, 2, none⟩ = some (.string (⟨#[]⟩ : ByteArray)) := (blk_cell BK123.out 2).trans rfl; have hfz2_0 := blk_frozen BK123.out 0; have hfz2_1 := blk_frozen BK123.out 1; have hfz2_2 := blk_frozen BK123.out 2))
 refine bodyPost_ret (results_cell_row rfl _ _ gb123 24 #[.int .i64 2, .int .i64 1, .string (⟨#[]⟩ : ByteArray)] (0, 0) _ rfl (by (with_reducible repeat (first | refine blk_drewN ?_ _ | refine blk_drew ?_ | refine blk_alloc ?_ _)); refine blk_put (cs := #[.int .i64 2, .int .i64 1, .string (⟨#[]⟩ : ByteArray)]) ?_ 2 _ rfl; (with_reducible repeat (first | refine blk_drewN ?_ _ | refine blk_drew ?_ | refine blk_alloc ?_ _)); refine blk_put (cs := #[.int .i64 2, .int .i64 0, .string (⟨#[]⟩ : ByteArray)]) ?_ 1 _ rfl; (with_reducible repeat (first | refine blk_drewN ?_ _ | refine blk_drew ?_ | refine blk_alloc ?_ _)); refine blk_put (cs := #[.int .i64 0, .int .i64 0, .string (⟨#[]⟩ : ByteArray)]) ?_ 0 _ rfl; (with_reducible repeat (first | refine blk_drewN ?_ _ | refine blk_drew ?_ | refine blk_alloc ?_ _)); exact BK123.out) Try.underlying24 rfl (by kernel_rfl)) rfl ?_
 exact ⟨by first | rfl | (simp [errW_none, errW_some] <;> rfl) | (simp [*, errW_none, errW_some] <;> rfl), by repeat (first | (with_reducible first | exact HB.out | apply below_alloc | apply pw_below_drewN | apply below_drew1 | refine below_set ?_ GE123.out) | exact HB.out)⟩

/-! ### varint_Concat: function 45 -/
def varint_Concat.l0 : Nat → List Int → List (List Int) → Int → Int → Option (List Int)
 | 0, _, _, _, _ => none
 | k + 1, x3, x6, x7, x8 => if x8 < x7 then (if 0 ≤ x8 then (if x8 < (x6.length : Int) then (if x3.length + (rd_L2 x6 x8).length < 140737488355328 then (varint_Concat.l0 k (x3 ++ (rd_L2 x6 x8)) x6 x7 (wrap64 (x8 + 1))) else (none)) else (none)) else (none)) else (some x3)
def varint_Concat.f (k : Nat) (l0 : List (List Int)) : Option (List Int) := varint_Concat.l0 k ([] : List Int) l0 (l0.length : Int) 0
theorem varint_Concat.mono_l : ∀ k, (∀ y0 y1 y2 y3, LeO (varint_Concat.l0 k y0 y1 y2 y3) (varint_Concat.l0 (k + 1) y0 y1 y2 y3))
 | 0 => fun _ _ _ _ r h => by simp [varint_Concat.l0] at h
 | k + 1 => by
  have ih0 := varint_Concat.mono_l k
  ·intro y0 y1 y2 y3
   unfold varint_Concat.l0
   repeat' first
   | (with_reducible exact ih0 _ _ _ _)
   | (with_reducible exact LeO.refl _)
   | (with_reducible exact LeO.none _)
   | (with_reducible refine LeO.ite ?_ ?_)
   | (with_reducible refine LeO.bind ?_ (fun _ => ?_))
   | exact ih0 _ _ _ _
   | exact LeO.none _
   | refine LeO.ite ?_ ?_
   | refine LeO.bind ?_ (fun _ => ?_)
theorem varint_Concat.mono : ∀ a0 k, LeO (varint_Concat.f k a0) (varint_Concat.f (k + 1) a0) := by
 intro a0 k
 have ih0 := varint_Concat.mono_l k
 unfold varint_Concat.f
 repeat' first
   | (with_reducible exact ih0 _ _ _ _)
   | (with_reducible exact LeO.refl _)
   | (with_reducible exact LeO.none _)
   | (with_reducible refine LeO.ite ?_ ?_)
   | (with_reducible refine LeO.bind ?_ (fun _ => ?_))
   | exact ih0 _ _ _ _
   | exact LeO.none _
   | refine LeO.ite ?_ ?_
   | refine LeO.bind ?_ (fun _ => ?_)
set_option maxHeartbeats 8000000 in
set_option maxRecDepth 100000 in
theorem varint_Concat.calls (k : Nat) (A0 : Option Addr) (c0 : Nat) (l0 : List (List Int)) (r : List Int) (w : World) (hr0 : Kd.C (Kd.slice 5 (Kd.int .u8)) w A0 l0.length l0) (hc0 : l0.length ≤ c0) (h : varint_Concat.f k l0 = some r) :
  Calls Try.prog 45 #[.slice A0 l0.length c0] w fun e w' => ∃ v0_ : Value, e = .returned (v0_) ∧ Kd.R (Kd.int .u8) 5 w' w.heap.size (fun _ => True) v0_ r ∧ Below w.heap.size w w' := by
 have HR0 := Aside0.mk hr0
 have HC0 := Aside0.mk hc0
 clear hr0 hc0
 have HB := Aside0.mk (Below.refl w.heap.size w)
 have H : (varint_Concat.l0 k ([] : List Int) l0 (l0.length : Int) 0) = some r := h
 clear h
 have H' := Aside0.mk H
 clear H
 go_enter Try.func45, Try.ntmps45
 go_wp2
 go_loopg [3, 8] k (fun kq v3 v8 w' => ∃ (x3_1 : List Int) (x8_1 : Int), v8 = .int .i64 x8_1 ∧ Aside0 (varint_Concat.l0 kq x3_1 l0 (l0.length : Int) x8_1 = some r) ∧ Aside0 (kq ≤ k) ∧ Aside0 (Kd.R (Kd.int .u8) 5 w' w.heap.size (fun _ => True) v3 x3_1) ∧ Aside0 (Below w.heap.size w w'))
 case atStart => exact ⟨(([] : List Int)), (0), (by first | rfl | (simp; done) | (simp [*]; done)), H', ⟨Nat.le_refl _⟩, ⟨by first | exact Kd.R_nil _ _ _ _ _ | exact Kd.N_nil _ _ _ _ _ | exact Kd.V_nil _ _ _ _ _ | exact Kd.Q_nil _ _ _ _ _ | exact Kd.S_nil _ _ _ _ _⟩, ⟨by repeat (first | (with_reducible first | exact HB.out | apply below_alloc | apply pw_below_drewN | apply below_drew1) | exact HB.out)⟩⟩
 case round =>
  clear H'
  obtain ⟨x3_1, x8_1, rfl, HA, HK1, HO_3, HB⟩ := hrel
  cases gk with
  | zero => exact absurd HA.out (by simp [varint_Concat.l0])
  | succ k1 =>
   have H := HA.out
   clear HA
   simp only [varint_Concat.l0] at H
   by_cases c2 : x8_1 < (l0.length : Int)
   ·rw [if_pos c2] at H
    have c2b0 : decide (x8_1 < (l0.length : Int)) = true := decide_eq_true c2
    clear c2
    by_cases c3 : 0 ≤ x8_1
    ·rw [if_pos c3] at H
     have c3b0 : decide (0 ≤ x8_1) = true := decide_eq_true c3
     clear c3
     by_cases c4 : x8_1 < (l0.length : Int)
     ·rw [if_pos c4] at H
      have c4b0 : decide (x8_1 < (l0.length : Int)) = true := decide_eq_true c4
      clear c4
      by_cases c5 : x3_1.length + (rd_L2 l0 x8_1).length < 140737488355328
      ·rw [if_pos c5] at H
       have LMc5 := Aside0.mk c5
       clear c5
       obtain ⟨y125, hy125⟩ : ∃ y_ : List Int, y_ = (x3_1 ++ (rd_L2 l0 x8_1)) := ⟨_, rfl⟩
       replace H : (varint_Concat.l0 k1 y125 l0 (l0.length : Int) (wrap64 (x8_1 + 1))) = some r := by first | (rw [hy125]; with_reducible exact H) | (have H2_ := (Option.bind_some _ _).symm.trans H; rw [hy125]; with_reducible exact H2_) | (have H2_ := (Option.bind_some _ _).symm.trans H; with_reducible exact H2_) | with_reducible exact H | (rw [hy125]; exact H) | exact H
       have Ny125 := Aside0.mk hy125
       clear hy125
       have H' := Aside0.mk H
       clear H
       have p124 : 0 ≤ (x8_1 : Int) := of_decide_eq_true (by first | (with_reducible assumption) | assumption)
       have q124 : x8_1 < (l0.length : Int) := of_decide_eq_true (by first | (with_reducible assumption) | assumption)
       obtain ⟨ad124, A124_0, c124_0, e124, hx124_0, hl124_0, hi124_0⟩ := at_L2 HR0.out x8_1 p124 q124
       cases e124
       replace hx124_0 := (HB.out.cell (World.block_lt_of_cell? w _ hx124_0)).trans hx124_0
       have HR124_0 := Aside0.mk hi124_0
       have HC124_0 := Aside0.mk hl124_0
       clear hi124_0 hl124_0
       replace p124 := eq_true p124
       replace q124 := eq_true q124
       go_wp2_with (first | ((with_reducible refine gate_builtin (b := .append) (xs := #[.tmp 12, .tmp 13]) rfl ?_); at_builtin; refine Kd.R_append_rows (Kd.int .u8) (w0 := w) w.heap.size rfl (.tmp 12) (.tmp 13) 43 5 (.int .u8 0) 1 rfl Try.underlying43 info5 rfl (by decide) (by omega) u3 x3_1 (rd_L2 l0 x8_1) _ _ _ (fun _ => True) (fun _ => False) rfl rfl ?aO ?aR (fun _ _ h => h) (fun _ h => h.elim) ?aF ?aB ?aS ?aL ?_; (case aR => repeat (first | exact (Kd.C_below HR124_0.out HB.out) | (with_reducible refine Kd.C_alloc ?_ _) | (with_reducible refine Kd.C_drewN ?_ _) | (with_reducible refine Kd.C_drew ?_))); (case aB => exact (by repeat (first | (with_reducible first | exact HB.out | apply below_alloc | apply pw_below_drewN | apply below_drew1) | exact HB.out))); (case aF => exact (fun _ _ => trivial)); (case aO => exact (by (with_reducible repeat (first | apply Kd.R_alloc | apply Kd.R_drewN | apply Kd.R_drew)); exact HO_3.out)); (case aS => exact (below_size (by repeat (first | (with_reducible first | exact HB.out | apply below_alloc | apply pw_below_drewN | apply below_drew1) | exact HB.out)))); (case aL => have := LMc5.out; omega); intro v126 w6 ho hb hg hat; rw [← Ny125.out] at ho; have n0_ := Aside0.mk (hb); have n1_ := Aside0.mk (ho); clear HB; clear HO_3; have HB := n0_; have HO127 := n1_; clear n0_ n1_; clear ho hb hg hat))
       go_roundg k1
       case measure => have := HK1.out; omega
       case rel => exact ⟨(y125), (wrap64 (x8_1 + 1)), (by first | rfl | (simp; done) | (simp [*]; done)), H', ⟨by have := HK1.out; omega⟩, ⟨by (with_reducible repeat (first | apply Kd.R_alloc | apply Kd.R_drewN | apply Kd.R_drew)); exact HO127.out⟩, ⟨by repeat (first | (with_reducible first | exact HB.out | apply below_alloc | apply pw_below_drewN | apply below_drew1) | exact HB.out)⟩⟩
      ·rw [if_neg c5] at H
       exact absurd H (by simp)
     ·rw [if_neg c4] at H
      exact absurd H (by simp)
    ·rw [if_neg c3] at H
     exact absurd H (by simp)
   ·rw [if_neg c2] at H
    have c2b0 : decide (x8_1 < (l0.length : Int)) = false := decide_eq_false c2
    clear c2
    obtain rfl := Option.some.inj H
    go_wp2
    go_ret
    exact ⟨_, by first | rfl | (simp [errW_none, errW_some] <;> rfl) | (simp [*, errW_none, errW_some] <;> rfl), by (with_reducible repeat (first | apply Kd.R_alloc | apply Kd.R_drewN | apply Kd.R_drew)); exact HO_3.out, by repeat (first | (with_reducible first | exact HB.out | apply below_alloc | apply pw_below_drewN | apply below_drew1) | exact HB.out)⟩

/-! ### varint_Encode: function 46 -/
def varint_Encode.l0 : Nat → Int → List Int → Option (List Int)
 | 0, _, _ => none
 | k + 1, x0, x3 => if x0 ≥ 128 then (if x3.length < 140737488355328 then (varint_Encode.l0 k (x0 / 128) (x3 ++ [Go.bits .or .u8 ((x0) % 256) 128])) else (none)) else (if x3.length < 140737488355328 then (some (x3 ++ [(x0) % 256])) else (none))
def varint_Encode.f (k : Nat) (a0 : Int) : Option (List Int) := varint_Encode.l0 k a0 ([] : List Int)
theorem varint_Encode.mono_l : ∀ k, (∀ y0 y1, LeO (varint_Encode.l0 k y0 y1) (varint_Encode.l0 (k + 1) y0 y1))
 | 0 => fun _ _ r h => by simp [varint_Encode.l0] at h
 | k + 1 => by
  have ih0 := varint_Encode.mono_l k
  ·intro y0 y1
   unfold varint_Encode.l0
   repeat' first
   | (with_reducible exact ih0 _ _)
   | (with_reducible exact LeO.refl _)
   | (with_reducible exact LeO.none _)
   | (with_reducible refine LeO.ite ?_ ?_)
   | (with_reducible refine LeO.bind ?_ (fun _ => ?_))
   | exact ih0 _ _
   | exact LeO.none _
   | refine LeO.ite ?_ ?_
   | refine LeO.bind ?_ (fun _ => ?_)
theorem varint_Encode.mono : ∀ a0 k, LeO (varint_Encode.f k a0) (varint_Encode.f (k + 1) a0) := by
 intro a0 k
 have ih0 := varint_Encode.mono_l k
 unfold varint_Encode.f
 repeat' first
   | (with_reducible exact ih0 _ _)
   | (with_reducible exact LeO.refl _)
   | (with_reducible exact LeO.none _)
   | (with_reducible refine LeO.ite ?_ ?_)
   | (with_reducible refine LeO.bind ?_ (fun _ => ?_))
   | exact ih0 _ _
   | exact LeO.none _
   | refine LeO.ite ?_ ?_
   | refine LeO.bind ?_ (fun _ => ?_)
set_option maxHeartbeats 8000000 in
set_option maxRecDepth 100000 in
theorem varint_Encode.calls (k : Nat) (a0 : Int) (r : List Int) (w : World) (h : varint_Encode.f k a0 = some r) :
  Calls Try.prog 46 #[.int .u64 a0] w fun e w' => ∃ v0_ : Value, e = .returned (v0_) ∧ Kd.R (Kd.int .u8) 5 w' w.heap.size (fun _ => True) v0_ r ∧ Below w.heap.size w w' := by
 have HB := Aside0.mk (Below.refl w.heap.size w)
 have H : (varint_Encode.l0 k a0 ([] : List Int)) = some r := h
 clear h
 have H' := Aside0.mk H
 clear H
 go_enter Try.func46, Try.ntmps46
 go_wp2
 go_loopg [0, 3] k (fun kq v0 v3 w' => ∃ (x0_1 : Int) (x3_1 : List Int), v0 = .int .u64 x0_1 ∧ Aside0 (varint_Encode.l0 kq x0_1 x3_1 = some r) ∧ Aside0 (kq ≤ k) ∧ Aside0 (Kd.R (Kd.int .u8) 5 w' w.heap.size (fun _ => True) v3 x3_1) ∧ Aside0 (Below w.heap.size w w'))
 case atStart => exact ⟨(a0), (([] : List Int)), (by first | rfl | (simp; done) | (simp [*]; done)), H', ⟨Nat.le_refl _⟩, ⟨by first | exact Kd.R_nil _ _ _ _ _ | exact Kd.N_nil _ _ _ _ _ | exact Kd.V_nil _ _ _ _ _ | exact Kd.Q_nil _ _ _ _ _ | exact Kd.S_nil _ _ _ _ _⟩, ⟨by repeat (first | (with_reducible first | exact HB.out | apply below_alloc | apply pw_below_drewN | apply below_drew1) | exact HB.out)⟩⟩
 case round =>
  clear H'
  obtain ⟨x0_1, x3_1, rfl, HA, HK1, HO_3, HB⟩ := hrel
  cases gk with
  | zero => exact absurd HA.out (by simp [varint_Encode.l0])
  | succ k1 =>
   have H := HA.out
   clear HA
   simp only [varint_Encode.l0] at H
   by_cases c2 : x0_1 ≥ 128
   ·rw [if_pos c2] at H
    have c2b0 : decide (128 ≤ x0_1) = true := decide_eq_true c2
    clear c2
    by_cases c3 : x3_1.length < 140737488355328
    ·rw [if_pos c3] at H
     have LMc3 := Aside0.mk c3
     clear c3
     obtain ⟨y128, hy128⟩ : ∃ y_ : List Int, y_ = (x3_1 ++ [Go.bits .or .u8 ((x0_1) % 256) 128]) := ⟨_, rfl⟩
     replace H : (varint_Encode.l0 k1 (x0_1 / 128) y128) = some r := by first | (rw [hy128]; with_reducible exact H) | (have H2_ := (Option.bind_some _ _).symm.trans H; rw [hy128]; with_reducible exact H2_) | (have H2_ := (Option.bind_some _ _).symm.trans H; with_reducible exact H2_) | with_reducible exact H | (rw [hy128]; exact H) | exact H
     have Ny128 := Aside0.mk hy128
     clear hy128
     have H' := Aside0.mk H
     clear H
     go_wp2_with (first | ((with_reducible refine gate_builtin (b := .append) (xs := #[.tmp 6, .tmp 10]) rfl ?_); at_builtin; refine Kd.R_append (Kd.int .u8) (w0 := w) w.heap.size rfl (.tmp 6) (.tmp 10) 43 5 (.int .u8 0) 1 rfl Try.underlying43 info5 rfl (by decide) (by omega) u3 x3_1 (Go.bits .or .u8 ((x0_1) % 256) 128) [.int .u8 (Go.bits .or .u8 ((x0_1) % 256) 128)] (fun _ => True) (fun _ => False) rfl rfl ?aP (fun _ hk => hk.elim) ?aF ?aO ?aB ?aS ?aL ?_; (case aP => exact rfl); (case aB => exact (by repeat (first | (with_reducible first | exact HB.out | apply below_alloc | apply pw_below_drewN | apply below_drew1) | exact HB.out))); (case aF => exact (fun _ _ => trivial)); (case aO => exact (by (with_reducible repeat (first | apply Kd.R_alloc | apply Kd.R_drewN | apply Kd.R_drew)); exact HO_3.out)); (case aS => exact (below_size (by repeat (first | (with_reducible first | exact HB.out | apply below_alloc | apply pw_below_drewN | apply below_drew1) | exact HB.out)))); (case aL => have := LMc3.out; omega); intro v129 w4 ho hb hg hat; rw [← Ny128.out] at ho; have n0_ := Aside0.mk (hb); have n1_ := Aside0.mk (ho); clear HB; clear HO_3; have HB := n0_; have HO130 := n1_; clear n0_ n1_; clear ho hb hg hat))
     go_roundg k1
     case measure => have := HK1.out; omega
     case rel => exact ⟨(x0_1 / 128), (y128), (by first | rfl | (simp; done) | (simp [*]; done)), H', ⟨by have := HK1.out; omega⟩, ⟨by (with_reducible repeat (first | apply Kd.R_alloc | apply Kd.R_drewN | apply Kd.R_drew)); exact HO130.out⟩, ⟨by repeat (first | (with_reducible first | exact HB.out | apply below_alloc | apply pw_below_drewN | apply below_drew1) | exact HB.out)⟩⟩
    ·rw [if_neg c3] at H
     exact absurd H (by simp)
   ·rw [if_neg c2] at H
    have c2b0 : decide (128 ≤ x0_1) = false := decide_eq_false c2
    clear c2
    by_cases c5 : x3_1.length < 140737488355328
    ·rw [if_pos c5] at H
     have LMc5 := Aside0.mk c5
     clear c5
     obtain ⟨y131, hy131⟩ : ∃ y_ : List Int, y_ = (x3_1 ++ [(x0_1) % 256]) := ⟨_, rfl⟩
     replace H : (some y131) = some r := by first | (rw [hy131]; with_reducible exact H) | (have H2_ := (Option.bind_some _ _).symm.trans H; rw [hy131]; with_reducible exact H2_) | (have H2_ := (Option.bind_some _ _).symm.trans H; with_reducible exact H2_) | with_reducible exact H | (rw [hy131]; exact H) | exact H
     have Ny131 := Aside0.mk hy131
     clear hy131
     obtain rfl := Option.some.inj H
     go_wp2_with (first | ((with_reducible refine gate_builtin (b := .append) (xs := #[.tmp 14, .tmp 17]) rfl ?_); at_builtin; refine Kd.R_append (Kd.int .u8) (w0 := w) w.heap.size rfl (.tmp 14) (.tmp 17) 43 5 (.int .u8 0) 1 rfl Try.underlying43 info5 rfl (by decide) (by omega) u3 x3_1 ((x0_1) % 256) [.int .u8 ((x0_1) % 256)] (fun _ => True) (fun _ => False) rfl rfl ?aP (fun _ hk => hk.elim) ?aF ?aO ?aB ?aS ?aL ?_; (case aP => exact rfl); (case aB => exact (by repeat (first | (with_reducible first | exact HB.out | apply below_alloc | apply pw_below_drewN | apply below_drew1) | exact HB.out))); (case aF => exact (fun _ _ => trivial)); (case aO => exact (by (with_reducible repeat (first | apply Kd.R_alloc | apply Kd.R_drewN | apply Kd.R_drew)); exact HO_3.out)); (case aS => exact (below_size (by repeat (first | (with_reducible first | exact HB.out | apply below_alloc | apply pw_below_drewN | apply below_drew1) | exact HB.out)))); (case aL => have := LMc5.out; omega); intro v132 w6 ho hb hg hat; rw [← Ny131.out] at ho; have n0_ := Aside0.mk (hb); have n1_ := Aside0.mk (ho); clear HB; clear HO_3; have HB := n0_; have HO133 := n1_; clear n0_ n1_; clear ho hb hg hat))
     go_ret
     exact ⟨_, by first | rfl | (simp [errW_none, errW_some] <;> rfl) | (simp [*, errW_none, errW_some] <;> rfl), by (with_reducible repeat (first | apply Kd.R_alloc | apply Kd.R_drewN | apply Kd.R_drew)); exact HO133.out, by repeat (first | (with_reducible first | exact HB.out | apply below_alloc | apply pw_below_drewN | apply below_drew1) | exact HB.out)⟩
    ·rw [if_neg c5] at H
     exact absurd H (by simp)

/-! ### varint_Fixed: function 47 -/
mutual
def varint_Fixed.j0 : Nat → Int → Int → Bool → Option (List Int)
 | 0, _, _, _ => none
 | k + 1, x0, x1, x12 => if x12 = true then (some ([] : List Int)) else (if 0 ≤ x1 then (if (x1 : Int).toNat ≤ 281474976710656 then (varint_Fixed.l0 k x0 (List.replicate (x1 : Int).toNat 0) x1 0) else (none)) else (none))
def varint_Fixed.l0 : Nat → Int → List Int → Int → Int → Option (List Int)
 | 0, _, _, _, _ => none
 | k + 1, x0, x5, x15, x16 => if x16 < x15 then (if 0 ≤ (wrap64 (8 * x16)) then (if 0 ≤ x16 then (if x16 < (x5.length : Int) then (varint_Fixed.l0 k x0 (x5.set (x16 : Int).toNat ((shr .u64 x0 (wrap64 (8 * x16))) % 256)) x15 (wrap64 (x16 + 1))) else (none)) else (none)) else (none)) else (some x5)
end
def varint_Fixed.f (k : Nat) (a0 : Int) (a1 : Int) : Option (List Int) := if a1 < 1 then (varint_Fixed.j0 k a0 a1 true) else (varint_Fixed.j0 k a0 a1 (decide (a1 > 8)))
theorem varint_Fixed.mono_l : ∀ k, (∀ y0 y1 y2, LeO (varint_Fixed.j0 k y0 y1 y2) (varint_Fixed.j0 (k + 1) y0 y1 y2)) ∧ (∀ y0 y1 y2 y3, LeO (varint_Fixed.l0 k y0 y1 y2 y3) (varint_Fixed.l0 (k + 1) y0 y1 y2 y3))
 | 0 => ⟨fun _ _ _ r h => by simp [varint_Fixed.j0] at h, fun _ _ _ _ r h => by simp [varint_Fixed.l0] at h⟩
 | k + 1 => by
  obtain ⟨ih0, ih1⟩ := varint_Fixed.mono_l k
  refine ⟨?_, ?_⟩
  ·intro y0 y1 y2
   unfold varint_Fixed.j0
   repeat' first
   | (with_reducible exact ih0 _ _ _)
   | (with_reducible exact ih1 _ _ _ _)
   | (with_reducible exact LeO.refl _)
   | (with_reducible exact LeO.none _)
   | (with_reducible refine LeO.ite ?_ ?_)
   | (with_reducible refine LeO.bind ?_ (fun _ => ?_))
   | exact ih0 _ _ _
   | exact ih1 _ _ _ _
   | exact LeO.none _
   | refine LeO.ite ?_ ?_
   | refine LeO.bind ?_ (fun _ => ?_)
  ·intro y0 y1 y2 y3
   unfold varint_Fixed.l0
   repeat' first
   | (with_reducible exact ih0 _ _ _)
   | (with_reducible exact ih1 _ _ _ _)
   | (with_reducible exact LeO.refl _)
   | (with_reducible exact LeO.none _)
   | (with_reducible refine LeO.ite ?_ ?_)
   | (with_reducible refine LeO.bind ?_ (fun _ => ?_))
   | exact ih0 _ _ _
   | exact ih1 _ _ _ _
   | exact LeO.none _
   | refine LeO.ite ?_ ?_
   | refine LeO.bind ?_ (fun _ => ?_)
theorem varint_Fixed.mono : ∀ a0 a1 k, LeO (varint_Fixed.f k a0 a1) (varint_Fixed.f (k + 1) a0 a1) := by
 intro a0 a1 k
 obtain ⟨ih0, ih1⟩ := varint_Fixed.mono_l k
 unfold varint_Fixed.f
 repeat' first
   | (with_reducible exact ih0 _ _ _)
   | (with_reducible exact ih1 _ _ _ _)
   | (with_reducible exact LeO.refl _)
   | (with_reducible exact LeO.none _)
   | (with_reducible refine LeO.ite ?_ ?_)
   | (with_reducible refine LeO.bind ?_ (fun _ => ?_))
   | exact ih0 _ _ _
   | exact ih1 _ _ _ _
   | exact LeO.none _
   | refine LeO.ite ?_ ?_
   | refine LeO.bind ?_ (fun _ => ?_)
set_option maxHeartbeats 8000000 in
set_option maxRecDepth 100000 in
theorem varint_Fixed.calls (k : Nat) (a0 : Int) (a1 : Int) (r : List Int) (w : World) (h : varint_Fixed.f k a0 a1 = some r) :
  Calls Try.prog 47 #[.int .u64 a0, .int .i64 a1] w fun e w' => ∃ v0_ : Value, e = .returned (v0_) ∧ Kd.R (Kd.int .u8) 5 w' w.heap.size (fun _ => True) v0_ r ∧ Below w.heap.size w w' := by
 have HB := Aside0.mk (Below.refl w.heap.size w)
 have H : (if a1 < 1 then (varint_Fixed.j0 k a0 a1 true) else (varint_Fixed.j0 k a0 a1 (decide (a1 > 8)))) = some r := h
 clear h
 have HC3 := Aside0.mk H
 clear H
 go_enter Try.func47, Try.ntmps47
 go_upto_region 1 with (fail)
 go_cut [12] (fun v12 wc => ∃ (kq : Nat) (x12_2 : Bool), v12 = .bool x12_2 ∧ Aside0 (varint_Fixed.j0 kq a0 a1 x12_2 = some r) ∧ Aside0 (kq ≤ k) ∧ Aside0 (Below w.heap.size w wc))
 case first =>
  have H := HC3.out
  clear HC3
  by_cases c4 : a1 < 1
  ·rw [if_pos c4] at H
   have c4b0 : decide (a1 < 1) = true := decide_eq_true c4
   clear c4
   (first | rw [c4b0] | (simp only [i64_w, i32_w]; rw [c4b0]) | skip)
   have H' := Aside0.mk H
   clear H
   go_wp2
   go_meet
   case rel => exact ⟨_, (true), (by first | rfl | (simp; done) | (simp [*]; done)), H', ⟨by first | omega | exact Nat.le_refl _⟩, ⟨by repeat (first | (with_reducible first | exact HB.out | apply below_alloc | apply pw_below_drewN | apply below_drew1) | exact HB.out)⟩⟩
  ·rw [if_neg c4] at H
   have c4b0 : decide (a1 < 1) = false := decide_eq_false c4
   clear c4
   (first | rw [c4b0] | (simp only [i64_w, i32_w]; rw [c4b0]) | skip)
   have H' := Aside0.mk H
   clear H
   go_wp2
   go_meet
   case rel => exact ⟨_, (decide (a1 > 8)), (by first | rfl | (simp; done) | (simp [*]; done)), H', ⟨by first | omega | exact Nat.le_refl _⟩, ⟨by repeat (first | (with_reducible first | exact HB.out | apply below_alloc | apply pw_below_drewN | apply below_drew1) | exact HB.out)⟩⟩
 case rest =>
  clear HC3
  try clear p2
  try clear c4
  try clear c4b0
  obtain ⟨kq, x12_2, rfl, HA, HJ2, HB⟩ := hcut
  cases kq with
  | zero => exact absurd HA.out (by simp [varint_Fixed.j0])
  | succ kj2 =>
   have H := HA.out
   clear HA
   simp only [varint_Fixed.j0] at H
   by_cases c5 : x12_2 = true
   ·subst c5
    have H1 : (some ([] : List Int)) = some r := by rw [if_pos rfl] at H; exact H
    clear H
    have H := H1
    clear H1
    obtain rfl := Option.some.inj H
    go_wp2
    go_ret
    exact ⟨_, by first | rfl | (simp [errW_none, errW_some] <;> rfl) | (simp [*, errW_none, errW_some] <;> rfl), by first | exact Kd.R_nil _ _ _ _ _ | exact Kd.N_nil _ _ _ _ _ | exact Kd.V_nil _ _ _ _ _ | exact Kd.Q_nil _ _ _ _ _ | exact Kd.S_nil _ _ _ _ _, by repeat (first | (with_reducible first | exact HB.out | apply below_alloc | apply pw_below_drewN | apply below_drew1) | exact HB.out)⟩
   ·replace c5 := Bool.eq_false_iff.mpr c5
    subst c5
    have H1 : (if 0 ≤ a1 then (if (a1 : Int).toNat ≤ 281474976710656 then (varint_Fixed.l0 kj2 a0 (List.replicate (a1 : Int).toNat 0) a1 0) else (none)) else (none)) = some r := by rw [if_neg (show ¬ (false = true) by decide)] at H; exact H
    clear H
    have H := H1
    clear H1
    by_cases c6 : 0 ≤ a1
    ·rw [if_pos c6] at H
     have c6b0 := eq_true c6
     have c6b1 : decide (0 ≤ a1) = true := decide_eq_true c6
     clear c6
     by_cases c7 : (a1 : Int).toNat ≤ 281474976710656
     ·rw [if_pos c7] at H
      have c7b0 := eq_true c7
      have c7b1 : decide ((a1 : Int).toNat ≤ 281474976710656) = true := decide_eq_true c7
      clear c7
      obtain ⟨y134, hy134⟩ : ∃ y_ : List Int, y_ = (List.replicate (a1 : Int).toNat 0) := ⟨_, rfl⟩
      replace H : (varint_Fixed.l0 kj2 a0 y134 a1 0) = some r := by first | (rw [hy134]; with_reducible exact H) | (have H2_ := (Option.bind_some _ _).symm.trans H; rw [hy134]; with_reducible exact H2_) | (have H2_ := (Option.bind_some _ _).symm.trans H; with_reducible exact H2_) | with_reducible exact H | (rw [hy134]; exact H) | exact H
      have Ny134 := Aside0.mk hy134
      clear hy134
      have H' := Aside0.mk H
      clear H
      go_wp2_with (first | ((with_reducible refine gate_dst (N := 14) rfl ?_); refine Kd.R_make (Kd.int .u8) _ 5 rfl (N := 14) rfl 43 _ _ rfl a1 rfl rfl Try.underlying43 (.int .u8 0) 1 info5 rfl (by decide) (by omega) 0 (ok := fun _ => True) (okp := fun _ => True) rfl (fun _ hk => hk) trivial (of_decide_eq_true (by first | (with_reducible assumption) | assumption)) (Nat.le_trans (Nat.mul_le_mul_right _ (of_decide_eq_true (by first | (with_reducible assumption) | assumption) : a1.toNat ≤ 281474976710656)) (by omega)) (Below.refl _ _) (Nat.le_refl _) ?_; intro v135 w8 ho9 hb hg_ hnew_; clear hg_ hnew_; (first | rw [← Ny134.out] at ho9 | (simp only [Int.reduceToNat] at ho9; rw [← Ny134.out] at ho9)); have n0_ := Aside0.mk (Kd.R_lower ho9 (below_size (by repeat (first | (with_reducible first | exact HB.out | apply below_alloc | apply pw_below_drewN | apply below_drew1) | exact HB.out)))); have n1_ := Aside0.mk (below_step (by repeat (first | (with_reducible first | exact HB.out | apply below_alloc | apply pw_below_drewN | apply below_drew1) | exact HB.out)) hb); clear HB; have HO136 := n0_; have HB := n1_; clear n0_ n1_; clear hb ho9))
      go_loopg [16] kj2 (fun kq v16 w' => ∃ (x5_2 : List Int) (x16_2 : Int), v16 = .int .i64 x16_2 ∧ Aside0 (varint_Fixed.l0 kq a0 x5_2 a1 x16_2 = some r) ∧ Aside0 (kq ≤ kj2) ∧ Aside0 (Kd.R (Kd.int .u8) 5 w' w.heap.size (fun _ => True) v135 x5_2) ∧ Aside0 (Below w.heap.size w w'))
      case atStart => exact ⟨(y134), (0), (by first | rfl | (simp; done) | (simp [*]; done)), H', ⟨Nat.le_refl _⟩, ⟨by (with_reducible repeat (first | apply Kd.R_alloc | apply Kd.R_drewN | apply Kd.R_drew)); exact HO136.out⟩, ⟨by repeat (first | (with_reducible first | exact HB.out | apply below_alloc | apply pw_below_drewN | apply below_drew1) | exact HB.out)⟩⟩
      case round =>
       clear H'
       try clear p2
       try clear c4
       try clear c4b0
       try clear c5
       try clear c6
       try clear c6b0
       try clear c6b1
       try clear c7
       try clear c7b0
       try clear c7b1
       try clear p2
       obtain ⟨x5_2, x16_2, rfl, HA, HK2, HO_5, HB⟩ := hrel
       cases gk with
       | zero => exact absurd HA.out (by simp [varint_Fixed.l0])
       | succ k2 =>
        have H := HA.out
        clear HA
        simp only [varint_Fixed.l0] at H
        by_cases c10 : x16_2 < a1
        ·rw [if_pos c10] at H
         have c10b0 : decide (x16_2 < a1) = true := decide_eq_true c10
         clear c10
         obtain ⟨ji11, hji11⟩ : ∃ j_ : Int, (wrap64 (8 * x16_2)) = j_ := ⟨_, rfl⟩
         replace H : (if 0 ≤ (ji11) then (if 0 ≤ x16_2 then (if x16_2 < (x5_2.length : Int) then (varint_Fixed.l0 k2 a0 (x5_2.set (x16_2 : Int).toNat ((shr .u64 a0 (ji11)) % 256)) a1 (wrap64 (x16_2 + 1))) else (none)) else (none)) else (none)) = some r := by first | (rw [hji11] at H; exact H) | (simp only [hji11] at H ⊢; exact H)
         have hji11w : (IntKind.i64.wrap (8 * x16_2)) = ji11 := (i64_w _).trans hji11
         by_cases c12 : 0 ≤ (ji11)
         ·rw [if_pos c12] at H
          have c12b0 := eq_true c12
          have c12b1 : decide (0 ≤ (ji11)) = true := decide_eq_true c12
          clear c12
          obtain ⟨ji13, hji13⟩ : ∃ j_ : Int, (shr .u64 a0 (ji11)) = j_ := ⟨_, rfl⟩
          replace H : (if 0 ≤ x16_2 then (if x16_2 < (x5_2.length : Int) then (varint_Fixed.l0 k2 a0 (x5_2.set (x16_2 : Int).toNat ((ji13) % 256)) a1 (wrap64 (x16_2 + 1))) else (none)) else (none)) = some r := by first | (rw [hji13] at H; exact H) | (simp only [hji13] at H ⊢; exact H)
          have hji13_ : (a0 / 2 ^ min (ji11).toNat 64) = ji13 := hji13
          have hji13z : (ji11) ≤ 64 → (a0 / 2 ^ (ji11).toNat) = ji13 := shr_small hji13
          by_cases c14 : 0 ≤ x16_2
          ·rw [if_pos c14] at H
           have c14b0 : decide (0 ≤ x16_2) = true := decide_eq_true c14
           clear c14
           by_cases c15 : x16_2 < (x5_2.length : Int)
           ·rw [if_pos c15] at H
            have c15b0 : decide (x16_2 < (x5_2.length : Int)) = true := decide_eq_true c15
            clear c15
            obtain ⟨y137, hy137⟩ : ∃ y_ : List Int, y_ = (x5_2.set (x16_2 : Int).toNat ((ji13) % 256)) := ⟨_, rfl⟩
            replace H : (varint_Fixed.l0 k2 a0 y137 a1 (wrap64 (x16_2 + 1))) = some r := by first | (rw [hy137]; with_reducible exact H) | (have H2_ := (Option.bind_some _ _).symm.trans H; rw [hy137]; with_reducible exact H2_) | (have H2_ := (Option.bind_some _ _).symm.trans H; with_reducible exact H2_) | with_reducible exact H | (rw [hy137]; exact H) | exact H
            have Ny137 := Aside0.mk hy137
            clear hy137
            have H' := Aside0.mk H
            clear H
            have p16 : 0 ≤ (x16_2 : Int) := of_decide_eq_true (by first | (with_reducible assumption) | assumption)
            have q16 : (x16_2 : Int) < ((x5_2.length : Int) : Int) := of_decide_eq_true (by first | (with_reducible assumption) | assumption)
            obtain ⟨go16, co16, eo16, gb16, gl16, cl16, HG16⟩ := Kd.R_form HO_5.out (by omega)
            (first | cases eo16 | (injection eo16 with ea_ en_ ec_; (first | subst ea_ | (injection ea_ with ea_; subst ea_)); subst ec_; clear en_))
            have GB16 := Aside0.mk gb16
            have GG16 := Aside0.mk HG16
            clear gb16 gl16 HG16
            obtain ⟨hx16_0, hf16_0⟩ := Kd.R_celln 0 HO_5.out (x16_2 : Int) p16 q16
            replace p16 := eq_true p16
            replace q16 := eq_true q16
            have HP17 := Kd.R_putg HO_5.out (x16_2 : Int) ((ji13) % 256)
            go_wp2_with (first | ((with_reducible refine gate_store (t := 5) (p := 26) rfl ?_); refine store_event (t := 5) (p := 26) (v := ?vo_w18) (w1 := (wr.setCell ⟨go16, (x16_2 : Int).toNat, none⟩ (.int .u8 ((ji13) % 256)))) ?hg ?ho ?hn ?hr ?_; (case ho => rfl); (case hg => (first | rfl | (simp only [*]; rfl) | (simp [*]; done))); (case hn => rfl); (case hr => first | (go_simp; done) | (go_simp; rfl)); intro w18 hw; have hg : wr.grownBy w18 (some go16) := (by rw [hw]; exact HP17.2); have hp_ : Kd.R (Kd.int .u8) 5 w18 w.heap.size (fun _ => True) (.slice (some ⟨go16, 0, none⟩) x5_2.length co16) y137 := (by rw [hw, Ny137.out]; exact HP17.1); clear HP17; have n0_ := Aside0.mk (hp_); have n1_ := Aside0.mk ((by rw [hw]; exact below_set (HB.out) GB16.out : Below w.heap.size w w18)); clear HO_5; clear HB; have HO_5 := n0_; have HB := n1_; clear n0_ n1_; clear hg hw hp_))
            go_roundg k2
            case measure => have := HJ2.out; have := HK2.out; omega
            case rel => exact ⟨(y137), (wrap64 (x16_2 + 1)), (by first | rfl | (simp; done) | (simp [*]; done)), H', ⟨by have := HJ2.out; have := HK2.out; omega⟩, ⟨by (with_reducible repeat (first | apply Kd.R_alloc | apply Kd.R_drewN | apply Kd.R_drew)); exact HO_5.out⟩, ⟨by repeat (first | (with_reducible first | exact HB.out | apply below_alloc | apply pw_below_drewN | apply below_drew1) | exact HB.out)⟩⟩
           ·rw [if_neg c15] at H
            exact absurd H (by simp)
          ·rw [if_neg c14] at H
           exact absurd H (by simp)
         ·rw [if_neg c12] at H
          exact absurd H (by simp)
        ·rw [if_neg c10] at H
         have c10b0 : decide (x16_2 < a1) = false := decide_eq_false c10
         clear c10
         obtain rfl := Option.some.inj H
         go_wp2
         go_ret
         exact ⟨_, by first | rfl | (simp [errW_none, errW_some] <;> rfl) | (simp [*, errW_none, errW_some] <;> rfl), by (with_reducible repeat (first | apply Kd.R_alloc | apply Kd.R_drewN | apply Kd.R_drew)); exact HO_5.out, by repeat (first | (with_reducible first | exact HB.out | apply below_alloc | apply pw_below_drewN | apply below_drew1) | exact HB.out)⟩
     ·rw [if_neg c7] at H
      exact absurd H (by simp)
    ·rw [if_neg c6] at H
     exact absurd H (by simp)

end Go.Proofs.Ytjeheopcohnkeaa.QBloomRoundTrip
