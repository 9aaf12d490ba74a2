-- Written by a program of this session (wip/pr2.sh): the walk of the Go text, function by function.
import Derived.Test.YteamkjphdiajeaaQFrontcodeAtx0
import Derived.Test.YteamkjphdiajeaaQFrontcodeAtx1
namespace Go.Proofs.Yteamkjphdiajeaa.QFrontcodeAt
open Go.RowKit Go.Proofs.YteamkjphdiajeaaW.PrintWords Go.Proofs.YteamkjphdiajeaaW.PrintLast Go.Proofs.YteamkjphdiajeaaW.PrintMore
open Go.Proofs.YteamkjphdiajeaaM
attribute [local go_sem] max2_int min2_int max_two min_two max_three min_three max_four min_four   -- for this text's walks alone
set_option linter.unusedVariables false
set_option linter.unusedSimpArgs false

/-! ### frontcode_next: function 57 -/
def nextText (l0 : List Int) (a3 : ByteArray) (k m at_ : Int) : ByteArray := strOfNums ((bytesOf a3).take k.toNat ++ (l0.drop at_.toNat).take m.toNat)
def frontcode_next.f (k : Nat) (l0 : List Int) (a1 a2 : Int) (a3 : ByteArray) : Option (ByteArray × Int × Int) :=
  if a3.size ≤ 1000000000 ∧ l0.length ≤ 1000000000 ∧ 0 ≤ a2 ∧ a2 ≤ 1000000000 then
    (varint_Decode.f k l0 a1).bind fun d1 => if d1.2.2 = 0 then
      (if 0 ≤ d1.1 ∧ d1.1 < 18446744073709551616 then
        (if d1.1 > (a3.size : Int) ∨ (Int.tmod a2 16 = 0 ∧ d1.1 > 0) then some (⟨#[]⟩, 0, 4) else
          (varint_Decode.f k l0 d1.2.1).bind fun d2 => if d2.2.2 = 0 then
            (if 0 ≤ d2.1 ∧ d2.1 < 18446744073709551616 ∧ 0 ≤ d2.2.1 ∧ d2.2.1 ≤ (l0.length : Int) then
              (if d2.1 > (l0.length : Int) - d2.2.1 then some (⟨#[]⟩, 0, 2) else
                (if Int.tmod a2 16 = 0 then some (nextText l0 a3 d1.1 d2.1 d2.2.1, d2.2.1 + d2.1, 0) else
                  (frontcode_CommonPrefix.f k a3 (nextText l0 a3 d1.1 d2.1 d2.2.1)).bind fun c => if c > d1.1 then some (⟨#[]⟩, 0, 4) else some (nextText l0 a3 d1.1 d2.1 d2.2.1, d2.2.1 + d2.1, 0)))
            else none)
          else some (⟨#[]⟩, 0, d2.2.2))
      else none)
    else some (⟨#[]⟩, 0, d1.2.2)
  else none
theorem frontcode_next.mono (k : Nat) (l0 : List Int) (a1 a2 : Int) (a3 : ByteArray) : LeO (frontcode_next.f k l0 a1 a2 a3) (frontcode_next.f (k + 1) l0 a1 a2 a3) := by
  unfold frontcode_next.f
  repeat' first
  | (with_reducible exact varint_Decode.mono _ _ _)
  | (with_reducible exact frontcode_CommonPrefix.mono _ _ _)
  | (with_reducible exact LeO.refl _)
  | (with_reducible exact LeO.none _)
  | (with_reducible refine LeO.ite ?_ ?_)
  | (with_reducible refine LeO.bind ?_ (fun _ => ?_))
/-- Cells laid one by one. -/
def putAt (xs : List Int) (o : Nat) : List Int → List Int
  | [] => xs
  | y :: ys => putAt (xs.set o y) (o + 1) ys
theorem putAt_len : ∀ (ys xs : List Int) (o : Nat), (putAt xs o ys).length = xs.length := by
  intro ys
  induction ys with
  | nil => intro xs o; rfl
  | cons y ys ih => intro xs o; simp [putAt, ih]
theorem putAt_eq : ∀ (ys a z : List Int), ys.length ≤ z.length → putAt (a ++ z) a.length ys = a ++ (ys ++ z.drop ys.length) := by
  intro ys
  induction ys with
  | nil => intro a z _; simp [putAt]
  | cons y ys ih =>
    intro a z h
    cases z with
    | nil => simp at h
    | cons c z =>
      have := ih (a ++ [y]) z (by simpa using h)
      simp only [putAt]
      rw [show (a ++ c :: z).set a.length y = (a ++ [y]) ++ z by simp [List.set_append_right], show a.length + 1 = (a ++ [y]).length by simp, this]
      simp
theorem R_cells {e base g n cap : Nat} {ok : Nat → Prop} : ∀ (ys xs : List Int) (o : Nat) (W : World), Kd.R (Kd.int .u8) e W base ok (.slice (some ⟨g, 0, none⟩) n cap) xs → xs.length = n →
    Kd.R (Kd.int .u8) e (W.setCells g o (ys.map (Value.int .u8))) base ok (.slice (some ⟨g, 0, none⟩) n cap) (putAt xs o ys) := by
  intro ys
  induction ys with
  | nil => intro xs o W h _; exact h
  | cons y ys ih =>
    intro xs o W h hn
    subst hn
    have := (Kd.R_put (enc := Value.int .u8) (h1 := fun _ => rfl) h (o : Int) y).1
    rw [Int.toNat_natCast] at this
    have h2 := ih (xs.set o y) (o + 1) (W.setCell ⟨g, o, none⟩ (.int .u8 y)) this (by simp)
    simpa [putAt, World.setCells] using h2
theorem below_cells {base g : Nat} (hg : base ≤ g) {w0 : World} : ∀ (vs : List Value) (o : Nat) (W : World), Below base w0 W → Below base w0 (W.setCells g o vs) := by
  intro vs
  induction vs with
  | nil => intro o W h; exact h
  | cons v vs ih => intro o W h; exact ih (o + 1) _ (h.setCell hg _)
theorem R_there {e base g n cap : Nat} {ok : Nat → Prop} {xs : List Int} {W : World} (h : Kd.R (Kd.int .u8) e W base ok (.slice (some ⟨g, 0, none⟩) n cap) xs) (hn : xs.length = n) (o : Nat) (m : Nat) (hm : o + m ≤ n) :
    (∀ j, j < m → (W.cell? ⟨g, o + j, none⟩).isSome = true) ∧ ∀ j, j < m → W.frozen? ⟨g, o + j, none⟩ = false := by
  subst hn
  refine ⟨fun j hj => ?_, fun j hj => ?_⟩
  · have := (Kd.R_cell (enc := Value.int .u8) (h1 := fun _ => rfl) (0 : Int) h ((o + j : Nat) : Int) (by omega) (by omega)).1
    rw [Int.toNat_natCast] at this
    rw [this]; rfl
  · have := (Kd.R_cell (enc := Value.int .u8) (h1 := fun _ => rfl) (0 : Int) h ((o + j : Nat) : Int) (by omega) (by omega)).2
    rwa [Int.toNat_natCast] at this
theorem run_copy_str {P : Program} (W : World) (dT sT ty e : TypeId) (g o dLen dCap : Nat) (s : ByteArray) (hu : P.underlying dT = some (.slice e)) (hs : (P.info? e).map (·.size) = some 1) (hle : s.size ≤ dLen)
    (hc : ∀ j, j < s.size → (W.cell? ⟨g, o + j, none⟩).isSome = true) (hf : ∀ j, j < s.size → W.frozen? ⟨g, o + j, none⟩ = false) :
    (Builtin.copy_ #[dT, sT] ty #[.slice (some ⟨g, o, none⟩) dLen dCap, .string s]).run P W = .ok (goInt s.size) (W.setCells g o ((bytesOf s).map (Value.int .u8))) := by
  have hl : ((bytesOf s).map (Value.int .u8)).length = s.size := by rw [List.length_map, bytesOf_length]
  have hst := run_storeCells_cells (P := P) g o ((bytesOf s).map (Value.int .u8)) 0 W (by simpa [hl] using hc) (by simpa [hl] using hf) (by intro v hv; obtain ⟨q, _, rfl⟩ := List.mem_map.1 hv; rfl)
  have hmin : Nat.min s.size dLen = s.size := Nat.min_eq_left hle
  have htk : List.take s.size (List.map (fun b : UInt8 => Value.int IntKind.u8 (b.toNat : Int)) s.data.toList) = (bytesOf s).map (Value.int .u8) := by
    rw [List.take_of_length_le (by rw [List.length_map, ← bytesOf_length, bytesOf, List.length_map]; exact Nat.le_refl _)]
    simp [bytesOf]
  simp only [Nat.add_zero] at hst
  cases hq : P.info? e with
  | none => simp [hq] at hs
  | some i =>
    simp [Builtin.copy_, run_underlying hu, Builtin.lenOf, Builtin.firstCells, sizeOf, typeInfo, hq, hmin]
    rw [htk, hst]
    simp [Result.andThen]
theorem copy_str {e base n vc dT sT ty : Nat} {P : Program} {ok : Nat → Prop} {vA : Option Addr} (W : World) (xs : List Int) (s : ByteArray) (hu : P.underlying dT = some (.slice e)) (hs : (P.info? e).map (·.size) = some 1) (h : Kd.R (Kd.int .u8) e W base ok (.slice vA n vc) xs) (hn : xs.length = n) (hle : s.size ≤ n) :
    ∃ w2, (Builtin.copy_ #[dT, sT] ty #[.slice vA n vc, .string s]).run P W = .ok (.int .i64 (s.size : Int)) w2 ∧ Kd.R (Kd.int .u8) e w2 base ok (.slice vA n vc) (putAt xs 0 (bytesOf s)) ∧ Below base W w2 := by
  by_cases h0 : s.size = 0
  · refine ⟨W, ?_, ?_, Below.refl _ _⟩
    · cases hq : P.info? e with
      | none => simp [hq] at hs
      | some i => cases vA <;> simp [Builtin.copy_, run_underlying hu, Builtin.lenOf, Builtin.firstCells, sizeOf, typeInfo, hq, h0, storeCells] <;> rfl
    · have : bytesOf s = [] := List.eq_nil_of_length_eq_zero (by rw [bytesOf_length, h0])
      rw [this]; exact h
  · obtain ⟨g, c1, hv, _, hglt, _⟩ := Kd.R_form h (by omega)
    obtain ⟨rfl, rfl⟩ : vA = some ⟨g, 0, none⟩ ∧ vc = c1 := by injection hv with e1 e2 e3; exact ⟨e1, e3⟩
    have ht := R_there h hn 0 s.size (by omega)
    exact ⟨_, run_copy_str W dT sT ty e g 0 n vc s hu hs hle ht.1 ht.2, R_cells _ _ 0 W h hn, below_cells (Kd.R_base h g (by simp [Value.ownBlock])) _ _ _ (Below.refl _ _)⟩
theorem pw_below_drewN' {B : Nat} {w0 W : World} (h : Below B w0 W) (n : Nat) : Below B w0 (W.drewN n) := h.trans (pw_below_drewN (Below.refl _ _) n)
theorem bytesOf_take (s : ByteArray) (k : Nat) : bytesOf (s.extract 0 k) = (bytesOf s).take k := by
  unfold bytesOf
  rw [ByteArray.data_extract]
  simp
theorem copy_in {e base n vc dT sT ty : Nat} {P : Program} {ok : Nat → Prop} {g : Nat} {A0 : Option Addr} (W : World) (xs l0 : List Int) (kk at_ m dLen dCap sCap : Nat) (hu : P.underlying dT = some (.slice e)) (hs : (P.info? e).map (·.size) = some 1) (h : Kd.R (Kd.int .u8) e W base ok (.slice (some ⟨g, 0, none⟩) n vc) xs) (hn : xs.length = n) (hC : Kd.C (Kd.int .u8) W A0 l0.length l0) (hkm : kk + m ≤ n) (hat : at_ + m ≤ l0.length) (hd : m ≤ dLen) (hm : 0 < m) :
    ∃ w3, (Builtin.copy_ #[dT, sT] ty #[.slice (some ⟨g, kk, none⟩) dLen dCap, .slice (A0.map fun x => x.add at_) m sCap]).run P W = .ok (.int .i64 (m : Int)) w3 ∧ Kd.R (Kd.int .u8) e w3 base ok (.slice (some ⟨g, 0, none⟩) n vc) (putAt xs kk ((l0.drop at_).take m)) ∧ Below base W w3 := by
  obtain ⟨ad, rfl, _⟩ := Kd.at_int hC 0 (by omega) (by omega)
  have hl : ((l0.drop at_).take m).length = m := by rw [List.length_take, List.length_drop]; omega
  have ht := R_there h hn kk m hkm
  have hr := run_copy_cells (P := P) W dT sT ty e g kk dLen dCap (ad.add at_) m sCap (((l0.drop at_).take m).map (Value.int .u8)) hu hs (by rw [List.length_map, hl]; exact (Nat.min_eq_left hd).symm) ?_ (fun j hj => ht.1 j (by rw [List.length_map, hl] at hj; exact hj)) (fun j hj => ht.2 j (by rw [List.length_map, hl] at hj; exact hj)) (by intro v hv; obtain ⟨q, _, rfl⟩ := List.mem_map.1 hv; rfl)
  · rw [List.length_map, hl] at hr
    exact ⟨_, hr, R_cells _ _ kk W h hn, below_cells (Kd.R_base h g (by simp [Value.ownBlock])) _ _ _ (Below.refl _ _)⟩
  · intro j v hv
    rw [List.getElem?_map] at hv
    obtain ⟨x, hx, rfl⟩ := Option.map_eq_some_iff.1 hv
    have hj : j < m := by
      rcases Nat.lt_or_ge j m with h1 | h1
      · exact h1
      · rw [List.getElem?_eq_none (by rw [hl]; exact h1)] at hx; cases hx
    obtain ⟨ad2, he, hc⟩ := Kd.at_int hC ((at_ + j : Nat) : Int) (by omega) (by omega)
    injection he with he
    subst he
    rw [Int.toNat_natCast] at hc
    rw [Addr.add_add, hc]
    rw [List.getElem?_take_of_lt hj, List.getElem?_drop] at hx
    rw [rd_nat, List.getD_eq_getElem?_getD, hx]; rfl
theorem copy_none {e dT sT ty : Nat} {P : Program} (hu : P.underlying dT = some (.slice e)) (hs : (P.info? e).map (·.size) = some 1) (W : World) (d s : Option Addr) (dLen dCap sLen sCap : Nat) (h : sLen = 0) : (Builtin.copy_ #[dT, sT] ty #[.slice d dLen dCap, .slice s sLen sCap]).run P W = .ok (.int .i64 0) W := by
  subst h
  exact run_copy_none W dT sT ty e d s dLen dCap 0 sCap hu hs (Nat.zero_min _)
theorem next_eq (a3 : ByteArray) (l0 zs : List Int) (kk mm at_ u : Nat) (hz : zs.length = kk + mm) (hk : kk ≤ a3.size) (hu : u = at_ + mm) (hl : u ≤ l0.length) : strOfNums (putAt (putAt zs 0 (bytesOf (a3.extract 0 kk))) kk ((l0.drop at_).take (u - at_))) = nextText l0 a3 (kk : Int) (mm : Int) (at_ : Int) := by
  unfold nextText
  congr 1
  rw [bytesOf_take, Int.toNat_natCast, Int.toNat_natCast, Int.toNat_natCast]
  have h1 : ((bytesOf a3).take kk).length = kk := by rw [List.length_take, bytesOf_length]; omega
  have h2 : ((l0.drop at_).take mm).length = mm := by rw [List.length_take, List.length_drop]; omega
  have e1 := putAt_eq ((bytesOf a3).take kk) [] zs (by rw [h1]; omega)
  simp only [List.nil_append, List.length_nil] at e1
  rw [e1, show u - at_ = mm by omega]
  have e2 := putAt_eq ((l0.drop at_).take mm) ((bytesOf a3).take kk) (zs.drop ((bytesOf a3).take kk).length) (by rw [h2, h1, List.length_drop]; omega)
  rw [h1] at e2 ⊢
  rw [e2, h2, show List.drop mm (List.drop kk zs) = [] from List.drop_of_length_le (by rw [List.length_drop]; omega), List.append_nil]
theorem next_eq0 (a3 : ByteArray) (l0 zs : List Int) (kk at_ : Nat) (hz : zs.length = kk) (hk : kk ≤ a3.size) : strOfNums (putAt zs 0 (bytesOf (a3.extract 0 kk))) = nextText l0 a3 (kk : Int) ((0 : Nat) : Int) (at_ : Int) := by
  unfold nextText
  congr 1
  rw [bytesOf_take, Int.toNat_natCast, Int.toNat_natCast, Int.toNat_natCast]
  have h1 : ((bytesOf a3).take kk).length = kk := by rw [List.length_take, bytesOf_length]; omega
  have e1 := putAt_eq ((bytesOf a3).take kk) [] zs (by rw [h1]; omega)
  simp only [List.nil_append, List.length_nil] at e1
  rw [e1, h1, List.drop_of_length_le (by omega)]
  simp
set_option maxHeartbeats 1000000 in
set_option maxRecDepth 100000 in
theorem frontcode_next.calls (k : Nat) (A0 : Option Addr) (c0 : Nat) (l0 : List Int) (a1 : Int) (a2 : Int) (a3 : ByteArray) (r1 : ByteArray) (r2 : Int) (r3 : Int) (w : World) (hr0 : Kd.C (Kd.int .u8) w A0 l0.length l0) (hc0 : l0.length ≤ c0) (h : frontcode_next.f k l0 a1 a2 a3 = some (r1, r2, r3)) :
    Calls Try.prog 57 #[.slice A0 l0.length c0, .int .i64 a1, .int .i64 a2, .string a3] w fun e w' => e = .returned (.tuple #[.string r1, .int .i64 r2, .int .i64 r3]) ∧ Below w.heap.size w w' := by
  have hmx := Kd.C_max hr0
  unfold frontcode_next.f at h
  by_cases hsz : a3.size ≤ 1000000000 ∧ l0.length ≤ 1000000000 ∧ 0 ≤ a2 ∧ a2 ≤ 1000000000
  case neg => rw [if_neg hsz] at h; cases h
  rw [if_pos hsz] at h
  obtain ⟨hs1, hs2, hs3, hs4⟩ := hsz
  obtain ⟨q, rfl⟩ := Int.eq_ofNat_of_zero_le hs3
  obtain ⟨t, ht⟩ : ∃ t : Nat, t = q % 16 := ⟨_, rfl⟩
  have htm : Int.tmod (q : Int) 16 = (t : Int) := by rw [Int.tmod_eq_emod_of_nonneg (by omega)]; omega
  have ht2 : (q : Int) % 16 = (t : Int) := by omega
  rw [htm] at h
  have HS := Aside0.mk (And.intro hs1 (And.intro hs2 hs4))
  clear ht htm hs3 hs4
  replace h := Option.bind_eq_some_iff.mp h
  obtain ⟨⟨d1, d2, d3⟩, hD, h⟩ := h
  have HR := Aside0.mk hr0
  have HD := Aside0.mk hD
  clear hr0 hD
  by_cases e1 : d3 = 0
  case neg =>
    rw [if_neg e1] at h
    simp only [Option.some.injEq, Prod.mk.injEq] at h
    obtain ⟨rfl, rfl, rfl⟩ := h
    have e1b : (d3 != 0) = true := by simpa using e1
    clear e1
    go_enter Try.func57, Try.ntmps57
    go_wp2_with (go_at_call 62; with_reducible refine (varint_Decode.calls _ _ _ l0 _ _ _ _ _ HR.out hc0 HD.out).mono ?_; rintro e w' ⟨rfl, ⟨nd, rfl⟩⟩)
    go_ret3
    exact ⟨rfl, pw_below_drewN (Below.refl _ _) _⟩
  subst e1
  rw [if_pos rfl] at h
  by_cases e2 : 0 ≤ d1 ∧ d1 < 18446744073709551616
  case neg => rw [if_neg e2] at h; cases h
  rw [if_pos e2] at h
  obtain ⟨e2, e3⟩ := e2
  obtain ⟨kk, rfl⟩ := Int.eq_ofNat_of_zero_le e2
  have ewk : IntKind.u64.wrap (a3.size : Int) = (a3.size : Int) := wraps_u64 _ (by omega) (by omega)
  have E3 := Aside0.mk e3
  clear e2 e3
  by_cases e4 : (kk : Int) > (a3.size : Int) ∨ ((t : Int) = 0 ∧ (kk : Int) > 0)
  case pos =>
    rw [if_pos e4] at h
    simp only [Option.some.injEq, Prod.mk.injEq] at h
    obtain ⟨rfl, rfl, rfl⟩ := h
    go_enter Try.func57, Try.ntmps57
    by_cases e5 : (a3.size : Int) < (kk : Int)
    · go_wp2_with (go_at_call 62; with_reducible refine (varint_Decode.calls _ _ _ l0 _ _ _ _ _ HR.out hc0 HD.out).mono ?_; rintro e w' ⟨rfl, ⟨nd, rfl⟩⟩)
      go_ret3
      exact ⟨rfl, pw_below_drewN (Below.refl _ _) _⟩
    · obtain rfl : t = 0 := by omega
      have e7 : ¬ (a3.size : Int) < (kk : Int) := e5
      have e8 : (0 : Int) < (kk : Int) := by omega
      clear e4 e5
      go_wp2_with (go_at_call 62; with_reducible refine (varint_Decode.calls _ _ _ l0 _ _ _ _ _ HR.out hc0 HD.out).mono ?_; rintro e w' ⟨rfl, ⟨nd, rfl⟩⟩)
      go_ret3
      exact ⟨rfl, pw_below_drewN (Below.refl _ _) _⟩
  rw [if_neg e4] at h
  have e5 : ¬ (a3.size : Int) < (kk : Int) := fun h => e4 (.inl h)
  have e6 : kk ≤ a3.size := by omega
  have e7 : t = 0 → ¬ (0 : Int) < (kk : Int) := fun h1 h2 => e4 (.inr ⟨by omega, h2⟩)
  clear e4
  replace h := Option.bind_eq_some_iff.mp h
  obtain ⟨⟨g1, g2, g3⟩, hG, h⟩ := h
  have HG := Aside0.mk hG
  clear hG
  by_cases z0 : t = 0
  · have z1 := e7 z0
    subst z0
    clear e7
    by_cases f1 : g3 = 0
    case neg =>
      rw [if_neg f1] at h
      simp only [Option.some.injEq, Prod.mk.injEq] at h
      obtain ⟨rfl, rfl, rfl⟩ := h
      have f1b : (g3 != 0) = true := by simpa using f1
      clear f1
      go_enter Try.func57, Try.ntmps57
      go_wp2_with (first | (go_at_call 62; with_reducible refine (varint_Decode.calls _ _ _ l0 a1 _ _ _ _ HR.out hc0 HD.out).mono ?_; rintro e w' ⟨rfl, ⟨nd, rfl⟩⟩) | (go_at_call 62; with_reducible refine (varint_Decode.calls _ _ _ l0 d2 _ _ _ _ (Kd.C_drewN HR.out _) hc0 HG.out).mono ?_; rintro e w' ⟨rfl, ⟨nd2, rfl⟩⟩))
      go_ret3
      exact ⟨rfl, pw_below_drewN (Below.refl _ _) _⟩
    subst f1
    rw [if_pos rfl] at h
    by_cases f2 : 0 ≤ g1 ∧ g1 < 18446744073709551616 ∧ 0 ≤ g2 ∧ g2 ≤ (l0.length : Int)
    case neg => rw [if_neg f2] at h; cases h
    rw [if_pos f2] at h
    obtain ⟨f2, f3, f4, f5⟩ := f2
    obtain ⟨mm, rfl⟩ := Int.eq_ofNat_of_zero_le f2
    obtain ⟨at_, rfl⟩ := Int.eq_ofNat_of_zero_le f4
    obtain ⟨lm, hlm⟩ : ∃ lm : Nat, lm = l0.length - at_ := ⟨_, rfl⟩
    have ewl : (l0.length : Int) - (at_ : Int) = (lm : Int) := by omega
    have ewm : IntKind.u64.wrap (lm : Int) = (lm : Int) := wraps_u64 _ (by omega) (by omega)
    rw [ewl] at h
    have HL := Aside0.mk (And.intro hlm (And.intro f3 f5))
    clear f2 f3 f4 f5 hlm
    by_cases f6 : (mm : Int) > (lm : Int)
    case pos =>
      rw [if_pos f6] at h
      simp only [Option.some.injEq, Prod.mk.injEq] at h
      obtain ⟨rfl, rfl, rfl⟩ := h
      have f7 : (lm : Int) < (mm : Int) := f6
      clear f6
      go_enter Try.func57, Try.ntmps57
      go_wp2_with (first | (go_at_call 62; with_reducible refine (varint_Decode.calls _ _ _ l0 a1 _ _ _ _ HR.out hc0 HD.out).mono ?_; rintro e w' ⟨rfl, ⟨nd, rfl⟩⟩) | (go_at_call 62; with_reducible refine (varint_Decode.calls _ _ _ l0 d2 _ _ _ _ (Kd.C_drewN HR.out _) hc0 HG.out).mono ?_; rintro e w' ⟨rfl, ⟨nd2, rfl⟩⟩))
      go_ret3
      exact ⟨rfl, pw_below_drewN (Below.refl _ _) _⟩
    rw [if_neg f6] at h
    have f7 : ¬ (lm : Int) < (mm : Int) := f6
    have HS2 := HS.out
    have HL2 := HL.out
    obtain ⟨n, hn⟩ : ∃ n : Nat, n = kk + mm := ⟨_, rfl⟩
    have en : (kk : Int) + (mm : Int) = (n : Int) := by omega
    have ew1 : IntKind.i64.wrap (kk : Int) = (kk : Int) := IntWalk.i64_in _ (by omega)
    have ew2 : IntKind.i64.wrap (mm : Int) = (mm : Int) := IntWalk.i64_in _ (by omega)
    have ew3 : IntKind.i64.wrap (n : Int) = (n : Int) := IntWalk.i64_in _ (by omega)
    obtain ⟨u, hu⟩ : ∃ u : Nat, u = at_ + mm := ⟨_, rfl⟩
    have eu : (at_ : Int) + (mm : Int) = (u : Int) := by omega
    have ew4 : IntKind.i64.wrap (u : Int) = (u : Int) := IntWalk.i64_in _ (by omega)
    have hxs : (a3.extract 0 kk).size = kk := by rw [ByteArray.size_extract]; omega
    have HXS := Aside0.mk hxs
    have HN := Aside0.mk (And.intro hn (show n ≤ 2000000000 by omega))
    have HU := Aside0.mk (And.intro hu (show u ≤ l0.length by omega))
    have hkn : kk ≤ n := by omega
    have hn47 : n ≤ 140737488355327 := by omega
    clear f6 HS2 HL2 hn hu hxs
    by_cases m0 : mm = 0
    · have M0 := Aside0.mk m0
      clear m0
      go_enter Try.func57, Try.ntmps57
      go_wp2_with (first | (go_at_call 62; with_reducible refine (varint_Decode.calls _ _ _ l0 a1 _ _ _ _ HR.out hc0 HD.out).mono ?_; rintro e w' ⟨rfl, ⟨nd, rfl⟩⟩) | (go_at_call 62; with_reducible refine (varint_Decode.calls _ _ _ l0 d2 _ _ _ _ (Kd.C_drewN HR.out _) hc0 HG.out).mono ?_; rintro e w' ⟨rfl, ⟨nd2, rfl⟩⟩) | ((with_reducible refine gate_dst (N := 63) rfl ?_); refine Kd.R_make (Kd.int .u8) w.heap.size 5 rfl (N := 63) rfl 51 _ _ rfl (n : Int) rfl rfl Try.underlying51 (.int .u8 0) 1 info5 rfl (by decide) (by omega) 0 (ok := fun k => w.heap.size ≤ k) (okp := fun _ => False) rfl (fun _ h => h.elim) (by simp) (by omega) (by have := HN.out; omega) (Below.refl _ _) (by simp) ?_; intro v1 w1 hR1 hb1 hg1 hat1; (generalize hz : List.replicate (n : Int).toNat (0 : Int) = zs at hR1); have HZ := Aside0.mk hz; have hzl : zs.length = n := (by rw [← hz]; simp); clear hz; obtain ⟨vA, vc, hv⟩ := Kd.R_slice hR1; rw [hzl] at hv; subst hv; obtain ⟨w2, hrun1, hR2, hb2⟩ := copy_str (dT := 51) (sT := 9) (ty := 3) w1 zs (a3.extract 0 kk) Try.underlying51 (by kernel_rfl) hR1 hzl (by have := HN.out; have := HXS.out; omega); have HZL := Aside0.mk hzl; have HR1 := Aside0.mk hR1; have HR2 := Aside0.mk hR2; clear hzl hR1 hR2))
      have HB := ((pw_below_drewN (Below.refl w.heap.size w) _).trans hb1).trans hb2
      have hh := Kd.own_of_R (enc := Value.int .u8) (h1 := fun _ => rfl) HR1.out
      rw [HZL.out] at hh
      have hcap := own_cap hh
      clear hh
      have k1 := HN.out
      have k2 := HU.out
      have k3 := HZL.out
      have k4 := HS.out
      have k5 := HL.out
      have m0 := M0.out
      have hrun2 : ∀ (d s : Option Addr) (x y v : Nat), (Builtin.copy_ #[51, 51] 3 #[.slice d x y, .slice s (u - at_) v]).run Try.prog w2.drew = .ok (.int .i64 0) w2.drew := fun d s x y v => copy_none Try.underlying51 (by kernel_rfl) _ d s x y _ v (by omega)
      have hcv := own_string (P := Try.prog) Try.underlying51 Try.underlying5 Try.underlying9 (Kd.own_of_R (Kd.R_drew HR2.out))
      rw [next_eq0 a3 l0 zs kk at_ (by omega) e6, ← m0] at hcv
      have HB2 := below_drew1 HB
      clear m0
      obtain ⟨T, hT⟩ : ∃ T : ByteArray, T = nextText l0 a3 (kk : Int) (mm : Int) (at_ : Int) := ⟨_, rfl⟩
      rw [← hT, eu] at h
      rw [← hT] at hcv
      have HT := Aside0.mk hT
      have q3 : u ≤ c0 := by omega
      have q4 : at_ ≤ u := by omega
      clear hT k1 k2 k4 k5
      clear k3
      rw [if_pos (show ((0 : Nat) : Int) = 0 from rfl)] at h
      simp only [Option.some.injEq, Prod.mk.injEq] at h
      obtain ⟨rfl, rfl, rfl⟩ := h
      go_region
      all_goals (go_wp2 <;> (go_ret3; exact ⟨rfl, HB2⟩))
    · have m1 : ¬ ((kk : Int) = (n : Int)) := by omega
      go_enter Try.func57, Try.ntmps57
      go_wp2_with (first | (go_at_call 62; with_reducible refine (varint_Decode.calls _ _ _ l0 a1 _ _ _ _ HR.out hc0 HD.out).mono ?_; rintro e w' ⟨rfl, ⟨nd, rfl⟩⟩) | (go_at_call 62; with_reducible refine (varint_Decode.calls _ _ _ l0 d2 _ _ _ _ (Kd.C_drewN HR.out _) hc0 HG.out).mono ?_; rintro e w' ⟨rfl, ⟨nd2, rfl⟩⟩) | ((with_reducible refine gate_dst (N := 63) rfl ?_); refine Kd.R_make (Kd.int .u8) w.heap.size 5 rfl (N := 63) rfl 51 _ _ rfl (n : Int) rfl rfl Try.underlying51 (.int .u8 0) 1 info5 rfl (by decide) (by omega) 0 (ok := fun k => w.heap.size ≤ k) (okp := fun _ => False) rfl (fun _ h => h.elim) (by simp) (by omega) (by have := HN.out; omega) (Below.refl _ _) (by simp) ?_; intro v1 w1 hR1 hb1 hg1 hat1; (generalize hz : List.replicate (n : Int).toNat (0 : Int) = zs at hR1); have HZ := Aside0.mk hz; have hzl : zs.length = n := (by rw [← hz]; simp); clear hz; obtain ⟨vA, vc, hv⟩ := Kd.R_slice hR1; rw [hzl] at hv; subst hv; obtain ⟨w2, hrun1, hR2, hb2⟩ := copy_str (dT := 51) (sT := 9) (ty := 3) w1 zs (a3.extract 0 kk) Try.underlying51 (by kernel_rfl) hR1 hzl (by have := HN.out; have := HXS.out; omega); have HZL := Aside0.mk hzl; obtain ⟨gb, c1, hv2, hf1, hf2, hf3⟩ := Kd.R_form hR1 (by omega); have HR1 := Aside0.mk hR1; have HR2 := Aside0.mk hR2; clear hzl hR1 hR2))
      have HB := ((pw_below_drewN (Below.refl w.heap.size w) _).trans hb1).trans hb2
      have hh := Kd.own_of_R (enc := Value.int .u8) (h1 := fun _ => rfl) HR1.out
      have hcap := own_cap hh
      clear hh
      have k1 := HN.out
      have k2 := HU.out
      have k4 := HS.out
      have k5 := HL.out
      obtain ⟨w3, hrun2, hR3, hb3⟩ := copy_in (dT := 51) (sT := 51) (ty := 3) w2.drew _ l0 kk at_ (u - at_) (zs.length - kk) (vc - kk) (c0 - at_) Try.underlying51 (by kernel_rfl) (Kd.R_drew HR2.out) (by rw [putAt_len]) (Kd.C_drew (Kd.C_below HR.out HB)) (by omega) (by omega) (by omega) (by omega)
      have hcv := own_string (P := Try.prog) Try.underlying51 Try.underlying5 Try.underlying9 (Kd.own_of_R hR3)
      rw [next_eq a3 l0 zs kk mm at_ u (by omega) e6 (by omega) (by omega)] at hcv
      have HB2 := (below_drew1 HB).trans hb3
      have q1 : ¬ vc = kk := by omega
      have q2 : ¬ c0 = at_ := by omega
      clear hR3
      obtain ⟨T, hT⟩ : ∃ T : ByteArray, T = nextText l0 a3 (kk : Int) (mm : Int) (at_ : Int) := ⟨_, rfl⟩
      rw [← hT, eu] at h
      rw [← hT] at hcv
      have HT := Aside0.mk hT
      have q3 : u ≤ c0 := by omega
      have q4 : at_ ≤ u := by omega
      clear hT k1 k2 k4 k5
      rw [if_pos (show ((0 : Nat) : Int) = 0 from rfl)] at h
      simp only [Option.some.injEq, Prod.mk.injEq] at h
      obtain ⟨rfl, rfl, rfl⟩ := h
      go_region
      all_goals (go_wp2 <;> (go_ret3; exact ⟨rfl, HB2⟩))
  · clear e7
    have z1 : ¬ (t : Int) = 0 := by omega
    clear z0
    by_cases f1 : g3 = 0
    case neg =>
      rw [if_neg f1] at h
      simp only [Option.some.injEq, Prod.mk.injEq] at h
      obtain ⟨rfl, rfl, rfl⟩ := h
      have f1b : (g3 != 0) = true := by simpa using f1
      clear f1
      go_enter Try.func57, Try.ntmps57
      go_wp2_with (first | (go_at_call 62; with_reducible refine (varint_Decode.calls _ _ _ l0 a1 _ _ _ _ HR.out hc0 HD.out).mono ?_; rintro e w' ⟨rfl, ⟨nd, rfl⟩⟩) | (go_at_call 62; with_reducible refine (varint_Decode.calls _ _ _ l0 d2 _ _ _ _ (Kd.C_drewN HR.out _) hc0 HG.out).mono ?_; rintro e w' ⟨rfl, ⟨nd2, rfl⟩⟩))
      go_ret3
      exact ⟨rfl, pw_below_drewN (Below.refl _ _) _⟩
    subst f1
    rw [if_pos rfl] at h
    by_cases f2 : 0 ≤ g1 ∧ g1 < 18446744073709551616 ∧ 0 ≤ g2 ∧ g2 ≤ (l0.length : Int)
    case neg => rw [if_neg f2] at h; cases h
    rw [if_pos f2] at h
    obtain ⟨f2, f3, f4, f5⟩ := f2
    obtain ⟨mm, rfl⟩ := Int.eq_ofNat_of_zero_le f2
    obtain ⟨at_, rfl⟩ := Int.eq_ofNat_of_zero_le f4
    obtain ⟨lm, hlm⟩ : ∃ lm : Nat, lm = l0.length - at_ := ⟨_, rfl⟩
    have ewl : (l0.length : Int) - (at_ : Int) = (lm : Int) := by omega
    have ewm : IntKind.u64.wrap (lm : Int) = (lm : Int) := wraps_u64 _ (by omega) (by omega)
    rw [ewl] at h
    have HL := Aside0.mk (And.intro hlm (And.intro f3 f5))
    clear f2 f3 f4 f5 hlm
    by_cases f6 : (mm : Int) > (lm : Int)
    case pos =>
      rw [if_pos f6] at h
      simp only [Option.some.injEq, Prod.mk.injEq] at h
      obtain ⟨rfl, rfl, rfl⟩ := h
      have f7 : (lm : Int) < (mm : Int) := f6
      clear f6
      go_enter Try.func57, Try.ntmps57
      go_wp2_with (first | (go_at_call 62; with_reducible refine (varint_Decode.calls _ _ _ l0 a1 _ _ _ _ HR.out hc0 HD.out).mono ?_; rintro e w' ⟨rfl, ⟨nd, rfl⟩⟩) | (go_at_call 62; with_reducible refine (varint_Decode.calls _ _ _ l0 d2 _ _ _ _ (Kd.C_drewN HR.out _) hc0 HG.out).mono ?_; rintro e w' ⟨rfl, ⟨nd2, rfl⟩⟩))
      go_ret3
      exact ⟨rfl, pw_below_drewN (Below.refl _ _) _⟩
    rw [if_neg f6] at h
    have f7 : ¬ (lm : Int) < (mm : Int) := f6
    have HS2 := HS.out
    have HL2 := HL.out
    obtain ⟨n, hn⟩ : ∃ n : Nat, n = kk + mm := ⟨_, rfl⟩
    have en : (kk : Int) + (mm : Int) = (n : Int) := by omega
    have ew1 : IntKind.i64.wrap (kk : Int) = (kk : Int) := IntWalk.i64_in _ (by omega)
    have ew2 : IntKind.i64.wrap (mm : Int) = (mm : Int) := IntWalk.i64_in _ (by omega)
    have ew3 : IntKind.i64.wrap (n : Int) = (n : Int) := IntWalk.i64_in _ (by omega)
    obtain ⟨u, hu⟩ : ∃ u : Nat, u = at_ + mm := ⟨_, rfl⟩
    have eu : (at_ : Int) + (mm : Int) = (u : Int) := by omega
    have ew4 : IntKind.i64.wrap (u : Int) = (u : Int) := IntWalk.i64_in _ (by omega)
    have hxs : (a3.extract 0 kk).size = kk := by rw [ByteArray.size_extract]; omega
    have HXS := Aside0.mk hxs
    have HN := Aside0.mk (And.intro hn (show n ≤ 2000000000 by omega))
    have HU := Aside0.mk (And.intro hu (show u ≤ l0.length by omega))
    have hkn : kk ≤ n := by omega
    have hn47 : n ≤ 140737488355327 := by omega
    clear f6 HS2 HL2 hn hu hxs
    by_cases m0 : mm = 0
    · have M0 := Aside0.mk m0
      clear m0
      go_enter Try.func57, Try.ntmps57
      go_wp2_with (first | (go_at_call 62; with_reducible refine (varint_Decode.calls _ _ _ l0 a1 _ _ _ _ HR.out hc0 HD.out).mono ?_; rintro e w' ⟨rfl, ⟨nd, rfl⟩⟩) | (go_at_call 62; with_reducible refine (varint_Decode.calls _ _ _ l0 d2 _ _ _ _ (Kd.C_drewN HR.out _) hc0 HG.out).mono ?_; rintro e w' ⟨rfl, ⟨nd2, rfl⟩⟩) | ((with_reducible refine gate_dst (N := 63) rfl ?_); refine Kd.R_make (Kd.int .u8) w.heap.size 5 rfl (N := 63) rfl 51 _ _ rfl (n : Int) rfl rfl Try.underlying51 (.int .u8 0) 1 info5 rfl (by decide) (by omega) 0 (ok := fun k => w.heap.size ≤ k) (okp := fun _ => False) rfl (fun _ h => h.elim) (by simp) (by omega) (by have := HN.out; omega) (Below.refl _ _) (by simp) ?_; intro v1 w1 hR1 hb1 hg1 hat1; (generalize hz : List.replicate (n : Int).toNat (0 : Int) = zs at hR1); have HZ := Aside0.mk hz; have hzl : zs.length = n := (by rw [← hz]; simp); clear hz; obtain ⟨vA, vc, hv⟩ := Kd.R_slice hR1; rw [hzl] at hv; subst hv; obtain ⟨w2, hrun1, hR2, hb2⟩ := copy_str (dT := 51) (sT := 9) (ty := 3) w1 zs (a3.extract 0 kk) Try.underlying51 (by kernel_rfl) hR1 hzl (by have := HN.out; have := HXS.out; omega); have HZL := Aside0.mk hzl; have HR1 := Aside0.mk hR1; have HR2 := Aside0.mk hR2; clear hzl hR1 hR2))
      have HB := ((pw_below_drewN (Below.refl w.heap.size w) _).trans hb1).trans hb2
      have hh := Kd.own_of_R (enc := Value.int .u8) (h1 := fun _ => rfl) HR1.out
      rw [HZL.out] at hh
      have hcap := own_cap hh
      clear hh
      have k1 := HN.out
      have k2 := HU.out
      have k3 := HZL.out
      have k4 := HS.out
      have k5 := HL.out
      have m0 := M0.out
      have hrun2 : ∀ (d s : Option Addr) (x y v : Nat), (Builtin.copy_ #[51, 51] 3 #[.slice d x y, .slice s (u - at_) v]).run Try.prog w2.drew = .ok (.int .i64 0) w2.drew := fun d s x y v => copy_none Try.underlying51 (by kernel_rfl) _ d s x y _ v (by omega)
      have hcv := own_string (P := Try.prog) Try.underlying51 Try.underlying5 Try.underlying9 (Kd.own_of_R (Kd.R_drew HR2.out))
      rw [next_eq0 a3 l0 zs kk at_ (by omega) e6, ← m0] at hcv
      have HB2 := below_drew1 HB
      clear m0
      obtain ⟨T, hT⟩ : ∃ T : ByteArray, T = nextText l0 a3 (kk : Int) (mm : Int) (at_ : Int) := ⟨_, rfl⟩
      rw [← hT, eu] at h
      rw [← hT] at hcv
      have HT := Aside0.mk hT
      have q3 : u ≤ c0 := by omega
      have q4 : at_ ≤ u := by omega
      clear hT k1 k2 k4 k5
      clear k3
      rw [if_neg z1] at h
      replace h := Option.bind_eq_some_iff.mp h
      obtain ⟨c, hP, h⟩ := h
      have HP := Aside0.mk hP
      clear hP
      by_cases y1 : c > (kk : Int)
      · rw [if_pos y1] at h
        simp only [Option.some.injEq, Prod.mk.injEq] at h
        obtain ⟨rfl, rfl, rfl⟩ := h
        have y2 : (kk : Int) < c := y1
        clear y1
        go_region
        all_goals ((go_wp2_with (go_at_call 34; with_reducible refine (frontcode_CommonPrefix.calls _ _ _ _ _ HP.out).mono ?_; rintro e w' ⟨rfl, ⟨nd3, rfl⟩⟩)) <;> (go_ret3; first | exact ⟨rfl, pw_below_drewN' HB2 _⟩ | exact ⟨rfl, pw_below_drewN' HB _⟩))
      · rw [if_neg y1] at h
        simp only [Option.some.injEq, Prod.mk.injEq] at h
        obtain ⟨rfl, rfl, rfl⟩ := h
        have y2 : ¬ (kk : Int) < c := y1
        clear y1
        go_region
        all_goals ((go_wp2_with (go_at_call 34; with_reducible refine (frontcode_CommonPrefix.calls _ _ _ _ _ HP.out).mono ?_; rintro e w' ⟨rfl, ⟨nd3, rfl⟩⟩)) <;> (go_ret3; first | exact ⟨rfl, pw_below_drewN' HB2 _⟩ | exact ⟨rfl, pw_below_drewN' HB _⟩))
    · have m1 : ¬ ((kk : Int) = (n : Int)) := by omega
      go_enter Try.func57, Try.ntmps57
      go_wp2_with (first | (go_at_call 62; with_reducible refine (varint_Decode.calls _ _ _ l0 a1 _ _ _ _ HR.out hc0 HD.out).mono ?_; rintro e w' ⟨rfl, ⟨nd, rfl⟩⟩) | (go_at_call 62; with_reducible refine (varint_Decode.calls _ _ _ l0 d2 _ _ _ _ (Kd.C_drewN HR.out _) hc0 HG.out).mono ?_; rintro e w' ⟨rfl, ⟨nd2, rfl⟩⟩) | ((with_reducible refine gate_dst (N := 63) rfl ?_); refine Kd.R_make (Kd.int .u8) w.heap.size 5 rfl (N := 63) rfl 51 _ _ rfl (n : Int) rfl rfl Try.underlying51 (.int .u8 0) 1 info5 rfl (by decide) (by omega) 0 (ok := fun k => w.heap.size ≤ k) (okp := fun _ => False) rfl (fun _ h => h.elim) (by simp) (by omega) (by have := HN.out; omega) (Below.refl _ _) (by simp) ?_; intro v1 w1 hR1 hb1 hg1 hat1; (generalize hz : List.replicate (n : Int).toNat (0 : Int) = zs at hR1); have HZ := Aside0.mk hz; have hzl : zs.length = n := (by rw [← hz]; simp); clear hz; obtain ⟨vA, vc, hv⟩ := Kd.R_slice hR1; rw [hzl] at hv; subst hv; obtain ⟨w2, hrun1, hR2, hb2⟩ := copy_str (dT := 51) (sT := 9) (ty := 3) w1 zs (a3.extract 0 kk) Try.underlying51 (by kernel_rfl) hR1 hzl (by have := HN.out; have := HXS.out; omega); have HZL := Aside0.mk hzl; obtain ⟨gb, c1, hv2, hf1, hf2, hf3⟩ := Kd.R_form hR1 (by omega); have HR1 := Aside0.mk hR1; have HR2 := Aside0.mk hR2; clear hzl hR1 hR2))
      have HB := ((pw_below_drewN (Below.refl w.heap.size w) _).trans hb1).trans hb2
      have hh := Kd.own_of_R (enc := Value.int .u8) (h1 := fun _ => rfl) HR1.out
      have hcap := own_cap hh
      clear hh
      have k1 := HN.out
      have k2 := HU.out
      have k4 := HS.out
      have k5 := HL.out
      obtain ⟨w3, hrun2, hR3, hb3⟩ := copy_in (dT := 51) (sT := 51) (ty := 3) w2.drew _ l0 kk at_ (u - at_) (zs.length - kk) (vc - kk) (c0 - at_) Try.underlying51 (by kernel_rfl) (Kd.R_drew HR2.out) (by rw [putAt_len]) (Kd.C_drew (Kd.C_below HR.out HB)) (by omega) (by omega) (by omega) (by omega)
      have hcv := own_string (P := Try.prog) Try.underlying51 Try.underlying5 Try.underlying9 (Kd.own_of_R hR3)
      rw [next_eq a3 l0 zs kk mm at_ u (by omega) e6 (by omega) (by omega)] at hcv
      have HB2 := (below_drew1 HB).trans hb3
      have q1 : ¬ vc = kk := by omega
      have q2 : ¬ c0 = at_ := by omega
      clear hR3
      obtain ⟨T, hT⟩ : ∃ T : ByteArray, T = nextText l0 a3 (kk : Int) (mm : Int) (at_ : Int) := ⟨_, rfl⟩
      rw [← hT, eu] at h
      rw [← hT] at hcv
      have HT := Aside0.mk hT
      have q3 : u ≤ c0 := by omega
      have q4 : at_ ≤ u := by omega
      clear hT k1 k2 k4 k5
      rw [if_neg z1] at h
      replace h := Option.bind_eq_some_iff.mp h
      obtain ⟨c, hP, h⟩ := h
      have HP := Aside0.mk hP
      clear hP
      by_cases y1 : c > (kk : Int)
      · rw [if_pos y1] at h
        simp only [Option.some.injEq, Prod.mk.injEq] at h
        obtain ⟨rfl, rfl, rfl⟩ := h
        have y2 : (kk : Int) < c := y1
        clear y1
        go_region
        all_goals ((go_wp2_with (go_at_call 34; with_reducible refine (frontcode_CommonPrefix.calls _ _ _ _ _ HP.out).mono ?_; rintro e w' ⟨rfl, ⟨nd3, rfl⟩⟩)) <;> (go_ret3; first | exact ⟨rfl, pw_below_drewN' HB2 _⟩ | exact ⟨rfl, pw_below_drewN' HB _⟩))
      · rw [if_neg y1] at h
        simp only [Option.some.injEq, Prod.mk.injEq] at h
        obtain ⟨rfl, rfl, rfl⟩ := h
        have y2 : ¬ (kk : Int) < c := y1
        clear y1
        go_region
        all_goals ((go_wp2_with (go_at_call 34; with_reducible refine (frontcode_CommonPrefix.calls _ _ _ _ _ HP.out).mono ?_; rintro e w' ⟨rfl, ⟨nd3, rfl⟩⟩)) <;> (go_ret3; first | exact ⟨rfl, pw_below_drewN' HB2 _⟩ | exact ⟨rfl, pw_below_drewN' HB _⟩))

/-! ### frontcode_Decode: function 40 -/
def frontcode_Decode.l0 : Nat → List Int → Int → List ByteArray → ByteArray → Int → Int → Option (List ByteArray × Int × Int)
 | 0, _, _, _, _, _, _ => none
 | k + 1, x0, x1, x9, x10, x20, x21 => if x21 < x20 then ((frontcode_next.f k x0 x1 x21 x10).bind fun bt103 => (if bt103.2.2 = 0 then (if x9.length < 8796093022208 then (frontcode_Decode.l0 k x0 bt103.2.1 (x9 ++ [bt103.1]) bt103.1 x20 (wrap64 (x21 + 1))) else (none)) else (some (([] : List ByteArray), 0, bt103.2.2)))) else (some (x9, x1, 0))
def frontcode_Decode.f (k : Nat) (l0 : List Int) (a1 : Int) (a2 : Int) : Option (List ByteArray × Int × Int) := (frontcode_valid.f l0 a1 a2).bind fun t102 => (if t102 = true then (frontcode_Decode.l0 k l0 a1 ([] : List ByteArray) (⟨#[]⟩ : ByteArray) a2 0) else (some (([] : List ByteArray), 0, 1)))
theorem frontcode_Decode.mono_l : ∀ k, (∀ y0 y1 y2 y3 y4 y5, LeO (frontcode_Decode.l0 k y0 y1 y2 y3 y4 y5) (frontcode_Decode.l0 (k + 1) y0 y1 y2 y3 y4 y5))
 | 0 => fun _ _ _ _ _ _ r h => by simp [frontcode_Decode.l0] at h
 | k + 1 => by
  have ih0 := frontcode_Decode.mono_l k
  ·intro y0 y1 y2 y3 y4 y5
   unfold frontcode_Decode.l0
   repeat' first
   | (with_reducible exact ih0 _ _ _ _ _ _)
   | (with_reducible exact frontcode_next.mono _ _ _ _ _)
   | (with_reducible exact LeO.refl _)
   | (with_reducible exact LeO.none _)
   | (with_reducible refine LeO.ite ?_ ?_)
   | (with_reducible refine LeO.bind ?_ (fun _ => ?_))
   | exact ih0 _ _ _ _ _ _
   | exact frontcode_next.mono _ _ _ _ _
   | exact LeO.none _
   | refine LeO.ite ?_ ?_
   | refine LeO.bind ?_ (fun _ => ?_)
theorem frontcode_Decode.mono : ∀ a0 a1 a2 k, LeO (frontcode_Decode.f k a0 a1 a2) (frontcode_Decode.f (k + 1) a0 a1 a2) := by
 intro a0 a1 a2 k
 have ih0 := frontcode_Decode.mono_l k
 unfold frontcode_Decode.f
 repeat' first
   | (with_reducible exact ih0 _ _ _ _ _ _)
   | (with_reducible exact frontcode_next.mono _ _ _ _ _)
   | (with_reducible exact LeO.refl _)
   | (with_reducible exact LeO.none _)
   | (with_reducible refine LeO.ite ?_ ?_)
   | (with_reducible refine LeO.bind ?_ (fun _ => ?_))
   | exact ih0 _ _ _ _ _ _
   | exact frontcode_next.mono _ _ _ _ _
   | exact LeO.none _
   | refine LeO.ite ?_ ?_
   | refine LeO.bind ?_ (fun _ => ?_)
set_option maxHeartbeats 8000000 in
set_option maxRecDepth 100000 in
theorem frontcode_Decode.calls (k : Nat) (A0 : Option Addr) (c0 : Nat) (l0 : List Int) (a1 : Int) (a2 : Int) (r1 : List ByteArray) (r2 : Int) (r3 : Int) (w : World) (hr0 : Kd.C (Kd.int .u8) w A0 l0.length l0) (hc0 : l0.length ≤ c0) (h : frontcode_Decode.f k l0 a1 a2 = some (r1, r2, r3)) :
  Calls Try.prog 40 #[.slice A0 l0.length c0, .int .i64 a1, .int .i64 a2] w fun e w' => ∃ v0_ : Value, e = .returned (.tuple #[v0_, .int .i64 r2, .int .i64 r3]) ∧ Kd.R Kd.string 9 w' w.heap.size (fun _ => True) v0_ r1 ∧ Below w.heap.size w w' := by
 have HR0 := Aside0.mk hr0
 have HC0 := Aside0.mk hc0
 clear hr0 hc0
 have HB := Aside0.mk (Below.refl w.heap.size w)
 have H : ((frontcode_valid.f l0 a1 a2).bind fun t102 => (if t102 = true then (frontcode_Decode.l0 k l0 a1 ([] : List ByteArray) (⟨#[]⟩ : ByteArray) a2 0) else (some (([] : List ByteArray), 0, 1)))) = some (r1, r2, r3) := h
 clear h
 replace H := Option.bind_eq_some_iff.mp H
 obtain ⟨t102, A40, H⟩ := H
 replace H : (if t102 = true then (frontcode_Decode.l0 k l0 a1 ([] : List ByteArray) (⟨#[]⟩ : ByteArray) a2 0) else (some (([] : List ByteArray), 0, 1))) = some (r1, r2, r3) := H
 have A4 := Aside0.mk A40
 clear A40
 by_cases c5 : t102 = true
 ·subst c5
  have H1 : (frontcode_Decode.l0 k l0 a1 ([] : List ByteArray) (⟨#[]⟩ : ByteArray) a2 0) = some (r1, r2, r3) := by rw [if_pos rfl] at H; exact H
  clear H
  have H := H1
  clear H1
  have H' := Aside0.mk H
  clear H
  go_enter Try.func40, Try.ntmps40
  go_wp2_with (first | ((with_reducible refine gate_callee (f := 56) rfl ?_); refine goesL_ (some 18) rfl rfl Try.func56 (by kernel_rfl) rfl #[.slice A0 l0.length c0, .int .i64 a1, .int .i64 a2] rfl (by (try simp only [List.map_toArray, List.map_cons, List.map_nil]); first | done | rfl | (simp only [List.length_drop, List.length_take]; rfl)) ?_; (with_reducible refine (frontcode_valid.calls _ _ l0 a1 a2 true _ ?side1 ?side2 A4.out).mono ?_); (case side1 => repeat (first | exact HR0.out | (with_reducible refine Kd.C_alloc ?_ _) | (with_reducible refine Kd.C_drewN ?_ _) | (with_reducible refine Kd.C_drew ?_))); (case side2 => exact HC0.out); rintro e w' ⟨rfl, ⟨nd, rfl⟩⟩; refine ⟨_, rfl, ?_⟩))
  go_loopg [1, 9, 10, 21] k (fun kq v1 v9 v10 v21 w' => ∃ (x1_1 : Int) (x9_1 : List ByteArray) (x10_1 : ByteArray) (x21_1 : Int), v1 = .int .i64 x1_1 ∧ v10 = .string x10_1 ∧ v21 = .int .i64 x21_1 ∧ Aside0 (frontcode_Decode.l0 kq l0 x1_1 x9_1 x10_1 a2 x21_1 = some (r1, r2, r3)) ∧ Aside0 (kq ≤ k) ∧ Aside0 (Kd.R Kd.string 9 w' w.heap.size (fun _ => True) v9 x9_1) ∧ Aside0 (Below w.heap.size w w'))
  case atStart => exact ⟨(a1), (([] : List ByteArray)), ((⟨#[]⟩ : ByteArray)), (0), (by first | rfl | (simp; done) | (simp [*]; done)), (by first | rfl | (simp; done) | (simp [*]; done)), (by first | rfl | (simp; done) | (simp [*]; done)), H', ⟨Nat.le_refl _⟩, ⟨by first | exact Kd.R_nil _ _ _ _ _ | exact Kd.N_nil _ _ _ _ _ | exact Kd.V_nil _ _ _ _ _ | exact Kd.Q_nil _ _ _ _ _ | exact Kd.S_nil _ _ _ _ _⟩, ⟨by repeat (first | (with_reducible first | exact HB.out | apply below_alloc | apply pw_below_drewN | apply below_drew1) | exact HB.out)⟩⟩
  case round =>
   clear H'
   try clear p2
   try clear c4
   try clear c5
   obtain ⟨x1_1, x9_1, x10_1, x21_1, rfl, rfl, rfl, HA, HK1, HO_9, HB⟩ := hrel
   cases gk with
   | zero => exact absurd HA.out (by simp [frontcode_Decode.l0])
   | succ k1 =>
    have H := HA.out
    clear HA
    simp only [frontcode_Decode.l0] at H
    by_cases c6 : x21_1 < a2
    ·rw [if_pos c6] at H
     have c6b0 : decide (x21_1 < a2) = true := decide_eq_true c6
     clear c6
     replace H := Option.bind_eq_some_iff.mp H
     obtain ⟨⟨t103, t104, t105⟩, A70, H⟩ := H
     replace H : (if t105 = 0 then (if x9_1.length < 8796093022208 then (frontcode_Decode.l0 k1 l0 t104 (x9_1 ++ [t103]) t103 a2 (wrap64 (x21_1 + 1))) else (none)) else (some (([] : List ByteArray), 0, t105))) = some (r1, r2, r3) := H
     have A7 := Aside0.mk A70
     clear A70
     by_cases c8 : t105 = 0
     ·rw [if_pos c8] at H
      have c8b0 : (t105 == 0) = true := beq_iff_eq.mpr c8
      have c8b1 : (t105 != 0) = false := bne_eq_false_iff_eq.mpr c8
      clear c8
      by_cases c9 : x9_1.length < 8796093022208
      ·rw [if_pos c9] at H
       have LMc9 := Aside0.mk c9
       clear c9
       obtain ⟨y106, hy106⟩ : ∃ y_ : List ByteArray, y_ = (x9_1 ++ [t103]) := ⟨_, rfl⟩
       replace H : (frontcode_Decode.l0 k1 l0 t104 y106 t103 a2 (wrap64 (x21_1 + 1))) = some (r1, r2, r3) := by first | (rw [hy106]; with_reducible exact H) | (have H2_ := (Option.bind_some _ _).symm.trans H; rw [hy106]; with_reducible exact H2_) | (have H2_ := (Option.bind_some _ _).symm.trans H; with_reducible exact H2_) | with_reducible exact H | (rw [hy106]; exact H) | exact H
       have Ny106 := Aside0.mk hy106
       clear hy106
       have H' := Aside0.mk H
       clear H
       go_wp2_with (first | ((with_reducible refine gate_callee (f := 57) rfl ?_); refine goesL_ (some 29) rfl rfl Try.func57 (by kernel_rfl) rfl #[.slice A0 l0.length c0, .int .i64 x1_1, .int .i64 x21_1, .string x10_1] rfl (by (try simp only [List.map_toArray, List.map_cons, List.map_nil]); first | done | rfl | (simp only [List.length_drop, List.length_take]; rfl)) ?_; (with_reducible refine (frontcode_next.calls k1 _ _ l0 x1_1 x21_1 x10_1 t103 t104 t105 _ ?side1 ?side2 A7.out).mono ?_); (case side1 => repeat (first | exact (Kd.C_below HR0.out HB.out) | (with_reducible refine Kd.C_alloc ?_ _) | (with_reducible refine Kd.C_drewN ?_ _) | (with_reducible refine Kd.C_drew ?_))); (case side2 => exact HC0.out); rintro e w10 ⟨rfl, hb⟩; refine ⟨_, rfl, ?_⟩; have n0_ := Aside0.mk (Kd.R_below (by (with_reducible repeat (first | apply Kd.R_alloc | apply Kd.R_drewN | apply Kd.R_drew)); exact HO_9.out) hb); have n1_ := Aside0.mk (below_step (by repeat (first | (with_reducible first | exact HB.out | apply below_alloc | apply pw_below_drewN | apply below_drew1) | exact HB.out)) hb); clear HO_9; clear HB; have HO_9 := n0_; have HB := n1_; clear n0_ n1_; (try clear hb); (try clear hb2); (try clear hk); (try clear hi)) | ((with_reducible refine gate_builtin (b := .append) (xs := #[.tmp 36, .tmp 38]) rfl ?_); at_builtin; refine Kd.R_append Kd.string (w0 := w) w.heap.size rfl (.tmp 36) (.tmp 38) 48 9 (.string ⟨#[]⟩) 16 rfl Try.underlying48 info9 rfl (by decide) (by omega) u9 x9_1 t103 [.string t103] (fun _ => True) (fun _ => False) rfl rfl ?aP (fun _ hk => hk.elim) ?aF ?aO ?aB ?aS ?aL ?_; (case aP => exact rfl); (case aB => exact (by repeat (first | (with_reducible first | exact HB.out | apply below_alloc | apply pw_below_drewN | apply below_drew1) | exact HB.out))); (case aF => exact (fun _ _ => trivial)); (case aO => exact (by (with_reducible repeat (first | apply Kd.R_alloc | apply Kd.R_drewN | apply Kd.R_drew)); exact HO_9.out)); (case aS => exact (below_size (by repeat (first | (with_reducible first | exact HB.out | apply below_alloc | apply pw_below_drewN | apply below_drew1) | exact HB.out)))); (case aL => have := LMc9.out; omega); intro v107 w11 ho hb hg hat; rw [← Ny106.out] at ho; have n0_ := Aside0.mk (hb); have n1_ := Aside0.mk (ho); clear HB; clear HO_9; have HB := n0_; have HO108 := n1_; clear n0_ n1_; clear ho hb hg hat))
       go_roundg k1
       case measure => have := HK1.out; omega
       case rel => exact ⟨(t104), (y106), (t103), (wrap64 (x21_1 + 1)), (by first | rfl | (simp; done) | (simp [*]; done)), (by first | rfl | (simp; done) | (simp [*]; done)), (by first | rfl | (simp; done) | (simp [*]; done)), H', ⟨by have := HK1.out; omega⟩, ⟨by (with_reducible repeat (first | apply Kd.R_alloc | apply Kd.R_drewN | apply Kd.R_drew)); exact HO108.out⟩, ⟨by repeat (first | (with_reducible first | exact HB.out | apply below_alloc | apply pw_below_drewN | apply below_drew1) | exact HB.out)⟩⟩
      ·rw [if_neg c9] at H
       exact absurd H (by simp)
     ·rw [if_neg c8] at H
      have c8b0 : (t105 == 0) = false := beq_eq_false_iff_ne.mpr c8
      have c8b1 : (t105 != 0) = true := bne_iff_ne.mpr c8
      simp only [Option.some.injEq, Prod.mk.injEq] at H
      obtain ⟨rfl, rfl, rfl⟩ := H
      go_wp2_with (first | ((with_reducible refine gate_callee (f := 57) rfl ?_); refine goesL_ (some 29) rfl rfl Try.func57 (by kernel_rfl) rfl #[.slice A0 l0.length c0, .int .i64 x1_1, .int .i64 x21_1, .string x10_1] rfl (by (try simp only [List.map_toArray, List.map_cons, List.map_nil]); first | done | rfl | (simp only [List.length_drop, List.length_take]; rfl)) ?_; (with_reducible refine (frontcode_next.calls k1 _ _ l0 x1_1 x21_1 x10_1 t103 t104 t105 _ ?side1 ?side2 A7.out).mono ?_); (case side1 => repeat (first | exact (Kd.C_below HR0.out HB.out) | (with_reducible refine Kd.C_alloc ?_ _) | (with_reducible refine Kd.C_drewN ?_ _) | (with_reducible refine Kd.C_drew ?_))); (case side2 => exact HC0.out); rintro e w12 ⟨rfl, hb⟩; refine ⟨_, rfl, ?_⟩; have n0_ := Aside0.mk (Kd.R_below (by (with_reducible repeat (first | apply Kd.R_alloc | apply Kd.R_drewN | apply Kd.R_drew)); exact HO_9.out) hb); have n1_ := Aside0.mk (below_step (by repeat (first | (with_reducible first | exact HB.out | apply below_alloc | apply pw_below_drewN | apply below_drew1) | exact HB.out)) hb); clear HO_9; clear HB; have HO_9 := n0_; have HB := n1_; clear n0_ n1_; (try clear hb); (try clear hb2); (try clear hk); (try clear hi)))
      go_ret3
      exact ⟨_, by first | rfl | (simp [errW_none, errW_some] <;> rfl) | (simp [*, errW_none, errW_some] <;> rfl), by first | exact Kd.R_nil _ _ _ _ _ | exact Kd.N_nil _ _ _ _ _ | exact Kd.V_nil _ _ _ _ _ | exact Kd.Q_nil _ _ _ _ _ | exact Kd.S_nil _ _ _ _ _, by repeat (first | (with_reducible first | exact HB.out | apply below_alloc | apply pw_below_drewN | apply below_drew1) | exact HB.out)⟩
    ·rw [if_neg c6] at H
     have c6b0 : decide (x21_1 < a2) = false := decide_eq_false c6
     clear c6
     simp only [Option.some.injEq, Prod.mk.injEq] at H
     obtain ⟨rfl, rfl, rfl⟩ := H
     go_wp2
     go_ret3
     exact ⟨_, by first | rfl | (simp [errW_none, errW_some] <;> rfl) | (simp [*, errW_none, errW_some] <;> rfl), by (with_reducible repeat (first | apply Kd.R_alloc | apply Kd.R_drewN | apply Kd.R_drew)); exact HO_9.out, by repeat (first | (with_reducible first | exact HB.out | apply below_alloc | apply pw_below_drewN | apply below_drew1) | exact HB.out)⟩
 ·replace c5 := Bool.eq_false_iff.mpr c5
  subst c5
  have H1 : (some (([] : List ByteArray), 0, 1)) = some (r1, r2, r3) := by rw [if_neg (show ¬ (false = true) by decide)] at H; exact H
  clear H
  have H := H1
  clear H1
  simp only [Option.some.injEq, Prod.mk.injEq] at H
  obtain ⟨rfl, rfl, rfl⟩ := H
  go_enter Try.func40, Try.ntmps40
  go_wp2_with (first | ((with_reducible refine gate_callee (f := 56) rfl ?_); refine goesL_ (some 18) rfl rfl Try.func56 (by kernel_rfl) rfl #[.slice A0 l0.length c0, .int .i64 a1, .int .i64 a2] rfl (by (try simp only [List.map_toArray, List.map_cons, List.map_nil]); first | done | rfl | (simp only [List.length_drop, List.length_take]; rfl)) ?_; (with_reducible refine (frontcode_valid.calls _ _ l0 a1 a2 false _ ?side1 ?side2 A4.out).mono ?_); (case side1 => repeat (first | exact HR0.out | (with_reducible refine Kd.C_alloc ?_ _) | (with_reducible refine Kd.C_drewN ?_ _) | (with_reducible refine Kd.C_drew ?_))); (case side2 => exact HC0.out); rintro e w' ⟨rfl, ⟨nd, rfl⟩⟩; refine ⟨_, rfl, ?_⟩))
  go_ret3
  exact ⟨_, by first | rfl | (simp [errW_none, errW_some] <;> rfl) | (simp [*, errW_none, errW_some] <;> rfl), by first | exact Kd.R_nil _ _ _ _ _ | exact Kd.N_nil _ _ _ _ _ | exact Kd.V_nil _ _ _ _ _ | exact Kd.Q_nil _ _ _ _ _ | exact Kd.S_nil _ _ _ _ _, by repeat (first | (with_reducible first | exact HB.out | apply below_alloc | apply pw_below_drewN | apply below_drew1) | exact HB.out)⟩

/-! ### frontcode_shared: function 52 -/
def frontcode_shared.f (k : Nat) (l0 : List ByteArray) (a1 : Int) : Option (Int) := if (Int.tmod a1 16) = 0 then (some 0) else (if 0 ≤ (wrap64 (a1 - 1)) then (if (wrap64 (a1 - 1)) < (l0.length : Int) then (if 0 ≤ a1 then (if a1 < (l0.length : Int) then ((frontcode_CommonPrefix.f k (rdOf ByteArray.empty l0 (wrap64 (a1 - 1))) (rdOf ByteArray.empty l0 a1)).bind fun t111 => (some t111)) else (none)) else (none)) else (none)) else (none))
theorem frontcode_shared.mono : ∀ a0 a1 k, LeO (frontcode_shared.f k a0 a1) (frontcode_shared.f (k + 1) a0 a1) := by
 intro a0 a1 k
 unfold frontcode_shared.f
 repeat' first
   | (with_reducible exact frontcode_CommonPrefix.mono _ _ _)
   | (with_reducible exact LeO.refl _)
   | (with_reducible exact LeO.none _)
   | (with_reducible refine LeO.ite ?_ ?_)
   | (with_reducible refine LeO.bind ?_ (fun _ => ?_))
   | exact frontcode_CommonPrefix.mono _ _ _
   | exact LeO.none _
   | refine LeO.ite ?_ ?_
   | refine LeO.bind ?_ (fun _ => ?_)
set_option maxHeartbeats 8000000 in
set_option maxRecDepth 100000 in
theorem frontcode_shared.calls (k : Nat) (A0 : Option Addr) (c0 : Nat) (l0 : List ByteArray) (a1 : Int) (r : Int) (w : World) (hr0 : Kd.C Kd.string w A0 l0.length l0) (hc0 : l0.length ≤ c0) (h : frontcode_shared.f k l0 a1 = some r) :
  Calls Try.prog 52 #[.slice A0 l0.length c0, .int .i64 a1] w fun e w' => e = .returned (.int .i64 r) ∧ Drawn0 w w' := by
 have HR0 := Aside0.mk hr0
 have HC0 := Aside0.mk hc0
 clear hr0 hc0
 have H : (if (Int.tmod a1 16) = 0 then (some 0) else (if 0 ≤ (wrap64 (a1 - 1)) then (if (wrap64 (a1 - 1)) < (l0.length : Int) then (if 0 ≤ a1 then (if a1 < (l0.length : Int) then ((frontcode_CommonPrefix.f k (rdOf ByteArray.empty l0 (wrap64 (a1 - 1))) (rdOf ByteArray.empty l0 a1)).bind fun t111 => (some t111)) else (none)) else (none)) else (none)) else (none))) = some r := h
 clear h
 by_cases c3 : (Int.tmod a1 16) = 0
 ·rw [if_pos c3] at H
  have c3b0 : ((Int.tmod a1 16) == 0) = true := beq_iff_eq.mpr c3
  have c3b1 : ((Int.tmod a1 16) != 0) = false := bne_eq_false_iff_eq.mpr c3
  clear c3
  obtain rfl := Option.some.inj H
  go_enter Try.func52, Try.ntmps52
  go_wp2
  repeat (go_quiet (fail); try go_wp2)
  go_ret
  exact ⟨by first | rfl | (simp; done) | (simp [*]; done), by repeat (first | exact Drawn0.refl _ | apply Drawn0.step)⟩
 ·rw [if_neg c3] at H
  have c3b0 : ((Int.tmod a1 16) == 0) = false := beq_eq_false_iff_ne.mpr c3
  have c3b1 : ((Int.tmod a1 16) != 0) = true := bne_iff_ne.mpr c3
  obtain ⟨ji4, hji4⟩ : ∃ j_ : Int, (wrap64 (a1 - 1)) = j_ := ⟨_, rfl⟩
  replace H : (if 0 ≤ (ji4) then (if (ji4) < (l0.length : Int) then (if 0 ≤ a1 then (if a1 < (l0.length : Int) then ((frontcode_CommonPrefix.f k (rdOf ByteArray.empty l0 (ji4)) (rdOf ByteArray.empty l0 a1)).bind fun t111 => (some t111)) else (none)) else (none)) else (none)) else (none)) = some r := by first | (rw [hji4] at H; exact H) | (simp only [hji4] at H ⊢; exact H)
  have hji4w : (IntKind.i64.wrap (a1 - 1)) = ji4 := (i64_w _).trans hji4
  by_cases c5 : 0 ≤ (ji4)
  ·rw [if_pos c5] at H
   have c5b0 : decide (0 ≤ (ji4)) = true := decide_eq_true c5
   clear c5
   by_cases c6 : (ji4) < (l0.length : Int)
   ·rw [if_pos c6] at H
    have c6b0 : decide ((ji4) < (l0.length : Int)) = true := decide_eq_true c6
    clear c6
    by_cases c7 : 0 ≤ a1
    ·rw [if_pos c7] at H
     have c7b0 : decide (0 ≤ a1) = true := decide_eq_true c7
     clear c7
     by_cases c8 : a1 < (l0.length : Int)
     ·rw [if_pos c8] at H
      have c8b0 : decide (a1 < (l0.length : Int)) = true := decide_eq_true c8
      clear c8
      replace H := Option.bind_eq_some_iff.mp H
      obtain ⟨t111, A90, H⟩ := H
      replace H : (some t111) = some r := H
      have A9 := Aside0.mk A90
      clear A90
      obtain rfl := Option.some.inj H
      have p109 : 0 ≤ ((ji4) : Int) := of_decide_eq_true (by first | (with_reducible assumption) | assumption)
      have q109 : (ji4) < (l0.length : Int) := of_decide_eq_true (by first | (with_reducible assumption) | assumption)
      obtain ⟨ad109, e109, hx109_0⟩ := Kd.at_string HR0.out (ji4) p109 q109
      cases e109
      replace p109 := eq_true p109
      replace q109 := eq_true q109
      have p110 : 0 ≤ (a1 : Int) := of_decide_eq_true (by first | (with_reducible assumption) | assumption)
      have q110 : a1 < (l0.length : Int) := of_decide_eq_true (by first | (with_reducible assumption) | assumption)
      obtain ⟨ad110, e110, hx110_0⟩ := Kd.at_string HR0.out a1 p110 q110
      obtain rfl : ad109 = ad110 := (by injection e110)
      replace p110 := eq_true p110
      replace q110 := eq_true q110
      go_enter Try.func52, Try.ntmps52
      go_wp2_with (first | (go_at_call 34; (with_reducible refine (frontcode_CommonPrefix.calls k (rdOf ByteArray.empty l0 (ji4)) (rdOf ByteArray.empty l0 a1) t111 _ A9.out).mono ?_); rintro e w' ⟨rfl, ⟨nd, rfl⟩⟩; (try first | exact ⟨rfl, _, World.drewN_drewN _ _ _⟩ | exact ⟨rfl, _, Eq.trans (World.drewN_drewN _ _ _) (congrArg (World.drewN _) (Nat.add_assoc _ _ _))⟩)))
      repeat (go_quiet (first | (go_at_call 34; (with_reducible refine (frontcode_CommonPrefix.calls k (rdOf ByteArray.empty l0 (ji4)) (rdOf ByteArray.empty l0 a1) t111 _ A9.out).mono ?_); rintro e w' ⟨rfl, ⟨nd, rfl⟩⟩; (try first | exact ⟨rfl, _, World.drewN_drewN _ _ _⟩ | exact ⟨rfl, _, Eq.trans (World.drewN_drewN _ _ _) (congrArg (World.drewN _) (Nat.add_assoc _ _ _))⟩))); try go_wp2_with (first | (go_at_call 34; (with_reducible refine (frontcode_CommonPrefix.calls k (rdOf ByteArray.empty l0 (ji4)) (rdOf ByteArray.empty l0 a1) t111 _ A9.out).mono ?_); rintro e w' ⟨rfl, ⟨nd, rfl⟩⟩; (try first | exact ⟨rfl, _, World.drewN_drewN _ _ _⟩ | exact ⟨rfl, _, Eq.trans (World.drewN_drewN _ _ _) (congrArg (World.drewN _) (Nat.add_assoc _ _ _))⟩))))
      go_ret
      exact ⟨by first | rfl | (simp; done) | (simp only [← hji4] <;> (first | rfl | simp)) | (simp [*]; done), by repeat (first | exact Drawn0.refl _ | apply Drawn0.step)⟩
     ·rw [if_neg c8] at H
      exact absurd H (by simp)
    ·rw [if_neg c7] at H
     exact absurd H (by simp)
   ·rw [if_neg c6] at H
    exact absurd H (by simp)
  ·rw [if_neg c5] at H
   exact absurd H (by simp)

/-! ### varint_Encode: function 53 -/
def varint_Encode.l0 : Nat → Int → List Int → Option (List Int)
 | 0, _, _ => none
 | k + 1, x0, x3 => if x0 ≥ 128 then (if x3.length < 140737488355328 then (varint_Encode.l0 k (x0 / 128) (x3 ++ [Go.bits .or .u8 ((x0) % 256) 128])) else (none)) else (if x3.length < 140737488355328 then (some (x3 ++ [(x0) % 256])) else (none))
def varint_Encode.f (k : Nat) (a0 : Int) : Option (List Int) := varint_Encode.l0 k a0 ([] : List Int)
theorem varint_Encode.mono_l : ∀ k, (∀ y0 y1, LeO (varint_Encode.l0 k y0 y1) (varint_Encode.l0 (k + 1) y0 y1))
 | 0 => fun _ _ r h => by simp [varint_Encode.l0] at h
 | k + 1 => by
  have ih0 := varint_Encode.mono_l k
  ·intro y0 y1
   unfold varint_Encode.l0
   repeat' first
   | (with_reducible exact ih0 _ _)
   | (with_reducible exact LeO.refl _)
   | (with_reducible exact LeO.none _)
   | (with_reducible refine LeO.ite ?_ ?_)
   | (with_reducible refine LeO.bind ?_ (fun _ => ?_))
   | exact ih0 _ _
   | exact LeO.none _
   | refine LeO.ite ?_ ?_
   | refine LeO.bind ?_ (fun _ => ?_)
theorem varint_Encode.mono : ∀ a0 k, LeO (varint_Encode.f k a0) (varint_Encode.f (k + 1) a0) := by
 intro a0 k
 have ih0 := varint_Encode.mono_l k
 unfold varint_Encode.f
 repeat' first
   | (with_reducible exact ih0 _ _)
   | (with_reducible exact LeO.refl _)
   | (with_reducible exact LeO.none _)
   | (with_reducible refine LeO.ite ?_ ?_)
   | (with_reducible refine LeO.bind ?_ (fun _ => ?_))
   | exact ih0 _ _
   | exact LeO.none _
   | refine LeO.ite ?_ ?_
   | refine LeO.bind ?_ (fun _ => ?_)
set_option maxHeartbeats 8000000 in
set_option maxRecDepth 100000 in
theorem varint_Encode.calls (k : Nat) (a0 : Int) (r : List Int) (w : World) (h : varint_Encode.f k a0 = some r) :
  Calls Try.prog 53 #[.int .u64 a0] w fun e w' => ∃ v0_ : Value, e = .returned (v0_) ∧ Kd.R (Kd.int .u8) 5 w' w.heap.size (fun _ => True) v0_ r ∧ Below w.heap.size w w' := by
 have HB := Aside0.mk (Below.refl w.heap.size w)
 have H : (varint_Encode.l0 k a0 ([] : List Int)) = some r := h
 clear h
 have H' := Aside0.mk H
 clear H
 go_enter Try.func53, Try.ntmps53
 go_wp2
 go_loopg [0, 3] k (fun kq v0 v3 w' => ∃ (x0_1 : Int) (x3_1 : List Int), v0 = .int .u64 x0_1 ∧ Aside0 (varint_Encode.l0 kq x0_1 x3_1 = some r) ∧ Aside0 (kq ≤ k) ∧ Aside0 (Kd.R (Kd.int .u8) 5 w' w.heap.size (fun _ => True) v3 x3_1) ∧ Aside0 (Below w.heap.size w w'))
 case atStart => exact ⟨(a0), (([] : List Int)), (by first | rfl | (simp; done) | (simp [*]; done)), H', ⟨Nat.le_refl _⟩, ⟨by first | exact Kd.R_nil _ _ _ _ _ | exact Kd.N_nil _ _ _ _ _ | exact Kd.V_nil _ _ _ _ _ | exact Kd.Q_nil _ _ _ _ _ | exact Kd.S_nil _ _ _ _ _⟩, ⟨by repeat (first | (with_reducible first | exact HB.out | apply below_alloc | apply pw_below_drewN | apply below_drew1) | exact HB.out)⟩⟩
 case round =>
  clear H'
  obtain ⟨x0_1, x3_1, rfl, HA, HK1, HO_3, HB⟩ := hrel
  cases gk with
  | zero => exact absurd HA.out (by simp [varint_Encode.l0])
  | succ k1 =>
   have H := HA.out
   clear HA
   simp only [varint_Encode.l0] at H
   by_cases c2 : x0_1 ≥ 128
   ·rw [if_pos c2] at H
    have c2b0 : decide (128 ≤ x0_1) = true := decide_eq_true c2
    clear c2
    by_cases c3 : x3_1.length < 140737488355328
    ·rw [if_pos c3] at H
     have LMc3 := Aside0.mk c3
     clear c3
     obtain ⟨y112, hy112⟩ : ∃ y_ : List Int, y_ = (x3_1 ++ [Go.bits .or .u8 ((x0_1) % 256) 128]) := ⟨_, rfl⟩
     replace H : (varint_Encode.l0 k1 (x0_1 / 128) y112) = some r := by first | (rw [hy112]; with_reducible exact H) | (have H2_ := (Option.bind_some _ _).symm.trans H; rw [hy112]; with_reducible exact H2_) | (have H2_ := (Option.bind_some _ _).symm.trans H; with_reducible exact H2_) | with_reducible exact H | (rw [hy112]; exact H) | exact H
     have Ny112 := Aside0.mk hy112
     clear hy112
     have H' := Aside0.mk H
     clear H
     go_wp2_with (first | ((with_reducible refine gate_builtin (b := .append) (xs := #[.tmp 6, .tmp 10]) rfl ?_); at_builtin; refine Kd.R_append (Kd.int .u8) (w0 := w) w.heap.size rfl (.tmp 6) (.tmp 10) 51 5 (.int .u8 0) 1 rfl Try.underlying51 info5 rfl (by decide) (by omega) u3 x3_1 (Go.bits .or .u8 ((x0_1) % 256) 128) [.int .u8 (Go.bits .or .u8 ((x0_1) % 256) 128)] (fun _ => True) (fun _ => False) rfl rfl ?aP (fun _ hk => hk.elim) ?aF ?aO ?aB ?aS ?aL ?_; (case aP => exact rfl); (case aB => exact (by repeat (first | (with_reducible first | exact HB.out | apply below_alloc | apply pw_below_drewN | apply below_drew1) | exact HB.out))); (case aF => exact (fun _ _ => trivial)); (case aO => exact (by (with_reducible repeat (first | apply Kd.R_alloc | apply Kd.R_drewN | apply Kd.R_drew)); exact HO_3.out)); (case aS => exact (below_size (by repeat (first | (with_reducible first | exact HB.out | apply below_alloc | apply pw_below_drewN | apply below_drew1) | exact HB.out)))); (case aL => have := LMc3.out; omega); intro v113 w4 ho hb hg hat; rw [← Ny112.out] at ho; have n0_ := Aside0.mk (hb); have n1_ := Aside0.mk (ho); clear HB; clear HO_3; have HB := n0_; have HO114 := n1_; clear n0_ n1_; clear ho hb hg hat))
     go_roundg k1
     case measure => have := HK1.out; omega
     case rel => exact ⟨(x0_1 / 128), (y112), (by first | rfl | (simp; done) | (simp [*]; done)), H', ⟨by have := HK1.out; omega⟩, ⟨by (with_reducible repeat (first | apply Kd.R_alloc | apply Kd.R_drewN | apply Kd.R_drew)); exact HO114.out⟩, ⟨by repeat (first | (with_reducible first | exact HB.out | apply below_alloc | apply pw_below_drewN | apply below_drew1) | exact HB.out)⟩⟩
    ·rw [if_neg c3] at H
     exact absurd H (by simp)
   ·rw [if_neg c2] at H
    have c2b0 : decide (128 ≤ x0_1) = false := decide_eq_false c2
    clear c2
    by_cases c5 : x3_1.length < 140737488355328
    ·rw [if_pos c5] at H
     have LMc5 := Aside0.mk c5
     clear c5
     obtain ⟨y115, hy115⟩ : ∃ y_ : List Int, y_ = (x3_1 ++ [(x0_1) % 256]) := ⟨_, rfl⟩
     replace H : (some y115) = some r := by first | (rw [hy115]; with_reducible exact H) | (have H2_ := (Option.bind_some _ _).symm.trans H; rw [hy115]; with_reducible exact H2_) | (have H2_ := (Option.bind_some _ _).symm.trans H; with_reducible exact H2_) | with_reducible exact H | (rw [hy115]; exact H) | exact H
     have Ny115 := Aside0.mk hy115
     clear hy115
     obtain rfl := Option.some.inj H
     go_wp2_with (first | ((with_reducible refine gate_builtin (b := .append) (xs := #[.tmp 14, .tmp 17]) rfl ?_); at_builtin; refine Kd.R_append (Kd.int .u8) (w0 := w) w.heap.size rfl (.tmp 14) (.tmp 17) 51 5 (.int .u8 0) 1 rfl Try.underlying51 info5 rfl (by decide) (by omega) u3 x3_1 ((x0_1) % 256) [.int .u8 ((x0_1) % 256)] (fun _ => True) (fun _ => False) rfl rfl ?aP (fun _ hk => hk.elim) ?aF ?aO ?aB ?aS ?aL ?_; (case aP => exact rfl); (case aB => exact (by repeat (first | (with_reducible first | exact HB.out | apply below_alloc | apply pw_below_drewN | apply below_drew1) | exact HB.out))); (case aF => exact (fun _ _ => trivial)); (case aO => exact (by (with_reducible repeat (first | apply Kd.R_alloc | apply Kd.R_drewN | apply Kd.R_drew)); exact HO_3.out)); (case aS => exact (below_size (by repeat (first | (with_reducible first | exact HB.out | apply below_alloc | apply pw_below_drewN | apply below_drew1) | exact HB.out)))); (case aL => have := LMc5.out; omega); intro v116 w6 ho hb hg hat; rw [← Ny115.out] at ho; have n0_ := Aside0.mk (hb); have n1_ := Aside0.mk (ho); clear HB; clear HO_3; have HB := n0_; have HO117 := n1_; clear n0_ n1_; clear ho hb hg hat))
     go_ret
     exact ⟨_, by first | rfl | (simp [errW_none, errW_some] <;> rfl) | (simp [*, errW_none, errW_some] <;> rfl), by (with_reducible repeat (first | apply Kd.R_alloc | apply Kd.R_drewN | apply Kd.R_drew)); exact HO117.out, by repeat (first | (with_reducible first | exact HB.out | apply below_alloc | apply pw_below_drewN | apply below_drew1) | exact HB.out)⟩
    ·rw [if_neg c5] at H
     exact absurd H (by simp)

end Go.Proofs.Yteamkjphdiajeaa.QFrontcodeAt
