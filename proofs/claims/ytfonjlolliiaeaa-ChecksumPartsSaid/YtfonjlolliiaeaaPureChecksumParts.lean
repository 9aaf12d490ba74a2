/- laminalaw02.ChecksumParts returns true for all its arguments (the checksum does not depend on how bytes are divided, Update continues it, and Open inverts Seal). Conditions: none beyond the row's own (slices that can be read, each of at most 2^47 - 4096 bytes). -/
import Derived.Test.YtfonjlolliiaeaaStChecksumParts
import Derived.Test.YtfonjlolliiaeaaM01
import Derived.Test.YtfonjlolliiaeaaM02
import Derived.Test.YtfonjlolliiaeaaM03
import Derived.Test.YtfonjlolliiaeaaM06
import Derived.Test.YtfonjlolliiaeaaM07
set_option linter.unusedVariables false
set_option linter.unusedSimpArgs false
namespace Go.Proofs.Ytfonjlolliiaeaa.Pure
open Go Go.RowKit Go.Proofs.Ytfonjlolliiaeaa.QChecksumParts Go.Proofs.YtfonjlolliiaeaaW.PrintWords Go.Proofs.YtfonjlolliiaeaaW.PrintLast Go.Proofs.YtfonjlolliiaeaaM

/-! ### the law -/
set_option maxHeartbeats 4000000 in
set_option maxRecDepth 100000 in
theorem law_calls (k : Nat) (A0 A1 A2 : Option Addr) (c0 c1 c2 : Nat) (a b c s : List Int) (x y : Int) (w : World) (hr0 : Kd.C (Kd.int .u8) w A0 a.length a) (hc0 : a.length ≤ c0) (hr1 : Kd.C (Kd.int .u8) w A1 b.length b) (hc1 : b.length ≤ c1) (hr2 : Kd.C (Kd.int .u8) w A2 c.length c) (hc2 : c.length ≤ c2)
    (hX : ¬ (5000 : Int) < (a.length : Int) → ¬ (5000 : Int) < (b.length : Int) → ¬ (5000 : Int) < (c.length : Int) → ∃ z1 z2 z3 y3 : _, z1 = [y3] ∧ z2 = [a, b, c] ∧ z3 = [a, b] ∧ y3 = [] ++ a ++ b ++ c ∧ checksum_CRC.f z1 = some x ∧ checksum_Seal.f k y3 = some s ∧ checksum_Open.f k s = some (y3, 0) ∧ checksum_CRC.f z2 = some x ∧ checksum_CRC.f z3 = some y ∧ checksum_Update.f y c = some x ∧ checksum_Update.f 0 y3 = some x ∧ laminaref02_Same.f k y3 y3 = some true) :
    Calls Try.prog 7 #[.slice A0 a.length c0, .slice A1 b.length c1, .slice A2 c.length c2] w fun e w' => e = .returned (.bool true) ∧ Below w.heap.size w w' := by
  have HRa := Aside0.mk hr0
  have HRb := Aside0.mk hr1
  have HRc := Aside0.mk hr2
  have QA := Aside0.mk hc0
  have QB := Aside0.mk hc1
  have QC := Aside0.mk hc2
  have HX := Aside0.mk hX
  clear hr0 hr1 hr2 hc0 hc1 hc2 hX
  by_cases ha : (5000 : Int) < (a.length : Int)
  · go_enter Try.func7, Try.ntmps7
    go_wp2_with (go_at_call 9; refine (laminalaw02_awake.calls true _ rfl).mono ?_; rintro e w1 ⟨rfl, hB1⟩)
    go_ret
    exact ⟨rfl, hB1⟩
  by_cases hb : (5000 : Int) < (b.length : Int)
  · go_enter Try.func7, Try.ntmps7
    go_wp2_with (go_at_call 9; refine (laminalaw02_awake.calls true _ rfl).mono ?_; rintro e w1 ⟨rfl, hB1⟩)
    go_ret
    exact ⟨rfl, hB1⟩
  by_cases hc : (5000 : Int) < (c.length : Int)
  · go_enter Try.func7, Try.ntmps7
    go_wp2_with (go_at_call 9; refine (laminalaw02_awake.calls true _ rfl).mono ?_; rintro e w1 ⟨rfl, hB1⟩)
    go_ret
    exact ⟨rfl, hB1⟩
  obtain ⟨z1, z2, z3, y3, hz1, hz2, hz3, hy3, d1, d2, d3, d4, d5, d6, d7, d8⟩ := HX.out ha hb hc
  obtain ⟨y1, hy1⟩ : ∃ y1 : List Int, y1 = [] ++ a := ⟨_, rfl⟩
  obtain ⟨y2, hy2⟩ : ∃ y2 : List Int, y2 = y1 ++ b := ⟨_, rfl⟩
  rw [← hy1, ← hy2] at hy3
  have LX := Aside0.mk (show a.length ≤ 5000 ∧ b.length ≤ 5000 ∧ c.length ≤ 5000 by omega)
  have LY1 := Aside0.mk (show ([] : List Int).length = 0 ∧ y1.length ≤ 5000 by rw [hy1]; simp; omega)
  have LY2 := Aside0.mk (show y2.length ≤ 10000 by have := LY1.out; rw [hy2, List.length_append]; omega)
  have HY1 := Aside0.mk hy1
  have HY2 := Aside0.mk hy2
  have HY3 := Aside0.mk hy3
  have HL1 := Aside0.mk hz1
  have HL2 := Aside0.mk hz2
  have HL3 := Aside0.mk hz3
  have D1 := Aside0.mk d1
  have D2 := Aside0.mk d2
  have D3 := Aside0.mk d3
  have D4 := Aside0.mk d4
  have D5 := Aside0.mk d5
  have D6 := Aside0.mk d6
  have D7 := Aside0.mk d7
  have D8 := Aside0.mk d8
  clear hz1 hz2 hz3 hy1 hy2 hy3 d1 d2 d3 d4 d5 d6 d7 d8 HX
  have xx : (x == x) = true := by simp
  go_enter Try.func7, Try.ntmps7
  go_wp2_with (first
    | ((with_reducible refine gate_builtin (b := .append) (xs := #[.tmp 25, .tmp 26]) rfl ?_); at_builtin; go_loud (refine Kd.R_append_rows (Kd.int .u8) (w0 := w) w.heap.size rfl (.tmp 25) (.tmp 26) 22 5 (.int .u8 0) 1 rfl Try.underlying22 info5 rfl (by decide) (by omega) (.slice none 0 0) ([] : List Int) a _ _ _ (fun k_ => w.heap.size ≤ k_) (fun _ => False) rfl rfl ?aO ?aR (fun _ _ h => h) (fun _ h => h.elim) ?aF ?aB ?aS ?aL ?_; (case aR => exact HRa.out); (case aB => exact (show Below w.heap.size w w from Below.refl _ _)); (case aF => exact (fun k_ hk => Nat.le_trans ((show Below w.heap.size w w from Below.refl _ _)).size hk)); (case aO => exact (Kd.R_nil _ _ _ _ (fun k_ => (w.heap.size ≤ k_)))); (case aS => exact ((show Below w.heap.size w w from Below.refl _ _)).size); (case aL => have l0_ := LX.out; have l1_ := LY1.out; have l2_ := LY2.out; omega); intro v1 w1 ho hb hg hat; clear hg hat; rw [← HY1.out] at ho; have HO1 := Aside0.mk ho; have HB1 := Aside0.mk hb; clear ho hb))
    | ((with_reducible refine gate_builtin (b := .append) (xs := #[.tmp 28, .tmp 29]) rfl ?_); at_builtin; go_loud (refine Kd.R_append_rows (Kd.int .u8) (w0 := w) w.heap.size rfl (.tmp 28) (.tmp 29) 22 5 (.int .u8 0) 1 rfl Try.underlying22 info5 rfl (by decide) (by omega) v1 y1 b _ _ _ (fun k_ => w.heap.size ≤ k_) (fun _ => False) rfl rfl ?aO ?aR (fun _ _ h => h) (fun _ h => h.elim) ?aF ?aB ?aS ?aL ?_; (case aR => exact (Kd.C_below HRb.out HB1.out)); (case aB => exact HB1.out); (case aF => exact (fun k_ hk => Nat.le_trans (HB1.out).size hk)); (case aO => exact HO1.out); (case aS => exact (HB1.out).size); (case aL => have l0_ := LX.out; have l1_ := LY1.out; have l2_ := LY2.out; omega); intro v2 w2 ho hb hg hat; clear hg hat; rw [← HY2.out] at ho; have HO2 := Aside0.mk ho; have HB2 := Aside0.mk hb; clear ho hb))
    | ((with_reducible refine gate_builtin (b := .append) (xs := #[.tmp 31, .tmp 32]) rfl ?_); at_builtin; go_loud (refine Kd.R_append_rows (Kd.int .u8) (w0 := w) w.heap.size rfl (.tmp 31) (.tmp 32) 22 5 (.int .u8 0) 1 rfl Try.underlying22 info5 rfl (by decide) (by omega) v2 y2 c _ _ _ (fun k_ => w.heap.size ≤ k_) (fun _ => False) rfl rfl ?aO ?aR (fun _ _ h => h) (fun _ h => h.elim) ?aF ?aB ?aS ?aL ?_; (case aR => exact (Kd.C_below HRc.out HB2.out)); (case aB => exact HB2.out); (case aF => exact (fun k_ hk => Nat.le_trans (HB2.out).size hk)); (case aO => exact HO2.out); (case aS => exact (HB2.out).size); (case aL => have l0_ := LX.out; have l1_ := LY1.out; have l2_ := LY2.out; omega); intro v3 w3 ho hb hg hat; clear hg hat; rw [← HY3.out] at ho; have HB3 := Aside0.mk hb; obtain ⟨A3, c3, e3⟩ := Kd.R_slice ho; subst e3; have C3 := Aside0.mk (Kd.R_reads' ho).2.2; have Q3 := Aside0.mk (Kd.R_reads' ho).2.1; clear ho hb))
    | ((with_reducible refine gate_dst (N := 35) rfl ?_); go_loud (refine Kd.N_lit (Kd.slice 5 (Kd.int .u8)) _ 22 ?hg (N' := 35) ?hd (xs := ([y3] : List (List Int))) (inner := [.slice A3 y3.length c3]) (ok := fun _ => True) (okp := fun k_ => k_ < (w3).heap.size) ?hr ?hp (fun _ _ => trivial) trivial (Below.refl _ _) (Nat.le_refl _) (by simp) ?_; (case hd => rfl); (case hg => (first | rfl | (simp only [*]; rfl) | (simp [*]; done))); (case hr => first | (go_simp; done) | (go_simp; rfl)); (case hp => exact (Reps.one (show Kd.FK (Kd.slice 5 (Kd.int .u8)) _ _ y3 [.slice A3 y3.length c3] from (Kd.FK_slice_mk Q3.out (Kd.C_F (Kd.heap_int .u8) C3.out))) (Reps.none _ _))); intro v_ w4 ho hb hg_ hnew_; clear hg_ hnew_; rw [← HL1.out] at ho; obtain ⟨A4, c4, e_⟩ := Kd.N_slice ho; subst e_; have C4 := Aside0.mk (Kd.N_reads' ho).2; have HB4 := Aside0.mk (below_then HB3.out (HB3.out).size hb); have C34 := Aside0.mk (Kd.C_below C3.out hb); clear ho hb))
    | (go_at_call 16; with_reducible refine (checksum_CRC.calls A4 c4 z1 x w4 C4.out.2 C4.out.1 D1.out).mono ?_; rintro e w5 ⟨rfl, hb⟩; have HB5 := Aside0.mk (below_then HB4.out HB4.out.size hb); have C35 := Aside0.mk (Kd.C_below C34.out hb); clear hb)
    | (go_at_call 15; go_loud (refine (checksum_Seal.calls k (fun k_ => k_ < w5.heap.size) A3 c3 y3 s w5 (Kd.V_mk Q3.out (Kd.C_F (Kd.heap_int .u8) C35.out)) D2.out).mono ?_; rintro e w6 ⟨v6, rfl, ho, hb⟩; obtain ⟨A6, c6, e6⟩ := Kd.R_slice ho; subst e6; have HB6 := Aside0.mk (below_then HB5.out HB5.out.size hb); have C36 := Aside0.mk (Kd.C_below C35.out hb); have C6 := Aside0.mk (Kd.R_reads' ho).2; clear ho hb))
    | (go_at_call 10; go_loud (refine (checksum_Open.calls k (fun k_ => k_ < w6.heap.size) A6 c6 s y3 0 w6 (Kd.V_mk C6.out.1 (Kd.C_F (Kd.heap_int .u8) C6.out.2)) D3.out).mono ?_; rintro e w7 ⟨v7, rfl, ho, hb⟩; obtain ⟨A7, c7, e7⟩ := Kd.R_slice ho; subst e7; have HB7 := Aside0.mk (below_then HB6.out HB6.out.size hb); have C37 := Aside0.mk (Kd.C_below C36.out hb); have C7 := Aside0.mk (Kd.R_reads' ho).2; clear ho hb))
    | ((with_reducible refine gate_dst (N := 46) rfl ?_); go_loud (refine Kd.N_lit (Kd.slice 5 (Kd.int .u8)) _ 22 ?hg (N' := 46) ?hd (xs := ([a, b, c] : List (List Int))) (inner := [.slice A0 a.length c0, .slice A1 b.length c1, .slice A2 c.length c2]) (ok := fun _ => True) (okp := fun k_ => k_ < (w7).heap.size) ?hr ?hp (fun _ _ => trivial) trivial (Below.refl _ _) (Nat.le_refl _) (by simp) ?_; (case hd => rfl); (case hg => (first | rfl | (simp only [*]; rfl) | (simp [*]; done))); (case hr => first | (go_simp; done) | (go_simp; rfl)); (case hp => exact (Reps.one (show Kd.FK (Kd.slice 5 (Kd.int .u8)) _ _ a [.slice A0 a.length c0] from (Kd.FK_slice_mk QA.out (Kd.C_F (Kd.heap_int .u8) (Kd.C_below HRa.out HB7.out)))) (Reps.one (show Kd.FK (Kd.slice 5 (Kd.int .u8)) _ _ b [.slice A1 b.length c1] from (Kd.FK_slice_mk QB.out (Kd.C_F (Kd.heap_int .u8) (Kd.C_below HRb.out HB7.out)))) (Reps.one (show Kd.FK (Kd.slice 5 (Kd.int .u8)) _ _ c [.slice A2 c.length c2] from (Kd.FK_slice_mk QC.out (Kd.C_F (Kd.heap_int .u8) (Kd.C_below HRc.out HB7.out)))) (Reps.none _ _))))); intro v_ w8 ho hb hg_ hnew_; clear hg_ hnew_; rw [← HL2.out] at ho; obtain ⟨A8, c8, e_⟩ := Kd.N_slice ho; subst e_; have C8 := Aside0.mk (Kd.N_reads' ho).2; have HB8 := Aside0.mk (below_then HB7.out (HB7.out).size hb); have C38 := Aside0.mk (Kd.C_below C37.out hb); have C78 := Aside0.mk (Kd.C_below C7.out.2 hb); clear ho hb))
    | (go_at_call 16; with_reducible refine (checksum_CRC.calls A8 c8 z2 x w8 C8.out.2 C8.out.1 D4.out).mono ?_; rintro e w9 ⟨rfl, hb⟩; have HB9 := Aside0.mk (below_then HB8.out HB8.out.size hb); have C39 := Aside0.mk (Kd.C_below C38.out hb); have C79 := Aside0.mk (Kd.C_below C78.out hb); clear hb)
    | ((with_reducible refine gate_dst (N := 53) rfl ?_); (try (refine gate_guard (by rfl) ?_; dsimp only)); go_loud (refine Kd.N_lit (Kd.slice 5 (Kd.int .u8)) _ 22 ?hg (N' := 53) ?hd (xs := ([a, b] : List (List Int))) (inner := [.slice A0 a.length c0, .slice A1 b.length c1]) (ok := fun _ => True) (okp := fun k_ => k_ < (w9).heap.size) ?hr ?hp (fun _ _ => trivial) trivial (Below.refl _ _) (Nat.le_refl _) (by simp) ?_; (case hd => rfl); (case hg => (first | rfl | (simp only [*]; rfl) | (simp [*]; done))); (case hr => first | (go_simp; done) | (go_simp; rfl)); (case hp => exact (Reps.one (show Kd.FK (Kd.slice 5 (Kd.int .u8)) _ _ a [.slice A0 a.length c0] from (Kd.FK_slice_mk QA.out (Kd.C_F (Kd.heap_int .u8) (Kd.C_below HRa.out HB9.out)))) (Reps.one (show Kd.FK (Kd.slice 5 (Kd.int .u8)) _ _ b [.slice A1 b.length c1] from (Kd.FK_slice_mk QB.out (Kd.C_F (Kd.heap_int .u8) (Kd.C_below HRb.out HB9.out)))) (Reps.none _ _)))); intro v_ w10 ho hb hg_ hnew_; clear hg_ hnew_; rw [← HL3.out] at ho; obtain ⟨A10, c10, e_⟩ := Kd.N_slice ho; subst e_; have C10 := Aside0.mk (Kd.N_reads' ho).2; have HB10 := Aside0.mk (below_then HB9.out (HB9.out).size hb); have C310 := Aside0.mk (Kd.C_below C39.out hb); have C710 := Aside0.mk (Kd.C_below C79.out hb); clear ho hb))
    | (go_at_call 16; with_reducible refine (checksum_CRC.calls A10 c10 z3 y w10 C10.out.2 C10.out.1 D5.out).mono ?_; rintro e w11 ⟨rfl, hb⟩; have HB11 := Aside0.mk (below_then HB10.out HB10.out.size hb); have C311 := Aside0.mk (Kd.C_below C310.out hb); have C711 := Aside0.mk (Kd.C_below C710.out hb); clear hb)
    | (go_at_call 18; with_reducible refine (checksum_Update.calls y A2 c2 c x w11 (Kd.C_below HRc.out HB11.out) QC.out D6.out).mono ?_; rintro e w12 ⟨rfl, hb⟩; have HB12 := Aside0.mk (below_then HB11.out HB11.out.size hb); have C312 := Aside0.mk (Kd.C_below C311.out hb); have C712 := Aside0.mk (Kd.C_below C711.out hb); clear hb)
    | (go_at_call 18; with_reducible refine (checksum_Update.calls 0 A3 c3 y3 x w12 C312.out Q3.out D7.out).mono ?_; rintro e w13 ⟨rfl, hb⟩; have HB13 := Aside0.mk (below_then HB12.out HB12.out.size hb); have C313 := Aside0.mk (Kd.C_below C312.out hb); have C713 := Aside0.mk (Kd.C_below C712.out hb); clear hb)
    | (go_at_call 12; go_loud (refine (laminaref02_Same.calls k A7 c7 y3 A3 c3 y3 true w13 C713.out C7.out.1 C313.out Q3.out D8.out).mono ?_; rintro e w14 ⟨rfl, ⟨n14, rfl⟩⟩))
    | (go_at_call 9; go_loud (refine (laminalaw02_awake.calls true _ rfl).mono ?_; rintro e w15 ⟨rfl, hb15⟩)))
  go_ret
  exact ⟨rfl, (pw_below_drewN HB13.out n14).trans (hb15.mono (pw_below_drewN HB13.out n14).size)⟩

theorem drop_lt {α : Type} {l r : List α} {i : Nat} {x : α} (h : l.drop i = x :: r) : i < l.length := by
  rcases Nat.lt_or_ge i l.length with h1 | h1
  · exact h1
  · rw [List.drop_of_length_le h1] at h; cases h
theorem drop_ge {α : Type} {l : List α} {i : Nat} (h : l.drop i = []) : l.length ≤ i := by
  rwa [List.drop_eq_nil_iff] at h
theorem drop_next {α : Type} {l r : List α} {i : Nat} {x : α} (h : l.drop i = x :: r) : l.drop (i + 1) = r := by
  rw [← List.drop_drop, h]; rfl
theorem drop_mem {α : Type} {l r : List α} {i : Nat} {x : α} (h : l.drop i = x :: r) : x ∈ l := List.mem_of_mem_drop (h ▸ List.mem_cons_self)

/-- The checksum of a list of bytes. -/
def cks (b : List Int) : Nat := 4294967295 ^^^ crcR 4294967295 b
theorem cks_lt (b : List Int) (hb : ∀ x ∈ b, 0 ≤ x ∧ x < 256) : cks b < 4294967296 :=
  Nat.xor_lt_two_pow (n := 32) (by decide) (crcR_lt b _ (by decide) hb)
theorem ck_all {b : List Int} (hb : ∀ x ∈ b, 0 ≤ x ∧ x < 256) : (b.all fun x => decide (0 ≤ x) && decide (x < 256)) = true := by
  simp only [List.all_eq_true, Bool.and_eq_true, decide_eq_true_eq]; exact hb
theorem ck_crc (ls : List (List Int)) (hb : ∀ l ∈ ls, ∀ x ∈ l, 0 ≤ x ∧ x < 256) : checksum_CRC.f ls = some ((4294967295 ^^^ crcF 4294967295 ls : Nat) : Int) := by
  unfold checksum_CRC.f
  rw [if_pos]
  rw [List.all_eq_true]
  exact fun l hl => ck_all (hb l hl)
theorem ck_crc1 (b : List Int) (hb : ∀ x ∈ b, 0 ≤ x ∧ x < 256) : checksum_CRC.f [b] = some ((cks b : Nat) : Int) :=
  ck_crc [b] (by intro l hl; obtain rfl := List.mem_singleton.1 hl; exact hb)

theorem ck_same_l0 (l : List Int) (hl : l.length < 9223372036854775807) : ∀ (s : List Int) (i : Nat), l.drop i = s → Ev (fun k => laminaref02_Same.l0 k l l (i : Int)) true := by
  intro s
  induction s with
  | nil =>
    intro i h
    have := drop_ge h
    refine Ev.succ ?_
    simp only [laminaref02_Same.l0]
    refine Ev.neg (by omega) ?_
    exact Ev.now _
  | cons x s ih =>
    intro i h
    have hlt := drop_lt h
    refine Ev.succ ?_
    simp only [laminaref02_Same.l0, w64_add1 i (by omega)]
    refine Ev.pos (by omega) ?_
    refine Ev.pos (by omega) ?_
    refine Ev.pos (by omega) ?_
    refine Ev.pos trivial ?_
    exact ih (i + 1) (drop_next h)
theorem ck_same_ev (l : List Int) (hl : l.length < 9223372036854775807) : Ev (fun k => laminaref02_Same.f k l l) true := by
  unfold laminaref02_Same.f
  refine Ev.pos (show (l.length : Int) = (l.length : Int) from rfl) ?_
  exact ck_same_l0 l hl l 0 rfl

/-! ### reading fixed numbers -/
def rfx (b : List Int) (o s : Int) : Int × Int :=
  if s < 1 ∨ 8 < s ∨ o < 0 ∨ (b.length : Int) < o then (0, 1) else if (b.length : Int) - o < s then (0, 2) else (((le ((b.drop o.toNat).take s.toNat) : Nat) : Int), 0)
theorem rdf_l0 (b : List Int) (hb : ∀ x ∈ b, 0 ≤ x ∧ x < 256) (hlen : b.length < 4611686018427387904) (o s : Nat) (hs : s ≤ 8) (ho : o + s ≤ b.length) :
    ∀ (f i : Nat), i + f = s → Ev (fun k => varint_ReadFixed.l0 k b o ((le ((b.drop o).take i) : Nat) : Int) s i) (((le ((b.drop o).take s) : Nat) : Int), 0) := by
  intro f
  induction f with
  | zero =>
    intro i hi
    refine Ev.succ ?_
    simp only [varint_ReadFixed.l0]
    refine Ev.neg (by omega) ?_
    rw [show i = s by omega]
    exact Ev.now _
  | succ f ih =>
    intro i hi
    have hlt : o + i < b.length := by omega
    have hr := getD_range hb hlt
    obtain ⟨c, hc⟩ := Int.eq_ofNat_of_zero_le hr.1
    rw [hc] at hr
    have hl : ((b.drop o).take i).length = i := by rw [List.length_take, List.length_drop]; omega
    have hall : ∀ x ∈ (b.drop o).take i, 0 ≤ x ∧ x < 256 := fun x hx => hb x (List.mem_of_mem_drop (List.mem_of_mem_take hx))
    have hle := le_lt ((b.drop o).take i) hall
    rw [hl] at hle
    have htake : (b.drop o).take (i + 1) = (b.drop o).take i ++ [(c : Int)] := by
      rw [List.take_succ_eq_append_getElem (by rw [List.length_drop]; omega)]
      congr 2
      rw [List.getElem_drop]
      rw [← hc, List.getD_eq_getElem?_getD, List.getElem?_eq_getElem hlt]; rfl
    have hle2 : le ((b.drop o).take (i + 1)) = le ((b.drop o).take i) + c * 256 ^ i := by
      rw [htake, le_append, hl]; simp [le, Nat.mul_comm]
    have hp7 : 256 ^ i ≤ 256 ^ 7 := Nat.pow_le_pow_right (by decide) (by omega)
    have h7 : (256 : Nat) ^ 7 = 72057594037927936 := by decide
    have hcb : c * 256 ^ i ≤ 255 * 72057594037927936 := Nat.mul_le_mul (by omega) (by omega)
    have e1 : shl .u64 (IntKind.u64.wrap (rd b (((o + i : Nat)) : Int))) (wrap64 (8 * (i : Int))) = ((c * 256 ^ i : Nat) : Int) := by
      have e : min (8 * (i : Int)).toNat 64 = 8 * i := by omega
      have e2 : (2 : Int) ^ (8 * i) = ((256 ^ i : Nat) : Int) := by rw [Int.pow_mul]; simp
      rw [rd_nat, hc, wrap_u64_of (c : Int) (by omega) (by omega), w64 _ (by omega) (by omega)]
      unfold shl
      rw [show IntKind.u64.bits = 64 from rfl, e, e2, show (c : Int) * ((256 ^ i : Nat) : Int) = ((c * 256 ^ i : Nat) : Int) by simp]
      exact wrap_u64_of _ (by omega) (by omega)
    have e2 : bits .or .u64 ((le ((b.drop o).take i) : Nat) : Int) ((c * 256 ^ i : Nat) : Int) = ((le ((b.drop o).take (i + 1)) : Nat) : Int) := by
      have e2 : (2 : Int) ^ (8 * i) = ((256 ^ i : Nat) : Int) := by rw [Int.pow_mul]; simp
      rw [or_add (8 * i) _ _ (by omega) (by rw [e2]; omega) (by omega) (by omega) (by omega) ?_, hle2]
      · omega
      · rw [e2, show ((c * 256 ^ i : Nat) : Int) = (c : Int) * ((256 ^ i : Nat) : Int) from Int.natCast_mul _ _]; exact Int.mul_emod_left _ _
    refine Ev.succ ?_
    simp only [varint_ReadFixed.l0, w64_add o i (by omega), e1, e2, w64_add1 i (by omega)]
    clear e1 e2
    refine Ev.pos (by omega) ?_
    refine Ev.pos (by omega) ?_
    refine Ev.pos (by omega) ?_
    refine Ev.pos (by rw [w64 _ (by omega) (by omega)]; omega) ?_
    exact ih (i + 1) (by omega)
theorem rdf_ev (b : List Int) (hb : ∀ x ∈ b, 0 ≤ x ∧ x < 256) (hlen : b.length < 4611686018427387904) (o s : Int) : Ev (fun k => varint_ReadFixed.f k b o s) (rfx b o s) := by
  unfold varint_ReadFixed.f
  have bad : (s < 1 ∨ 8 < s ∨ o < 0 ∨ (b.length : Int) < o) → Ev (fun k => varint_ReadFixed.j0 k b o s true) (rfx b o s) := fun h => by
    unfold rfx
    rw [if_pos h]
    refine Ev.succ ?_
    simp only [varint_ReadFixed.j0]
    refine Ev.pos (by decide) ?_
    exact Ev.now _
  by_cases h1 : s < 1
  · refine Ev.pos h1 ?_
    exact bad (by omega)
  refine Ev.neg h1 ?_
  by_cases h8 : 8 < s
  · refine Ev.pos h8 ?_
    exact bad (by omega)
  refine Ev.neg h8 ?_
  by_cases h0 : o < 0
  · refine Ev.pos h0 ?_
    exact bad (by omega)
  refine Ev.neg h0 ?_
  by_cases hl : (b.length : Int) < o
  · rw [show decide (o > (b.length : Int)) = true by simpa using hl]
    exact bad (by omega)
  rw [show decide (o > (b.length : Int)) = false by simpa using hl]
  unfold rfx
  rw [if_neg (by omega)]
  obtain ⟨m, rfl⟩ := Int.eq_ofNat_of_zero_le (show 0 ≤ s by omega)
  obtain ⟨n, rfl⟩ := Int.eq_ofNat_of_zero_le (show 0 ≤ o by omega)
  refine Ev.succ ?_
  simp only [varint_ReadFixed.j0, w64 ((b.length : Int) - (n : Int)) (by omega) (by omega)]
  refine Ev.neg (by decide) ?_
  by_cases hsh : (b.length : Int) - n < m
  · refine Ev.pos hsh ?_
    exact Ev.eq (Ev.now _) (by rw [if_pos hsh])
  · refine Ev.neg hsh ?_
    rw [if_neg hsh, Int.toNat_natCast, Int.toNat_natCast]
    have := rdf_l0 b hb hlen n m (by omega) (by omega) m 0 (by omega)
    simpa [le] using this

/-! ### Open -/
def copn (b : List Int) : List Int × Int :=
  if b.length < 4 then ([], 2) else if cks (b.take (b.length - 4)) = le (b.drop (b.length - 4)) then (b.take (b.length - 4), 0) else ([], 5)
theorem ck_open_ev (b : List Int) (hb : ∀ x ∈ b, 0 ≤ x ∧ x < 256) (hl : b.length < 1000000000) : Ev (fun k => checksum_Open.f k b) (copn b) := by
  unfold checksum_Open.f copn
  rw [w64 _ (by omega) (by omega)]
  by_cases h4 : b.length < 4
  · rw [if_pos h4]
    refine Ev.pos (by omega) ?_
    exact Ev.now _
  · rw [if_neg h4]
    refine Ev.neg (by omega) ?_
    obtain ⟨n, hn⟩ : ∃ n, n = b.length - 4 := ⟨_, rfl⟩
    have e1 : (b.length : Int) - 4 = (n : Int) := by omega
    rw [e1, ← hn, Int.toNat_natCast]
    have hr := rdf_ev b hb (by omega) (n : Int) 4
    have e2 : rfx b (n : Int) 4 = (((le (b.drop n) : Nat) : Int), 0) := by
      unfold rfx
      rw [if_neg (by omega), if_neg (by omega), Int.toNat_natCast, List.take_of_length_le (by rw [List.length_drop]; show _ ≤ (4 : Int).toNat; have : (4 : Int).toNat = 4 := rfl; omega)]
    rw [e2] at hr
    refine Ev.bind hr ?_
    refine Ev.pos rfl ?_
    refine Ev.pos (by omega) ?_
    refine Ev.pos (by omega) ?_
    have hbt : ∀ x ∈ b.take n, 0 ≤ x ∧ x < 256 := fun x hx => hb x (List.mem_of_mem_take hx)
    refine Ev.bind0 (ck_crc1 _ hbt) ?_
    have hc := cks_lt _ hbt
    rw [wraps_u64 _ (by omega) (by omega)]
    by_cases he : cks (b.take n) = le (b.drop n)
    · rw [if_pos he]
      refine Ev.pos (by rw [he]) ?_
      refine Ev.bind0 rfl ?_
      refine Ev.pos (by simp only [List.length_nil, List.length_take]; omega) ?_
      exact Ev.eq (Ev.now _) (by simp)
    · rw [if_neg he]
      refine Ev.neg (by omega) ?_
      exact Ev.now _

/-! ### fixed numbers -/
theorem shr_256 (n i : Nat) (hi : i ≤ 7) (hn : n < 18446744073709551616) : (shr .u64 (n : Int) (wrap64 (8 * (i : Int)))) % 256 = ((n / 256 ^ i % 256 : Nat) : Int) := by
  have e : min (8 * (i : Int)).toNat 64 = 8 * i := by omega
  have e2 : (2 : Int) ^ (8 * i) = ((256 ^ i : Nat) : Int) := by rw [Int.pow_mul]; simp
  rw [w64 _ (by omega) (by omega)]
  unfold shr
  rw [show IntKind.u64.bits = 64 from rfl, e, e2, ← Int.natCast_ediv]
  rfl
theorem fix_l0 (n s : Nat) (hs : s ≤ 8) (hn : n < 18446744073709551616) : ∀ (f i : Nat) (l : List Int), i + f = s → l.length = s → l.take i = (fixed n s).take i → 
    Ev (fun k => varint_Fixed.l0 k n l s i) (fixed n s) := by
  intro f
  induction f with
  | zero =>
    intro i l hi hl ht
    refine Ev.succ ?_
    simp only [varint_Fixed.l0]
    refine Ev.neg (by omega) ?_
    refine Ev.eq (Ev.now _) ?_
    rw [List.take_of_length_le (by omega), List.take_of_length_le (by rw [fixed_len]; omega)] at ht
    exact ht
  | succ f ih =>
    intro i l hi hl ht
    refine Ev.succ ?_
    simp only [varint_Fixed.l0, shr_256 n i (by omega) hn, w64_add1 i (by omega), Int.toNat_natCast]
    refine Ev.pos (by omega) ?_
    refine Ev.pos (by rw [w64 _ (by omega) (by omega)]; omega) ?_
    refine Ev.pos (by omega) ?_
    refine Ev.pos (by omega) ?_
    refine ih (i + 1) _ (by omega) (by rw [List.length_set, hl]) ?_
    have hlt : i < (fixed n s).length := by rw [fixed_len]; omega
    rw [List.take_succ_eq_append_getElem (by rw [List.length_set]; omega), List.take_succ_eq_append_getElem hlt, List.getElem_set_self, List.take_set_of_le (by omega), ht]
    congr 2
    rw [fixed_get n s i (by omega)]
theorem fix_ev (n : Nat) (hn : n < 18446744073709551616) (s : Int) : Ev (fun k => varint_Fixed.f k n s) (if s < 1 ∨ 8 < s then [] else fixed n s.toNat) := by
  unfold varint_Fixed.f
  have bad : (s < 1 ∨ 8 < s) → Ev (fun k => varint_Fixed.j0 k n s true) (if s < 1 ∨ 8 < s then [] else fixed n s.toNat) := fun h => by
    rw [if_pos h]
    refine Ev.succ ?_
    simp only [varint_Fixed.j0]
    refine Ev.pos (by decide) ?_
    exact Ev.now _
  by_cases h1 : s < 1
  · refine Ev.pos h1 ?_
    exact bad (.inl h1)
  refine Ev.neg h1 ?_
  by_cases h8 : 8 < s
  · rw [show decide (s > 8) = true by simpa using h8]
    exact bad (.inr h8)
  · rw [show decide (s > 8) = false by simpa using h8, if_neg (by omega)]
    refine Ev.succ ?_
    simp only [varint_Fixed.j0]
    refine Ev.neg (by decide) ?_
    refine Ev.pos (by omega) ?_
    refine Ev.pos (by omega) ?_
    obtain ⟨m, rfl⟩ := Int.eq_ofNat_of_zero_le (show 0 ≤ s by omega)
    rw [Int.toNat_natCast]
    exact fix_l0 n m (by omega) hn m 0 _ (by omega) (by rw [List.length_replicate]) (by simp)

/-! ### varint.Concat -/
theorem cat_l0 (l : List (List Int)) (hl : l.length < 1000000000) : ∀ (r : List (List Int)) (i : Nat) (acc : List Int), l.drop i = r → acc.length + r.flatten.length < 1000000000 →
    Ev (fun k => varint_Concat.l0 k acc l (l.length : Int) i) (acc ++ r.flatten) := by
  intro r
  induction r with
  | nil =>
    intro i acc h ha
    have := drop_ge h
    refine Ev.succ ?_
    simp only [varint_Concat.l0]
    refine Ev.neg (by omega) ?_
    exact Ev.eq (Ev.now _) (by simp)
  | cons x r ih =>
    intro i acc h ha
    have hlt := drop_lt h
    have hg : rd_L2 l (i : Int) = x := by
      have : rd_L2 l (i : Int) = l.getD i [] := by simp [rd_L2]
      rw [this, List.getD_eq_getElem?_getD, ← List.head?_drop, h]; rfl
    simp only [List.flatten_cons, List.length_append] at ha
    refine Ev.succ ?_
    simp only [varint_Concat.l0, hg, w64_add1 i (by omega)]
    refine Ev.pos (by omega) ?_
    refine Ev.pos (by omega) ?_
    refine Ev.pos (by omega) ?_
    refine Ev.pos (by omega) ?_
    have := ih (i + 1) (acc ++ x) (drop_next h) (by rw [List.length_append]; omega)
    simpa using this
theorem cat_ev (l : List (List Int)) (hl : l.length < 1000000000) (hf : l.flatten.length < 1000000000) : Ev (fun k => varint_Concat.f k l) l.flatten := by
  unfold varint_Concat.f
  have := cat_l0 l hl l 0 [] rfl (by simpa using hf)
  simpa using this

/-! ### Seal -/
theorem ck_seal_ev (b : List Int) (hb : ∀ x ∈ b, 0 ≤ x ∧ x < 256) (hl : b.length < 100000000) : Ev (fun k => checksum_Seal.f k b) (b ++ fixed (cks b) 4) := by
  unfold checksum_Seal.f
  have hc := cks_lt b hb
  refine Ev.bind0 (ck_crc1 b hb) ?_
  rw [wraps_u64 _ (by omega) (by omega)]
  have h1 := fix_ev (cks b) (by omega) 4
  rw [if_neg (by decide)] at h1
  refine Ev.bind h1 ?_
  have h2 := cat_ev [b, fixed (cks b) 4] (show 2 < 1000000000 by decide) (by simp only [List.flatten_cons, List.flatten_nil, List.append_nil, List.length_append, fixed_len]; omega)
  rw [show ([b, fixed (cks b) 4] : List (List Int)).flatten = b ++ fixed (cks b) 4 by simp] at h2
  exact Ev.bind h2 (Ev.now _)

theorem copn_seal (b : List Int) (hb : ∀ x ∈ b, 0 ≤ x ∧ x < 256) : copn (b ++ fixed (cks b) 4) = (b, 0) := by
  have hl : (b ++ fixed (cks b) 4).length = b.length + 4 := by rw [List.length_append, fixed_len]
  unfold copn
  rw [hl, if_neg (by omega), show b.length + 4 - 4 = b.length by omega, List.take_left, List.drop_left, le_fixed 4 _ (cks_lt b hb), if_pos rfl]
theorem ChecksumParts_row (W : World) (A0 : Option Addr) (c0 : Nat) (a : List Int) (A1 : Option Addr) (c1 : Nat) (b : List Int) (A2 : Option Addr) (c2 : Nat) (c : List Int) (hr0 : Kd.C (Kd.int .u8) W A0 a.length a) (hc0 : a.length ≤ c0) (hr1 : Kd.C (Kd.int .u8) W A1 b.length b) (hc1 : b.length ≤ c1) (hr2 : Kd.C (Kd.int .u8) W A2 c.length c) (hc2 : c.length ≤ c2)
    (ho0 : a.length ≤ maxLen ∧ ∀ y0 ∈ a, (Lit.int .u8 y0).wf = true) (hy0 : a.length * 1 ≤ 140737488351232) (ho1 : b.length ≤ maxLen ∧ ∀ y0 ∈ b, (Lit.int .u8 y0).wf = true) (hy1 : b.length * 1 ≤ 140737488351232) (ho2 : c.length ≤ maxLen ∧ ∀ y0 ∈ c, (Lit.int .u8 y0).wf = true) (hy2 : c.length * 1 ≤ 140737488351232) :
    Calls Try.prog 7 #[.slice A0 a.length c0, .slice A1 b.length c1, .slice A2 c.length c2] W fun e w' => e = .returned (.bool true) ∧ Below W.heap.size W w' := by
  have hA : ∀ x ∈ a, 0 ≤ x ∧ x < 256 := fun x hx => wf_u8 (ho0.2 x hx)
  have hB : ∀ x ∈ b, 0 ≤ x ∧ x < 256 := fun x hx => wf_u8 (ho1.2 x hx)
  have hC : ∀ x ∈ c, 0 ≤ x ∧ x < 256 := fun x hx => wf_u8 (ho2.2 x hx)
  obtain ⟨y3, hy3⟩ : ∃ y3 : List Int, y3 = [] ++ a ++ b ++ c := ⟨_, rfl⟩
  have hY : ∀ x ∈ y3, 0 ≤ x ∧ x < 256 := by
    intro x hx
    rw [hy3, List.nil_append] at hx
    rcases List.mem_append.1 hx with h | h
    · rcases List.mem_append.1 h with h | h
      · exact hA x h
      · exact hB x h
    · exact hC x h
  have hlen : y3.length = a.length + b.length + c.length := by rw [hy3]; simp; omega
  have habc : ∀ l ∈ [a, b, c], ∀ x ∈ l, 0 ≤ x ∧ x < 256 := by
    intro l hl
    simp only [List.mem_cons, List.not_mem_nil, or_false] at hl
    rcases hl with rfl | rfl | rfl
    · exact hA
    · exact hB
    · exact hC
  have hab : ∀ l ∈ [a, b], ∀ x ∈ l, 0 ≤ x ∧ x < 256 := fun l hl => habc l (by simp only [List.mem_cons, List.not_mem_nil, or_false] at hl ⊢; rcases hl with h | h <;> simp [h])
  by_cases hlim : a.length ≤ 5000 ∧ b.length ≤ 5000 ∧ c.length ≤ 5000
  · obtain ⟨k1, e1⟩ := ck_seal_ev y3 hY (by omega)
    have hS : ∀ x ∈ y3 ++ fixed (cks y3) 4, 0 ≤ x ∧ x < 256 := by
      intro x hx
      rcases List.mem_append.1 hx with h | h
      · exact hY x h
      · exact fixed_range _ _ x h
    obtain ⟨k2, e2⟩ := ck_open_ev (y3 ++ fixed (cks y3) 4) hS (by rw [List.length_append, fixed_len]; omega)
    obtain ⟨k3, e3⟩ := ck_same_ev y3 (by omega)
    rw [copn_seal y3 hY] at e2
    have ec : crcF 4294967295 [a, b, c] = crcR 4294967295 y3 := by
      rw [hy3, List.nil_append, crcR_append, crcR_append]; rfl
    have ey : (4294967295 ^^^ crcF 4294967295 [a, b]) < 4294967296 := Nat.xor_lt_two_pow (n := 32) (by decide) (crcF_lt _ _ (by decide) hab)
    refine law_calls (k1 + k2 + k3) A0 A1 A2 c0 c1 c2 a b c (y3 ++ fixed (cks y3) 4) ((cks y3 : Nat) : Int) ((4294967295 ^^^ crcF 4294967295 [a, b] : Nat) : Int) W hr0 hc0 hr1 hc1 hr2 hc2 (fun _ _ _ => ⟨_, _, _, y3, rfl, rfl, rfl, hy3, ck_crc1 y3 hY, e1 _ (by omega), e2 _ (by omega), ?_, ck_crc _ hab, ?_, ?_, e3 _ (by omega)⟩)
    · rw [ck_crc _ habc, ec]; rfl
    · unfold checksum_Update.f
      rw [if_pos ⟨by omega, by omega, ck_all hC⟩, Int.toNat_natCast, ← Nat.xor_assoc, Nat.xor_self, Nat.zero_xor]
      have : crcR (crcF 4294967295 [a, b]) c = crcR 4294967295 y3 := by
        rw [hy3, List.nil_append, crcR_append, crcR_append]; rfl
      rw [this]
      rfl
    · unfold checksum_Update.f
      rw [if_pos ⟨by omega, by omega, ck_all hY⟩]
      rfl
  · exact law_calls 0 A0 A1 A2 c0 c1 c2 a b c [] 0 0 W hr0 hc0 hr1 hc1 hr2 hc2 (fun h1 h2 h3 => absurd (by omega : a.length ≤ 5000 ∧ b.length ≤ 5000 ∧ c.length ≤ 5000) hlim)

end Go.Proofs.Ytfonjlolliiaeaa.Pure
