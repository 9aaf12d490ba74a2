-- Written by a program of this session (wip/pr2.sh): the walk of the Go text, function by function.
import Derived.Test.YtllhbjkkoogeeaaQDeltaDecodex0
import Derived.Test.YtllhbjkkoogeeaaQDeltaDecodex1
import Derived.Test.YtllhbjkkoogeeaaQDeltaDecodex3
import Derived.Test.YtllhbjkkoogeeaaQDeltaDecodex5
namespace Go.Proofs.Ytllhbjkkoogeeaa.QDeltaDecode
open Go.RowKit Go.Proofs.YtllhbjkkoogeeaaW.PrintWords Go.Proofs.YtllhbjkkoogeeaaW.PrintLast Go.Proofs.YtllhbjkkoogeeaaW.PrintMore
open Go.Proofs.YtllhbjkkoogeeaaM
attribute [local go_sem] max2_int min2_int max_two min_two max_three min_three max_four min_four   -- for this text's walks alone
set_option linter.unusedVariables false
set_option linter.unusedSimpArgs false

/-! ### frameref_Decode: function 36 -/
mutual
def frameref_Decode.j0 : Nat → List Int → Int → Int → Bool → Option (List Int × Int × Int)
 | 0, _, _, _, _ => none
 | k + 1, x0, x1, x2, x41 => if x41 = true then (some (([] : List Int), 0, 1)) else ((frameref_readHeader.f k x0 x1 x2).bind fun bt165 => (if bt165.2.2.2.2 = 0 then ((bitpack_Size.f x2 bt165.2.1).bind fun t171 => (if (wrap64 ((x0.length : Int) - bt165.2.2.2.1)) < t171 then (some (([] : List Int), 0, 2)) else (frameref_Decode.l0 k x0 x1 x2 t171 (wrap64 (bt165.2.2.2.1 + t171)) ([] : List (S82)) true bt165.2.2.1 0 bt165.1 bt165.2.1 bt165.2.2.1 bt165.2.2.2.1))) else (some (([] : List Int), 0, bt165.2.2.2.2))))
def frameref_Decode.l0 : Nat → List Int → Int → Int → Int → Int → List (S82) → Bool → Int → Int → Int → Int → Int → Int → Option (List Int × Int × Int)
 | 0, _, _, _, _, _, _, _, _, _, _, _, _, _ => none
 | k + 1, x0, x1, x2, x11, x12, x13, x14, x68, x69, x171000, x171001, x171002, x171003 => if x69 < x68 then ((varint_Decode.f k x0 x12).bind fun bt172 => (if bt172.2.2 = 0 then ((varint_Decode.f k x0 bt172.2.1).bind fun bt175 => (if bt175.2.2 = 0 then (if x14 = true then (if x13.length < 8796093022208 then (frameref_Decode.l0 k x0 x1 x2 x11 bt175.2.1 (x13 ++ [(⟨wrap64 (mn bt172.1 (IntKind.u64.wrap (x2))), bt175.1⟩ : S82)]) (decide (bt172.1 < (IntKind.u64.wrap (x2)))) x68 (wrap64 (x69 + 1)) x171000 x171001 x171002 x171003) else (none)) else (if x13.length < 8796093022208 then (frameref_Decode.l0 k x0 x1 x2 x11 bt175.2.1 (x13 ++ [(⟨wrap64 (mn bt172.1 (IntKind.u64.wrap (x2))), bt175.1⟩ : S82)]) false x68 (wrap64 (x69 + 1)) x171000 x171001 x171002 x171003) else (none))) else (some (([] : List Int), 0, bt175.2.2)))) else (some (([] : List Int), 0, bt172.2.2)))) else (if 0 ≤ x171003 then (if x171003 ≤ (wrap64 (x171003 + x11)) then (if (wrap64 (x171003 + x11)) ≤ (x0.length : Int) then ((bitpack_Unpack.f k ((x0.take ((wrap64 (x171003 + x11)) : Int).toNat).drop (x171003 : Int).toNat) x2 x171001).bind fun bt185 => (if bt185.2 = 0 then (frameref_Decode.j2 k x0 x1 x2 x12 x13 bt185.1 (!x14) x171000 x171001 x171002 x171003) else (frameref_Decode.j2 k x0 x1 x2 x12 x13 bt185.1 true x171000 x171001 x171002 x171003))) else (none)) else (none)) else (none))
def frameref_Decode.j2 : Nat → List Int → Int → Int → Int → List (S82) → List Int → Bool → Int → Int → Int → Int → Option (List Int × Int × Int)
 | 0, _, _, _, _, _, _, _, _, _, _, _ => none
 | k + 1, x0, x1, x2, x12, x13, x19, x130, x171000, x171001, x171002, x171003 => if x130 = true then (some (([] : List Int), 0, 4)) else (frameref_Decode.l1 k x0 x1 x2 x12 x19 x13 (x13.length : Int) 0 x171000 x171001 x171002 x171003)
def frameref_Decode.l1 : Nat → List Int → Int → Int → Int → List Int → List (S82) → Int → Int → Int → Int → Int → Int → Option (List Int × Int × Int)
 | 0, _, _, _, _, _, _, _, _, _, _, _, _ => none
 | k + 1, x0, x1, x2, x12, x19, x131, x132, x133, x171000, x171001, x171002, x171003 => if x133 < x132 then (if 0 ≤ x133 then (if x133 < (x131.length : Int) then (if x171001 < 64 then (if 0 ≤ ((rd_T82 x131 x133).f0) then (if ((rd_T82 x131 x133).f0) < (x19.length : Int) then (if 0 ≤ (IntKind.u64.wrap (x171001)) then (frameref_Decode.l1 k x0 x1 x2 x12 (x19.set (((rd_T82 x131 x133).f0) : Int).toNat (Go.bits .or .u64 (rd x19 ((rd_T82 x131 x133).f0)) (shl .u64 ((rd_T82 x131 x133).f1) (IntKind.u64.wrap (x171001))))) x131 x132 (wrap64 (x133 + 1)) x171000 x171001 x171002 x171003) else (none)) else (none)) else (none)) else (frameref_Decode.l1 k x0 x1 x2 x12 x19 x131 x132 (wrap64 (x133 + 1)) x171000 x171001 x171002 x171003)) else (none)) else (none)) else (if 0 ≤ x2 then (if (x2 : Int).toNat ≤ 35184372088832 then (frameref_Decode.l2 k x0 x1 x12 (List.replicate (x2 : Int).toNat 0) x19 (x19.length : Int) 0 x171000 x171001 x171002 x171003) else (none)) else (none))
def frameref_Decode.l2 : Nat → List Int → Int → Int → List Int → List Int → Int → Int → Int → Int → Int → Int → Option (List Int × Int × Int)
 | 0, _, _, _, _, _, _, _, _, _, _, _ => none
 | k + 1, x0, x1, x12, x22, x156, x157, x158, x171000, x171001, x171002, x171003 => if x158 < x157 then (if 0 ≤ x158 then (if x158 < (x156.length : Int) then (if x158 < (x22.length : Int) then (frameref_Decode.l2 k x0 x1 x12 (x22.set (x158 : Int).toNat (wrap64 (IntKind.u64.wrap ((IntKind.u64.wrap (x171000)) + (rd x156 x158))))) x156 x157 (wrap64 (x158 + 1)) x171000 x171001 x171002 x171003) else (none)) else (none)) else (none)) else ((frameref_Encode.f x22).bind fun t198 => (if 0 ≤ x1 then (if x1 ≤ x12 then (if x12 ≤ (x0.length : Int) then (if (strOfNums t198).toList = (strOfNums ((x0.take (x12 : Int).toNat).drop (x1 : Int).toNat)).toList then (some (x22, x12, 0)) else (some (([] : List Int), 0, 4))) else (none)) else (none)) else (none)))
end
def frameref_Decode.f (k : Nat) (l0 : List Int) (a1 : Int) (a2 : Int) : Option (List Int × Int × Int) := if a1 < 0 then (frameref_Decode.j0 k l0 a1 a2 true) else (if a1 > (l0.length : Int) then (frameref_Decode.j0 k l0 a1 a2 true) else (if a2 < 0 then (frameref_Decode.j0 k l0 a1 a2 true) else (frameref_Decode.j0 k l0 a1 a2 (decide (a2 > 65536)))))
theorem frameref_Decode.mono_l : ∀ k, (∀ y0 y1 y2 y3, LeO (frameref_Decode.j0 k y0 y1 y2 y3) (frameref_Decode.j0 (k + 1) y0 y1 y2 y3)) ∧ (∀ y0 y1 y2 y3 y4 y5 y6 y7 y8 y9 y10 y11 y12, LeO (frameref_Decode.l0 k y0 y1 y2 y3 y4 y5 y6 y7 y8 y9 y10 y11 y12) (frameref_Decode.l0 (k + 1) y0 y1 y2 y3 y4 y5 y6 y7 y8 y9 y10 y11 y12)) ∧ (∀ y0 y1 y2 y3 y4 y5 y6 y7 y8 y9 y10, LeO (frameref_Decode.j2 k y0 y1 y2 y3 y4 y5 y6 y7 y8 y9 y10) (frameref_Decode.j2 (k + 1) y0 y1 y2 y3 y4 y5 y6 y7 y8 y9 y10)) ∧ (∀ y0 y1 y2 y3 y4 y5 y6 y7 y8 y9 y10 y11, LeO (frameref_Decode.l1 k y0 y1 y2 y3 y4 y5 y6 y7 y8 y9 y10 y11) (frameref_Decode.l1 (k + 1) y0 y1 y2 y3 y4 y5 y6 y7 y8 y9 y10 y11)) ∧ (∀ y0 y1 y2 y3 y4 y5 y6 y7 y8 y9 y10, LeO (frameref_Decode.l2 k y0 y1 y2 y3 y4 y5 y6 y7 y8 y9 y10) (frameref_Decode.l2 (k + 1) y0 y1 y2 y3 y4 y5 y6 y7 y8 y9 y10))
 | 0 => ⟨fun _ _ _ _ r h => by simp [frameref_Decode.j0] at h, fun _ _ _ _ _ _ _ _ _ _ _ _ _ r h => by simp [frameref_Decode.l0] at h, fun _ _ _ _ _ _ _ _ _ _ _ r h => by simp [frameref_Decode.j2] at h, fun _ _ _ _ _ _ _ _ _ _ _ _ r h => by simp [frameref_Decode.l1] at h, fun _ _ _ _ _ _ _ _ _ _ _ r h => by simp [frameref_Decode.l2] at h⟩
 | k + 1 => by
  obtain ⟨ih0, ih1, ih2, ih3, ih4⟩ := frameref_Decode.mono_l k
  refine ⟨?_, ?_, ?_, ?_, ?_⟩
  ·intro y0 y1 y2 y3
   unfold frameref_Decode.j0
   repeat' first
   | (with_reducible exact ih0 _ _ _ _)
   | (with_reducible exact ih1 _ _ _ _ _ _ _ _ _ _ _ _ _)
   | (with_reducible exact ih2 _ _ _ _ _ _ _ _ _ _ _)
   | (with_reducible exact ih3 _ _ _ _ _ _ _ _ _ _ _ _)
   | (with_reducible exact ih4 _ _ _ _ _ _ _ _ _ _ _)
   | (with_reducible exact bitpack_Unpack.mono _ _ _ _)
   | (with_reducible exact frameref_readHeader.mono _ _ _ _)
   | (with_reducible exact varint_Decode.mono _ _ _)
   | (with_reducible exact LeO.refl _)
   | (with_reducible exact LeO.none _)
   | (with_reducible refine LeO.ite ?_ ?_)
   | (with_reducible refine LeO.bind ?_ (fun _ => ?_))
   | exact ih0 _ _ _ _
   | exact ih1 _ _ _ _ _ _ _ _ _ _ _ _ _
   | exact ih2 _ _ _ _ _ _ _ _ _ _ _
   | exact ih3 _ _ _ _ _ _ _ _ _ _ _ _
   | exact ih4 _ _ _ _ _ _ _ _ _ _ _
   | exact bitpack_Unpack.mono _ _ _ _
   | exact frameref_readHeader.mono _ _ _ _
   | exact varint_Decode.mono _ _ _
   | exact LeO.none _
   | refine LeO.ite ?_ ?_
   | refine LeO.bind ?_ (fun _ => ?_)
  ·intro y0 y1 y2 y3 y4 y5 y6 y7 y8 y9 y10 y11 y12
   unfold frameref_Decode.l0
   repeat' first
   | (with_reducible exact ih0 _ _ _ _)
   | (with_reducible exact ih1 _ _ _ _ _ _ _ _ _ _ _ _ _)
   | (with_reducible exact ih2 _ _ _ _ _ _ _ _ _ _ _)
   | (with_reducible exact ih3 _ _ _ _ _ _ _ _ _ _ _ _)
   | (with_reducible exact ih4 _ _ _ _ _ _ _ _ _ _ _)
   | (with_reducible exact bitpack_Unpack.mono _ _ _ _)
   | (with_reducible exact frameref_readHeader.mono _ _ _ _)
   | (with_reducible exact varint_Decode.mono _ _ _)
   | (with_reducible exact LeO.refl _)
   | (with_reducible exact LeO.none _)
   | (with_reducible refine LeO.ite ?_ ?_)
   | (with_reducible refine LeO.bind ?_ (fun _ => ?_))
   | exact ih0 _ _ _ _
   | exact ih1 _ _ _ _ _ _ _ _ _ _ _ _ _
   | exact ih2 _ _ _ _ _ _ _ _ _ _ _
   | exact ih3 _ _ _ _ _ _ _ _ _ _ _ _
   | exact ih4 _ _ _ _ _ _ _ _ _ _ _
   | exact bitpack_Unpack.mono _ _ _ _
   | exact frameref_readHeader.mono _ _ _ _
   | exact varint_Decode.mono _ _ _
   | exact LeO.none _
   | refine LeO.ite ?_ ?_
   | refine LeO.bind ?_ (fun _ => ?_)
  ·intro y0 y1 y2 y3 y4 y5 y6 y7 y8 y9 y10
   unfold frameref_Decode.j2
   repeat' first
   | (with_reducible exact ih0 _ _ _ _)
   | (with_reducible exact ih1 _ _ _ _ _ _ _ _ _ _ _ _ _)
   | (with_reducible exact ih2 _ _ _ _ _ _ _ _ _ _ _)
   | (with_reducible exact ih3 _ _ _ _ _ _ _ _ _ _ _ _)
   | (with_reducible exact ih4 _ _ _ _ _ _ _ _ _ _ _)
   | (with_reducible exact bitpack_Unpack.mono _ _ _ _)
   | (with_reducible exact frameref_readHeader.mono _ _ _ _)
   | (with_reducible exact varint_Decode.mono _ _ _)
   | (with_reducible exact LeO.refl _)
   | (with_reducible exact LeO.none _)
   | (with_reducible refine LeO.ite ?_ ?_)
   | (with_reducible refine LeO.bind ?_ (fun _ => ?_))
   | exact ih0 _ _ _ _
   | exact ih1 _ _ _ _ _ _ _ _ _ _ _ _ _
   | exact ih2 _ _ _ _ _ _ _ _ _ _ _
   | exact ih3 _ _ _ _ _ _ _ _ _ _ _ _
   | exact ih4 _ _ _ _ _ _ _ _ _ _ _
   | exact bitpack_Unpack.mono _ _ _ _
   | exact frameref_readHeader.mono _ _ _ _
   | exact varint_Decode.mono _ _ _
   | exact LeO.none _
   | refine LeO.ite ?_ ?_
   | refine LeO.bind ?_ (fun _ => ?_)
  ·intro y0 y1 y2 y3 y4 y5 y6 y7 y8 y9 y10 y11
   unfold frameref_Decode.l1
   repeat' first
   | (with_reducible exact ih0 _ _ _ _)
   | (with_reducible exact ih1 _ _ _ _ _ _ _ _ _ _ _ _ _)
   | (with_reducible exact ih2 _ _ _ _ _ _ _ _ _ _ _)
   | (with_reducible exact ih3 _ _ _ _ _ _ _ _ _ _ _ _)
   | (with_reducible exact ih4 _ _ _ _ _ _ _ _ _ _ _)
   | (with_reducible exact bitpack_Unpack.mono _ _ _ _)
   | (with_reducible exact frameref_readHeader.mono _ _ _ _)
   | (with_reducible exact varint_Decode.mono _ _ _)
   | (with_reducible exact LeO.refl _)
   | (with_reducible exact LeO.none _)
   | (with_reducible refine LeO.ite ?_ ?_)
   | (with_reducible refine LeO.bind ?_ (fun _ => ?_))
   | exact ih0 _ _ _ _
   | exact ih1 _ _ _ _ _ _ _ _ _ _ _ _ _
   | exact ih2 _ _ _ _ _ _ _ _ _ _ _
   | exact ih3 _ _ _ _ _ _ _ _ _ _ _ _
   | exact ih4 _ _ _ _ _ _ _ _ _ _ _
   | exact bitpack_Unpack.mono _ _ _ _
   | exact frameref_readHeader.mono _ _ _ _
   | exact varint_Decode.mono _ _ _
   | exact LeO.none _
   | refine LeO.ite ?_ ?_
   | refine LeO.bind ?_ (fun _ => ?_)
  ·intro y0 y1 y2 y3 y4 y5 y6 y7 y8 y9 y10
   unfold frameref_Decode.l2
   repeat' first
   | (with_reducible exact ih0 _ _ _ _)
   | (with_reducible exact ih1 _ _ _ _ _ _ _ _ _ _ _ _ _)
   | (with_reducible exact ih2 _ _ _ _ _ _ _ _ _ _ _)
   | (with_reducible exact ih3 _ _ _ _ _ _ _ _ _ _ _ _)
   | (with_reducible exact ih4 _ _ _ _ _ _ _ _ _ _ _)
   | (with_reducible exact bitpack_Unpack.mono _ _ _ _)
   | (with_reducible exact frameref_readHeader.mono _ _ _ _)
   | (with_reducible exact varint_Decode.mono _ _ _)
   | (with_reducible exact LeO.refl _)
   | (with_reducible exact LeO.none _)
   | (with_reducible refine LeO.ite ?_ ?_)
   | (with_reducible refine LeO.bind ?_ (fun _ => ?_))
   | exact ih0 _ _ _ _
   | exact ih1 _ _ _ _ _ _ _ _ _ _ _ _ _
   | exact ih2 _ _ _ _ _ _ _ _ _ _ _
   | exact ih3 _ _ _ _ _ _ _ _ _ _ _ _
   | exact ih4 _ _ _ _ _ _ _ _ _ _ _
   | exact bitpack_Unpack.mono _ _ _ _
   | exact frameref_readHeader.mono _ _ _ _
   | exact varint_Decode.mono _ _ _
   | exact LeO.none _
   | refine LeO.ite ?_ ?_
   | refine LeO.bind ?_ (fun _ => ?_)
theorem frameref_Decode.mono : ∀ a0 a1 a2 k, LeO (frameref_Decode.f k a0 a1 a2) (frameref_Decode.f (k + 1) a0 a1 a2) := by
 intro a0 a1 a2 k
 obtain ⟨ih0, ih1, ih2, ih3, ih4⟩ := frameref_Decode.mono_l k
 unfold frameref_Decode.f
 repeat' first
   | (with_reducible exact ih0 _ _ _ _)
   | (with_reducible exact ih1 _ _ _ _ _ _ _ _ _ _ _ _ _)
   | (with_reducible exact ih2 _ _ _ _ _ _ _ _ _ _ _)
   | (with_reducible exact ih3 _ _ _ _ _ _ _ _ _ _ _ _)
   | (with_reducible exact ih4 _ _ _ _ _ _ _ _ _ _ _)
   | (with_reducible exact bitpack_Unpack.mono _ _ _ _)
   | (with_reducible exact frameref_readHeader.mono _ _ _ _)
   | (with_reducible exact varint_Decode.mono _ _ _)
   | (with_reducible exact LeO.refl _)
   | (with_reducible exact LeO.none _)
   | (with_reducible refine LeO.ite ?_ ?_)
   | (with_reducible refine LeO.bind ?_ (fun _ => ?_))
   | exact ih0 _ _ _ _
   | exact ih1 _ _ _ _ _ _ _ _ _ _ _ _ _
   | exact ih2 _ _ _ _ _ _ _ _ _ _ _
   | exact ih3 _ _ _ _ _ _ _ _ _ _ _ _
   | exact ih4 _ _ _ _ _ _ _ _ _ _ _
   | exact bitpack_Unpack.mono _ _ _ _
   | exact frameref_readHeader.mono _ _ _ _
   | exact varint_Decode.mono _ _ _
   | exact LeO.none _
   | refine LeO.ite ?_ ?_
   | refine LeO.bind ?_ (fun _ => ?_)
def frameref_Decode.T24 : Bool × List (List Nat × List Nat) := (true, [([], []), ([], []), ([1], [1]), ([], []), ([3], [3]), ([], []), ([4, 5], [4, 5]), ([0, 2, 6], [0, 2, 6]), ([], []), ([], []), ([9], [9]), ([7, 8, 10], [7, 8, 10]), ([11], [11]), ([12], [12]), ([12], [12]), ([13, 11, 0, 1, 2, 3, 4, 5, 6, 7, 8, 9, 10, 11, 12, 13], [13]), ([14, 15, 0, 1, 2, 3, 4, 5, 6, 7, 8, 9, 10, 11, 12, 13, 14, 15], [14])])
def frameref_Decode.B24 : List Nat := [0, 0, 2, 0, 8, 0, 56, 127, 0, 0, 512, 2047, 4095, 8191, 8191, 16383, 65535]
theorem frameref_Decode.tab24 : rtab .any (opsOf Try.f36 24) = frameref_Decode.T24 := by kernel_rfl
theorem frameref_Decode.bits24 : waitsOk frameref_Decode.T24.2 frameref_Decode.B24 = true := by kernel_rfl
def frameref_Decode.T31 : Bool × List (List Nat × List Nat) := (true, [([], []), ([], []), ([1], [1]), ([0, 2], [0, 2]), ([3], [3]), ([], []), ([5], [5]), ([], []), ([7], [7]), ([8], [8]), ([6, 9], [6, 9]), ([4, 10], [4, 10]), ([0, 2, 0, 1, 2, 3, 4, 5, 6, 7, 8, 9, 10, 11], [0, 2]), ([12, 11, 0, 1, 2, 3, 4, 5, 6, 7, 8, 9, 10, 11], [11, 12])])
def frameref_Decode.B31 : List Nat := [0, 0, 2, 7, 15, 0, 32, 0, 128, 384, 992, 2047, 4095, 8191]
theorem frameref_Decode.tab31 : rtab .any (opsOf Try.f36 31) = frameref_Decode.T31 := by kernel_rfl
theorem frameref_Decode.bits31 : waitsOk frameref_Decode.T31.2 frameref_Decode.B31 = true := by kernel_rfl
def frameref_Decode.T40 : Bool × List (List Nat × List Nat) := (true, [([], []), ([0], [0]), ([], []), ([], []), ([], []), ([2, 3, 4], [2, 3, 4]), ([5], [5]), ([1, 6], [1, 6])])
def frameref_Decode.B40 : List Nat := [0, 1, 0, 0, 0, 28, 60, 127]
theorem frameref_Decode.tab40 : rtab .any (opsOf Try.f36 40) = frameref_Decode.T40 := by kernel_rfl
theorem frameref_Decode.bits40 : waitsOk frameref_Decode.T40.2 frameref_Decode.B40 = true := by kernel_rfl
set_option maxHeartbeats 8000000 in
set_option maxRecDepth 100000 in
theorem frameref_Decode.calls (k : Nat) (A0 : Option Addr) (c0 : Nat) (l0 : List Int) (a1 : Int) (a2 : Int) (r1 : List Int) (r2 : Int) (r3 : Int) (w : World) (hr0 : Kd.C (Kd.int .u8) w A0 l0.length l0) (hc0 : l0.length ≤ c0) (h : frameref_Decode.f k l0 a1 a2 = some (r1, r2, r3)) :
  Calls Try.prog 36 #[.slice A0 l0.length c0, .int .i64 a1, .int .i64 a2] w fun e w' => ∃ v0_ : Value, e = .returned (.tuple #[v0_, .int .i64 r2, .int .i64 r3]) ∧ Kd.R (Kd.int .i64) 2 w' w.heap.size (fun _ => True) v0_ r1 ∧ Below w.heap.size w w' := by
 have hu77 := Try.underlying77
 have hu82 := Try.underlying82
 have HR0 := Aside0.mk hr0
 have HC0 := Aside0.mk hc0
 clear hr0 hc0
 have HB := Aside0.mk (Below.refl w.heap.size w)
 have H : (if a1 < 0 then (frameref_Decode.j0 k l0 a1 a2 true) else (if a1 > (l0.length : Int) then (frameref_Decode.j0 k l0 a1 a2 true) else (if a2 < 0 then (frameref_Decode.j0 k l0 a1 a2 true) else (frameref_Decode.j0 k l0 a1 a2 (decide (a2 > 65536)))))) = some (r1, r2, r3) := h
 clear h
 have HC4 := Aside0.mk H
 clear H
 go_enter Try.func36, Try.ntmps36
 go_upto_region 1 with (fail)
 go_cut [41] (fun v41 wc => ∃ (kq : Nat) (x41_3 : Bool), v41 = .bool x41_3 ∧ Aside0 (frameref_Decode.j0 kq l0 a1 a2 x41_3 = some (r1, r2, r3)) ∧ Aside0 (kq ≤ k) ∧ Aside0 (Below w.heap.size w wc))
 case first =>
  have H := HC4.out
  clear HC4
  by_cases c5 : a1 < 0
  ·rw [if_pos c5] at H
   have c5b0 : decide (a1 < 0) = true := decide_eq_true c5
   clear c5
   (first | rw [c5b0] | (simp only [i64_w, i32_w]; rw [c5b0]) | skip)
   have H' := Aside0.mk H
   clear H
   go_wp2
   go_meet
   case rel => exact ⟨_, (true), fr_, H', ⟨by first | omega | exact Nat.le_refl _⟩, ⟨by repeat (first | (with_reducible first | exact HB.out | apply below_alloc | apply pw_below_drewN | apply below_drew1) | exact HB.out)⟩⟩
  ·rw [if_neg c5] at H
   have c5b0 : decide (a1 < 0) = false := decide_eq_false c5
   clear c5
   (first | rw [c5b0] | (simp only [i64_w, i32_w]; rw [c5b0]) | skip)
   by_cases c6 : a1 > (l0.length : Int)
   ·rw [if_pos c6] at H
    have c6b0 : decide ((l0.length : Int) < a1) = true := decide_eq_true c6
    clear c6
    have H' := Aside0.mk H
    clear H
    go_wp2
    go_meet
    case rel => exact ⟨_, (true), fr_, H', ⟨by first | omega | exact Nat.le_refl _⟩, ⟨by repeat (first | (with_reducible first | exact HB.out | apply below_alloc | apply pw_below_drewN | apply below_drew1) | exact HB.out)⟩⟩
   ·rw [if_neg c6] at H
    have c6b0 : decide ((l0.length : Int) < a1) = false := decide_eq_false c6
    clear c6
    by_cases c7 : a2 < 0
    ·rw [if_pos c7] at H
     have c7b0 : decide (a2 < 0) = true := decide_eq_true c7
     clear c7
     have H' := Aside0.mk H
     clear H
     go_wp2
     go_meet
     case rel => exact ⟨_, (true), fr_, H', ⟨by first | omega | exact Nat.le_refl _⟩, ⟨by repeat (first | (with_reducible first | exact HB.out | apply below_alloc | apply pw_below_drewN | apply below_drew1) | exact HB.out)⟩⟩
    ·rw [if_neg c7] at H
     have c7b0 : decide (a2 < 0) = false := decide_eq_false c7
     clear c7
     have H' := Aside0.mk H
     clear H
     go_wp2
     go_meet
     case rel => exact ⟨_, (decide (a2 > 65536)), fr_, H', ⟨by first | omega | exact Nat.le_refl _⟩, ⟨by repeat (first | (with_reducible first | exact HB.out | apply below_alloc | apply pw_below_drewN | apply below_drew1) | exact HB.out)⟩⟩
 case rest =>
  clear HC4
  try clear p2
  try clear c3
  try clear c5
  try clear c5b0
  try clear c6
  try clear c6b0
  try clear c7
  try clear c7b0
  obtain ⟨kq, x41_3, rfl, HA, HJ3, HB⟩ := hcut
  cases kq with
  | zero => exact absurd HA.out (by simp [frameref_Decode.j0])
  | succ kj3 =>
   have H := HA.out
   clear HA
   simp only [frameref_Decode.j0] at H
   by_cases c8 : x41_3 = true
   ·subst c8
    have H1 : (some (([] : List Int), 0, 1)) = some (r1, r2, r3) := by rw [if_pos rfl] at H; exact H
    clear H
    have H := H1
    clear H1
    simp only [Option.some.injEq, Prod.mk.injEq] at H
    obtain ⟨rfl, rfl, rfl⟩ := H
    go_wp2
    go_ret3
    exact ⟨_, er_, by first | exact Kd.R_nil _ _ _ _ _ | exact Kd.N_nil _ _ _ _ _ | exact Kd.V_nil _ _ _ _ _ | exact Kd.Q_nil _ _ _ _ _ | exact Kd.S_nil _ _ _ _ _, by repeat (first | (with_reducible first | exact HB.out | apply below_alloc | apply pw_below_drewN | apply below_drew1) | exact HB.out)⟩
   ·replace c8 := Bool.eq_false_iff.mpr c8
    subst c8
    have H1 : ((frameref_readHeader.f kj3 l0 a1 a2).bind fun bt165 => (if bt165.2.2.2.2 = 0 then ((bitpack_Size.f a2 bt165.2.1).bind fun t171 => (if (wrap64 ((l0.length : Int) - bt165.2.2.2.1)) < t171 then (some (([] : List Int), 0, 2)) else (frameref_Decode.l0 kj3 l0 a1 a2 t171 (wrap64 (bt165.2.2.2.1 + t171)) ([] : List (S82)) true bt165.2.2.1 0 bt165.1 bt165.2.1 bt165.2.2.1 bt165.2.2.2.1))) else (some (([] : List Int), 0, bt165.2.2.2.2)))) = some (r1, r2, r3) := by rw [if_neg (show ¬ (false = true) by decide)] at H; exact H
    clear H
    have H := H1
    clear H1
    replace H := Option.bind_eq_some_iff.mp H
    obtain ⟨⟨t165, t166, t167, t168, t169⟩, A90, H⟩ := H
    try dsimp only at H
    have A9 := Aside0.mk A90
    clear A90
    by_cases c10 : t169 = 0
    ·rw [if_pos c10] at H
     have c10b0 : (t169 == 0) = true := beq_iff_eq.mpr c10
     have c10b1 : (t169 != 0) = false := bne_eq_false_iff_eq.mpr c10
     clear c10
     replace H := Option.bind_eq_some_iff.mp H
     obtain ⟨t171, A110, H⟩ := H
     try dsimp only at H
     have A11 := Aside0.mk A110
     clear A110
     by_cases c12 : (wrap64 ((l0.length : Int) - t168)) < t171
     ·rw [if_pos c12] at H
      have c12b0 : decide ((wrap64 ((l0.length : Int) - t168)) < t171) = true := decide_eq_true c12
      clear c12
      simp only [Option.some.injEq, Prod.mk.injEq] at H
      obtain ⟨rfl, rfl, rfl⟩ := H
      go_wp2_with (first | ((with_reducible refine gate_callee (f := 69) rfl ?_); refine goesL_ (some 46) rfl rfl Try.func69 (by kernel_rfl) rfl #[.slice A0 l0.length c0, .int .i64 a1, .int .i64 a2] rfl ma_ ?_; (with_reducible refine (frameref_readHeader.calls kj3 _ _ l0 a1 a2 t165 t166 t167 t168 t169 _ ?side1 ?side2 A9.out).mono ?_); (case side1 => exact ca_ (Kd.C_below HR0.out HB.out)); (case side2 => exact HC0.out); rintro e w13 ⟨rfl, hb⟩; refine ⟨_, rfl, ?_⟩; have n0_ := Aside0.mk (below_step (bb_ HB) hb); clear HB; have HB := n0_; clear n0_; (try clear hb); (try clear hb2); (try clear hk); (try clear hi)) | ((with_reducible refine gate_dst (N := 9) rfl ?_); (try (refine gate_guard (by rfl) ?_; dsimp only)); refine box_event ?hg (N := 9) ?hd (cs := #[.int .i64 0, .int .i64 0, .int .i64 0, .int .i64 0]) (t := 77) ?hr ?_; (case hd => rfl); (case hg => exact fs_); (case hr => first | (go_simp; done) | (go_simp; rfl)); intro gb170 hg w14 hbox hb; have n0_ := Aside0.mk (below_step (bb_ HB) hb); have n1_ := Aside0.mk (hbox); have n2_ := Aside0.mk ((by rw [hg]; exact (below_size (bb_ HB)) : w.heap.size ≤ gb170)); have n3_ := Aside0.mk ((by rw [hg]; exact (below_size (bb_ HB)) : w.heap.size ≤ gb170)); clear HB; have HB := n0_; have BK170 := n1_; have GW170 := n2_; have GE170 := n3_; clear n0_ n1_ n2_ n3_; clear hb hbox hg; have hcz15_0 : w14.cell? ⟨gb170, 0, none⟩ = some (.int .i64 0) := (blk_cell BK170.out 0).trans rfl; have hcz15_1 : w14.cell? ⟨gb170, 1, none⟩ = some (.int .i64 0) := (blk_cell BK170.out 1).trans rfl; have hcz15_2 : w14.cell? ⟨gb170, 2, none⟩ = some (.int .i64 0) := (blk_cell BK170.out 2).trans rfl; have hcz15_3 : w14.cell? ⟨gb170, 3, none⟩ = some (.int .i64 0) := (blk_cell BK170.out 3).trans rfl; have hfz15_0 := blk_frozen BK170.out 0; have hfz15_1 := blk_frozen BK170.out 1; have hfz15_2 := blk_frozen BK170.out 2; have hfz15_3 := blk_frozen BK170.out 3) | ((with_reducible refine gate_callee (f := 21) rfl ?_); refine goesL_ (some 55) rfl rfl Try.func21 (by kernel_rfl) rfl #[.int .i64 a2, .int .i64 t166] rfl ma_ ?_; (with_reducible refine (bitpack_Size.calls a2 t166 t171 _ A11.out).mono ?_); rintro e w' ⟨rfl, ⟨nd, rfl⟩⟩; refine ⟨_, rfl, ?_⟩))
      go_ret3
      exact ⟨_, er_, by first | exact Kd.R_nil _ _ _ _ _ | exact Kd.N_nil _ _ _ _ _ | exact Kd.V_nil _ _ _ _ _ | exact Kd.Q_nil _ _ _ _ _ | exact Kd.S_nil _ _ _ _ _, by repeat (first | (with_reducible first | exact HB.out | apply below_alloc | apply pw_below_drewN | apply below_drew1 | refine below_set ?_ GE170.out) | exact HB.out)⟩
     ·rw [if_neg c12] at H
      have c12b0 : decide ((wrap64 ((l0.length : Int) - t168)) < t171) = false := decide_eq_false c12
      clear c12
      have H' := Aside0.mk H
      clear H
      go_wp2_with (first | ((with_reducible refine gate_callee (f := 69) rfl ?_); refine goesL_ (some 46) rfl rfl Try.func69 (by kernel_rfl) rfl #[.slice A0 l0.length c0, .int .i64 a1, .int .i64 a2] rfl ma_ ?_; (with_reducible refine (frameref_readHeader.calls kj3 _ _ l0 a1 a2 t165 t166 t167 t168 t169 _ ?side1 ?side2 A9.out).mono ?_); (case side1 => exact ca_ (Kd.C_below HR0.out HB.out)); (case side2 => exact HC0.out); rintro e w16 ⟨rfl, hb⟩; refine ⟨_, rfl, ?_⟩; have n0_ := Aside0.mk (below_step (bb_ HB) hb); clear HB; have HB := n0_; clear n0_; (try clear hb); (try clear hb2); (try clear hk); (try clear hi)) | ((with_reducible refine gate_dst (N := 9) rfl ?_); (try (refine gate_guard (by rfl) ?_; dsimp only)); refine box_event ?hg (N := 9) ?hd (cs := #[.int .i64 0, .int .i64 0, .int .i64 0, .int .i64 0]) (t := 77) ?hr ?_; (case hd => rfl); (case hg => exact fs_); (case hr => first | (go_simp; done) | (go_simp; rfl)); intro gb170 hg w17 hbox hb; have n0_ := Aside0.mk (below_step (bb_ HB) hb); have n1_ := Aside0.mk (hbox); have n2_ := Aside0.mk ((by rw [hg]; exact (below_size (bb_ HB)) : w.heap.size ≤ gb170)); have n3_ := Aside0.mk ((by rw [hg]; exact (below_size (bb_ HB)) : w.heap.size ≤ gb170)); clear HB; have HB := n0_; have BK170 := n1_; have GW170 := n2_; have GE170 := n3_; clear n0_ n1_ n2_ n3_; clear hb hbox hg; have hcz18_0 : w17.cell? ⟨gb170, 0, none⟩ = some (.int .i64 0) := (blk_cell BK170.out 0).trans rfl; have hcz18_1 : w17.cell? ⟨gb170, 1, none⟩ = some (.int .i64 0) := (blk_cell BK170.out 1).trans rfl; have hcz18_2 : w17.cell? ⟨gb170, 2, none⟩ = some (.int .i64 0) := (blk_cell BK170.out 2).trans rfl; have hcz18_3 : w17.cell? ⟨gb170, 3, none⟩ = some (.int .i64 0) := (blk_cell BK170.out 3).trans rfl; have hfz18_0 := blk_frozen BK170.out 0; have hfz18_1 := blk_frozen BK170.out 1; have hfz18_2 := blk_frozen BK170.out 2; have hfz18_3 := blk_frozen BK170.out 3) | ((with_reducible refine gate_callee (f := 21) rfl ?_); refine goesL_ (some 55) rfl rfl Try.func21 (by kernel_rfl) rfl #[.int .i64 a2, .int .i64 t166] rfl ma_ ?_; (with_reducible refine (bitpack_Size.calls a2 t166 t171 _ A11.out).mono ?_); rintro e w' ⟨rfl, ⟨nd, rfl⟩⟩; refine ⟨_, rfl, ?_⟩))
      go_loopg [12, 13, 14, 69] kj3 (fun kq v12 v13 v14 v69 w' => ∃ (x12_2 : Int) (x13_2 : List (S82)) (x14_2 : Bool) (x69_2 : Int), v12 = .int .i64 x12_2 ∧ v14 = .bool x14_2 ∧ v69 = .int .i64 x69_2 ∧ Aside0 (frameref_Decode.l0 kq l0 a1 a2 t171 x12_2 x13_2 x14_2 t167 x69_2 t165 t166 t167 t168 = some (r1, r2, r3)) ∧ Aside0 (kq ≤ kj3) ∧ Aside0 (Kd.R k82 82 w' w.heap.size (fun _ => True) v13 x13_2) ∧ Aside0 (w'.heap[gb170]? = some (.cells #[.int .i64 t165, .int .i64 t166, .int .i64 t167, .int .i64 t168] 77 (0, 0))) ∧ Aside0 (Below w.heap.size w w'))
      case atStart => exact ⟨(wrap64 (t168 + t171)), (([] : List (S82))), (true), (0), fr_, fr_, fr_, H', ⟨Nat.le_refl _⟩, ⟨by first | exact Kd.R_nil _ _ _ _ _ | exact Kd.N_nil _ _ _ _ _ | exact Kd.V_nil _ _ _ _ _ | exact Kd.Q_nil _ _ _ _ _ | exact Kd.S_nil _ _ _ _ _⟩, ⟨by (with_reducible repeat (first | refine blk_drewN ?_ _ | refine blk_drew ?_ | refine blk_alloc ?_ _)); refine blk_put (cs := #[.int .i64 t165, .int .i64 t166, .int .i64 t167, .int .i64 0]) ?_ 3 _ rfl; (with_reducible repeat (first | refine blk_drewN ?_ _ | refine blk_drew ?_ | refine blk_alloc ?_ _)); refine blk_put (cs := #[.int .i64 t165, .int .i64 t166, .int .i64 0, .int .i64 0]) ?_ 2 _ rfl; (with_reducible repeat (first | refine blk_drewN ?_ _ | refine blk_drew ?_ | refine blk_alloc ?_ _)); refine blk_put (cs := #[.int .i64 t165, .int .i64 0, .int .i64 0, .int .i64 0]) ?_ 1 _ rfl; (with_reducible repeat (first | refine blk_drewN ?_ _ | refine blk_drew ?_ | refine blk_alloc ?_ _)); refine blk_put (cs := #[.int .i64 0, .int .i64 0, .int .i64 0, .int .i64 0]) ?_ 0 _ rfl; (with_reducible repeat (first | refine blk_drewN ?_ _ | refine blk_drew ?_ | refine blk_alloc ?_ _)); exact BK170.out⟩, ⟨by repeat (first | (with_reducible first | exact HB.out | apply below_alloc | apply pw_below_drewN | apply below_drew1 | refine below_set ?_ GE170.out) | exact HB.out)⟩⟩
      case round =>
       clear H'
       try clear c1
       try clear c2
       try clear p2
       try clear c3
       try clear c5
       try clear c5b0
       try clear c6
       try clear c6b0
       try clear p6
       try clear c7
       try clear c7b0
       try clear c8
       try clear c10
       try clear c10b0
       try clear c10b1
       try clear c12
       try clear c12b0
       try clear hcz15_0
       try clear hcz15_1
       try clear hcz15_2
       try clear hcz15_3
       try clear hcz18_0
       try clear hcz18_1
       try clear hcz18_2
       try clear hcz18_3
       try clear hfz15_0
       try clear hfz15_1
       try clear hfz15_2
       try clear hfz15_3
       try clear hfz18_0
       try clear hfz18_1
       try clear hfz18_2
       try clear hfz18_3
       try clear p2
       obtain ⟨x12_2, x13_2, x14_2, x69_2, rfl, rfl, rfl, HA, HK2, HO_13, BK170, HB⟩ := hrel
       cases gk with
       | zero => exact absurd HA.out (by simp [frameref_Decode.l0])
       | succ k2 =>
        have H := HA.out
        clear HA
        simp only [frameref_Decode.l0] at H
        by_cases c19 : x69_2 < t167
        ·rw [if_pos c19] at H
         have c19b0 : decide (x69_2 < t167) = true := decide_eq_true c19
         clear c19
         replace H := Option.bind_eq_some_iff.mp H
         obtain ⟨⟨t172, t173, t174⟩, A200, H⟩ := H
         try dsimp only at H
         have A20 := Aside0.mk A200
         clear A200
         by_cases c21 : t174 = 0
         ·rw [if_pos c21] at H
          have c21b0 : (t174 == 0) = true := beq_iff_eq.mpr c21
          have c21b1 : (t174 != 0) = false := bne_eq_false_iff_eq.mpr c21
          clear c21
          replace H := Option.bind_eq_some_iff.mp H
          obtain ⟨⟨t175, t176, t177⟩, A220, H⟩ := H
          try dsimp only at H
          have A22 := Aside0.mk A220
          clear A220
          by_cases c23 : t177 = 0
          ·rw [if_pos c23] at H
           have c23b0 : (t177 == 0) = true := beq_iff_eq.mpr c23
           have c23b1 : (t177 != 0) = false := bne_eq_false_iff_eq.mpr c23
           clear c23
           by_cases c24 : x14_2 = true
           ·subst c24
            have H1 : (if x13_2.length < 8796093022208 then (frameref_Decode.l0 k2 l0 a1 a2 t171 t176 (x13_2 ++ [(⟨wrap64 (mn t172 (IntKind.u64.wrap (a2))), t175⟩ : S82)]) (decide (t172 < (IntKind.u64.wrap (a2)))) t167 (wrap64 (x69_2 + 1)) t165 t166 t167 t168) else (none)) = some (r1, r2, r3) := by rw [if_pos rfl] at H; exact H
            clear H
            have H := H1
            clear H1
            obtain ⟨ji25, hji25⟩ : ∃ j_ : Int, (mn t172 (IntKind.u64.wrap (a2))) = j_ := ⟨_, rfl⟩
            replace H : (if x13_2.length < 8796093022208 then (frameref_Decode.l0 k2 l0 a1 a2 t171 t176 (x13_2 ++ [(⟨wrap64 (ji25), t175⟩ : S82)]) (decide (t172 < (IntKind.u64.wrap (a2)))) t167 (wrap64 (x69_2 + 1)) t165 t166 t167 t168) else (none)) = some (r1, r2, r3) := by first | (rw [hji25] at H; exact H) | (simp only [hji25] at H ⊢; exact H)
            (try rw [hji25] at A20)
            (try rw [hji25] at A22)
            have hji25_ : (if (IntKind.u64.wrap (a2)) < t172 then (IntKind.u64.wrap (a2)) else t172) = ji25 := hji25
            by_cases c26 : x13_2.length < 8796093022208
            ·rw [if_pos c26] at H
             have LMc26 := Aside0.mk c26
             clear c26
             obtain ⟨y178, hy178⟩ : ∃ y_ : List (S82), y_ = (x13_2 ++ [(⟨wrap64 (ji25), t175⟩ : S82)]) := ⟨_, rfl⟩
             replace H : (frameref_Decode.l0 k2 l0 a1 a2 t171 t176 y178 (decide (t172 < (IntKind.u64.wrap (a2)))) t167 (wrap64 (x69_2 + 1)) t165 t166 t167 t168) = some (r1, r2, r3) := hx_ hy178 H
             have Ny178 := Aside0.mk hy178
             clear hy178
             have H' := Aside0.mk H
             clear H
             go_wp2_with (first | ((with_reducible refine gate_callee (f := 66) rfl ?_); refine goesL_ (some 74) rfl rfl Try.func66 (by kernel_rfl) rfl #[.slice A0 l0.length c0, .int .i64 x12_2] rfl ma_ ?_; (with_reducible refine (varint_Decode.calls k2 _ _ l0 x12_2 t172 t173 t174 _ ?side1 ?side2 A20.out).mono ?_); (case side1 => exact ca_ (Kd.C_below HR0.out HB.out)); (case side2 => exact HC0.out); rintro e w' ⟨rfl, ⟨nd, rfl⟩⟩; refine ⟨_, rfl, ?_⟩) | ((with_reducible refine gate_callee (f := 66) rfl ?_); refine goesL_ (some 84) rfl rfl Try.func66 (by kernel_rfl) rfl #[.slice A0 l0.length c0, .int .i64 t173] rfl ma_ ?_; (with_reducible refine (varint_Decode.calls k2 _ _ l0 t173 t175 t176 t177 _ ?side1 ?side2 A22.out).mono ?_); (case side1 => repeat (first | exact (Kd.C_below HR0.out (bg_ HB GE170)) | (with_reducible refine Kd.C_alloc ?_ _) | (with_reducible refine Kd.C_drewN ?_ _) | (with_reducible refine Kd.C_drew ?_))); (case side2 => exact HC0.out); rintro e w' ⟨rfl, ⟨nd, rfl⟩⟩; refine ⟨_, rfl, ?_⟩) | ((with_reducible refine gate_builtin (b := .append) (xs := #[.tmp 99, .tmp 107]) rfl ?_); (try (refine gate_guard (by rfl) ?_; dsimp only)); at_builtin; refine Kd.R_append k82 (w0 := w) w.heap.size rfl (.tmp 99) (.tmp 107) 80 82 (.agg #[(.int .i64 0), (.int .u64 0)]) 16 rfl Try.underlying80 info82 rfl (by decide) (by omega) u13 x13_2 (⟨wrap64 (ji25), t175⟩ : S82) [.int .i64 (wrap64 (ji25)), .int .u64 t175] (fun _ => True) (fun _ => False) rfl rfl ?aP (fun _ hk => hk.elim) ?aF ?aO ?aB ?aS ?aL ?_; (case aP => exact k82_mkM _ _ _ (⟨wrap64 (ji25), t175⟩ : S82)); (case aB => exact (bg_ HB GE170)); (case aF => exact (fun _ _ => trivial)); (case aO => exact (rb_ HO_13)); (case aS => exact (below_size (bg_ HB GE170))); (case aL => have := LMc26.out; omega); intro v179 w27 ho hb hg hat; rw [← Ny178.out] at ho; have n0_ := Aside0.mk (blk_grown (g := gb170) (o := .cells #[.int .i64 t165, .int .i64 t166, .int .i64 t167, .int .i64 t168] 77 (0, 0)) (bk_ BK170) hg (Kd.R_ne HO_13.out BK170.out (by decide))); have n1_ := Aside0.mk (hb); have n2_ := Aside0.mk (ho); clear BK170; clear HB; clear HO_13; have BK170 := n0_; have HB := n1_; have HO180 := n2_; clear n0_ n1_ n2_; clear ho hb hg hat))
             go_roundg k2
             case measure => have := HJ3.out; have := HK2.out; omega
             case rel => exact ⟨(t176), (y178), (decide (t172 < (IntKind.u64.wrap (a2)))), (wrap64 (x69_2 + 1)), fr_, fr_, fr_, H', ⟨by have := HJ3.out; have := HK2.out; omega⟩, ⟨by (with_reducible repeat (first | apply Kd.R_alloc | apply Kd.R_drewN | apply Kd.R_drew)); exact HO180.out⟩, ⟨by (with_reducible repeat (first | refine blk_drewN ?_ _ | refine blk_drew ?_ | refine blk_alloc ?_ _)); exact BK170.out⟩, ⟨by repeat (first | (with_reducible first | exact HB.out | apply below_alloc | apply pw_below_drewN | apply below_drew1 | refine below_set ?_ GE170.out) | exact HB.out)⟩⟩
            ·rw [if_neg c26] at H
             exact absurd H (by simp)
           ·replace c24 := Bool.eq_false_iff.mpr c24
            subst c24
            have H1 : (if x13_2.length < 8796093022208 then (frameref_Decode.l0 k2 l0 a1 a2 t171 t176 (x13_2 ++ [(⟨wrap64 (mn t172 (IntKind.u64.wrap (a2))), t175⟩ : S82)]) false t167 (wrap64 (x69_2 + 1)) t165 t166 t167 t168) else (none)) = some (r1, r2, r3) := by rw [if_neg (show ¬ (false = true) by decide)] at H; exact H
            clear H
            have H := H1
            clear H1
            obtain ⟨ji28, hji28⟩ : ∃ j_ : Int, (mn t172 (IntKind.u64.wrap (a2))) = j_ := ⟨_, rfl⟩
            replace H : (if x13_2.length < 8796093022208 then (frameref_Decode.l0 k2 l0 a1 a2 t171 t176 (x13_2 ++ [(⟨wrap64 (ji28), t175⟩ : S82)]) false t167 (wrap64 (x69_2 + 1)) t165 t166 t167 t168) else (none)) = some (r1, r2, r3) := by first | (rw [hji28] at H; exact H) | (simp only [hji28] at H ⊢; exact H)
            (try rw [hji28] at A20)
            (try rw [hji28] at A22)
            have hji28_ : (if (IntKind.u64.wrap (a2)) < t172 then (IntKind.u64.wrap (a2)) else t172) = ji28 := hji28
            by_cases c29 : x13_2.length < 8796093022208
            ·rw [if_pos c29] at H
             have LMc29 := Aside0.mk c29
             clear c29
             obtain ⟨y181, hy181⟩ : ∃ y_ : List (S82), y_ = (x13_2 ++ [(⟨wrap64 (ji28), t175⟩ : S82)]) := ⟨_, rfl⟩
             replace H : (frameref_Decode.l0 k2 l0 a1 a2 t171 t176 y181 false t167 (wrap64 (x69_2 + 1)) t165 t166 t167 t168) = some (r1, r2, r3) := hx_ hy181 H
             have Ny181 := Aside0.mk hy181
             clear hy181
             have H' := Aside0.mk H
             clear H
             go_wp2_with (first | ((with_reducible refine gate_callee (f := 66) rfl ?_); refine goesL_ (some 74) rfl rfl Try.func66 (by kernel_rfl) rfl #[.slice A0 l0.length c0, .int .i64 x12_2] rfl ma_ ?_; (with_reducible refine (varint_Decode.calls k2 _ _ l0 x12_2 t172 t173 t174 _ ?side1 ?side2 A20.out).mono ?_); (case side1 => exact ca_ (Kd.C_below HR0.out HB.out)); (case side2 => exact HC0.out); rintro e w' ⟨rfl, ⟨nd, rfl⟩⟩; refine ⟨_, rfl, ?_⟩) | ((with_reducible refine gate_callee (f := 66) rfl ?_); refine goesL_ (some 84) rfl rfl Try.func66 (by kernel_rfl) rfl #[.slice A0 l0.length c0, .int .i64 t173] rfl ma_ ?_; (with_reducible refine (varint_Decode.calls k2 _ _ l0 t173 t175 t176 t177 _ ?side1 ?side2 A22.out).mono ?_); (case side1 => repeat (first | exact (Kd.C_below HR0.out (bg_ HB GE170)) | (with_reducible refine Kd.C_alloc ?_ _) | (with_reducible refine Kd.C_drewN ?_ _) | (with_reducible refine Kd.C_drew ?_))); (case side2 => exact HC0.out); rintro e w' ⟨rfl, ⟨nd, rfl⟩⟩; refine ⟨_, rfl, ?_⟩) | ((with_reducible refine gate_builtin (b := .append) (xs := #[.tmp 99, .tmp 107]) rfl ?_); (try (refine gate_guard (by rfl) ?_; dsimp only)); at_builtin; refine Kd.R_append k82 (w0 := w) w.heap.size rfl (.tmp 99) (.tmp 107) 80 82 (.agg #[(.int .i64 0), (.int .u64 0)]) 16 rfl Try.underlying80 info82 rfl (by decide) (by omega) u13 x13_2 (⟨wrap64 (ji28), t175⟩ : S82) [.int .i64 (wrap64 (ji28)), .int .u64 t175] (fun _ => True) (fun _ => False) rfl rfl ?aP (fun _ hk => hk.elim) ?aF ?aO ?aB ?aS ?aL ?_; (case aP => exact k82_mkM _ _ _ (⟨wrap64 (ji28), t175⟩ : S82)); (case aB => exact (bg_ HB GE170)); (case aF => exact (fun _ _ => trivial)); (case aO => exact (rb_ HO_13)); (case aS => exact (below_size (bg_ HB GE170))); (case aL => have := LMc29.out; omega); intro v182 w30 ho hb hg hat; rw [← Ny181.out] at ho; have n0_ := Aside0.mk (blk_grown (g := gb170) (o := .cells #[.int .i64 t165, .int .i64 t166, .int .i64 t167, .int .i64 t168] 77 (0, 0)) (bk_ BK170) hg (Kd.R_ne HO_13.out BK170.out (by decide))); have n1_ := Aside0.mk (hb); have n2_ := Aside0.mk (ho); clear BK170; clear HB; clear HO_13; have BK170 := n0_; have HB := n1_; have HO183 := n2_; clear n0_ n1_ n2_; clear ho hb hg hat))
             go_roundg k2
             case measure => have := HJ3.out; have := HK2.out; omega
             case rel => exact ⟨(t176), (y181), (false), (wrap64 (x69_2 + 1)), fr_, fr_, fr_, H', ⟨by have := HJ3.out; have := HK2.out; omega⟩, ⟨by (with_reducible repeat (first | apply Kd.R_alloc | apply Kd.R_drewN | apply Kd.R_drew)); exact HO183.out⟩, ⟨by (with_reducible repeat (first | refine blk_drewN ?_ _ | refine blk_drew ?_ | refine blk_alloc ?_ _)); exact BK170.out⟩, ⟨by repeat (first | (with_reducible first | exact HB.out | apply below_alloc | apply pw_below_drewN | apply below_drew1 | refine below_set ?_ GE170.out) | exact HB.out)⟩⟩
            ·rw [if_neg c29] at H
             exact absurd H (by simp)
          ·rw [if_neg c23] at H
           have c23b0 : (t177 == 0) = false := beq_eq_false_iff_ne.mpr c23
           have c23b1 : (t177 != 0) = true := bne_iff_ne.mpr c23
           simp only [Option.some.injEq, Prod.mk.injEq] at H
           obtain ⟨rfl, rfl, rfl⟩ := H
           go_wp2_with (first | ((with_reducible refine gate_callee (f := 66) rfl ?_); refine goesL_ (some 74) rfl rfl Try.func66 (by kernel_rfl) rfl #[.slice A0 l0.length c0, .int .i64 x12_2] rfl ma_ ?_; (with_reducible refine (varint_Decode.calls k2 _ _ l0 x12_2 t172 t173 t174 _ ?side1 ?side2 A20.out).mono ?_); (case side1 => exact ca_ (Kd.C_below HR0.out HB.out)); (case side2 => exact HC0.out); rintro e w' ⟨rfl, ⟨nd, rfl⟩⟩; refine ⟨_, rfl, ?_⟩) | ((with_reducible refine gate_callee (f := 66) rfl ?_); refine goesL_ (some 84) rfl rfl Try.func66 (by kernel_rfl) rfl #[.slice A0 l0.length c0, .int .i64 t173] rfl ma_ ?_; (with_reducible refine (varint_Decode.calls k2 _ _ l0 t173 t175 t176 t177 _ ?side1 ?side2 A22.out).mono ?_); (case side1 => repeat (first | exact (Kd.C_below HR0.out (bg_ HB GE170)) | (with_reducible refine Kd.C_alloc ?_ _) | (with_reducible refine Kd.C_drewN ?_ _) | (with_reducible refine Kd.C_drew ?_))); (case side2 => exact HC0.out); rintro e w' ⟨rfl, ⟨nd, rfl⟩⟩; refine ⟨_, rfl, ?_⟩))
           go_ret3
           exact ⟨_, er_, by first | exact Kd.R_nil _ _ _ _ _ | exact Kd.N_nil _ _ _ _ _ | exact Kd.V_nil _ _ _ _ _ | exact Kd.Q_nil _ _ _ _ _ | exact Kd.S_nil _ _ _ _ _, by repeat (first | (with_reducible first | exact HB.out | apply below_alloc | apply pw_below_drewN | apply below_drew1 | refine below_set ?_ GE170.out) | exact HB.out)⟩
         ·rw [if_neg c21] at H
          have c21b0 : (t174 == 0) = false := beq_eq_false_iff_ne.mpr c21
          have c21b1 : (t174 != 0) = true := bne_iff_ne.mpr c21
          simp only [Option.some.injEq, Prod.mk.injEq] at H
          obtain ⟨rfl, rfl, rfl⟩ := H
          go_wp2_with (first | ((with_reducible refine gate_callee (f := 66) rfl ?_); refine goesL_ (some 74) rfl rfl Try.func66 (by kernel_rfl) rfl #[.slice A0 l0.length c0, .int .i64 x12_2] rfl ma_ ?_; (with_reducible refine (varint_Decode.calls k2 _ _ l0 x12_2 t172 t173 t174 _ ?side1 ?side2 A20.out).mono ?_); (case side1 => exact ca_ (Kd.C_below HR0.out HB.out)); (case side2 => exact HC0.out); rintro e w' ⟨rfl, ⟨nd, rfl⟩⟩; refine ⟨_, rfl, ?_⟩))
          go_ret3
          exact ⟨_, er_, by first | exact Kd.R_nil _ _ _ _ _ | exact Kd.N_nil _ _ _ _ _ | exact Kd.V_nil _ _ _ _ _ | exact Kd.Q_nil _ _ _ _ _ | exact Kd.S_nil _ _ _ _ _, by repeat (first | (with_reducible first | exact HB.out | apply below_alloc | apply pw_below_drewN | apply below_drew1 | refine below_set ?_ GE170.out) | exact HB.out)⟩
        ·rw [if_neg c19] at H
         have c19b0 : decide (x69_2 < t167) = false := decide_eq_false c19
         clear c19
         by_cases c31 : 0 ≤ t168
         ·rw [if_pos c31] at H
          have c31b0 := eq_true c31
          have c31b1 : decide (0 ≤ t168) = true := decide_eq_true c31
          clear c31
          by_cases c32 : t168 ≤ (wrap64 (t168 + t171))
          ·rw [if_pos c32] at H
           have c32b0 := eq_true c32
           have c32b1 : decide (t168 ≤ (wrap64 (t168 + t171))) = true := decide_eq_true c32
           by_cases c33 : (wrap64 (t168 + t171)) ≤ (l0.length : Int)
           ·rw [if_pos c33] at H
            have c33b0 := eq_true c33
            have c33b1 : decide ((wrap64 (t168 + t171)) ≤ (l0.length : Int)) = true := decide_eq_true c33
            replace H := Option.bind_eq_some_iff.mp H
            obtain ⟨⟨t185, t186⟩, A340, H⟩ := H
            try dsimp only at H
            have A34 := Aside0.mk A340
            clear A340
            have HC35 := Aside0.mk H
            clear H
            try go_wp2
            have n0_ := Aside0.mk (Kd.R_drew HO_13.out)
            have n1_ := Aside0.mk (blk_drew BK170.out)
            have n2_ := Aside0.mk (below_drew1 HB.out)
            clear HO_13
            clear BK170
            clear HB
            have HO_13 := n0_
            have BK170 := n1_
            have HB := n2_
            clear n0_ n1_ n2_
            obtain ⟨i037, hi037, _, hsz37, _⟩ := info_parts info5
            obtain ⟨A37, hcut37, hA37, hC37⟩ := print_mid_of (P := Try.prog) (Value.int .u8) 0 26 5 .i64 .i64 Try.underlying26 hi037 hsz37 A0 c0 l0 t168 (wrap64 (t168 + t171)) (of_decide_eq_true as_) (by first | omega | exact of_decide_eq_true as_) (of_decide_eq_true as_) HC0.out
            have HR184 := Aside0.mk (Kd.C_of_reads (h1 := fun _ => rfl) (hA37 _ (Kd.reads_of_C HR0.out)))
            have HC184 := Aside0.mk hC37
            clear hA37 hC37 hi037 hsz37
            refine start_ (n := 17) (S := fun w' => w'.cell? ⟨gb170, 0, none⟩ = some (.int .i64 t165) ∧ w'.cell? ⟨gb170, 1, none⟩ = some (.int .i64 t166) ∧ w'.cell? ⟨gb170, 2, none⟩ = some (.int .i64 t167) ∧ w'.cell? ⟨gb170, 3, none⟩ = some (.int .i64 t168)) (ds := []) #[false, false, false, false, false, false, false, false, false, false, false, false, false, false, false, false, false] (by kernel_rfl) rfl rfl ⟨(blk_cell BK170.out 0).trans rfl, (blk_cell BK170.out 1).trans rfl, (blk_cell BK170.out 2).trans rfl, (blk_cell BK170.out 3).trans rfl⟩ (fun hHeld => ?_); refine with_tabW frameref_Decode.tab24 frameref_Decode.bits24 (fun HT_ HW_ => ?_)
            generalize wr.drew = w36 at HO_13 BK170 HB HR184 hHeld ⊢
            refine pure_ (i := 0) (N := some 111) (v := ?_) (a' := ?_) #[true, false, false, false, false, false, false, false, false, false, false, false, false, false, false, false, false] rfl rfl (any_of HT_.out (by kernel_rfl)) (fun _ _ _ h => h) (Or.inl ⟨by (first | rfl | (simp only [*]; rfl) | (simp [*]; done)), ?_⟩) ?_ ?_
            rotate_left
            ·intro w'
             go_simp
             with_reducible rfl
            rotate_left
            ·simp only [Act.put, List.setIfInBounds_toArray, List.set_cons_zero, List.set_cons_succ, i64_w, i32_w]
             rfl
            refine pure_ (i := 1) (N := some 112) (v := ?_) (a' := ?_) #[true, true, false, false, false, false, false, false, false, false, false, false, false, false, false, false, false] rfl rfl (any_of HT_.out (by kernel_rfl)) (fun _ _ _ h => h) (Or.inl ⟨by (first | rfl | (simp only [*]; rfl) | (simp [*]; done)), ?_⟩) ?_ ?_
            rotate_left
            ·intro w'
             go_simp
             with_reducible rfl
            rotate_left
            ·simp only [Act.put, List.setIfInBounds_toArray, List.set_cons_zero, List.set_cons_succ, i64_w, i32_w]
             rfl
            refine pure_ (i := 3) (N := some 114) (v := ?_) (a' := ?_) #[true, true, false, true, false, false, false, false, false, false, false, false, false, false, false, false, false] rfl rfl (any_of HT_.out (by kernel_rfl)) (fun _ _ _ h => h) (Or.inl ⟨by (first | rfl | (simp only [*]; rfl) | (simp [*]; done)), ?_⟩) ?_ ?_
            rotate_left
            ·intro w'
             go_simp
             with_reducible rfl
            rotate_left
            ·simp only [Act.put, List.setIfInBounds_toArray, List.set_cons_zero, List.set_cons_succ, i64_w, i32_w]
             rfl
            refine pure_ (i := 5) (N := some 116) (v := ?_) (a' := ?_) #[true, true, false, true, false, true, false, false, false, false, false, false, false, false, false, false, false] rfl rfl (any_of HT_.out (by kernel_rfl)) (fun _ _ _ h => h) (Or.inl ⟨by (first | rfl | (simp only [*]; rfl) | (simp [*]; done)), ?_⟩) ?_ ?_
            rotate_left
            ·intro w'
             go_simp
             with_reducible rfl
            rotate_left
            ·simp only [Act.put, List.setIfInBounds_toArray, List.set_cons_zero, List.set_cons_succ, i64_w, i32_w]
             rfl
            refine pure_ (i := 8) (N := some 119) (v := ?_) (a' := ?_) #[true, true, false, true, false, true, false, false, true, false, false, false, false, false, false, false, false] rfl rfl (any_of HT_.out (by kernel_rfl)) (fun _ _ _ h => h) (Or.inl ⟨by (first | rfl | (simp only [*]; rfl) | (simp [*]; done)), ?_⟩) ?_ ?_
            rotate_left
            ·intro w'
             go_simp
             with_reducible rfl
            rotate_left
            ·simp only [Act.put, List.setIfInBounds_toArray, List.set_cons_zero, List.set_cons_succ, i64_w, i32_w]
             rfl
            refine pure_ (i := 9) (N := some 120) (v := ?_) (a' := ?_) #[true, true, false, true, false, true, false, false, true, true, false, false, false, false, false, false, false] rfl rfl (any_of HT_.out (by kernel_rfl)) (fun _ _ _ h => h) (Or.inl ⟨by (first | rfl | (simp only [*]; rfl) | (simp [*]; done)), ?_⟩) ?_ ?_
            rotate_left
            ·intro w'
             go_simp
             with_reducible rfl
            rotate_left
            ·simp only [Act.put, List.setIfInBounds_toArray, List.set_cons_zero, List.set_cons_succ, i64_w, i32_w]
             rfl
            refine take_ (i := 2) (N := some 113) (v := ?_) (a' := ?_) #[true, true, true, true, false, true, false, false, true, true, false, false, false, false, false, false, false] rfl rfl (take_ofW HT_.out HW_.out (by kernel_rfl)) (fun _ _ _ h => h) (Or.inl ⟨by (first | rfl | (simp only [*]; rfl) | (simp [*]; done)), ?_⟩) hHeld ?_ ?_
            rotate_left
            ·rintro w' ⟨s0, s1, s2, s3⟩
             go_simp
             with_reducible rfl
            rotate_left
            ·simp only [Act.put, List.setIfInBounds_toArray, List.set_cons_zero, List.set_cons_succ, i64_w, i32_w]
             rfl
            refine take_ (i := 4) (N := some 115) (v := ?_) (a' := ?_) #[true, true, true, true, true, true, false, false, true, true, false, false, false, false, false, false, false] rfl rfl (take_ofW HT_.out HW_.out (by kernel_rfl)) (fun _ _ _ h => h) (Or.inl ⟨by (first | rfl | (simp only [*]; rfl) | (simp [*]; done)), ?_⟩) hHeld ?_ ?_
            rotate_left
            ·rintro w' ⟨s0, s1, s2, s3⟩
             go_simp
             with_reducible rfl
            rotate_left
            ·simp only [Act.put, List.setIfInBounds_toArray, List.set_cons_zero, List.set_cons_succ, i64_w, i32_w]
             rfl
            refine pure_ (i := 6) (N := some 117) (v := ?_) (a' := ?_) #[true, true, true, true, true, true, true, false, true, true, false, false, false, false, false, false, false] rfl rfl (any_of HT_.out (by kernel_rfl)) (fun _ _ _ h => h) (Or.inl ⟨by (first | rfl | (simp only [*]; rfl) | (simp [*]; done)), ?_⟩) ?_ ?_
            rotate_left
            ·intro w'
             go_simp
             with_reducible rfl
            rotate_left
            ·simp only [Act.put, List.setIfInBounds_toArray, List.set_cons_zero, List.set_cons_succ, i64_w, i32_w]
             rfl
            refine pure_ (i := 7) (N := some 118) (v := ?_) (a' := ?_) #[true, true, true, true, true, true, true, true, true, true, false, false, false, false, false, false, false] rfl rfl (any_of HT_.out (by kernel_rfl)) (fun _ _ _ h => h) (Or.inl ⟨by (first | rfl | (simp only [*]; rfl) | (simp [*]; done)), ?_⟩) ?_ ?_
            rotate_left
            ·intro w'
             go_simp
             with_reducible rfl
            rotate_left
            ·simp only [Act.put, List.setIfInBounds_toArray, List.set_cons_zero, List.set_cons_succ, i64_w, i32_w]
             rfl
            refine take_ (i := 10) (N := some 121) (v := ?_) (a' := ?_) #[true, true, true, true, true, true, true, true, true, true, true, false, false, false, false, false, false] rfl rfl (take_ofW HT_.out HW_.out (by kernel_rfl)) (fun _ _ _ h => h) (Or.inl ⟨by (first | rfl | (simp only [*]; rfl) | (simp [*]; done)), ?_⟩) hHeld ?_ ?_
            rotate_left
            ·rintro w' ⟨s0, s1, s2, s3⟩
             go_simp
             with_reducible rfl
            rotate_left
            ·simp only [Act.put, List.setIfInBounds_toArray, List.set_cons_zero, List.set_cons_succ, i64_w, i32_w]
             rfl
            refine one_ (i := 11) (N := some 122) #[true, true, true, true, true, true, true, true, true, true, true, true, false, false, false, false, false] rfl rfl (one_of HT_.out (by kernel_rfl)) (by decide) (fun K hK => ?_)
            refine goes_ Try.func25 (by kernel_rfl) rfl #[.slice A37 ((l0.take ((wrap64 (t168 + t171)) : Int).toNat).drop (t168 : Int).toNat).length (c0 - t168.toNat), .int .i64 a2, .int .i64 t166] (by (first | rfl | (simp only [*]; rfl) | (simp [*]; done))) rfl rfl (by (try simp only [List.map_toArray, List.map_cons, List.map_nil]); first | done | (rw [show ((l0.take ((wrap64 (t168 + t171)) : Int).toNat).drop (t168 : Int).toNat).length = ((wrap64 (t168 + t171)).toNat - t168.toNat) from (by rw [List.length_drop, List.length_take]; have h_ : ((wrap64 (t168 + t171)) : Int) ≤ (l0.length : Int) := of_decide_eq_true as_; omega)] <;> rfl) | rfl | (simp only [List.length_drop, List.length_take]; rfl)) ?_
            with_reducible refine (bitpack_Unpack.calls k2 _ _ ((l0.take ((wrap64 (t168 + t171)) : Int).toNat).drop (t168 : Int).toNat) a2 t166 t185 t186 _ ?side1 ?side2 A34.out).mono ?_
            (case side1 => exact ca_ (Kd.C_below HR184.out HB.out))
            (case side2 => exact HC184.out)
            rintro e w38 ⟨v187, rfl, ho0, hb⟩
            refine ⟨_, rfl, ?_⟩
            have n0_ := Aside0.mk (Kd.R_below (rb_ HO_13) hb)
            have n1_ := Aside0.mk (Kd.R_lower ho0 (below_size (bg_ HB GE170)))
            have n2_ := Aside0.mk (blk_below (g := gb170) (o := .cells #[.int .i64 t165, .int .i64 t166, .int .i64 t167, .int .i64 t168] 77 (0, 0)) (bk_ BK170) hb)
            have n3_ := Aside0.mk (below_step (bg_ HB GE170) hb)
            clear HO_13
            clear BK170
            clear HB
            have HO_13 := n0_
            have HO188 := n1_
            have BK170 := n2_
            have HB := n3_
            clear n0_ n1_ n2_ n3_
            (try clear hb)
            (try clear hb2)
            (try clear hk)
            (try clear hi)
            (try clear ho0)
            refine hK.out _ _ ⟨(blk_cell BK170.out 0).trans rfl, (blk_cell BK170.out 1).trans rfl, (blk_cell BK170.out 2).trans rfl, (blk_cell BK170.out 3).trans rfl⟩ (fun hHeld => ?_)
            clear hK K
            refine norm_ (a' := ?_) ?_ ?_
            rotate_left
            ·show Act.put _ (some 122) _ = _
             simp only [Act.put, List.setIfInBounds_toArray, List.set_cons_zero, List.set_cons_succ, i64_w, i32_w]
             rfl
            refine pure_ (i := 12) (N := some 110) (v := ?_) (a' := ?_) #[true, true, true, true, true, true, true, true, true, true, true, true, true, false, false, false, false] rfl rfl (any_of HT_.out (by kernel_rfl)) (fun _ _ _ h => h) (Or.inl ⟨by (first | rfl | (simp only [*]; rfl) | (simp [*]; done)), ?_⟩) ?_ ?_
            rotate_left
            ·intro w'
             go_simp
             with_reducible rfl
            rotate_left
            ·simp only [Act.put, List.setIfInBounds_toArray, List.set_cons_zero, List.set_cons_succ, i64_w, i32_w]
             rfl
            refine pure_ (i := 13) (N := some 123) (v := ?_) (a' := ?_) #[true, true, true, true, true, true, true, true, true, true, true, true, true, true, false, false, false] rfl rfl (any_of HT_.out (by kernel_rfl)) (fun _ _ _ h => h) (Or.inl ⟨by (first | rfl | (simp only [*]; rfl) | (simp [*]; done)), ?_⟩) ?_ ?_
            rotate_left
            ·intro w'
             go_simp
             with_reducible rfl
            rotate_left
            ·simp only [Act.put, List.setIfInBounds_toArray, List.set_cons_zero, List.set_cons_succ, i64_w, i32_w]
             rfl
            refine pure_ (i := 14) (N := some 124) (v := ?_) (a' := ?_) #[true, true, true, true, true, true, true, true, true, true, true, true, true, true, true, false, false] rfl rfl (any_of HT_.out (by kernel_rfl)) (fun _ _ _ h => h) (Or.inl ⟨by (first | rfl | (simp only [*]; rfl) | (simp [*]; done)), ?_⟩) ?_ ?_
            rotate_left
            ·intro w'
             go_simp
             with_reducible rfl
            rotate_left
            ·simp only [Act.put, List.setIfInBounds_toArray, List.set_cons_zero, List.set_cons_succ, i64_w, i32_w]
             rfl
            refine pure_ (i := 15) (N := some 19) (v := ?_) (a' := ?_) #[true, true, true, true, true, true, true, true, true, true, true, true, true, true, true, true, false] rfl rfl (any_of HT_.out (by kernel_rfl)) (fun _ _ _ h => h) (Or.inl ⟨by (first | rfl | (simp only [*]; rfl) | (simp [*]; done)), ?_⟩) ?_ ?_
            rotate_left
            ·intro w'
             go_simp
             with_reducible rfl
            rotate_left
            ·simp only [Act.put, List.setIfInBounds_toArray, List.set_cons_zero, List.set_cons_succ, i64_w, i32_w]
             rfl
            refine pure_ (i := 16) (N := some 10) (v := ?_) (a' := ?_) #[true, true, true, true, true, true, true, true, true, true, true, true, true, true, true, true, true] rfl rfl (any_of HT_.out (by kernel_rfl)) (fun _ _ _ h => h) (Or.inl ⟨by (first | rfl | (simp only [*]; rfl) | (simp [*]; done)), ?_⟩) ?_ ?_
            rotate_left
            ·intro w'
             go_simp
             with_reducible rfl
            rotate_left
            ·simp only [Act.put, List.setIfInBounds_toArray, List.set_cons_zero, List.set_cons_succ, i64_w, i32_w]
             rfl
            refine done_ (done_of HT_.out (by kernel_rfl)) ?_
            go_upto_region 25 with (fail)
            go_cut [130] (fun v130 wc => ∃ (kq : Nat) (x130_34 : Bool), v130 = .bool x130_34 ∧ Aside0 (frameref_Decode.j2 kq l0 a1 a2 x12_2 x13_2 t185 x130_34 t165 t166 t167 t168 = some (r1, r2, r3)) ∧ Aside0 (kq ≤ k2) ∧ Aside0 (Kd.R k82 82 wc w.heap.size (fun _ => True) u13 x13_2) ∧ Aside0 (Kd.R (Kd.int .u64) 35 wc w.heap.size (fun _ => True) v187 t185) ∧ Aside0 (wc.heap[gb170]? = some (.cells #[.int .i64 t165, .int .i64 t166, .int .i64 t167, .int .i64 t168] 77 (0, 0))) ∧ Aside0 (Below w.heap.size w wc))
            case first =>
             have H := HC35.out
             clear HC35
             by_cases c39 : t186 = 0
             ·rw [if_pos c39] at H
              have c39b0 : (t186 == 0) = true := beq_iff_eq.mpr c39
              have c39b1 : (t186 != 0) = false := bne_eq_false_iff_eq.mpr c39
              clear c39
              (first | rw [c39b0] | (simp only [i64_w, i32_w]; rw [c39b0]) | skip)
              have H' := Aside0.mk H
              clear H
              go_wp2
              go_meet
              case rel => exact ⟨_, (!x14_2), fr_, H', ⟨by have := HJ3.out; have := HK2.out; first | omega | exact Nat.le_refl _⟩, ⟨by (with_reducible repeat (first | apply Kd.R_alloc | apply Kd.R_drewN | apply Kd.R_drew)); exact HO_13.out⟩, ⟨by (with_reducible repeat (first | apply Kd.R_alloc | apply Kd.R_drewN | apply Kd.R_drew)); exact HO188.out⟩, ⟨by (with_reducible repeat (first | refine blk_drewN ?_ _ | refine blk_drew ?_ | refine blk_alloc ?_ _)); exact BK170.out⟩, ⟨by repeat (first | (with_reducible first | exact HB.out | apply below_alloc | apply pw_below_drewN | apply below_drew1 | refine below_set ?_ GE170.out) | exact HB.out)⟩⟩
             ·rw [if_neg c39] at H
              have c39b0 : (t186 == 0) = false := beq_eq_false_iff_ne.mpr c39
              have c39b1 : (t186 != 0) = true := bne_iff_ne.mpr c39
              (first | rw [c39b0] | (simp only [i64_w, i32_w]; rw [c39b0]) | skip)
              have H' := Aside0.mk H
              clear H
              go_wp2
              go_meet
              case rel => exact ⟨_, (true), fr_, H', ⟨by have := HJ3.out; have := HK2.out; first | omega | exact Nat.le_refl _⟩, ⟨by (with_reducible repeat (first | apply Kd.R_alloc | apply Kd.R_drewN | apply Kd.R_drew)); exact HO_13.out⟩, ⟨by (with_reducible repeat (first | apply Kd.R_alloc | apply Kd.R_drewN | apply Kd.R_drew)); exact HO188.out⟩, ⟨by (with_reducible repeat (first | refine blk_drewN ?_ _ | refine blk_drew ?_ | refine blk_alloc ?_ _)); exact BK170.out⟩, ⟨by repeat (first | (with_reducible first | exact HB.out | apply below_alloc | apply pw_below_drewN | apply below_drew1 | refine below_set ?_ GE170.out) | exact HB.out)⟩⟩
            case rest =>
             clear HC35
             try clear c1
             try clear c2
             try clear p2
             try clear c3
             try clear c5
             try clear c5b0
             try clear c6
             try clear c6b0
             try clear p6
             try clear c7
             try clear c7b0
             try clear c8
             try clear c10
             try clear c10b0
             try clear c10b1
             try clear c12
             try clear c12b0
             try clear c19
             try clear c19b0
             try clear c21
             try clear c21b0
             try clear c21b1
             try clear c23
             try clear c23b0
             try clear c23b1
             try clear c24
             try clear c25
             try clear c26
             try clear c29
             try clear c31
             try clear c31b0
             try clear c31b1
             try clear c32
             try clear c32b0
             try clear c32b1
             try clear c33
             try clear c33b0
             try clear c33b1
             try clear c36
             try clear c39
             try clear c39b0
             try clear c39b1
             try clear hcz15_0
             try clear hcz15_1
             try clear hcz15_2
             try clear hcz15_3
             try clear hcz18_0
             try clear hcz18_1
             try clear hcz18_2
             try clear hcz18_3
             try clear hfz15_0
             try clear hfz15_1
             try clear hfz15_2
             try clear hfz15_3
             try clear hfz18_0
             try clear hfz18_1
             try clear hfz18_2
             try clear hfz18_3
             try clear p2
             try clear p6
             obtain ⟨kq, x130_34, rfl, HA, HJ34, HO_13, HO_19, BK170, HB⟩ := hcut
             cases kq with
             | zero => exact absurd HA.out (by simp [frameref_Decode.j2])
             | succ kj34 =>
              have H := HA.out
              clear HA
              simp only [frameref_Decode.j2] at H
              by_cases c40 : x130_34 = true
              ·subst c40
               have H1 : (some (([] : List Int), 0, 4)) = some (r1, r2, r3) := by rw [if_pos rfl] at H; exact H
               clear H
               have H := H1
               clear H1
               simp only [Option.some.injEq, Prod.mk.injEq] at H
               obtain ⟨rfl, rfl, rfl⟩ := H
               go_wp2
               go_ret3
               exact ⟨_, er_, by first | exact Kd.R_nil _ _ _ _ _ | exact Kd.N_nil _ _ _ _ _ | exact Kd.V_nil _ _ _ _ _ | exact Kd.Q_nil _ _ _ _ _ | exact Kd.S_nil _ _ _ _ _, by repeat (first | (with_reducible first | exact HB.out | apply below_alloc | apply pw_below_drewN | apply below_drew1 | refine below_set ?_ GE170.out) | exact HB.out)⟩
              ·replace c40 := Bool.eq_false_iff.mpr c40
               subst c40
               have H1 : (frameref_Decode.l1 kj34 l0 a1 a2 x12_2 t185 x13_2 (x13_2.length : Int) 0 t165 t166 t167 t168) = some (r1, r2, r3) := by rw [if_neg (show ¬ (false = true) by decide)] at H; exact H
               clear H
               have H := H1
               clear H1
               have H' := Aside0.mk H
               clear H
               obtain ⟨Ao41, co41, eo41⟩ := Kd.R_slice HO_13.out
               subst eo41
               go_wp2
               go_loopg [133] kj34 (fun kq v133 w' => ∃ (x19_4 : List Int) (x133_4 : Int), v133 = .int .i64 x133_4 ∧ Aside0 (frameref_Decode.l1 kq l0 a1 a2 x12_2 x19_4 x13_2 (x13_2.length : Int) x133_4 t165 t166 t167 t168 = some (r1, r2, r3)) ∧ Aside0 (kq ≤ kj34) ∧ Aside0 (Kd.R (Kd.int .u64) 35 w' w.heap.size (fun _ => True) v187 x19_4) ∧ Aside0 (Kd.R k82 82 w' w.heap.size (fun _ => True) (.slice Ao41 x13_2.length co41) x13_2) ∧ Aside0 (w'.heap[gb170]? = some (.cells #[.int .i64 t165, .int .i64 t166, .int .i64 t167, .int .i64 t168] 77 (0, 0))) ∧ Aside0 (Below w.heap.size w w'))
               case atStart => exact ⟨(t185), (0), fr_, H', ⟨Nat.le_refl _⟩, ⟨by (with_reducible repeat (first | apply Kd.R_alloc | apply Kd.R_drewN | apply Kd.R_drew)); exact HO_19.out⟩, ⟨by (with_reducible repeat (first | apply Kd.R_alloc | apply Kd.R_drewN | apply Kd.R_drew)); exact HO_13.out⟩, ⟨by (with_reducible repeat (first | refine blk_drewN ?_ _ | refine blk_drew ?_ | refine blk_alloc ?_ _)); exact BK170.out⟩, ⟨by repeat (first | (with_reducible first | exact HB.out | apply below_alloc | apply pw_below_drewN | apply below_drew1 | refine below_set ?_ GE170.out) | exact HB.out)⟩⟩
               case round =>
                clear H'
                try clear c1
                try clear c2
                try clear p2
                try clear c3
                try clear c4
                try clear c5
                try clear c5b0
                try clear c6
                try clear c6b0
                try clear p6
                try clear c7
                try clear c7b0
                try clear c8
                try clear c10
                try clear c10b0
                try clear c10b1
                try clear c12
                try clear c12b0
                try clear c19
                try clear c19b0
                try clear c21
                try clear c21b0
                try clear c21b1
                try clear c23
                try clear c23b0
                try clear c23b1
                try clear c24
                try clear c25
                try clear c26
                try clear c29
                try clear c31
                try clear c31b0
                try clear c31b1
                try clear c32
                try clear c32b0
                try clear c32b1
                try clear c33
                try clear c33b0
                try clear c33b1
                try clear c36
                try clear c39
                try clear c39b0
                try clear c39b1
                try clear c40
                try clear hcz15_0
                try clear hcz15_1
                try clear hcz15_2
                try clear hcz15_3
                try clear hcz18_0
                try clear hcz18_1
                try clear hcz18_2
                try clear hcz18_3
                try clear hfz15_0
                try clear hfz15_1
                try clear hfz15_2
                try clear hfz15_3
                try clear hfz18_0
                try clear hfz18_1
                try clear hfz18_2
                try clear hfz18_3
                try clear p2
                try clear p6
                obtain ⟨x19_4, x133_4, rfl, HA, HK4, HO_19, HO_131, BK170, HB⟩ := hrel
                cases gk with
                | zero => exact absurd HA.out (by simp [frameref_Decode.l1])
                | succ k4 =>
                 have H := HA.out
                 clear HA
                 simp only [frameref_Decode.l1] at H
                 by_cases c42 : x133_4 < (x13_2.length : Int)
                 ·rw [if_pos c42] at H
                  have c42b0 : decide (x133_4 < (x13_2.length : Int)) = true := decide_eq_true c42
                  clear c42
                  by_cases c43 : 0 ≤ x133_4
                  ·rw [if_pos c43] at H
                   have c43b0 : decide (0 ≤ x133_4) = true := decide_eq_true c43
                   clear c43
                   by_cases c44 : x133_4 < (x13_2.length : Int)
                   ·rw [if_pos c44] at H
                    have c44b0 : decide (x133_4 < (x13_2.length : Int)) = true := decide_eq_true c44
                    clear c44
                    by_cases c45 : t166 < 64
                    ·rw [if_pos c45] at H
                     have c45b0 : decide (t166 < 64) = true := decide_eq_true c45
                     clear c45
                     by_cases c46 : 0 ≤ ((rd_T82 x13_2 x133_4).f0)
                     ·rw [if_pos c46] at H
                      have c46b0 : decide (0 ≤ ((rd_T82 x13_2 x133_4).f0)) = true := decide_eq_true c46
                      clear c46
                      by_cases c47 : ((rd_T82 x13_2 x133_4).f0) < (x19_4.length : Int)
                      ·rw [if_pos c47] at H
                       have c47b0 : decide (((rd_T82 x13_2 x133_4).f0) < (x19_4.length : Int)) = true := decide_eq_true c47
                       clear c47
                       obtain ⟨ji48, hji48⟩ : ∃ j_ : Int, (IntKind.u64.wrap (t166)) = j_ := ⟨_, rfl⟩
                       replace H : (if 0 ≤ (ji48) then (frameref_Decode.l1 k4 l0 a1 a2 x12_2 (x19_4.set (((rd_T82 x13_2 x133_4).f0) : Int).toNat (Go.bits .or .u64 (rd x19_4 ((rd_T82 x13_2 x133_4).f0)) (shl .u64 ((rd_T82 x13_2 x133_4).f1) (ji48)))) x13_2 (x13_2.length : Int) (wrap64 (x133_4 + 1)) t165 t166 t167 t168) else (none)) = some (r1, r2, r3) := by first | (rw [hji48] at H; exact H) | (simp only [hji48] at H ⊢; exact H)
                       by_cases c49 : 0 ≤ (ji48)
                       ·rw [if_pos c49] at H
                        have c49b0 := eq_true c49
                        have c49b1 : decide (0 ≤ (ji48)) = true := decide_eq_true c49
                        clear c49
                        obtain ⟨ji50, hji50⟩ : ∃ j_ : Int, (shl .u64 ((rd_T82 x13_2 x133_4).f1) (ji48)) = j_ := ⟨_, rfl⟩
                        replace H : (frameref_Decode.l1 k4 l0 a1 a2 x12_2 (x19_4.set (((rd_T82 x13_2 x133_4).f0) : Int).toNat (Go.bits .or .u64 (rd x19_4 ((rd_T82 x13_2 x133_4).f0)) (ji50))) x13_2 (x13_2.length : Int) (wrap64 (x133_4 + 1)) t165 t166 t167 t168) = some (r1, r2, r3) := by first | (rw [hji50] at H; exact H) | (simp only [hji50] at H ⊢; exact H)
                        have hji50_ : (IntKind.u64.wrap (((rd_T82 x13_2 x133_4).f1) * 2 ^ min (ji48).toNat 64)) = ji50 := hji50
                        have hji50z : (ji48) ≤ 64 → (IntKind.u64.wrap (((rd_T82 x13_2 x133_4).f1) * 2 ^ (ji48).toNat)) = ji50 := shl_small hji50
                        obtain ⟨y192, hy192⟩ : ∃ y_ : List Int, y_ = (x19_4.set (((rd_T82 x13_2 x133_4).f0) : Int).toNat (Go.bits .or .u64 (rd x19_4 ((rd_T82 x13_2 x133_4).f0)) (ji50))) := ⟨_, rfl⟩
                        replace H : (frameref_Decode.l1 k4 l0 a1 a2 x12_2 y192 x13_2 (x13_2.length : Int) (wrap64 (x133_4 + 1)) t165 t166 t167 t168) = some (r1, r2, r3) := hx_ hy192 H
                        have Ny192 := Aside0.mk hy192
                        clear hy192
                        have H' := Aside0.mk H
                        clear H
                        have p189 : 0 ≤ (x133_4 : Int) := of_decide_eq_true as_
                        have q189 : x133_4 < (x13_2.length : Int) := of_decide_eq_true as_
                        obtain ⟨ad189, e189, hx189_0, hx189_1⟩ := at_T82 (Kd.R_reads' HO_131.out).2.2 x133_4 p189 q189
                        cases e189
                        replace p189 := eq_true p189
                        replace q189 := eq_true q189
                        try go_wp2_with (first | ((with_reducible refine gate_dst (N := 21) rfl ?_); (try (refine gate_guard (by rfl) ?_; dsimp only)); refine box_event ?hg (N := 21) ?hd (cs := #[.int .i64 0, .int .u64 0]) (t := 82) ?hr ?_; (case hd => rfl); (case hg => exact fs_); (case hr => first | (go_simp; done) | (go_simp; rfl)); intro gb190 hg w52 hbox hb; have n0_ := Aside0.mk (Kd.R_below (rb_ HO_19) hb); have n1_ := Aside0.mk (Kd.R_below (Kd.R_elderB (rb_ HO_131) gb190 (Nat.le_of_eq hg.symm)) hb); have n2_ := Aside0.mk (blk_below (g := gb170) (o := .cells #[.int .i64 t165, .int .i64 t166, .int .i64 t167, .int .i64 t168] 77 (0, 0)) (bk_ BK170) hb); have n3_ := Aside0.mk (below_step (bg_ HB GE170) hb); have n4_ := Aside0.mk (hbox); have n5_ := Aside0.mk ((by rw [hg]; exact (below_size (bg_ HB GE170)) : w.heap.size ≤ gb190)); have n6_ := Aside0.mk ((by rw [hg]; exact (below_size (bg_ HB GE170)) : w.heap.size ≤ gb190)); have n7_ := Aside0.mk ((by rw [hg]; exact Nat.ne_of_lt (blk_lt (g := gb170) (o := .cells #[.int .i64 t165, .int .i64 t166, .int .i64 t167, .int .i64 t168] 77 (0, 0)) (bk_ BK170)) : gb170 ≠ gb190)); have n8_ := Aside0.mk ((by rw [hg]; exact Nat.ne_of_gt (blk_lt (g := gb170) (o := .cells #[.int .i64 t165, .int .i64 t166, .int .i64 t167, .int .i64 t168] 77 (0, 0)) (bk_ BK170)) : gb190 ≠ gb170)); clear HO_19; clear HO_131; clear BK170; clear HB; have HO_19 := n0_; have HO_131 := n1_; have BK170 := n2_; have HB := n3_; have BK190 := n4_; have GW190 := n5_; have GE190 := n6_; have NB170_190 := n7_; have NB190_170 := n8_; clear n0_ n1_ n2_ n3_ n4_ n5_ n6_ n7_ n8_; clear hb hbox hg; have hnb53 := NB190_170.out; have hnc53 := NB170_190.out; have hcz54_0 : w52.cell? ⟨gb190, 0, none⟩ = some (.int .i64 0) := (blk_cell BK190.out 0).trans rfl; have hcz54_1 : w52.cell? ⟨gb190, 1, none⟩ = some (.int .u64 0) := (blk_cell BK190.out 1).trans rfl; have hfz54_0 := blk_frozen BK190.out 0; have hfz54_1 := blk_frozen BK190.out 1; have hcz55_0 : w52.cell? ⟨gb170, 0, none⟩ = some (.int .i64 t165) := (blk_cell BK170.out 0).trans rfl; have hcz55_1 : w52.cell? ⟨gb170, 1, none⟩ = some (.int .i64 t166) := (blk_cell BK170.out 1).trans rfl; have hcz55_2 : w52.cell? ⟨gb170, 2, none⟩ = some (.int .i64 t167) := (blk_cell BK170.out 2).trans rfl; have hcz55_3 : w52.cell? ⟨gb170, 3, none⟩ = some (.int .i64 t168) := (blk_cell BK170.out 3).trans rfl; have hfz55_0 := blk_frozen BK170.out 0; have hfz55_1 := blk_frozen BK170.out 1; have hfz55_2 := blk_frozen BK170.out 2; have hfz55_3 := blk_frozen BK170.out 3))
                        have n0_ : Aside0 (Kd.R (Kd.int .u64) 35 ((w52.setCell ⟨gb190, 0, none⟩ (.int .i64 ((rd_T82 x13_2 x133_4).f0))).setCell ⟨gb190, 1, none⟩ (.int .u64 ((rd_T82 x13_2 x133_4).f1))) w.heap.size (fun _ => True) v187 x19_4) := ⟨by (with_reducible repeat (first | apply Kd.R_alloc | apply Kd.R_drewN | apply Kd.R_drew)); exact Kd.R_mono (Kd.R_far (p := ⟨gb190, 1, none⟩) (Kd.R_far (p := ⟨gb190, 0, none⟩) (Kd.R_types HO_19.out BK190.out (by decide)) (fun _ hk => hk.2) (.int .i64 ((rd_T82 x13_2 x133_4).f0))) (fun _ hk => hk.2) (.int .u64 ((rd_T82 x13_2 x133_4).f1))) (fun _ hk => trivial)⟩
                        have n1_ : Aside0 (Kd.R k82 82 ((w52.setCell ⟨gb190, 0, none⟩ (.int .i64 ((rd_T82 x13_2 x133_4).f0))).setCell ⟨gb190, 1, none⟩ (.int .u64 ((rd_T82 x13_2 x133_4).f1))) w.heap.size (fun k_ => k_ ≠ gb190) (.slice (some ad189) x13_2.length co41) x13_2) := ⟨by (with_reducible repeat (first | apply Kd.R_alloc | apply Kd.R_drewN | apply Kd.R_drew)); exact Kd.R_mono (Kd.R_far (p := ⟨gb190, 1, none⟩) (Kd.R_far (p := ⟨gb190, 0, none⟩) (Kd.R_mono HO_131.out (fun k_ hk => (⟨hk, hk.2⟩ : _ ∧ k_ ≠ gb190))) (fun _ hk => hk.2) (.int .i64 ((rd_T82 x13_2 x133_4).f0))) (fun _ hk => hk.2) (.int .u64 ((rd_T82 x13_2 x133_4).f1))) (fun _ hk => hk.1.2)⟩
                        have n2_ : Aside0 (((w52.setCell ⟨gb190, 0, none⟩ (.int .i64 ((rd_T82 x13_2 x133_4).f0))).setCell ⟨gb190, 1, none⟩ (.int .u64 ((rd_T82 x13_2 x133_4).f1))).heap[gb170]? = some (.cells #[.int .i64 t165, .int .i64 t166, .int .i64 t167, .int .i64 t168] 77 (0, 0))) := ⟨by (with_reducible repeat (first | refine blk_drewN ?_ _ | refine blk_drew ?_ | refine blk_alloc ?_ _)); refine blk_far ?_ NB170_190.out _; (with_reducible repeat (first | refine blk_drewN ?_ _ | refine blk_drew ?_ | refine blk_alloc ?_ _)); refine blk_far ?_ NB170_190.out _; (with_reducible repeat (first | refine blk_drewN ?_ _ | refine blk_drew ?_ | refine blk_alloc ?_ _)); exact BK170.out⟩
                        have n3_ : Aside0 (((w52.setCell ⟨gb190, 0, none⟩ (.int .i64 ((rd_T82 x13_2 x133_4).f0))).setCell ⟨gb190, 1, none⟩ (.int .u64 ((rd_T82 x13_2 x133_4).f1))).heap[gb190]? = some (.cells #[.int .i64 ((rd_T82 x13_2 x133_4).f0), .int .u64 ((rd_T82 x13_2 x133_4).f1)] 82 (0, 0))) := ⟨by (with_reducible repeat (first | refine blk_drewN ?_ _ | refine blk_drew ?_ | refine blk_alloc ?_ _)); refine blk_put (cs := #[.int .i64 ((rd_T82 x13_2 x133_4).f0), .int .u64 0]) ?_ 1 _ rfl; (with_reducible repeat (first | refine blk_drewN ?_ _ | refine blk_drew ?_ | refine blk_alloc ?_ _)); refine blk_put (cs := #[.int .i64 0, .int .u64 0]) ?_ 0 _ rfl; (with_reducible repeat (first | refine blk_drewN ?_ _ | refine blk_drew ?_ | refine blk_alloc ?_ _)); exact BK190.out⟩
                        have n4_ : Aside0 (Below w.heap.size w ((w52.setCell ⟨gb190, 0, none⟩ (.int .i64 ((rd_T82 x13_2 x133_4).f0))).setCell ⟨gb190, 1, none⟩ (.int .u64 ((rd_T82 x13_2 x133_4).f1)))) := ⟨by repeat (first | (with_reducible first | exact HB.out | apply below_alloc | apply pw_below_drewN | apply below_drew1 | refine below_set ?_ GE170.out | refine below_set ?_ GE190.out) | exact HB.out)⟩
                        (try clear HO_19)
                        (try clear HO_131)
                        (try clear BK170)
                        (try clear BK190)
                        (try clear HB)
                        generalize ((w52.setCell ⟨gb190, 0, none⟩ (.int .i64 ((rd_T82 x13_2 x133_4).f0))).setCell ⟨gb190, 1, none⟩ (.int .u64 ((rd_T82 x13_2 x133_4).f1))) = w56 at n0_ n1_ n2_ n3_ n4_ ⊢
                        have HO_19 := n0_
                        have HO_131 := n1_
                        have BK170 := n2_
                        have BK190 := n3_
                        have HB := n4_
                        clear n0_ n1_ n2_ n3_ n4_
                        have n0_ := Aside0.mk (Kd.R_drew HO_19.out)
                        have n1_ := Aside0.mk (Kd.R_drew HO_131.out)
                        have n2_ := Aside0.mk (blk_drew BK170.out)
                        have n3_ := Aside0.mk (blk_drew BK190.out)
                        have n4_ := Aside0.mk (below_drew1 HB.out)
                        clear HO_19
                        clear HO_131
                        clear BK170
                        clear BK190
                        clear HB
                        have HO_19 := n0_
                        have HO_131 := n1_
                        have BK170 := n2_
                        have BK190 := n3_
                        have HB := n4_
                        clear n0_ n1_ n2_ n3_ n4_
                        obtain ⟨Ao58, co58, eo58⟩ := Kd.R_slice HO_19.out
                        (first | subst eo58 | (injection eo58 with f1_ f2_ f3_; have f4_ := f1_.symm; have f5_ := f3_.symm; clear f1_ f2_ f3_; subst f4_; subst f5_))
                        have p191 : 0 ≤ (((rd_T82 x13_2 x133_4).f0) : Int) := of_decide_eq_true as_
                        have q191 : ((rd_T82 x13_2 x133_4).f0) < (x19_4.length : Int) := of_decide_eq_true as_
                        obtain ⟨ad191, e191, hx191_0⟩ := Kd.at_int (Kd.R_reads' HO_19.out).2.2 ((rd_T82 x13_2 x133_4).f0) p191 q191
                        cases e191
                        replace p191 := eq_true p191
                        replace q191 := eq_true q191
                        have p51 : 0 ≤ (((rd_T82 x13_2 x133_4).f0) : Int) := of_decide_eq_true as_
                        have q51 : (((rd_T82 x13_2 x133_4).f0) : Int) < ((x19_4.length : Int) : Int) := of_decide_eq_true as_
                        obtain ⟨go51, co51, eo51, gb51, gl51, cl51, HG51⟩ := Kd.R_form HO_19.out (by omega)
                        (first | cases eo51 | (injection eo51 with ea_ en_ ec_; (first | subst ea_ | (injection ea_ with ea_; subst ea_)); subst ec_; clear en_))
                        have GB51 := Aside0.mk gb51
                        have GG51 := Aside0.mk HG51
                        clear gb51 gl51 HG51
                        (first | simp only [add_plain] at hx191_0 | skip)
                        obtain ⟨hx51_0, hf51_0⟩ := Kd.R_celln 0 HO_19.out (((rd_T82 x13_2 x133_4).f0) : Int) p51 q51
                        replace p51 := eq_true p51
                        replace q51 := eq_true q51
                        have HP59 := Kd.R_putn HO_19.out (((rd_T82 x13_2 x133_4).f0) : Int) (Go.bits .or .u64 (rd x19_4 ((rd_T82 x13_2 x133_4).f0)) (ji50))
                        rw [← Ny192.out] at HP59
                        have HQ59 := Aside0.mk HP59
                        clear HP59
                        refine start_ (n := 14) (S := fun w' => w'.cell? ⟨gb190, 0, none⟩ = some (.int .i64 ((rd_T82 x13_2 x133_4).f0)) ∧ w'.cell? ⟨gb190, 1, none⟩ = some (.int .u64 ((rd_T82 x13_2 x133_4).f1)) ∧ w'.cell? ⟨gb170, 0, none⟩ = some (.int .i64 t165) ∧ w'.cell? ⟨gb170, 1, none⟩ = some (.int .i64 t166) ∧ w'.cell? ⟨gb170, 2, none⟩ = some (.int .i64 t167) ∧ w'.cell? ⟨gb170, 3, none⟩ = some (.int .i64 t168) ∧ w'.cell? ⟨go51, ((rd_T82 x13_2 x133_4).f0).toNat, none⟩ = some (.int .u64 (rd x19_4 ((rd_T82 x13_2 x133_4).f0)))) (ds := [13]) #[false, false, false, false, false, false, false, false, false, false, false, false, false, false] (by kernel_rfl) rfl rfl ⟨(blk_cell BK190.out 0).trans rfl, (blk_cell BK190.out 1).trans rfl, (blk_cell BK170.out 0).trans rfl, (blk_cell BK170.out 1).trans rfl, (blk_cell BK170.out 2).trans rfl, (blk_cell BK170.out 3).trans rfl, hx191_0⟩ (fun hHeld => ?_); refine with_tabW frameref_Decode.tab31 frameref_Decode.bits31 (fun HT_ HW_ => ?_)
                        generalize w56.drew = w57 at HO_19 HO_131 BK170 BK190 HB GG51 HQ59 hf51_0 hx191_0 hx51_0 hHeld ⊢
                        refine pure_ (i := 0) (N := some 140) (v := ?_) (a' := ?_) #[true, false, false, false, false, false, false, false, false, false, false, false, false, false] rfl rfl (any_of HT_.out (by kernel_rfl)) (fun _ _ _ h => h) (Or.inl ⟨by (first | rfl | (simp only [*]; rfl) | (simp [*]; done)), ?_⟩) ?_ ?_
                        rotate_left
                        ·intro w'
                         go_simp
                         with_reducible rfl
                        rotate_left
                        ·simp only [Act.put, List.setIfInBounds_toArray, List.set_cons_zero, List.set_cons_succ, i64_w, i32_w]
                         rfl
                        refine pure_ (i := 1) (N := some 141) (v := ?_) (a' := ?_) #[true, true, false, false, false, false, false, false, false, false, false, false, false, false] rfl rfl (any_of HT_.out (by kernel_rfl)) (fun _ _ _ h => h) (Or.inl ⟨by (first | rfl | (simp only [*]; rfl) | (simp [*]; done)), ?_⟩) ?_ ?_
                        rotate_left
                        ·intro w'
                         go_simp
                         with_reducible rfl
                        rotate_left
                        ·simp only [Act.put, List.setIfInBounds_toArray, List.set_cons_zero, List.set_cons_succ, i64_w, i32_w]
                         rfl
                        refine pure_ (i := 5) (N := some 145) (v := ?_) (a' := ?_) #[true, true, false, false, false, true, false, false, false, false, false, false, false, false] rfl rfl (any_of HT_.out (by kernel_rfl)) (fun _ _ _ h => h) (Or.inl ⟨by (first | rfl | (simp only [*]; rfl) | (simp [*]; done)), ?_⟩) ?_ ?_
                        rotate_left
                        ·intro w'
                         go_simp
                         with_reducible rfl
                        rotate_left
                        ·simp only [Act.put, List.setIfInBounds_toArray, List.set_cons_zero, List.set_cons_succ, i64_w, i32_w]
                         rfl
                        refine pure_ (i := 7) (N := some 147) (v := ?_) (a' := ?_) #[true, true, false, false, false, true, false, true, false, false, false, false, false, false] rfl rfl (any_of HT_.out (by kernel_rfl)) (fun _ _ _ h => h) (Or.inl ⟨by (first | rfl | (simp only [*]; rfl) | (simp [*]; done)), ?_⟩) ?_ ?_
                        rotate_left
                        ·intro w'
                         go_simp
                         with_reducible rfl
                        rotate_left
                        ·simp only [Act.put, List.setIfInBounds_toArray, List.set_cons_zero, List.set_cons_succ, i64_w, i32_w]
                         rfl
                        refine take_ (i := 2) (N := some 142) (v := ?_) (a' := ?_) #[true, true, true, false, false, true, false, true, false, false, false, false, false, false] rfl rfl (take_ofW HT_.out HW_.out (by kernel_rfl)) (fun _ _ _ h => h) (Or.inl ⟨by (first | rfl | (simp only [*]; rfl) | (simp [*]; done)), ?_⟩) hHeld ?_ ?_
                        rotate_left
                        ·rintro w' ⟨s0, s1, s2, s3, s4, s5, s6⟩
                         go_simp
                         with_reducible rfl
                        rotate_left
                        ·simp only [Act.put, List.setIfInBounds_toArray, List.set_cons_zero, List.set_cons_succ, i64_w, i32_w]
                         rfl
                        refine pure_ (i := 3) (N := some 143) (v := ?_) (a' := ?_) #[true, true, true, true, false, true, false, true, false, false, false, false, false, false] rfl rfl (any_of HT_.out (by kernel_rfl)) (fun _ _ _ h => h) (Or.inl ⟨by (first | rfl | (simp only [*]; rfl) | (simp [*]; done)), ?_⟩) ?_ ?_
                        rotate_left
                        ·intro w'
                         go_simp
                         with_reducible rfl
                        rotate_left
                        ·simp only [Act.put, List.setIfInBounds_toArray, List.set_cons_zero, List.set_cons_succ, i64_w, i32_w]
                         rfl
                        refine take_ (i := 4) (N := some 144) (v := ?_) (a' := ?_) #[true, true, true, true, true, true, false, true, false, false, false, false, false, false] rfl rfl (take_ofW HT_.out HW_.out (by kernel_rfl)) (fun _ _ _ h => h) (Or.inl ⟨by (first | rfl | (simp only [*]; rfl) | (simp [*]; done)), ?_⟩) hHeld ?_ ?_
                        rotate_left
                        ·rintro w' ⟨s0, s1, s2, s3, s4, s5, s6⟩
                         go_simp
                         with_reducible rfl
                        rotate_left
                        ·simp only [Act.put, List.setIfInBounds_toArray, List.set_cons_zero, List.set_cons_succ, i64_w, i32_w]
                         rfl
                        refine take_ (i := 6) (N := some 146) (v := ?_) (a' := ?_) #[true, true, true, true, true, true, true, true, false, false, false, false, false, false] rfl rfl (take_ofW HT_.out HW_.out (by kernel_rfl)) (fun _ _ _ h => h) (Or.inl ⟨by (first | rfl | (simp only [*]; rfl) | (simp [*]; done)), ?_⟩) hHeld ?_ ?_
                        rotate_left
                        ·rintro w' ⟨s0, s1, s2, s3, s4, s5, s6⟩
                         go_simp
                         with_reducible rfl
                        rotate_left
                        ·simp only [Act.put, List.setIfInBounds_toArray, List.set_cons_zero, List.set_cons_succ, i64_w, i32_w]
                         rfl
                        refine take_ (i := 8) (N := some 148) (v := ?_) (a' := ?_) #[true, true, true, true, true, true, true, true, true, false, false, false, false, false] rfl rfl (take_ofW HT_.out HW_.out (by kernel_rfl)) (fun _ _ _ h => h) (Or.inl ⟨by (first | rfl | (simp only [*]; rfl) | (simp [*]; done)), ?_⟩) hHeld ?_ ?_
                        rotate_left
                        ·rintro w' ⟨s0, s1, s2, s3, s4, s5, s6⟩
                         go_simp
                         with_reducible rfl
                        rotate_left
                        ·simp only [Act.put, List.setIfInBounds_toArray, List.set_cons_zero, List.set_cons_succ, i64_w, i32_w]
                         rfl
                        refine pure_ (i := 9) (N := some 149) (v := ?_) (a' := ?_) #[true, true, true, true, true, true, true, true, true, true, false, false, false, false] rfl rfl (any_of HT_.out (by kernel_rfl)) (fun _ _ _ h => h) (Or.inl ⟨by (first | rfl | (simp only [*]; rfl) | (simp [*]; done)), ?_⟩) ?_ ?_
                        rotate_left
                        ·intro w'
                         go_simp
                         with_reducible rfl
                        rotate_left
                        ·simp only [Act.put, List.setIfInBounds_toArray, List.set_cons_zero, List.set_cons_succ, i64_w, i32_w]
                         rfl
                        refine pure_ (i := 10) (N := some 150) (v := ?_) (a' := ?_) #[true, true, true, true, true, true, true, true, true, true, true, false, false, false] rfl rfl (any_of HT_.out (by kernel_rfl)) (fun _ _ _ h => h) (Or.inl ⟨by (first | rfl | (simp only [*]; rfl) | (simp [*]; done)), ?_⟩) ?_ ?_
                        rotate_left
                        ·intro w'
                         go_simp
                         with_reducible rfl
                        rotate_left
                        ·simp only [Act.put, List.setIfInBounds_toArray, List.set_cons_zero, List.set_cons_succ, i64_w, i32_w]
                         rfl
                        refine pure_ (i := 11) (N := some 151) (v := ?_) (a' := ?_) #[true, true, true, true, true, true, true, true, true, true, true, true, false, false] rfl rfl (any_of HT_.out (by kernel_rfl)) (fun _ _ _ h => h) (Or.inl ⟨by (first | rfl | (simp only [*]; rfl) | (simp [*]; done)), ?_⟩) ?_ ?_
                        rotate_left
                        ·intro w'
                         go_simp
                         with_reducible rfl
                        rotate_left
                        ·simp only [Act.put, List.setIfInBounds_toArray, List.set_cons_zero, List.set_cons_succ, i64_w, i32_w]
                         rfl
                        refine pure_ (i := 12) (N := some 152) (v := ?_) (a' := ?_) #[true, true, true, true, true, true, true, true, true, true, true, true, true, false] rfl rfl (any_of HT_.out (by kernel_rfl)) (fun _ _ _ h => h) (Or.inl ⟨by (first | rfl | (simp only [*]; rfl) | (simp [*]; done)), ?_⟩) ?_ ?_
                        rotate_left
                        ·intro w'
                         go_simp
                         with_reducible rfl
                        rotate_left
                        ·simp only [Act.put, List.setIfInBounds_toArray, List.set_cons_zero, List.set_cons_succ, i64_w, i32_w]
                         rfl
                        refine last_ (i := 13) (N := none) #[true, true, true, true, true, true, true, true, true, true, true, true, true, true] rfl rfl (one_of HT_.out (by kernel_rfl)) (by decide) (fun K hK => ?_)
                        refine skip_ (w1 := ?_) (by rfl) rfl ?_ ?_
                        rotate_left
                        ·go_simp
                         rfl
                        refine hK.out _ _ ?_
                        clear hK K
                        refine done_ (done_of HT_.out (by kernel_rfl)) ?_
                        try go_wp2
                        go_roundg k4
                        case measure => have := HJ3.out; have := HK2.out; have := HJ34.out; have := HK4.out; omega
                        case rel => exact ⟨(y192), (wrap64 (x133_4 + 1)), fr_, H', ⟨by have := HJ3.out; have := HK2.out; have := HJ34.out; have := HK4.out; omega⟩, ⟨by (with_reducible repeat (first | apply Kd.R_alloc | apply Kd.R_drewN | apply Kd.R_drew)); exact HQ59.out⟩, ⟨by (with_reducible repeat (first | apply Kd.R_alloc | apply Kd.R_drewN | apply Kd.R_drew)); exact Kd.R_mono (Kd.R_far (p := ⟨go51, (((rd_T82 x13_2 x133_4).f0) : Int).toNat, none⟩) (Kd.R_types HO_131.out GG51.out (by decide)) (fun _ hk => hk.2) (.int .u64 (Go.bits .or .u64 (rd x19_4 ((rd_T82 x13_2 x133_4).f0)) (ji50)))) (fun _ hk => trivial)⟩, ⟨by (with_reducible repeat (first | refine blk_drewN ?_ _ | refine blk_drew ?_ | refine blk_alloc ?_ _)); refine blk_far ?_ (by have h_ := Kd.R_ne HO_19.out BK170.out (by decide); intro e_; exact h_ (by rw [e_]; rfl)) _; (with_reducible repeat (first | refine blk_drewN ?_ _ | refine blk_drew ?_ | refine blk_alloc ?_ _)); exact BK170.out⟩, ⟨by repeat (first | (with_reducible first | exact HB.out | apply below_alloc | apply pw_below_drewN | apply below_drew1 | refine below_set ?_ GB51.out | refine below_set ?_ GE170.out | refine below_set ?_ GE190.out) | exact HB.out)⟩⟩
                       ·rw [if_neg c49] at H
                        exact absurd H (by simp)
                      ·rw [if_neg c47] at H
                       exact absurd H (by simp)
                     ·rw [if_neg c46] at H
                      exact absurd H (by simp)
                    ·rw [if_neg c45] at H
                     have c45b0 : decide (t166 < 64) = false := decide_eq_false c45
                     clear c45
                     have H' := Aside0.mk H
                     clear H
                     have p189 : 0 ≤ (x133_4 : Int) := of_decide_eq_true as_
                     have q189 : x133_4 < (x13_2.length : Int) := of_decide_eq_true as_
                     obtain ⟨ad189, e189, hx189_0, hx189_1⟩ := at_T82 (Kd.R_reads' HO_131.out).2.2 x133_4 p189 q189
                     cases e189
                     replace p189 := eq_true p189
                     replace q189 := eq_true q189
                     go_wp2_with (first | ((with_reducible refine gate_dst (N := 21) rfl ?_); (try (refine gate_guard (by rfl) ?_; dsimp only)); refine box_event ?hg (N := 21) ?hd (cs := #[.int .i64 0, .int .u64 0]) (t := 82) ?hr ?_; (case hd => rfl); (case hg => exact fs_); (case hr => first | (go_simp; done) | (go_simp; rfl)); intro gb190 hg w60 hbox hb; have n0_ := Aside0.mk (Kd.R_below (rb_ HO_19) hb); have n1_ := Aside0.mk (Kd.R_below (Kd.R_elderB (rb_ HO_131) gb190 (Nat.le_of_eq hg.symm)) hb); have n2_ := Aside0.mk (blk_below (g := gb170) (o := .cells #[.int .i64 t165, .int .i64 t166, .int .i64 t167, .int .i64 t168] 77 (0, 0)) (bk_ BK170) hb); have n3_ := Aside0.mk (below_step (bg_ HB GE170) hb); have n4_ := Aside0.mk (hbox); have n5_ := Aside0.mk ((by rw [hg]; exact (below_size (bg_ HB GE170)) : w.heap.size ≤ gb190)); have n6_ := Aside0.mk ((by rw [hg]; exact (below_size (bg_ HB GE170)) : w.heap.size ≤ gb190)); have n7_ := Aside0.mk ((by rw [hg]; exact Nat.ne_of_lt (blk_lt (g := gb170) (o := .cells #[.int .i64 t165, .int .i64 t166, .int .i64 t167, .int .i64 t168] 77 (0, 0)) (bk_ BK170)) : gb170 ≠ gb190)); have n8_ := Aside0.mk ((by rw [hg]; exact Nat.ne_of_gt (blk_lt (g := gb170) (o := .cells #[.int .i64 t165, .int .i64 t166, .int .i64 t167, .int .i64 t168] 77 (0, 0)) (bk_ BK170)) : gb190 ≠ gb170)); clear HO_19; clear HO_131; clear BK170; clear HB; have HO_19 := n0_; have HO_131 := n1_; have BK170 := n2_; have HB := n3_; have BK190 := n4_; have GW190 := n5_; have GE190 := n6_; have NB170_190 := n7_; have NB190_170 := n8_; clear n0_ n1_ n2_ n3_ n4_ n5_ n6_ n7_ n8_; clear hb hbox hg; have hnb61 := NB190_170.out; have hnc61 := NB170_190.out; have hcz62_0 : w60.cell? ⟨gb190, 0, none⟩ = some (.int .i64 0) := (blk_cell BK190.out 0).trans rfl; have hcz62_1 : w60.cell? ⟨gb190, 1, none⟩ = some (.int .u64 0) := (blk_cell BK190.out 1).trans rfl; have hfz62_0 := blk_frozen BK190.out 0; have hfz62_1 := blk_frozen BK190.out 1; have hcz63_0 : w60.cell? ⟨gb170, 0, none⟩ = some (.int .i64 t165) := (blk_cell BK170.out 0).trans rfl; have hcz63_1 : w60.cell? ⟨gb170, 1, none⟩ = some (.int .i64 t166) := (blk_cell BK170.out 1).trans rfl; have hcz63_2 : w60.cell? ⟨gb170, 2, none⟩ = some (.int .i64 t167) := (blk_cell BK170.out 2).trans rfl; have hcz63_3 : w60.cell? ⟨gb170, 3, none⟩ = some (.int .i64 t168) := (blk_cell BK170.out 3).trans rfl; have hfz63_0 := blk_frozen BK170.out 0; have hfz63_1 := blk_frozen BK170.out 1; have hfz63_2 := blk_frozen BK170.out 2; have hfz63_3 := blk_frozen BK170.out 3))
                     go_roundg k4
                     case measure => have := HJ3.out; have := HK2.out; have := HJ34.out; have := HK4.out; omega
                     case rel => exact ⟨(x19_4), (wrap64 (x133_4 + 1)), fr_, H', ⟨by have := HJ3.out; have := HK2.out; have := HJ34.out; have := HK4.out; omega⟩, ⟨by (with_reducible repeat (first | apply Kd.R_alloc | apply Kd.R_drewN | apply Kd.R_drew)); exact Kd.R_mono (Kd.R_far (p := ⟨gb190, 1, none⟩) (Kd.R_far (p := ⟨gb190, 0, none⟩) (Kd.R_types HO_19.out BK190.out (by decide)) (fun _ hk => hk.2) (.int .i64 ((rd_T82 x13_2 x133_4).f0))) (fun _ hk => hk.2) (.int .u64 ((rd_T82 x13_2 x133_4).f1))) (fun _ hk => trivial)⟩, ⟨by (with_reducible repeat (first | apply Kd.R_alloc | apply Kd.R_drewN | apply Kd.R_drew)); exact Kd.R_mono (Kd.R_far (p := ⟨gb190, 1, none⟩) (Kd.R_far (p := ⟨gb190, 0, none⟩) (Kd.R_mono HO_131.out (fun k_ hk => (⟨hk, hk.2⟩ : _ ∧ k_ ≠ gb190))) (fun _ hk => hk.2) (.int .i64 ((rd_T82 x13_2 x133_4).f0))) (fun _ hk => hk.2) (.int .u64 ((rd_T82 x13_2 x133_4).f1))) (fun _ hk => trivial)⟩, ⟨by (with_reducible repeat (first | refine blk_drewN ?_ _ | refine blk_drew ?_ | refine blk_alloc ?_ _)); refine blk_far ?_ NB170_190.out _; (with_reducible repeat (first | refine blk_drewN ?_ _ | refine blk_drew ?_ | refine blk_alloc ?_ _)); refine blk_far ?_ NB170_190.out _; (with_reducible repeat (first | refine blk_drewN ?_ _ | refine blk_drew ?_ | refine blk_alloc ?_ _)); exact BK170.out⟩, ⟨by repeat (first | (with_reducible first | exact HB.out | apply below_alloc | apply pw_below_drewN | apply below_drew1 | refine below_set ?_ GE170.out | refine below_set ?_ GE190.out) | exact HB.out)⟩⟩
                   ·rw [if_neg c44] at H
                    exact absurd H (by simp)
                  ·rw [if_neg c43] at H
                   exact absurd H (by simp)
                 ·rw [if_neg c42] at H
                  have c42b0 : decide (x133_4 < (x13_2.length : Int)) = false := decide_eq_false c42
                  clear c42
                  by_cases c64 : 0 ≤ a2
                  ·rw [if_pos c64] at H
                   have c64b0 := eq_true c64
                   have c64b1 : decide (0 ≤ a2) = true := decide_eq_true c64
                   clear c64
                   by_cases c65 : (a2 : Int).toNat ≤ 35184372088832
                   ·rw [if_pos c65] at H
                    have c65b0 := eq_true c65
                    have c65b1 : decide ((a2 : Int).toNat ≤ 35184372088832) = true := decide_eq_true c65
                    clear c65
                    obtain ⟨y193, hy193⟩ : ∃ y_ : List Int, y_ = (List.replicate (a2 : Int).toNat 0) := ⟨_, rfl⟩
                    replace H : (frameref_Decode.l2 k4 l0 a1 x12_2 y193 x19_4 (x19_4.length : Int) 0 t165 t166 t167 t168) = some (r1, r2, r3) := hx_ hy193 H
                    have Ny193 := Aside0.mk hy193
                    clear hy193
                    have H' := Aside0.mk H
                    clear H
                    go_wp2_with (first | ((with_reducible refine gate_dst (N := 155) rfl ?_); (try (refine gate_guard (by rfl) ?_; dsimp only)); refine Kd.R_make (Kd.int .i64) _ 2 rfl (N := 155) rfl 38 _ _ rfl a2 rfl rfl Try.underlying38 (.int .i64 0) 8 info2 rfl (by decide) (by omega) 0 (ok := fun _ => True) (okp := fun _ => True) rfl (fun _ hk => hk) trivial (of_decide_eq_true as_) (Nat.le_trans (Nat.mul_le_mul_right _ (of_decide_eq_true as_ : a2.toNat ≤ 35184372088832)) (by omega)) (Below.refl _ _) (Nat.le_refl _) ?_; intro v194 w66 ho67 hb hg_ hnew_; clear hg_ hnew_; (first | rw [← Ny193.out] at ho67 | (simp only [Int.reduceToNat] at ho67; rw [← Ny193.out] at ho67)); have n0_ := Aside0.mk (Kd.R_below (rb_ HO_19) hb); have n1_ := Aside0.mk (Kd.R_below (rb_ HO_131) hb); have n2_ := Aside0.mk (Kd.R_lower ho67 (below_size (bg_ HB GE170))); have n3_ := Aside0.mk (blk_below (g := gb170) (o := .cells #[.int .i64 t165, .int .i64 t166, .int .i64 t167, .int .i64 t168] 77 (0, 0)) (bk_ BK170) hb); have n4_ := Aside0.mk (below_step (bg_ HB GE170) hb); clear HO_19; clear HO_131; clear BK170; clear HB; have HO_19 := n0_; have HO_131 := n1_; have HO195 := n2_; have BK170 := n3_; have HB := n4_; clear n0_ n1_ n2_ n3_ n4_; clear hb ho67; obtain ⟨Ao68, co68, eo68⟩ := Kd.R_slice HO_19.out; subst eo68))
                    go_loopg [158] k4 (fun kq v158 w' => ∃ (x22_5 : List Int) (x158_5 : Int), v158 = .int .i64 x158_5 ∧ Aside0 (frameref_Decode.l2 kq l0 a1 x12_2 x22_5 x19_4 (x19_4.length : Int) x158_5 t165 t166 t167 t168 = some (r1, r2, r3)) ∧ Aside0 (kq ≤ k4) ∧ Aside0 (Kd.R (Kd.int .i64) 2 w' w.heap.size (fun _ => True) v194 x22_5) ∧ Aside0 (Kd.R (Kd.int .u64) 35 w' w.heap.size (fun _ => True) (.slice Ao68 x19_4.length co68) x19_4) ∧ Aside0 (w'.heap[gb170]? = some (.cells #[.int .i64 t165, .int .i64 t166, .int .i64 t167, .int .i64 t168] 77 (0, 0))) ∧ Aside0 (Below w.heap.size w w'))
                    case atStart => exact ⟨(y193), (0), fr_, H', ⟨Nat.le_refl _⟩, ⟨by (with_reducible repeat (first | apply Kd.R_alloc | apply Kd.R_drewN | apply Kd.R_drew)); exact HO195.out⟩, ⟨by (with_reducible repeat (first | apply Kd.R_alloc | apply Kd.R_drewN | apply Kd.R_drew)); exact HO_19.out⟩, ⟨by (with_reducible repeat (first | refine blk_drewN ?_ _ | refine blk_drew ?_ | refine blk_alloc ?_ _)); exact BK170.out⟩, ⟨by repeat (first | (with_reducible first | exact HB.out | apply below_alloc | apply pw_below_drewN | apply below_drew1 | refine below_set ?_ GE170.out) | exact HB.out)⟩⟩
                    case round =>
                     clear H'
                     try clear c1
                     try clear p1
                     try clear q1
                     try clear hx1
                     try clear c2
                     try clear p2
                     try clear c3
                     try clear c4
                     try clear c5
                     try clear c5b0
                     try clear p5
                     try clear q5
                     try clear hx5
                     try clear hf5
                     try clear c6
                     try clear c6b0
                     try clear p6
                     try clear c7
                     try clear c7b0
                     try clear c8
                     try clear c10
                     try clear c10b0
                     try clear c10b1
                     try clear c12
                     try clear c12b0
                     try clear p18
                     try clear q18
                     try clear hx18
                     try clear c19
                     try clear c19b0
                     try clear p19
                     try clear q19
                     try clear hx19
                     try clear c21
                     try clear c21b0
                     try clear c21b1
                     try clear c23
                     try clear c23b0
                     try clear c23b1
                     try clear c24
                     try clear c25
                     try clear c26
                     try clear c29
                     try clear c31
                     try clear c31b0
                     try clear c31b1
                     try clear c32
                     try clear c32b0
                     try clear c32b1
                     try clear c33
                     try clear c33b0
                     try clear c33b1
                     try clear c36
                     try clear c39
                     try clear c39b0
                     try clear c39b1
                     try clear c40
                     try clear c42
                     try clear c42b0
                     try clear c43
                     try clear c43b0
                     try clear c44
                     try clear c44b0
                     try clear c45
                     try clear c45b0
                     try clear c46
                     try clear c46b0
                     try clear c47
                     try clear c47b0
                     try clear c49
                     try clear c49b0
                     try clear c49b1
                     try clear p51
                     try clear q51
                     try clear hx51
                     try clear hf51
                     try clear c53
                     try clear c61
                     try clear c64
                     try clear c64b0
                     try clear c64b1
                     try clear p64
                     try clear c65
                     try clear c65b0
                     try clear c65b1
                     try clear hcz15_0
                     try clear hcz15_1
                     try clear hcz15_2
                     try clear hcz15_3
                     try clear hcz18_0
                     try clear hcz18_1
                     try clear hcz18_2
                     try clear hcz18_3
                     try clear hcz54_0
                     try clear hcz54_1
                     try clear hcz55_0
                     try clear hcz55_1
                     try clear hcz55_2
                     try clear hcz55_3
                     try clear hcz62_0
                     try clear hcz62_1
                     try clear hcz63_0
                     try clear hcz63_1
                     try clear hcz63_2
                     try clear hcz63_3
                     try clear hfz15_0
                     try clear hfz15_1
                     try clear hfz15_2
                     try clear hfz15_3
                     try clear hfz18_0
                     try clear hfz18_1
                     try clear hfz18_2
                     try clear hfz18_3
                     try clear hfz54_0
                     try clear hfz54_1
                     try clear hfz55_0
                     try clear hfz55_1
                     try clear hfz55_2
                     try clear hfz55_3
                     try clear hfz62_0
                     try clear hfz62_1
                     try clear hfz63_0
                     try clear hfz63_1
                     try clear hfz63_2
                     try clear hfz63_3
                     try clear hx189_0
                     try clear hx189_1
                     try clear hx191_0
                     try clear hx51_0
                     try clear p189
                     try clear p191
                     try clear p2
                     try clear p51
                     try clear p6
                     try clear q189
                     try clear q191
                     try clear q51
                     obtain ⟨x22_5, x158_5, rfl, HA, HK5, HO_22, HO_156, BK170, HB⟩ := hrel
                     cases gk with
                     | zero => exact absurd HA.out (by simp [frameref_Decode.l2])
                     | succ k5 =>
                      have H := HA.out
                      clear HA
                      simp only [frameref_Decode.l2] at H
                      by_cases c69 : x158_5 < (x19_4.length : Int)
                      ·rw [if_pos c69] at H
                       have c69b0 : decide (x158_5 < (x19_4.length : Int)) = true := decide_eq_true c69
                       clear c69
                       by_cases c70 : 0 ≤ x158_5
                       ·rw [if_pos c70] at H
                        have c70b0 : decide (0 ≤ x158_5) = true := decide_eq_true c70
                        clear c70
                        by_cases c71 : x158_5 < (x19_4.length : Int)
                        ·rw [if_pos c71] at H
                         have c71b0 : decide (x158_5 < (x19_4.length : Int)) = true := decide_eq_true c71
                         clear c71
                         by_cases c72 : x158_5 < (x22_5.length : Int)
                         ·rw [if_pos c72] at H
                          have c72b0 : decide (x158_5 < (x22_5.length : Int)) = true := decide_eq_true c72
                          clear c72
                          obtain ⟨y197, hy197⟩ : ∃ y_ : List Int, y_ = (x22_5.set (x158_5 : Int).toNat (wrap64 (IntKind.u64.wrap ((IntKind.u64.wrap (t165)) + (rd x19_4 x158_5))))) := ⟨_, rfl⟩
                          replace H : (frameref_Decode.l2 k5 l0 a1 x12_2 y197 x19_4 (x19_4.length : Int) (wrap64 (x158_5 + 1)) t165 t166 t167 t168) = some (r1, r2, r3) := hx_ hy197 H
                          have Ny197 := Aside0.mk hy197
                          clear hy197
                          have H' := Aside0.mk H
                          clear H
                          have p196 : 0 ≤ (x158_5 : Int) := of_decide_eq_true as_
                          have q196 : x158_5 < (x19_4.length : Int) := of_decide_eq_true as_
                          obtain ⟨ad196, e196, hx196_0⟩ := Kd.at_int (Kd.R_reads' HO_156.out).2.2 x158_5 p196 q196
                          cases e196
                          replace p196 := eq_true p196
                          replace q196 := eq_true q196
                          have hcz74_0 : wr.cell? ⟨gb170, 0, none⟩ = some (.int .i64 t165) := (blk_cell BK170.out 0).trans rfl
                          have hcz74_1 : wr.cell? ⟨gb170, 1, none⟩ = some (.int .i64 t166) := (blk_cell BK170.out 1).trans rfl
                          have hcz74_2 : wr.cell? ⟨gb170, 2, none⟩ = some (.int .i64 t167) := (blk_cell BK170.out 2).trans rfl
                          have hcz74_3 : wr.cell? ⟨gb170, 3, none⟩ = some (.int .i64 t168) := (blk_cell BK170.out 3).trans rfl
                          have hfz74_0 := blk_frozen BK170.out 0
                          have hfz74_1 := blk_frozen BK170.out 1
                          have hfz74_2 := blk_frozen BK170.out 2
                          have hfz74_3 := blk_frozen BK170.out 3
                          have p73 : 0 ≤ (x158_5 : Int) := of_decide_eq_true as_
                          have q73 : (x158_5 : Int) < ((x22_5.length : Int) : Int) := of_decide_eq_true as_
                          obtain ⟨go73, co73, eo73, gb73, gl73, cl73, HG73⟩ := Kd.R_form HO_22.out (by omega)
                          (first | cases eo73 | (injection eo73 with ea_ en_ ec_; (first | subst ea_ | (injection ea_ with ea_; subst ea_)); subst ec_; clear en_))
                          have GB73 := Aside0.mk gb73
                          have GG73 := Aside0.mk HG73
                          clear gb73 gl73 HG73
                          obtain ⟨hx73_0, hf73_0⟩ := Kd.R_celln 0 HO_22.out (x158_5 : Int) p73 q73
                          replace p73 := eq_true p73
                          replace q73 := eq_true q73
                          have HP75 := Kd.R_putg HO_22.out (x158_5 : Int) (wrap64 (IntKind.u64.wrap ((IntKind.u64.wrap (t165)) + (rd x19_4 x158_5))))
                          go_wp2_with (first | ((with_reducible refine gate_store (t := 2) (p := 171) rfl ?_); refine store_event (t := 2) (p := 171) (v := ?vo_w76) (w1 := (wr.setCell ⟨go73, (x158_5 : Int).toNat, none⟩ (.int .i64 (wrap64 (IntKind.u64.wrap ((IntKind.u64.wrap (t165)) + (rd x19_4 x158_5))))))) ?hg ?ho ?hn ?hr ?_; (case ho => rfl); (case hg => exact fs_); (case hn => rfl); (case hr => first | (go_simp; done) | (go_simp; rfl)); intro w76 hw; have hg : wr.grownBy w76 (some go73) := (by rw [hw]; exact HP75.2); have hp_ : Kd.R (Kd.int .i64) 2 w76 w.heap.size (fun _ => True) (.slice (some ⟨go73, 0, none⟩) x22_5.length co73) y197 := (by rw [hw, Ny197.out]; exact HP75.1); clear HP75; have n0_ := Aside0.mk (hp_); have n1_ := Aside0.mk (Kd.R_over' (v := (.slice (some ⟨go73, 0, none⟩) x22_5.length co73)) (rb_ HO_156) (Kd.R_typed HO_22.out) (by decide) hg); have n2_ := Aside0.mk (blk_grown (g := gb170) (o := .cells #[.int .i64 t165, .int .i64 t166, .int .i64 t167, .int .i64 t168] 77 (0, 0)) (bk_ BK170) hg (Kd.R_ne HO_22.out BK170.out (by decide))); have n3_ := Aside0.mk ((by rw [hw]; exact below_set (HB.out) GB73.out : Below w.heap.size w w76)); clear HO_22; clear HO_156; clear BK170; clear HB; have HO_22 := n0_; have HO_156 := n1_; have BK170 := n2_; have HB := n3_; clear n0_ n1_ n2_ n3_; clear hg hw hp_))
                          go_roundg k5
                          case measure => have := HJ3.out; have := HK2.out; have := HJ34.out; have := HK4.out; have := HK5.out; omega
                          case rel => exact ⟨(y197), (wrap64 (x158_5 + 1)), fr_, H', ⟨by have := HJ3.out; have := HK2.out; have := HJ34.out; have := HK4.out; have := HK5.out; omega⟩, ⟨by (with_reducible repeat (first | apply Kd.R_alloc | apply Kd.R_drewN | apply Kd.R_drew)); exact HO_22.out⟩, ⟨by (with_reducible repeat (first | apply Kd.R_alloc | apply Kd.R_drewN | apply Kd.R_drew)); exact HO_156.out⟩, ⟨by (with_reducible repeat (first | refine blk_drewN ?_ _ | refine blk_drew ?_ | refine blk_alloc ?_ _)); exact BK170.out⟩, ⟨by repeat (first | (with_reducible first | exact HB.out | apply below_alloc | apply pw_below_drewN | apply below_drew1 | refine below_set ?_ GE170.out) | exact HB.out)⟩⟩
                         ·rw [if_neg c72] at H
                          exact absurd H (by simp)
                        ·rw [if_neg c71] at H
                         exact absurd H (by simp)
                       ·rw [if_neg c70] at H
                        exact absurd H (by simp)
                      ·rw [if_neg c69] at H
                       have c69b0 : decide (x158_5 < (x19_4.length : Int)) = false := decide_eq_false c69
                       clear c69
                       replace H := Option.bind_eq_some_iff.mp H
                       obtain ⟨t198, A770, H⟩ := H
                       try dsimp only at H
                       have A77 := Aside0.mk A770
                       clear A770
                       by_cases c78 : 0 ≤ a1
                       ·rw [if_pos c78] at H
                        have c78b0 := eq_true c78
                        have c78b1 : decide (0 ≤ a1) = true := decide_eq_true c78
                        clear c78
                        by_cases c79 : a1 ≤ x12_2
                        ·rw [if_pos c79] at H
                         have c79b0 := eq_true c79
                         have c79b1 : decide (a1 ≤ x12_2) = true := decide_eq_true c79
                         clear c79
                         by_cases c80 : x12_2 ≤ (l0.length : Int)
                         ·rw [if_pos c80] at H
                          have c80b0 := eq_true c80
                          have c80b1 : decide (x12_2 ≤ (l0.length : Int)) = true := decide_eq_true c80
                          clear c80
                          by_cases c81 : (strOfNums t198).toList = (strOfNums ((l0.take (x12_2 : Int).toNat).drop (a1 : Int).toNat)).toList
                          ·rw [if_pos c81] at H
                           have c81b0 : ((strOfNums t198).toList == (strOfNums ((l0.take (x12_2 : Int).toNat).drop (a1 : Int).toNat)).toList) = true := beq_iff_eq.mpr c81
                           have c81b1 : ((strOfNums t198).toList != (strOfNums ((l0.take (x12_2 : Int).toNat).drop (a1 : Int).toNat)).toList) = false := bne_eq_false_iff_eq.mpr c81
                           clear c81
                           simp only [Option.some.injEq, Prod.mk.injEq] at H
                           obtain ⟨rfl, rfl, rfl⟩ := H
                           obtain ⟨Ao82, co82, eo82⟩ := Kd.R_slice HO_22.out
                           subst eo82
                           try go_wp2_with (first | ((with_reducible refine gate_callee (f := 41) rfl ?_); refine goesL_ (some 174) rfl rfl Try.func41 (by kernel_rfl) rfl #[.slice Ao82 x22_5.length co82] rfl ma_ ?_; (with_reducible refine (frameref_Encode.calls _ _ x22_5 t198 _ ?side1 ?side2 A77.out).mono ?_); (case side1 => exact ca_ (Kd.R_reads' HO_22.out).2.2); (case side2 => exact (Kd.R_reads' HO_22.out).2.1); rintro e w83 ⟨v199, rfl, ho0, hb⟩; refine ⟨_, rfl, ?_⟩; have n0_ := Aside0.mk (Kd.R_below (rb_ HO_22) hb); have n1_ := Aside0.mk (Kd.R_below (rb_ HO_156) hb); have n2_ := Aside0.mk (Kd.R_lower ho0 (below_size (bg_ HB GE170))); have n3_ := Aside0.mk (blk_below (g := gb170) (o := .cells #[.int .i64 t165, .int .i64 t166, .int .i64 t167, .int .i64 t168] 77 (0, 0)) (bk_ BK170) hb); have n4_ := Aside0.mk (below_step (bg_ HB GE170) hb); clear HO_22; clear HO_156; clear BK170; clear HB; have HO_22 := n0_; have HO_156 := n1_; have HO200 := n2_; have BK170 := n3_; have HB := n4_; clear n0_ n1_ n2_ n3_ n4_; (try clear hb); (try clear hb2); (try clear hk); (try clear hi); (try clear ho0)))
                           have n0_ := Aside0.mk (Kd.R_drew HO_22.out)
                           have n1_ := Aside0.mk (Kd.R_drew HO_156.out)
                           have n2_ := Aside0.mk (Kd.R_drew HO200.out)
                           have n3_ := Aside0.mk (blk_drew BK170.out)
                           have n4_ := Aside0.mk (below_drew1 HB.out)
                           clear HO_22
                           clear HO_156
                           clear HO200
                           clear BK170
                           clear HB
                           have HO_22 := n0_
                           have HO_156 := n1_
                           have HO200 := n2_
                           have BK170 := n3_
                           have HB := n4_
                           clear n0_ n1_ n2_ n3_ n4_
                           obtain ⟨i085, hi085, _, hsz85, _⟩ := info_parts info5
                           obtain ⟨A85, hcut85, hA85, hC85⟩ := print_mid_of (P := Try.prog) (Value.int .u8) 0 26 5 .i64 .i64 Try.underlying26 hi085 hsz85 A0 c0 l0 a1 x12_2 (of_decide_eq_true as_) (by first | omega | exact of_decide_eq_true as_) (of_decide_eq_true as_) HC0.out
                           have HR201 := Aside0.mk (Kd.C_of_reads (h1 := fun _ => rfl) (hA85 _ (Kd.reads_of_C HR0.out)))
                           have HC201 := Aside0.mk hC85
                           clear hA85 hC85 hi085 hsz85
                           refine start_ (n := 8) (S := fun w' => True) (ds := []) #[false, false, false, false, false, false, false, false] (by kernel_rfl) rfl rfl trivial (fun hHeld => ?_); refine with_tabW frameref_Decode.tab40 frameref_Decode.bits40 (fun HT_ HW_ => ?_)
                           generalize w83.drew = w84 at HO_22 HO_156 HO200 BK170 HB HR201 hHeld ⊢
                           refine pure_ (i := 0) (N := some 175) (v := ?_) (a' := ?_) #[true, false, false, false, false, false, false, false] rfl rfl (any_of HT_.out (by kernel_rfl)) (fun _ _ _ h => h) (Or.inl ⟨by (first | rfl | (simp only [*]; rfl) | (simp [*]; done)), ?_⟩) ?_ ?_
                           rotate_left
                           ·intro w'
                            go_simp
                            with_reducible rfl
                           rotate_left
                           ·simp only [Act.put, List.setIfInBounds_toArray, List.set_cons_zero, List.set_cons_succ, i64_w, i32_w]
                            rfl
                           refine pure_ (i := 2) (N := some 177) (v := ?_) (a' := ?_) #[true, false, true, false, false, false, false, false] rfl rfl (any_of HT_.out (by kernel_rfl)) (fun _ _ _ h => h) (Or.inl ⟨by (first | rfl | (simp only [*]; rfl) | (simp [*]; done)), ?_⟩) ?_ ?_
                           rotate_left
                           ·intro w'
                            go_simp
                            with_reducible rfl
                           rotate_left
                           ·simp only [Act.put, List.setIfInBounds_toArray, List.set_cons_zero, List.set_cons_succ, i64_w, i32_w]
                            rfl
                           refine pure_ (i := 3) (N := some 178) (v := ?_) (a' := ?_) #[true, false, true, true, false, false, false, false] rfl rfl (any_of HT_.out (by kernel_rfl)) (fun _ _ _ h => h) (Or.inl ⟨by (first | rfl | (simp only [*]; rfl) | (simp [*]; done)), ?_⟩) ?_ ?_
                           rotate_left
                           ·intro w'
                            go_simp
                            with_reducible rfl
                           rotate_left
                           ·simp only [Act.put, List.setIfInBounds_toArray, List.set_cons_zero, List.set_cons_succ, i64_w, i32_w]
                            rfl
                           refine pure_ (i := 4) (N := some 179) (v := ?_) (a' := ?_) #[true, false, true, true, true, false, false, false] rfl rfl (any_of HT_.out (by kernel_rfl)) (fun _ _ _ h => h) (Or.inl ⟨by (first | rfl | (simp only [*]; rfl) | (simp [*]; done)), ?_⟩) ?_ ?_
                           rotate_left
                           ·intro w'
                            go_simp
                            with_reducible rfl
                           rotate_left
                           ·simp only [Act.put, List.setIfInBounds_toArray, List.set_cons_zero, List.set_cons_succ, i64_w, i32_w]
                            rfl
                           refine pure_ (i := 5) (N := some 180) (v := ?_) (a' := ?_) #[true, false, true, true, true, true, false, false] rfl rfl (any_of HT_.out (by kernel_rfl)) (fun _ _ _ h => h) (Or.inl ⟨by (first | rfl | (simp only [*]; rfl) | (simp [*]; done)), ?_⟩) ?_ ?_
                           rotate_left
                           ·intro w'
                            go_simp
                            with_reducible rfl
                           rotate_left
                           ·simp only [Act.put, List.setIfInBounds_toArray, List.set_cons_zero, List.set_cons_succ, i64_w, i32_w]
                            rfl
                           refine join_ (σ := Unit) 1 #[true, true, true, true, true, true, true, false] (fun s_ => [(176, .string (strOfNums t198)), (181, .string (strOfNums ((l0.take (x12_2 : Int).toNat).drop (a1 : Int).toNat)))]) (fun s_ w' => (Kd.R (Kd.int .u8) 5 w' w.heap.size (fun _ => True) v199 t198) ∧ (Kd.R (Kd.int .u64) 35 w' w.heap.size (fun _ => True) (.slice Ao68 x19_4.length co68) x19_4) ∧ (Kd.R (Kd.int .i64) 2 w' w.heap.size (fun _ => True) (.slice Ao82 x22_5.length co82) x22_5) ∧ (w'.heap[gb170]? = some (.cells #[.int .i64 t165, .int .i64 t166, .int .i64 t167, .int .i64 t168] 77 (0, 0))) ∧ (Below w.heap.size w w')) ?_ ?_
                           rotate_left
                           ·intro hCont
                            refine two_ (i := 1) (j := 6) (Ni := some 176) (Nj := some 181) #[true, true, true, true, true, true, false, false] #[true, false, true, true, true, true, true, false] rfl rfl rfl rfl (two_of HT_.out (by kernel_rfl)) (by decide) (by decide) (fun K hK => ?_) (fun K hK => ?_)
                            ·skip
                             have hcv86 := own_string (P := Try.prog) Try.underlying26 Try.underlying5 Try.underlying9 (Kd.own_of_R HO200.out); have hcv86d := fun m_ => own_string (P := Try.prog) Try.underlying26 Try.underlying5 Try.underlying9 (Kd.own_of_R (Kd.R_drewN HO200.out m_))
                             refine value_ (w1 := ?_) (v := ?_) (by rfl) rfl ?_ ?_
                             rotate_left 2
                             ·go_simp
                              constructor
                              ·rfl
                              ·rfl
                             clear hcv86 hcv86d
                             refine hK.out _ _ trivial (fun hHeld => ?_)
                             clear hK K
                             refine norm_ (a' := ?_) ?_ ?_
                             rotate_left
                             ·show Act.put _ (some 176) _ = _
                              simp only [Act.put, List.setIfInBounds_toArray, List.set_cons_zero, List.set_cons_succ, i64_w, i32_w]
                              rfl
                             refine one_ (i := 6) (N := some 181) #[true, true, true, true, true, true, true, false] rfl rfl (one_of HT_.out (by kernel_rfl)) (by decide) (fun K hK => ?_)
                             have hcv87 := Kd.C_string (P := Try.prog) (A := A85) (c := (c0 - a1.toNat)) Try.underlying26 Try.underlying5 Try.underlying9 (Kd.C_below HR201.out HB.out); (rw [show ((l0.take (x12_2 : Int).toNat).drop (a1 : Int).toNat).length = (x12_2.toNat - a1.toNat) from (by rw [List.length_drop, List.length_take]; have h_ : (x12_2 : Int) ≤ (l0.length : Int) := of_decide_eq_true as_; omega)] at hcv87); have hcv87d := fun m_ => Kd.C_string (P := Try.prog) (A := A85) (c := (c0 - a1.toNat)) Try.underlying26 Try.underlying5 Try.underlying9 (Kd.C_drewN (Kd.C_below HR201.out HB.out) m_); (rw [show ((l0.take (x12_2 : Int).toNat).drop (a1 : Int).toNat).length = (x12_2.toNat - a1.toNat) from (by rw [List.length_drop, List.length_take]; have h_ : (x12_2 : Int) ≤ (l0.length : Int) := of_decide_eq_true as_; omega)] at hcv87d)
                             refine value_ (w1 := ?_) (v := ?_) (by rfl) rfl ?_ ?_
                             rotate_left 2
                             ·go_simp
                              constructor
                              ·rfl
                              ·rfl
                             clear hcv87 hcv87d
                             refine hK.out _ _ trivial (fun hHeld => ?_)
                             clear hK K
                             refine norm_ (a' := ?_) ?_ ?_
                             rotate_left
                             ·show Act.put _ (some 181) _ = _
                              simp only [Act.put, List.setIfInBounds_toArray, List.set_cons_zero, List.set_cons_succ, i64_w, i32_w]
                              rfl
                             exact norm_ (by simp only [putAll, Act.put, List.setIfInBounds_toArray, List.set_cons_zero, List.set_cons_succ]) (hCont () _ ⟨(rb_ HO200), (rb_ HO_156), (rb_ HO_22), (bk_ BK170), (bg_ HB GE170)⟩)
                            ·skip
                             have hcv86 := Kd.C_string (P := Try.prog) (A := A85) (c := (c0 - a1.toNat)) Try.underlying26 Try.underlying5 Try.underlying9 (Kd.C_below HR201.out HB.out); (rw [show ((l0.take (x12_2 : Int).toNat).drop (a1 : Int).toNat).length = (x12_2.toNat - a1.toNat) from (by rw [List.length_drop, List.length_take]; have h_ : (x12_2 : Int) ≤ (l0.length : Int) := of_decide_eq_true as_; omega)] at hcv86); have hcv86d := fun m_ => Kd.C_string (P := Try.prog) (A := A85) (c := (c0 - a1.toNat)) Try.underlying26 Try.underlying5 Try.underlying9 (Kd.C_drewN (Kd.C_below HR201.out HB.out) m_); (rw [show ((l0.take (x12_2 : Int).toNat).drop (a1 : Int).toNat).length = (x12_2.toNat - a1.toNat) from (by rw [List.length_drop, List.length_take]; have h_ : (x12_2 : Int) ≤ (l0.length : Int) := of_decide_eq_true as_; omega)] at hcv86d)
                             refine value_ (w1 := ?_) (v := ?_) (by rfl) rfl ?_ ?_
                             rotate_left 2
                             ·go_simp
                              constructor
                              ·rfl
                              ·rfl
                             clear hcv86 hcv86d
                             refine hK.out _ _ trivial (fun hHeld => ?_)
                             clear hK K
                             refine norm_ (a' := ?_) ?_ ?_
                             rotate_left
                             ·show Act.put _ (some 181) _ = _
                              simp only [Act.put, List.setIfInBounds_toArray, List.set_cons_zero, List.set_cons_succ, i64_w, i32_w]
                              rfl
                             refine one_ (i := 1) (N := some 176) #[true, true, true, true, true, true, true, false] rfl rfl (one_of HT_.out (by kernel_rfl)) (by decide) (fun K hK => ?_)
                             have hcv87 := own_string (P := Try.prog) Try.underlying26 Try.underlying5 Try.underlying9 (Kd.own_of_R HO200.out); have hcv87d := fun m_ => own_string (P := Try.prog) Try.underlying26 Try.underlying5 Try.underlying9 (Kd.own_of_R (Kd.R_drewN HO200.out m_))
                             refine value_ (w1 := ?_) (v := ?_) (by rfl) rfl ?_ ?_
                             rotate_left 2
                             ·go_simp
                              constructor
                              ·rfl
                              ·rfl
                             clear hcv87 hcv87d
                             refine hK.out _ _ trivial (fun hHeld => ?_)
                             clear hK K
                             refine norm_ (a' := ?_) ?_ ?_
                             rotate_left
                             ·show Act.put _ (some 176) _ = _
                              simp only [Act.put, List.setIfInBounds_toArray, List.set_cons_zero, List.set_cons_succ, i64_w, i32_w]
                              rfl
                             exact norm_ (by simp only [putAll, Act.put, List.setIfInBounds_toArray, List.set_cons_zero, List.set_cons_succ]) (hCont () _ ⟨(rb_ HO200), (rb_ HO_156), (rb_ HO_22), (bk_ BK170), (bg_ HB GE170)⟩)
                           rintro _ w88 ⟨h0_, h1_, h2_, h3_, h4_⟩
                           have n0_ : Aside0 (Kd.R (Kd.int .u8) 5 w88 w.heap.size (fun _ => True) v199 t198) := ⟨h0_⟩
                           have n1_ : Aside0 (Kd.R (Kd.int .u64) 35 w88 w.heap.size (fun _ => True) (.slice Ao68 x19_4.length co68) x19_4) := ⟨h1_⟩
                           have n2_ : Aside0 (Kd.R (Kd.int .i64) 2 w88 w.heap.size (fun _ => True) (.slice Ao82 x22_5.length co82) x22_5) := ⟨h2_⟩
                           have n3_ : Aside0 (w88.heap[gb170]? = some (.cells #[.int .i64 t165, .int .i64 t166, .int .i64 t167, .int .i64 t168] 77 (0, 0))) := ⟨h3_⟩
                           have n4_ : Aside0 (Below w.heap.size w w88) := ⟨h4_⟩
                           clear HO_22
                           clear HO_156
                           clear HO200
                           clear BK170
                           clear HB
                           clear h0_ h1_ h2_ h3_ h4_
                           have HO200 := n0_
                           have HO_156 := n1_
                           have HO_22 := n2_
                           have BK170 := n3_
                           have HB := n4_
                           clear n0_ n1_ n2_ n3_ n4_
                           have hHeld := trivial
                           refine norm_ (a' := ?_) ?_ ?_
                           rotate_left
                           ·simp only [putAll, Act.put, List.setIfInBounds_toArray, List.set_cons_zero, List.set_cons_succ]
                            rfl
                           refine pure_ (i := 7) (N := some 182) (v := ?_) (a' := ?_) #[true, true, true, true, true, true, true, true] rfl rfl (any_of HT_.out (by kernel_rfl)) (fun _ _ _ h => h) (Or.inl ⟨by (first | rfl | (simp only [*]; rfl) | (simp [*]; done)), ?_⟩) ?_ ?_
                           rotate_left
                           ·intro w'
                            go_simp
                            with_reducible rfl
                           rotate_left
                           ·simp only [Act.put, List.setIfInBounds_toArray, List.set_cons_zero, List.set_cons_succ, i64_w, i32_w]
                            rfl
                           refine done_ (done_of HT_.out (by kernel_rfl)) ?_
                           try go_wp2
                           go_ret3
                           exact ⟨_, er_, by (with_reducible repeat (first | apply Kd.R_alloc | apply Kd.R_drewN | apply Kd.R_drew)); exact HO_22.out, by repeat (first | (with_reducible first | exact HB.out | apply below_alloc | apply pw_below_drewN | apply below_drew1 | refine below_set ?_ GE170.out) | exact HB.out)⟩
                          ·rw [if_neg c81] at H
                           have c81b0 : ((strOfNums t198).toList == (strOfNums ((l0.take (x12_2 : Int).toNat).drop (a1 : Int).toNat)).toList) = false := beq_eq_false_iff_ne.mpr c81
                           have c81b1 : ((strOfNums t198).toList != (strOfNums ((l0.take (x12_2 : Int).toNat).drop (a1 : Int).toNat)).toList) = true := bne_iff_ne.mpr c81
                           simp only [Option.some.injEq, Prod.mk.injEq] at H
                           obtain ⟨rfl, rfl, rfl⟩ := H
                           obtain ⟨Ao89, co89, eo89⟩ := Kd.R_slice HO_22.out
                           subst eo89
                           try go_wp2_with (first | ((with_reducible refine gate_callee (f := 41) rfl ?_); refine goesL_ (some 174) rfl rfl Try.func41 (by kernel_rfl) rfl #[.slice Ao89 x22_5.length co89] rfl ma_ ?_; (with_reducible refine (frameref_Encode.calls _ _ x22_5 t198 _ ?side1 ?side2 A77.out).mono ?_); (case side1 => exact ca_ (Kd.R_reads' HO_22.out).2.2); (case side2 => exact (Kd.R_reads' HO_22.out).2.1); rintro e w90 ⟨v199, rfl, ho0, hb⟩; refine ⟨_, rfl, ?_⟩; have n0_ := Aside0.mk (Kd.R_below (rb_ HO_22) hb); have n1_ := Aside0.mk (Kd.R_below (rb_ HO_156) hb); have n2_ := Aside0.mk (Kd.R_lower ho0 (below_size (bg_ HB GE170))); have n3_ := Aside0.mk (blk_below (g := gb170) (o := .cells #[.int .i64 t165, .int .i64 t166, .int .i64 t167, .int .i64 t168] 77 (0, 0)) (bk_ BK170) hb); have n4_ := Aside0.mk (below_step (bg_ HB GE170) hb); clear HO_22; clear HO_156; clear BK170; clear HB; have HO_22 := n0_; have HO_156 := n1_; have HO200 := n2_; have BK170 := n3_; have HB := n4_; clear n0_ n1_ n2_ n3_ n4_; (try clear hb); (try clear hb2); (try clear hk); (try clear hi); (try clear ho0)))
                           have n0_ := Aside0.mk (Kd.R_drew HO_22.out)
                           have n1_ := Aside0.mk (Kd.R_drew HO_156.out)
                           have n2_ := Aside0.mk (Kd.R_drew HO200.out)
                           have n3_ := Aside0.mk (blk_drew BK170.out)
                           have n4_ := Aside0.mk (below_drew1 HB.out)
                           clear HO_22
                           clear HO_156
                           clear HO200
                           clear BK170
                           clear HB
                           have HO_22 := n0_
                           have HO_156 := n1_
                           have HO200 := n2_
                           have BK170 := n3_
                           have HB := n4_
                           clear n0_ n1_ n2_ n3_ n4_
                           obtain ⟨i092, hi092, _, hsz92, _⟩ := info_parts info5
                           obtain ⟨A92, hcut92, hA92, hC92⟩ := print_mid_of (P := Try.prog) (Value.int .u8) 0 26 5 .i64 .i64 Try.underlying26 hi092 hsz92 A0 c0 l0 a1 x12_2 (of_decide_eq_true as_) (by first | omega | exact of_decide_eq_true as_) (of_decide_eq_true as_) HC0.out
                           have HR201 := Aside0.mk (Kd.C_of_reads (h1 := fun _ => rfl) (hA92 _ (Kd.reads_of_C HR0.out)))
                           have HC201 := Aside0.mk hC92
                           clear hA92 hC92 hi092 hsz92
                           refine start_ (n := 8) (S := fun w' => True) (ds := []) #[false, false, false, false, false, false, false, false] (by kernel_rfl) rfl rfl trivial (fun hHeld => ?_); refine with_tabW frameref_Decode.tab40 frameref_Decode.bits40 (fun HT_ HW_ => ?_)
                           generalize w90.drew = w91 at HO_22 HO_156 HO200 BK170 HB HR201 hHeld ⊢
                           refine pure_ (i := 0) (N := some 175) (v := ?_) (a' := ?_) #[true, false, false, false, false, false, false, false] rfl rfl (any_of HT_.out (by kernel_rfl)) (fun _ _ _ h => h) (Or.inl ⟨by (first | rfl | (simp only [*]; rfl) | (simp [*]; done)), ?_⟩) ?_ ?_
                           rotate_left
                           ·intro w'
                            go_simp
                            with_reducible rfl
                           rotate_left
                           ·simp only [Act.put, List.setIfInBounds_toArray, List.set_cons_zero, List.set_cons_succ, i64_w, i32_w]
                            rfl
                           refine pure_ (i := 2) (N := some 177) (v := ?_) (a' := ?_) #[true, false, true, false, false, false, false, false] rfl rfl (any_of HT_.out (by kernel_rfl)) (fun _ _ _ h => h) (Or.inl ⟨by (first | rfl | (simp only [*]; rfl) | (simp [*]; done)), ?_⟩) ?_ ?_
                           rotate_left
                           ·intro w'
                            go_simp
                            with_reducible rfl
                           rotate_left
                           ·simp only [Act.put, List.setIfInBounds_toArray, List.set_cons_zero, List.set_cons_succ, i64_w, i32_w]
                            rfl
                           refine pure_ (i := 3) (N := some 178) (v := ?_) (a' := ?_) #[true, false, true, true, false, false, false, false] rfl rfl (any_of HT_.out (by kernel_rfl)) (fun _ _ _ h => h) (Or.inl ⟨by (first | rfl | (simp only [*]; rfl) | (simp [*]; done)), ?_⟩) ?_ ?_
                           rotate_left
                           ·intro w'
                            go_simp
                            with_reducible rfl
                           rotate_left
                           ·simp only [Act.put, List.setIfInBounds_toArray, List.set_cons_zero, List.set_cons_succ, i64_w, i32_w]
                            rfl
                           refine pure_ (i := 4) (N := some 179) (v := ?_) (a' := ?_) #[true, false, true, true, true, false, false, false] rfl rfl (any_of HT_.out (by kernel_rfl)) (fun _ _ _ h => h) (Or.inl ⟨by (first | rfl | (simp only [*]; rfl) | (simp [*]; done)), ?_⟩) ?_ ?_
                           rotate_left
                           ·intro w'
                            go_simp
                            with_reducible rfl
                           rotate_left
                           ·simp only [Act.put, List.setIfInBounds_toArray, List.set_cons_zero, List.set_cons_succ, i64_w, i32_w]
                            rfl
                           refine pure_ (i := 5) (N := some 180) (v := ?_) (a' := ?_) #[true, false, true, true, true, true, false, false] rfl rfl (any_of HT_.out (by kernel_rfl)) (fun _ _ _ h => h) (Or.inl ⟨by (first | rfl | (simp only [*]; rfl) | (simp [*]; done)), ?_⟩) ?_ ?_
                           rotate_left
                           ·intro w'
                            go_simp
                            with_reducible rfl
                           rotate_left
                           ·simp only [Act.put, List.setIfInBounds_toArray, List.set_cons_zero, List.set_cons_succ, i64_w, i32_w]
                            rfl
                           refine join_ (σ := Unit) 1 #[true, true, true, true, true, true, true, false] (fun s_ => [(176, .string (strOfNums t198)), (181, .string (strOfNums ((l0.take (x12_2 : Int).toNat).drop (a1 : Int).toNat)))]) (fun s_ w' => (Kd.R (Kd.int .u8) 5 w' w.heap.size (fun _ => True) v199 t198) ∧ (Kd.R (Kd.int .u64) 35 w' w.heap.size (fun _ => True) (.slice Ao68 x19_4.length co68) x19_4) ∧ (Kd.R (Kd.int .i64) 2 w' w.heap.size (fun _ => True) (.slice Ao89 x22_5.length co89) x22_5) ∧ (w'.heap[gb170]? = some (.cells #[.int .i64 t165, .int .i64 t166, .int .i64 t167, .int .i64 t168] 77 (0, 0))) ∧ (Below w.heap.size w w')) ?_ ?_
                           rotate_left
                           ·intro hCont
                            refine two_ (i := 1) (j := 6) (Ni := some 176) (Nj := some 181) #[true, true, true, true, true, true, false, false] #[true, false, true, true, true, true, true, false] rfl rfl rfl rfl (two_of HT_.out (by kernel_rfl)) (by decide) (by decide) (fun K hK => ?_) (fun K hK => ?_)
                            ·skip
                             have hcv93 := own_string (P := Try.prog) Try.underlying26 Try.underlying5 Try.underlying9 (Kd.own_of_R HO200.out); have hcv93d := fun m_ => own_string (P := Try.prog) Try.underlying26 Try.underlying5 Try.underlying9 (Kd.own_of_R (Kd.R_drewN HO200.out m_))
                             refine value_ (w1 := ?_) (v := ?_) (by rfl) rfl ?_ ?_
                             rotate_left 2
                             ·go_simp
                              constructor
                              ·rfl
                              ·rfl
                             clear hcv93 hcv93d
                             refine hK.out _ _ trivial (fun hHeld => ?_)
                             clear hK K
                             refine norm_ (a' := ?_) ?_ ?_
                             rotate_left
                             ·show Act.put _ (some 176) _ = _
                              simp only [Act.put, List.setIfInBounds_toArray, List.set_cons_zero, List.set_cons_succ, i64_w, i32_w]
                              rfl
                             refine one_ (i := 6) (N := some 181) #[true, true, true, true, true, true, true, false] rfl rfl (one_of HT_.out (by kernel_rfl)) (by decide) (fun K hK => ?_)
                             have hcv94 := Kd.C_string (P := Try.prog) (A := A92) (c := (c0 - a1.toNat)) Try.underlying26 Try.underlying5 Try.underlying9 (Kd.C_below HR201.out HB.out); (rw [show ((l0.take (x12_2 : Int).toNat).drop (a1 : Int).toNat).length = (x12_2.toNat - a1.toNat) from (by rw [List.length_drop, List.length_take]; have h_ : (x12_2 : Int) ≤ (l0.length : Int) := of_decide_eq_true as_; omega)] at hcv94); have hcv94d := fun m_ => Kd.C_string (P := Try.prog) (A := A92) (c := (c0 - a1.toNat)) Try.underlying26 Try.underlying5 Try.underlying9 (Kd.C_drewN (Kd.C_below HR201.out HB.out) m_); (rw [show ((l0.take (x12_2 : Int).toNat).drop (a1 : Int).toNat).length = (x12_2.toNat - a1.toNat) from (by rw [List.length_drop, List.length_take]; have h_ : (x12_2 : Int) ≤ (l0.length : Int) := of_decide_eq_true as_; omega)] at hcv94d)
                             refine value_ (w1 := ?_) (v := ?_) (by rfl) rfl ?_ ?_
                             rotate_left 2
                             ·go_simp
                              constructor
                              ·rfl
                              ·rfl
                             clear hcv94 hcv94d
                             refine hK.out _ _ trivial (fun hHeld => ?_)
                             clear hK K
                             refine norm_ (a' := ?_) ?_ ?_
                             rotate_left
                             ·show Act.put _ (some 181) _ = _
                              simp only [Act.put, List.setIfInBounds_toArray, List.set_cons_zero, List.set_cons_succ, i64_w, i32_w]
                              rfl
                             exact norm_ (by simp only [putAll, Act.put, List.setIfInBounds_toArray, List.set_cons_zero, List.set_cons_succ]) (hCont () _ ⟨(rb_ HO200), (rb_ HO_156), (rb_ HO_22), (bk_ BK170), (bg_ HB GE170)⟩)
                            ·skip
                             have hcv93 := Kd.C_string (P := Try.prog) (A := A92) (c := (c0 - a1.toNat)) Try.underlying26 Try.underlying5 Try.underlying9 (Kd.C_below HR201.out HB.out); (rw [show ((l0.take (x12_2 : Int).toNat).drop (a1 : Int).toNat).length = (x12_2.toNat - a1.toNat) from (by rw [List.length_drop, List.length_take]; have h_ : (x12_2 : Int) ≤ (l0.length : Int) := of_decide_eq_true as_; omega)] at hcv93); have hcv93d := fun m_ => Kd.C_string (P := Try.prog) (A := A92) (c := (c0 - a1.toNat)) Try.underlying26 Try.underlying5 Try.underlying9 (Kd.C_drewN (Kd.C_below HR201.out HB.out) m_); (rw [show ((l0.take (x12_2 : Int).toNat).drop (a1 : Int).toNat).length = (x12_2.toNat - a1.toNat) from (by rw [List.length_drop, List.length_take]; have h_ : (x12_2 : Int) ≤ (l0.length : Int) := of_decide_eq_true as_; omega)] at hcv93d)
                             refine value_ (w1 := ?_) (v := ?_) (by rfl) rfl ?_ ?_
                             rotate_left 2
                             ·go_simp
                              constructor
                              ·rfl
                              ·rfl
                             clear hcv93 hcv93d
                             refine hK.out _ _ trivial (fun hHeld => ?_)
                             clear hK K
                             refine norm_ (a' := ?_) ?_ ?_
                             rotate_left
                             ·show Act.put _ (some 181) _ = _
                              simp only [Act.put, List.setIfInBounds_toArray, List.set_cons_zero, List.set_cons_succ, i64_w, i32_w]
                              rfl
                             refine one_ (i := 1) (N := some 176) #[true, true, true, true, true, true, true, false] rfl rfl (one_of HT_.out (by kernel_rfl)) (by decide) (fun K hK => ?_)
                             have hcv94 := own_string (P := Try.prog) Try.underlying26 Try.underlying5 Try.underlying9 (Kd.own_of_R HO200.out); have hcv94d := fun m_ => own_string (P := Try.prog) Try.underlying26 Try.underlying5 Try.underlying9 (Kd.own_of_R (Kd.R_drewN HO200.out m_))
                             refine value_ (w1 := ?_) (v := ?_) (by rfl) rfl ?_ ?_
                             rotate_left 2
                             ·go_simp
                              constructor
                              ·rfl
                              ·rfl
                             clear hcv94 hcv94d
                             refine hK.out _ _ trivial (fun hHeld => ?_)
                             clear hK K
                             refine norm_ (a' := ?_) ?_ ?_
                             rotate_left
                             ·show Act.put _ (some 176) _ = _
                              simp only [Act.put, List.setIfInBounds_toArray, List.set_cons_zero, List.set_cons_succ, i64_w, i32_w]
                              rfl
                             exact norm_ (by simp only [putAll, Act.put, List.setIfInBounds_toArray, List.set_cons_zero, List.set_cons_succ]) (hCont () _ ⟨(rb_ HO200), (rb_ HO_156), (rb_ HO_22), (bk_ BK170), (bg_ HB GE170)⟩)
                           rintro _ w95 ⟨h0_, h1_, h2_, h3_, h4_⟩
                           have n0_ : Aside0 (Kd.R (Kd.int .u8) 5 w95 w.heap.size (fun _ => True) v199 t198) := ⟨h0_⟩
                           have n1_ : Aside0 (Kd.R (Kd.int .u64) 35 w95 w.heap.size (fun _ => True) (.slice Ao68 x19_4.length co68) x19_4) := ⟨h1_⟩
                           have n2_ : Aside0 (Kd.R (Kd.int .i64) 2 w95 w.heap.size (fun _ => True) (.slice Ao89 x22_5.length co89) x22_5) := ⟨h2_⟩
                           have n3_ : Aside0 (w95.heap[gb170]? = some (.cells #[.int .i64 t165, .int .i64 t166, .int .i64 t167, .int .i64 t168] 77 (0, 0))) := ⟨h3_⟩
                           have n4_ : Aside0 (Below w.heap.size w w95) := ⟨h4_⟩
                           clear HO_22
                           clear HO_156
                           clear HO200
                           clear BK170
                           clear HB
                           clear h0_ h1_ h2_ h3_ h4_
                           have HO200 := n0_
                           have HO_156 := n1_
                           have HO_22 := n2_
                           have BK170 := n3_
                           have HB := n4_
                           clear n0_ n1_ n2_ n3_ n4_
                           have hHeld := trivial
                           refine norm_ (a' := ?_) ?_ ?_
                           rotate_left
                           ·simp only [putAll, Act.put, List.setIfInBounds_toArray, List.set_cons_zero, List.set_cons_succ]
                            rfl
                           refine pure_ (i := 7) (N := some 182) (v := ?_) (a' := ?_) #[true, true, true, true, true, true, true, true] rfl rfl (any_of HT_.out (by kernel_rfl)) (fun _ _ _ h => h) (Or.inl ⟨by (first | rfl | (simp only [*]; rfl) | (simp [*]; done)), ?_⟩) ?_ ?_
                           rotate_left
                           ·intro w'
                            go_simp
                            with_reducible rfl
                           rotate_left
                           ·simp only [Act.put, List.setIfInBounds_toArray, List.set_cons_zero, List.set_cons_succ, i64_w, i32_w]
                            rfl
                           refine done_ (done_of HT_.out (by kernel_rfl)) ?_
                           try go_wp2
                           go_ret3
                           exact ⟨_, er_, by first | exact Kd.R_nil _ _ _ _ _ | exact Kd.N_nil _ _ _ _ _ | exact Kd.V_nil _ _ _ _ _ | exact Kd.Q_nil _ _ _ _ _ | exact Kd.S_nil _ _ _ _ _, by repeat (first | (with_reducible first | exact HB.out | apply below_alloc | apply pw_below_drewN | apply below_drew1 | refine below_set ?_ GE170.out) | exact HB.out)⟩
                         ·rw [if_neg c80] at H
                          exact absurd H (by simp)
                        ·rw [if_neg c79] at H
                         exact absurd H (by simp)
                       ·rw [if_neg c78] at H
                        exact absurd H (by simp)
                   ·rw [if_neg c65] at H
                    exact absurd H (by simp)
                  ·rw [if_neg c64] at H
                   exact absurd H (by simp)
           ·rw [if_neg c33] at H
            exact absurd H (by simp)
          ·rw [if_neg c32] at H
           exact absurd H (by simp)
         ·rw [if_neg c31] at H
          exact absurd H (by simp)
    ·rw [if_neg c10] at H
     have c10b0 : (t169 == 0) = false := beq_eq_false_iff_ne.mpr c10
     have c10b1 : (t169 != 0) = true := bne_iff_ne.mpr c10
     simp only [Option.some.injEq, Prod.mk.injEq] at H
     obtain ⟨rfl, rfl, rfl⟩ := H
     go_wp2_with (first | ((with_reducible refine gate_callee (f := 69) rfl ?_); refine goesL_ (some 46) rfl rfl Try.func69 (by kernel_rfl) rfl #[.slice A0 l0.length c0, .int .i64 a1, .int .i64 a2] rfl ma_ ?_; (with_reducible refine (frameref_readHeader.calls kj3 _ _ l0 a1 a2 t165 t166 t167 t168 t169 _ ?side1 ?side2 A9.out).mono ?_); (case side1 => exact ca_ (Kd.C_below HR0.out HB.out)); (case side2 => exact HC0.out); rintro e w96 ⟨rfl, hb⟩; refine ⟨_, rfl, ?_⟩; have n0_ := Aside0.mk (below_step (bb_ HB) hb); clear HB; have HB := n0_; clear n0_; (try clear hb); (try clear hb2); (try clear hk); (try clear hi)) | ((with_reducible refine gate_dst (N := 9) rfl ?_); (try (refine gate_guard (by rfl) ?_; dsimp only)); refine box_event ?hg (N := 9) ?hd (cs := #[.int .i64 0, .int .i64 0, .int .i64 0, .int .i64 0]) (t := 77) ?hr ?_; (case hd => rfl); (case hg => exact fs_); (case hr => first | (go_simp; done) | (go_simp; rfl)); intro gb170 hg w97 hbox hb; have n0_ := Aside0.mk (below_step (bb_ HB) hb); have n1_ := Aside0.mk (hbox); have n2_ := Aside0.mk ((by rw [hg]; exact (below_size (bb_ HB)) : w.heap.size ≤ gb170)); have n3_ := Aside0.mk ((by rw [hg]; exact (below_size (bb_ HB)) : w.heap.size ≤ gb170)); clear HB; have HB := n0_; have BK170 := n1_; have GW170 := n2_; have GE170 := n3_; clear n0_ n1_ n2_ n3_; clear hb hbox hg; have hcz98_0 : w97.cell? ⟨gb170, 0, none⟩ = some (.int .i64 0) := (blk_cell BK170.out 0).trans rfl; have hcz98_1 : w97.cell? ⟨gb170, 1, none⟩ = some (.int .i64 0) := (blk_cell BK170.out 1).trans rfl; have hcz98_2 : w97.cell? ⟨gb170, 2, none⟩ = some (.int .i64 0) := (blk_cell BK170.out 2).trans rfl; have hcz98_3 : w97.cell? ⟨gb170, 3, none⟩ = some (.int .i64 0) := (blk_cell BK170.out 3).trans rfl; have hfz98_0 := blk_frozen BK170.out 0; have hfz98_1 := blk_frozen BK170.out 1; have hfz98_2 := blk_frozen BK170.out 2; have hfz98_3 := blk_frozen BK170.out 3))
     go_ret3
     exact ⟨_, er_, by first | exact Kd.R_nil _ _ _ _ _ | exact Kd.N_nil _ _ _ _ _ | exact Kd.V_nil _ _ _ _ _ | exact Kd.Q_nil _ _ _ _ _ | exact Kd.S_nil _ _ _ _ _, by repeat (first | (with_reducible first | exact HB.out | apply below_alloc | apply pw_below_drewN | apply below_drew1 | refine below_set ?_ GE170.out) | exact HB.out)⟩

end Go.Proofs.Ytllhbjkkoogeeaa.QDeltaDecode
