/- A string turned into bytes: what a walk knows of the row. -/
import Derived.Test.YtjeheopcohnkeaaUMore
import Derived.Lib.ConvBytes
import Derived.Deep.RegionLaw
import Derived.Laws.AppendOwn
set_option linter.unusedVariables false
set_option linter.unusedSimpArgs false
namespace Go.Proofs.YtjeheopcohnkeaaM
open Go Go.RowKit Go.Proofs.YtjeheopcohnkeaaW.PrintWords

theorem conv_run {P : Program} {src dst e : TypeId} {u : TypeDesc} (hs : P.underlying src = some u) (hd : P.underlying dst = some (.slice e)) (he : P.underlying e = some (.int .u8)) (s : ByteArray) (hl : s.size ≤ 1000000000000) (W : World) :
    ∃ A c W1, (convert src dst (.string s)).run P W = .ok (.slice A (bytesOf s).length c) W1 ∧ (bytesOf s).length ≤ c ∧ Kd.C (Kd.int .u8) W1 A (bytesOf s).length (bytesOf s) ∧ Below W.heap.size W W1 := by
  have h := print_bytes src dst e hs hd he s W
  rw [← bytesOf_length s] at h
  refine ⟨_, _, _, h, ?_, ?_, bytes_below (Below.refl _ _) (Nat.le_refl _) e s⟩
  · exact grownCap_ge _ _ _ _
  · have h2 := bytes_reads W e s (by omega)
    rw [← bytesOf_length s] at h2
    exact Kd.C_of_reads (enc := Value.int .u8) (d := (0 : Int)) (h1 := fun _ => rfl) h2
theorem conv_list {P : Program} {ops : Array Oper} {rest : List Oper} {o : Oper} {a : Act} {Q : Exit → Act → World → Prop} {W : World} {src dst e : TypeId} {u : TypeDesc} {x : Operand} {s : ByteArray} (hgd : o.guard = none) (ho : o.op = .convert src dst x) (hx : a.eval x = .string s)
    (hs : P.underlying src = some u) (hd : P.underlying dst = some (.slice e)) (he : P.underlying e = some (.int .u8)) (hl : s.size ≤ 1000000000000)
    (h : ∀ A c w1, (bytesOf s).length ≤ c → Kd.C (Kd.int .u8) w1 A (bytesOf s).length (bytesOf s) → Below W.heap.size W w1 → wpList P ops Q rest (a.put o.dst (.slice A (bytesOf s).length c)) w1) : wpList P ops Q (o :: rest) a W := by
  obtain ⟨A, c, W1, hr, h1, h2, h3⟩ := conv_run (P := P) hs hd he s hl W
  refine Kd.event_run hgd (v := .slice A (bytesOf s).length c) (w1 := W1) ?_ (h A c W1 h1 h2 h3)
  simp [execOp, ho, hx, hr]
theorem conv_step {P : Program} {ops : Array Oper} {o : Oper} {a : Act} {Q : Exit → Act → World → Prop} {Kc : Act → World → Prop} {W : World} {src dst e : TypeId} {u : TypeDesc} {x : Operand} {s : ByteArray} (hw : Region.wanted o (yielded ops a.tmps) = true) (ho : o.op = .convert src dst x) (hx : a.eval x = .string s)
    (hs : P.underlying src = some u) (hd : P.underlying dst = some (.slice e)) (he : P.underlying e = some (.int .u8)) (hl : s.size ≤ 1000000000000)
    (h : ∀ A c w1, (bytesOf s).length ≤ c → Kd.C (Kd.int .u8) w1 A (bytesOf s).length (bytesOf s) → Below W.heap.size W w1 → Kc (a.put o.dst (.slice A (bytesOf s).length c)) w1) : if Region.wanted o (yielded ops a.tmps) = true then Oper.wp P o a W Kc Q else Kc (a.put o.dst undef) W := by
  obtain ⟨A, c, W1, hr, h1, h2, h3⟩ := conv_run (P := P) hs hd he s hl W
  refine event_step hw (v := .slice A (bytesOf s).length c) (w1 := W1) ?_ (h A c W1 h1 h2 h3)
  simp [execOp, ho, hx, hr]
end Go.Proofs.YtjeheopcohnkeaaM
