/- What is read as data is a value of the printed kind. -/
import Derived.Test.YtjeheopcohnkeaaUMore
import Derived.ChangeArms
import Derived.OpenShut
import Derived.DataReads
set_option linter.unusedVariables false
set_option linter.unusedSimpArgs false
namespace Go.Proofs.YtjeheopcohnkeaaM
open Go Go.RowKit Go.Proofs.YtjeheopcohnkeaaW.PrintWords

def Opens {α : Type} (P : Program) (t : TypeId) (d : Kd α) (ok : α → Prop) : Prop :=
  ∀ (H : Type) (enc : TypeId × Value → H) (w : World) (fuel : Nat) (cs : List Value) (x : DataW H × List MemPlace),
    DataW.trod enc P w 0 (fun _ => true) true fuel t cs = some x → ∃ a, d.K w a cs ∧ ok a

theorem Opens.int {P : Program} {t : TypeId} {k : IntKind} (ht : P.underlying t = some (.int k)) : Opens P t (Kd.int k) (fun n => (Lit.int k n).wf = true) := by
  intro H enc w fuel cs x h
  obtain ⟨n, rfl, _, hw⟩ := DataW.trod_int ht h
  exact ⟨n, rfl, hw⟩
theorem Opens.bool {P : Program} {t : TypeId} (ht : P.underlying t = some .bool) : Opens P t Kd.bool (fun _ => True) := by
  intro H enc w fuel cs x h
  obtain ⟨n, rfl, _⟩ := DataW.trod_bool ht h
  exact ⟨n, rfl, trivial⟩
theorem Opens.string {P : Program} {t : TypeId} (ht : P.underlying t = some .string) : Opens P t Kd.string (fun s => s.size ≤ maxLen) := by
  intro H enc w fuel cs x h
  obtain ⟨s, rfl, _, hs⟩ := DataW.trod_string ht h
  exact ⟨s, rfl, hs⟩
theorem list_of {α : Type} {R : Nat → α → Prop} : ∀ (n : Nat), (∀ i, i < n → ∃ x, R i x) → ∃ xs : List α, xs.length = n ∧ ∀ i x, xs[i]? = some x → R i x := by
  intro n
  induction n with
  | zero => intro _; exact ⟨[], rfl, fun i x h => by simp at h⟩
  | succ n ih =>
    intro h
    obtain ⟨xs, hl, hx⟩ := ih (fun i hi => h i (by omega))
    obtain ⟨y, hy⟩ := h n (by omega)
    refine ⟨xs ++ [y], by simp [hl], fun i x hi => ?_⟩
    by_cases hlt : i < xs.length
    · rw [List.getElem?_append_left hlt] at hi
      exact hx i x hi
    · have hil := (List.getElem?_eq_some_iff.1 hi).1
      rw [List.length_append, List.length_singleton] at hil
      have : i = n := by omega
      subst this
      rw [List.getElem?_append_right (by omega), show i - xs.length = 0 by omega] at hi
      have : y = x := by simpa using hi
      subst this
      exact hy
theorem cells_get {w : World} {base n : Nat} {a : Addr} {cs : List Value} (h : w.cells? base a n = some cs) : cs.length = n ∧ ∀ i u, cs[i]? = some u → w.cell? (a.add i) = some u := by
  obtain ⟨_, hl, hc⟩ := World.cells?_some h
  exact ⟨hl, fun i u hu => by rw [hc i (by have := (List.getElem?_eq_some_iff.1 hu).1; omega), hu]⟩
theorem add_add (a : Addr) (i j : Nat) : (a.add i).add j = a.add (i + j) := by
  unfold Addr.add
  by_cases hi : i = 0
  · subst hi; simp
  · by_cases hj : j = 0
    · subst hj; simp
    · rw [if_neg hi, if_neg hj, if_neg (by omega)]; simp [Nat.add_assoc]
theorem Opens.slice {α : Type} {P : Program} {t e : TypeId} {d : Kd α} {ok : α → Prop} (ht : P.underlying t = some (.slice e)) (hs : P.cellsOf e = d.sz) (ho : Opens P e d ok) :
    Opens P t (Kd.slice e d) (fun xs => xs.length ≤ maxLen ∧ ∀ x ∈ xs, ok x) := by
  intro H enc w fuel cs x h
  rcases DataW.trod_slice ht h with ⟨rfl, _⟩ | ⟨a, len, cap, elems, rest, n, _, rfl, _, hb, hl, hm, hlen, hel, _⟩
  · exact ⟨[], ⟨none, 0, rfl, Nat.le_refl _, rfl, by simp, fun h => absurd h (by simp)⟩, by simp, fun x hx => by cases hx⟩
  · have each : ∀ i, i < len → ∃ x : α, ok x ∧ ∃ c, c.length = d.sz ∧ d.K w x c ∧ ∀ j u, c[j]? = some u → w.cell? (a.add (i * d.sz + j)) = some u := by
      intro i hi
      have h1 := hel i hi
      rw [List.getElem?_eq_getElem (by omega), Option.bind_eq_some_iff] at h1
      obtain ⟨c, hc, hy⟩ := h1
      obtain ⟨x, hK, hok⟩ := ho H enc w n c _ hy
      obtain ⟨hcl, hcc⟩ := cells_get hc
      refine ⟨x, hok, c, by rw [hcl, hs], hK, fun j u hu => ?_⟩
      have := hcc j u hu
      rw [hs] at this
      rw [← this, add_add]
    obtain ⟨xs, hxl, hx⟩ := list_of len each
    have hmm : maxLen = 9223372036854775807 := rfl
    refine ⟨xs, ⟨some a, cap, by rw [hxl], by omega, rfl, by omega, fun _ => ⟨a, rfl, fun j p hj => ?_⟩⟩, by omega, fun x hx' => ?_⟩
    · obtain ⟨_, c, hcl, hK, hcc⟩ := hx j p hj
      exact ⟨c, hcl, hK, hcc⟩
    · obtain ⟨j, hj⟩ := List.getElem?_of_mem hx'
      exact (hx j x hj).1
/-- Fields in line, from cell off on. -/
def Fields {α : Type} (P : Program) (fs : List Field) (off : Nat) (d : Kd α) (ok : α → Prop) : Prop :=
  ∀ (H : Type) (enc : TypeId × Value → H) (w : World) (n : Nat) (cs : List Value), cs.length = off + d.sz →
    (∀ (i : Nat) (f : Field), fs[i]? = some f → ∃ y, DataW.trod enc P w 0 (fun _ => true) true n f.type ((cs.drop f.offset).take (P.cellsOf f.type)) = some y) → ∃ a, d.K w a (cs.drop off) ∧ ok a
theorem Fields.one {α : Type} {P : Program} {f : Field} {off : Nat} {d : Kd α} {ok : α → Prop} (ho : Opens P f.type d ok) (hoff : f.offset = off) (hs : P.cellsOf f.type = d.sz) : Fields P [f] off d ok := by
  intro H enc w n cs hl h
  obtain ⟨y, hy⟩ := h 0 f rfl
  rw [hoff, hs, List.take_of_length_le (by rw [List.length_drop]; omega)] at hy
  exact ho H enc w n _ y hy
theorem Fields.cons {α β : Type} {P : Program} {f : Field} {fs : List Field} {off : Nat} {d : Kd α} {ok : α → Prop} {d' : Kd β} {ok' : β → Prop} (ho : Opens P f.type d ok) (hoff : f.offset = off) (hs : P.cellsOf f.type = d.sz)
    (hr : Fields P fs (off + d.sz) d' ok') : Fields P (f :: fs) off (Kd.pair d d') (fun x => ok x.1 ∧ ok' x.2) := by
  intro H enc w n cs hl h
  have hsz : (Kd.pair d d').sz = d.sz + d'.sz := rfl
  rw [hsz] at hl
  obtain ⟨y, hy⟩ := h 0 f rfl
  rw [hoff, hs] at hy
  obtain ⟨a, hK, hok⟩ := ho H enc w n _ y hy
  obtain ⟨b, hK', hok'⟩ := hr H enc w n cs (by omega) (fun i g hg => h (i + 1) g (by simpa using hg))
  refine ⟨(a, b), ⟨(cs.drop off).take d.sz, cs.drop (off + d.sz), ?_, hK, hK'⟩, hok, hok'⟩
  rw [← List.drop_drop, List.take_append_drop]
theorem Opens.struct {α β : Type} {P : Program} {t : TypeId} {fs : Array Field} {d : Kd α} {ok : α → Prop} {f : β → α} (g : α → β) (ht : P.underlying t = some (.struct fs)) (hs : P.cellsOf t = d.sz) (hf : Fields P fs.toList 0 d ok) (hg : ∀ a, f (g a) = a) :
    Opens P t (Kd.iso d f) (fun b => ok (f b)) := by
  intro H enc w fuel cs x h
  obtain ⟨xs, n, _, _, hl, hxl, hx⟩ := DataW.trod_struct ht h
  obtain ⟨a, hK, hok⟩ := hf H enc w n cs (by rw [hl, hs, Nat.zero_add]) (fun i q hq => by
    have hq' : fs[i]? = some q := by simpa using hq
    have := hx i q hq'
    have hi := (Array.getElem?_eq_some_iff.1 hq').1
    rw [List.getElem?_eq_getElem (by omega)] at this
    exact ⟨_, this⟩)
  refine ⟨g a, ?_, ?_⟩
  · show d.K w (f (g a)) cs
    rw [hg]
    simpa using hK
  · show ok (f (g a))
    rw [hg]
    exact hok
theorem Opens.imp {α : Type} {P : Program} {t : TypeId} {d : Kd α} {ok ok' : α → Prop} (h : Opens P t d ok) (hi : ∀ a, ok a → ok' a) : Opens P t d ok' := by
  intro H enc w fuel cs x hx
  obtain ⟨a, hK, ho⟩ := h H enc w fuel cs x hx
  exact ⟨a, hK, hi a ho⟩
/-- A slice that is an argument: its parts. -/
theorem Opens.arg_slice {α : Type} {P : Program} {t e : TypeId} {d : Kd α} {ok : List α → Prop} {H : Type} {enc : TypeId × Value → H} {w : World} {A : Option Addr} {len cap : Nat} {dt : DataW H} {ps : List MemPlace} (h : Opens P t (Kd.slice e d) ok)
    (ht : DataW.Trod enc P w 0 (fun _ => true) true t (.slice A len cap) dt ps) : ∃ xs : List α, len = xs.length ∧ xs.length ≤ cap ∧ d.C w A xs.length xs ∧ ok xs := by
  obtain ⟨fuel, hf⟩ := ht
  obtain ⟨xs, ⟨A', c, he, hl, hC⟩, hok⟩ := h H enc w fuel _ _ hf
  simp [Value.cells] at he
  obtain ⟨rfl, rfl, rfl⟩ := he
  exact ⟨xs, rfl, hl, hC, hok⟩
end Go.Proofs.YtjeheopcohnkeaaM
