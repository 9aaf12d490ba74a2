/- Short names for what the printed walks say again and again: each is a proof that its own tactic block finds. -/
import Derived.Test.YtijgbhbdmnhanaaDoorUWords
set_option linter.unusedVariables false
namespace Go.Proofs.YtijgbhbdmnhanaaDoorM
open Go Go.RowKit Go.Proofs.YtijgbhbdmnhanaaDoorW.PrintWords
theorem rb_ {p q : Prop} (h : Aside0 p) (k : p → q := by intro h_; (with_reducible repeat (first | apply Kd.R_alloc | apply Kd.R_drewN | apply Kd.R_drew)); exact h_) : q := k h.out
theorem bb_ {p q : Prop} (h : Aside0 p) (k : p → q := by intro h_; repeat (first | (with_reducible first | exact h_ | apply below_alloc | apply pw_below_drewN | apply below_drew1) | exact h_)) : q := k h.out
theorem bg_ {p q g : Prop} (h : Aside0 p) (i : Aside0 g) (k : p → g → q := by intro h_ i_; repeat (first | (with_reducible first | exact h_ | apply below_alloc | apply pw_below_drewN | apply below_drew1 | refine below_set ?_ i_) | exact h_)) : q := k h.out i.out
theorem bh_ {p q g s : Prop} (h : Aside0 p) (i : Aside0 g) (j : Aside0 s) (k : p → g → s → q := by intro h_ i_ j_; repeat (first | (with_reducible first | exact h_ | apply below_alloc | apply pw_below_drewN | apply below_drew1 | refine below_set ?_ i_ | refine below_set ?_ j_) | exact h_)) : q := k h.out i.out j.out
theorem bk_ {p q : Prop} (h : Aside0 p) (k : p → q := by intro h_; (with_reducible repeat (first | refine blk_drewN ?_ _ | refine blk_drew ?_ | refine blk_alloc ?_ _)); exact h_) : q := k h.out
theorem ca_ {p q : Prop} (h : p) (k : p → q := by intro h_; repeat (first | exact h_ | (with_reducible refine Kd.C_alloc ?_ _) | (with_reducible refine Kd.C_drewN ?_ _) | (with_reducible refine Kd.C_drew ?_))) : q := k h
theorem ma_ {p : Prop} (k : p := by (try simp only [List.map_toArray, List.map_cons, List.map_nil]); first | done | rfl | (simp only [List.length_drop, List.length_take]; rfl)) : p := k
theorem fr_ {p : Prop} (k : p := by first | rfl | (simp; done) | (simp [*]; done)) : p := k
theorem fs_ {p : Prop} (k : p := by first | rfl | (simp only [*]; rfl) | (simp [*]; done)) : p := k
theorem as_ {p : Prop} (k : p := by first | (with_reducible assumption) | assumption) : p := k
theorem dr_ {p : Prop} (k : p := by repeat (first | exact Drawn0.refl _ | apply Drawn0.step)) : p := k
theorem er_ {p : Prop} (k : p := by first | rfl | (simp [errW_none, errW_some] <;> rfl) | (simp [*, errW_none, errW_some] <;> rfl)) : p := k
theorem kp_ {p q : Prop} (h : Aside0 p) (k : p → q := by intro h_; repeat (first | (with_reducible first | exact h_ | apply Kept.alloc | apply Kept.drewN | apply Kept.drew) | exact h_)) : q := k h.out
theorem hx_ {p q r : Prop} (e : p) (h : q) (k : p → q → r := by intro e_ H; first | (rw [e_]; with_reducible exact H) | (have H2_ := (Option.bind_some _ _).symm.trans H; rw [e_]; with_reducible exact H2_) | (have H2_ := (Option.bind_some _ _).symm.trans H; with_reducible exact H2_) | with_reducible exact H | (rw [e_]; exact H) | exact H) : r := k e h
end Go.Proofs.YtijgbhbdmnhanaaDoorM
