/- The law FnExactEarliestDue in plain Lean. -/
import Derived.Test.YtdjdillppgijmaaDoorPlOrdC
import Derived.Test.YtdjdillppgijmaaDoorPlOrdB
import Derived.Test.YtdjdillppgijmaaDoorQox10
set_option linter.unusedVariables false
set_option linter.unusedSimpArgs false
namespace Go.Proofs.YtdjdillppgijmaaDoor.Qo
open Go.RowKit Go.Proofs.YtdjdillppgijmaaDoorW.PrintWords Go.Proofs.YtdjdillppgijmaaDoorW.PrintLast Go.Proofs.YtdjdillppgijmaaDoorW.PrintMore

theorem due_both (l : List S149) (hl : l.length ≤ 10000000) : ∃ r : List Int × Int, Ev (fun k => spec_EarliestDue.f k l) r ∧ impl_EarliestDue.f l = some r ∧ r.1.length ≤ 1000 := by
  unfold spec_EarliestDue.f impl_EarliestDue.f
  simp only [valid_eq (show l.length ≤ 1000000000 by omega), Option.bind_some]
  cases hv : validO l with
  | false =>
    refine ⟨([], 1), ?_, rfl, Nat.zero_le _⟩
    refine Ev.bind (ok_ev l (by omega)) ?_
    rw [hv]
    exact Ev.now _
  | true =>
    have h40 := validO_le hv
    refine ⟨(dueList l, 0), ?_, ?_, ?_⟩
    · refine Ev.bind (ok_ev l (by omega)) ?_
      rw [hv]
      simp only [if_true]
      exact Ev.bind (due_ev l hl) (Ev.now _)
    · simp only [if_true, earliest_eq hv, Option.bind_some]
    · show (dueList l).length ≤ 1000
      rw [dueList_length]; omega

/-- THE LAW. -/
theorem due_law (l : List S145) (hl : l.length ≤ 9223372036854775807) (hs : ∀ x ∈ l, x.f0.size ≤ 9223372036854775807) : ∃ k, laws_FnExactEarliestDue.f k l = some true := by
  apply Ev.rounds
  unfold laws_FnExactEarliestDue.f
  obtain ⟨t, ht, ht1, ht2⟩ := sz_ev l hl hs 1048576 (by omega) (by omega)
  refine Ev.bind ht ?_
  by_cases hn : t < 0
  · simp only [if_pos hn]; exact Ev.now _
  simp only [if_neg hn]
  have la := ht2 (by omega)
  have hca : (l.map conv).length ≤ 1000000000 := by simp; omega
  have hbig : (l.map conv).length ≤ 10000000 := by simp; omega
  obtain ⟨r, r1, r2, r3⟩ := due_both (l.map conv) hbig
  have ta := to_ev l (by omega)
  refine Ev.bind ta (Ev.bind r1 (Ev.bind ta ?_))
  simp only [r2, Option.bind_some]
  refine Ev.bind (eqi_ev r.1 (by omega)) ?_
  simp only [if_true, bne_self_eq_false]
  refine Ev.step (f := fun k => laws_FnExactEarliestDue.j0 (k + 1) l r.1 r.2 (l.map conv) r.1 r.2 false) (fun k => rfl) ?_
  simp only [laws_FnExactEarliestDue.j0, Bool.false_eq_true, if_false]
  refine Ev.bind ta (Ev.bind (eq_ev _ hca) ?_)
  simp only [if_true]
  refine Ev.bind (mark_ev (l.map conv) 1 hca (by omega)) ?_
  simp only [if_neg (show ¬ (((1 + 4 * (l.map conv).length : Nat) : Int) < 0) by omega)]
  refine Ev.bind (eqi_ev r.1 (by omega)) ?_
  simp only [if_true, bne_self_eq_false]
  refine Ev.step (f := fun k => laws_FnExactEarliestDue.j1 (k + 1) l r.1 r.2 r.1 false) (fun k => rfl) ?_
  simp only [laws_FnExactEarliestDue.j1, Bool.false_eq_true, if_false]
  refine Ev.bind (marki_ev r.1 1 (by omega) (by omega)) (Ev.bind (heldi_ev 1 r.1.length (by omega) (by omega)) ?_)
  simp only [if_neg (show ¬ (((1 + r.1.length : Nat) : Int) < 0) by omega), if_true]
  refine Ev.bind ta ?_
  simp only [r2, Option.bind_some]
  refine Ev.bind (eqi_ev r.1 (by omega)) ?_
  simp only [if_true, bne_self_eq_false]
  refine Ev.step (f := fun k => laws_FnExactEarliestDue.j2 (k + 1) (marksi 1 r.1.length) ((1 + r.1.length : Nat) : Int) false) (fun k => rfl) ?_
  simp only [laws_FnExactEarliestDue.j2, Bool.false_eq_true, if_false]
  refine Ev.bind (heldi_ev 1 r.1.length (by omega) (by omega)) ?_
  simp only [if_neg (show ¬ (((1 + r.1.length : Nat) : Int) < 0) by omega), if_true]
  exact Ev.now _
end Go.Proofs.YtdjdillppgijmaaDoor.Qo
