/- Practise, by the program and by the reference, in plain Lean. No condition. -/
import Derived.Test.YtdjdillppgijmaaDoorPlPupA
import Derived.Test.YtdjdillppgijmaaDoorSWith
import Derived.Test.YtdjdillppgijmaaDoorQpx8
import Derived.Test.YtdjdillppgijmaaDoorQpx9
set_option linter.unusedVariables false
set_option linter.unusedSimpArgs false
namespace Go.Proofs.YtdjdillppgijmaaDoor.Qp
open Go.RowKit Go.Proofs.YtdjdillppgijmaaDoorW.PrintWords Go.Proofs.YtdjdillppgijmaaDoorW.PrintLast Go.Proofs.YtdjdillppgijmaaDoorW.PrintMore

theorem marksP_get : ∀ (l : List S116) (a i : Nat) (h : i < l.length), (marksP a l)[i]'(by rw [marksP_length]; exact h) = mkp (endP a (l.take i)) l[i]
  | x :: l, a, 0, _ => rfl
  | x :: l, a, i + 1, h => by
    simp only [marksP, List.getElem_cons_succ, List.take_succ_cons, endP]
    exact marksP_get l (a + wide x) i (by simpa using h)
theorem endP_step (a : Nat) (l : List S116) (i : Nat) (hi : i < l.length) : endP a (l.take (i + 1)) = endP a (l.take i) + (2 + l[i].f2.length) := by
  rw [List.take_succ_eq_append_getElem hi, endP_append]; rfl
theorem endP_pre (a : Nat) (l : List S116) (i : Nat) : endP a (l.take i) ≤ endP a l := by
  have := endP_append (l.take i) (l.drop i) a
  rw [List.take_append_drop] at this
  rw [this]
  exact endP_le _ _
theorem heldp_loop (l : List S116) (a : Nat) (hl : l.length ≤ 1000000000) (he : endP a l ≤ 1000000000) (d : Nat) : ∀ (i : Nat), i + d = l.length → Ev (fun k => laws_heldPupilS.l0 k (marksP a l) (endP a (l.take i) : Nat) (i : Int)) ((endP a l : Nat) : Int) := by
  induction d with
  | zero =>
    intro i hi
    rw [List.take_of_length_le (by omega)]
    refine Ev.step (f := fun _ => some ((endP a l : Nat) : Int)) (fun k => ?_) (Ev.now _)
    simp only [laws_heldPupilS.l0]
    rw [if_neg (by rw [marksP_length]; omega)]
  | succ d ih =>
    intro i hi
    have hil : i < l.length := by omega
    have h1 := endP_step a l i hil
    have h2 := endP_pre a l (i + 1)
    have h3 := ih (i + 1) (by omega)
    rw [h1] at h3
    obtain ⟨q, hq⟩ : ∃ q, q = endP a (l.take i) := ⟨_, rfl⟩
    have hget := marksP_get l a i hil
    rw [← hq] at h1 h3 hget ⊢
    have e1 : wrap64 ((q : Int) + 1) = ((q + 1 : Nat) : Int) := nx q (by omega)
    have e2 : wrap64 (((q + 1 : Nat) : Int) + 1) = ((q + 2 : Nat) : Int) := nx (q + 1) (by omega)
    refine Ev.step (f := fun k => (laws_markText.f k (q : Int)).bind fun t205 => (if (mt (q : Int)).toList = t205.toList then ((laws_heldInt64S.f k (marksi (q + 2) l[i].f2.length) ((q + 2 : Nat) : Int)).bind fun t208 => (if t208 < 0 then (some (-1)) else (laws_heldPupilS.l0 k (marksP a l) t208 ((i + 1 : Nat) : Int)))) else some (-1))) (fun k => ?_) ?_
    · simp only [laws_heldPupilS.l0]
      rw [if_pos (by rw [marksP_length]; omega), if_pos (by omega), nx i (by omega), rd116 _ i (by rw [marksP_length]; exact hil), hget, e1, e2]
      simp only [mkp, if_true]
    · refine Ev.bind (mt_ev (q : Int) (by omega) (by omega)) ?_
      simp only [if_true]
      refine Ev.bind (heldi_ev (q + 2) l[i].f2.length (by omega) (by omega)) ?_
      simp only [if_neg (show ¬ (((q + 2 + l[i].f2.length : Nat) : Int) < 0) by omega)]
      rw [show q + 2 + l[i].f2.length = q + (2 + l[i].f2.length) by omega]
      exact h3
theorem heldp_ev (l : List S116) (a : Nat) (hl : l.length ≤ 1000000000) (he : endP a l ≤ 1000000000) : Ev (fun k => laws_heldPupilS.f k (marksP a l) (a : Int)) ((endP a l : Nat) : Int) := by
  have := heldp_loop l a hl he l.length 0 (by omega)
  rw [List.take_zero] at this
  exact this
end Go.Proofs.YtdjdillppgijmaaDoor.Qp
