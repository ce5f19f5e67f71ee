/- Where an item is, or has to be: both look alike. -/
import Derived.Test.YtdjdillppgijmaaDoorPlStock
import Derived.Test.YtdjdillppgijmaaDoorQsx7
import Derived.Test.YtdjdillppgijmaaDoorSValid
set_option linter.unusedVariables false
set_option linter.unusedSimpArgs false
namespace Go.Proofs.YtdjdillppgijmaaDoor.Qs
open Go.RowKit Go.Proofs.YtdjdillppgijmaaDoorW.PrintWords Go.Proofs.YtdjdillppgijmaaDoorW.PrintLast Go.Proofs.YtdjdillppgijmaaDoorW.PrintMore

def lessAt (l : List S34) (name : ByteArray) (j : Nat) : Bool := Op.bytesLess (rd_T34 l (j : Int)).f0.toList name.toList
theorem at_loop (l : List S34) (hl : l.length ≤ 1000000000) (name : ByteArray) (d : Nat) : ∀ i : Nat, i + d = l.length → (∀ j, j < i → lessAt l name j = true) →
    ∃ p : Nat, p ≤ l.length ∧ (∀ j, j < p → lessAt l name j = true) ∧ (p < l.length → lessAt l name p = false) ∧
      Ev (fun k => impl_itemAt.l0 k l name (i : Int)) ((p : Int), decide (p < l.length) && ((rd_T34 l (p : Int)).f0.toList == name.toList)) ∧ Ev (fun k => spec_l23At.l0 k l name (i : Int)) (p : Int) := by
  induction d with
  | zero =>
    intro i hi hless
    refine ⟨i, by omega, hless, fun h => by omega, ?_, ?_⟩
    · rw [decide_eq_false (by omega), Bool.false_and]
      refine Ev.step (f := fun _ => some ((i : Int), false)) (fun k => ?_) (Ev.now _)
      simp only [impl_itemAt.l0]
      rw [if_neg (by omega)]
    · refine Ev.step (f := fun _ => some (i : Int)) (fun k => ?_) (Ev.now _)
      simp only [spec_l23At.l0]
      rw [if_neg (by omega)]
  | succ d ih =>
    intro i hi hless
    by_cases hc : Op.bytesLess (rd_T34 l (i : Int)).f0.toList name.toList = true
    · obtain ⟨p, h1, h2, h3, h4, h5⟩ := ih (i + 1) (by omega) (fun j hj => by
        by_cases e : j = i
        · rw [e]; exact hc
        · exact hless j (by omega))
      refine ⟨p, h1, h2, h3, Ev.step (fun k => ?_) h4, Ev.step (fun k => ?_) h5⟩
      · simp only [impl_itemAt.l0]
        rw [if_pos (by omega), if_pos (by omega), if_pos hc, nx i (by omega)]
      · simp only [spec_l23At.l0]
        rw [if_pos (by omega), if_pos (by omega), if_pos hc, nx i (by omega)]
    · refine ⟨i, by omega, hless, fun _ => by unfold lessAt; simpa using hc, ?_, ?_⟩
      · rw [decide_eq_true (by omega), Bool.true_and]
        refine Ev.step (f := fun _ => some ((i : Int), ((rd_T34 l (i : Int)).f0.toList == name.toList))) (fun k => ?_) (Ev.now _)
        simp only [impl_itemAt.l0]
        rw [if_pos (by omega), if_pos (by omega), if_neg hc]
      · refine Ev.step (f := fun _ => some (i : Int)) (fun k => ?_) (Ev.now _)
        simp only [spec_l23At.l0]
        rw [if_pos (by omega), if_pos (by omega), if_neg hc]
def foundAt (l : List S34) (name : ByteArray) (p : Nat) : Bool := decide (p < l.length) && ((rd_T34 l (p : Int)).f0.toList == name.toList)
theorem at_ev (l : List S34) (hl : l.length ≤ 1000000000) (name : ByteArray) :
    ∃ p : Nat, p ≤ l.length ∧ (∀ j, j < p → lessAt l name j = true) ∧ (p < l.length → lessAt l name p = false) ∧
      Ev (fun k => impl_itemAt.f k l name) ((p : Int), foundAt l name p) ∧ Ev (fun k => spec_l23At.f k l name) (p : Int) ∧ spec_l23Is.f l (p : Int) name = some (foundAt l name p) := by
  obtain ⟨p, h1, h2, h3, h4, h5⟩ := at_loop l hl name l.length 0 (by omega) (fun j hj => by omega)
  refine ⟨p, h1, h2, h3, h4, h5, ?_⟩
  unfold spec_l23Is.f foundAt
  by_cases hp : p < l.length
  · rw [if_pos (by omega), if_pos (by omega), decide_eq_true hp, Bool.true_and]
  · rw [if_neg (by omega), decide_eq_false hp, Bool.false_and]
theorem found_lt {l : List S34} {name : ByteArray} {p : Nat} (h : foundAt l name p = true) : p < l.length := by
  unfold foundAt at h
  by_cases hp : p < l.length
  · exact hp
  · rw [decide_eq_false hp, Bool.false_and] at h; cases h
theorem valid_len {l : List S34} (h : validB l = true) : l.length ≤ 20 := by
  unfold validB at h
  have := (Bool.and_eq_true_iff.1 h).2
  simpa using this
theorem valid_eq (l : List S34) (hl : l.length ≤ 1000000000) : impl_ValidStock.f l = some (validB l) := by unfold impl_ValidStock.f; rw [if_pos hl]
end Go.Proofs.YtdjdillppgijmaaDoor.Qs
