/- The law's bytes. -/
import Derived.Test.YtdjdillppgijmaaDoorQsx10
import Derived.Test.YtdjdillppgijmaaDoorQsx11
import Derived.Test.YtdjdillppgijmaaDoorStkDraw
set_option linter.unusedVariables false
set_option linter.unusedSimpArgs false
namespace Go.Proofs.YtdjdillppgijmaaDoor.Pure
open Go.RowKit Go.Proofs.YtdjdillppgijmaaDoorW.PrintWords Go.Proofs.YtdjdillppgijmaaDoorW.PrintLast Go.Proofs.YtdjdillppgijmaaDoorW.PrintMore Go.Proofs.YtdjdillppgijmaaDoor.Qs Go.Proofs.YtdjdillppgijmaaDoor.Pl

theorem code_of {l : List Int} (h : ∀ x ∈ l, (Lit.int .u8 x).wf = true) : isCode l := fun x hx => by
  have := h x hx
  simp only [Lit.wf, Bool.and_eq_true, decide_eq_true_eq] at this
  exact this
theorem has_loop (l : List Int) (x : Int) (hl : l.length ≤ 1000000) (d : Nat) : ∀ i : Nat, i + d = l.length → Ev (fun k => laws_a2Has.l0 k l x (i : Int)) (decide (x ∈ l.drop i)) := by
  induction d with
  | zero =>
    intro i hi
    rw [List.drop_eq_nil_of_le (by omega)]
    exact Ev.step (f := fun _ => some false) (fun k => by simp only [laws_a2Has.l0]; rw [if_neg (by omega)]) (by simpa using Ev.now false)
  | succ d ih =>
    intro i hi
    have hlt : i < l.length := by omega
    have e : rd l (i : Int) = l[i] := by rw [rdi_nat]; simp [List.getD, hlt]
    rw [List.drop_eq_getElem_cons hlt]
    by_cases h : l[i] = x
    · refine Ev.step (f := fun _ => some true) (fun k => by simp only [laws_a2Has.l0]; rw [if_pos (by omega), if_pos (by omega), e, if_pos h]) ?_
      rw [decide_eq_true (by simp [h])]; exact Ev.now true
    · refine Ev.step (f := fun k => laws_a2Has.l0 k l x ((i + 1 : Nat) : Int)) (fun k => by simp only [laws_a2Has.l0]; rw [if_pos (by omega), if_pos (by omega), e, if_neg h, succ_nat i (by omega)]) ?_
      have := ih (i + 1) (by omega)
      have e2 : decide (x ∈ l[i] :: l.drop (i + 1)) = decide (x ∈ l.drop (i + 1)) := by
        rw [Bool.eq_iff_iff]; simp only [decide_eq_true_eq, List.mem_cons]
        exact ⟨fun hh => hh.resolve_left (fun e => h e.symm), .inr⟩
      rw [e2]; exact this
theorem has_ev (l : List Int) (x : Int) (hl : l.length ≤ 1000000) : Ev (fun k => laws_a2Has.f k l x) (decide (x ∈ l)) := by
  unfold laws_a2Has.f
  have := has_loop l x hl l.length 0 (by omega)
  simpa using this
theorem rises_loop (l : List Int) (n : Int) (hl : l.length ≤ 1000000) (hb : ∀ x ∈ l, 0 ≤ x ∧ x < n) (hs : l.Pairwise (· < ·)) (d : Nat) : ∀ i : Nat, i + d = l.length → Ev (fun k => laws_a2Rises.l0 k l n (i : Int)) true := by
  induction d with
  | zero =>
    intro i hi
    exact Ev.step (f := fun _ => some true) (fun k => by simp only [laws_a2Rises.l0]; rw [if_neg (by omega)]) (Ev.now true)
  | succ d ih =>
    intro i hi
    have hlt : i < l.length := by omega
    have e : rd l (i : Int) = l[i] := by rw [rdi_nat]; simp [List.getD, hlt]
    have hx := hb _ (List.getElem_mem hlt)
    refine Ev.step (f := fun k => laws_a2Rises.l0 k l n ((i + 1 : Nat) : Int)) (fun k => ?_) (ih (i + 1) (by omega))
    simp only [laws_a2Rises.l0]
    rw [if_pos (by omega), if_pos (by omega), e, if_neg (by omega), if_neg (by omega), succ_nat i (by omega)]
    by_cases h0 : (i : Int) > 0
    · have e1 : wrap64 ((i : Int) - 1) = ((i - 1 : Nat) : Int) := by rw [w64 (by omega) (by omega)]; omega
      have e2 : rd l ((i - 1 : Nat) : Int) = l[i - 1] := by rw [rdi_nat]; simp [List.getD, show i - 1 < l.length by omega]
      have hp := List.pairwise_iff_getElem.1 hs (i - 1) i (by omega) hlt (by omega)
      rw [if_pos h0, e1, if_pos (by omega), if_pos (by omega), e2, if_neg (by omega)]
    · rw [if_neg h0]
theorem rises_ev (l : List Int) (n : Int) (hl : l.length ≤ 1000000) (hb : ∀ x ∈ l, 0 ≤ x ∧ x < n) (hs : l.Pairwise (· < ·)) : Ev (fun k => laws_a2Rises.f k l n) true := by
  unfold laws_a2Rises.f
  exact rises_loop l n hl hb hs l.length 0 (by omega)
end Go.Proofs.YtdjdillppgijmaaDoor.Pure
