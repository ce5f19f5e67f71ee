/- The checks of orders, and the order by days, in plain Lean: the program's and the reference's are one. No condition. -/
import Derived.Test.YtdjdillppgijmaaDoorPlOrdA
import Derived.Test.YtdjdillppgijmaaDoorSValidO
import Derived.Test.YtdjdillppgijmaaDoorSDue
import Derived.Test.YtdjdillppgijmaaDoorQox4
import Derived.Test.YtdjdillppgijmaaDoorQox5
import Derived.Test.YtdjdillppgijmaaDoorQox6
set_option linter.unusedVariables false
set_option linter.unusedSimpArgs false
namespace Go.Proofs.YtdjdillppgijmaaDoor.Qo
open Go.RowKit Go.Proofs.YtdjdillppgijmaaDoorW.PrintWords Go.Proofs.YtdjdillppgijmaaDoorW.PrintLast Go.Proofs.YtdjdillppgijmaaDoorW.PrintMore

theorem ok_loop (l : List S149) (hl : l.length ≤ 1000000000) (d : Nat) : ∀ i : Nat, i + d = l.length → Ev (fun k => spec_l24Ok.l0 k l (i : Int)) (((List.range' i d).all (fun j => orderB (rd_T149 l (j : Int)))) && decide (l.length ≤ 40)) := by
  induction d with
  | zero =>
    intro i hi
    refine Ev.step (f := fun _ => some (decide (l.length ≤ 40))) (fun k => ?_) ?_
    · simp only [spec_l24Ok.l0]
      rw [if_neg (by omega)]
      congr 1
      rw [Bool.eq_iff_iff]; simp only [decide_eq_true_eq]; omega
    · rw [show List.range' i 0 = [] from rfl, List.all_nil, Bool.true_and]
      exact Ev.now _
  | succ d ih =>
    intro i hi
    rw [List.range'_succ, List.all_cons]
    refine Ev.step (f := fun k => if orderB (rd_T149 l (i : Int)) = true then spec_l24Ok.l0 k l ((i + 1 : Nat) : Int) else some false) (fun k => ?_) ?_
    · simp only [spec_l24Ok.l0]
      rw [if_pos (by omega), if_pos (by omega), nx i (by omega)]
      simp only [spec_l24One.f, Option.bind_some]
    · cases h : orderB (rd_T149 l (i : Int)) with
      | true => simp only [if_true, Bool.true_and]; exact ih (i + 1) (by omega)
      | false => simp only [Bool.false_eq_true, if_false, Bool.false_and]; exact Ev.now _
theorem ok_ev (l : List S149) (hl : l.length ≤ 1000000000) : Ev (fun k => spec_l24Ok.f k l) (validO l) := by
  have h := ok_loop l hl l.length 0 (by omega)
  rw [Bool.and_comm, ← List.range_eq_range'] at h
  exact h
theorem validO_le {l : List S149} (h : validO l = true) : l.length ≤ 40 := by
  unfold validO at h
  simp only [Bool.and_eq_true, decide_eq_true_eq] at h
  exact h.1
theorem validO_at {l : List S149} (h : validO l = true) (i : Nat) (hi : i < l.length) : orderB (rd_T149 l (i : Int)) = true := by
  unfold validO at h
  simp only [Bool.and_eq_true] at h
  exact List.all_eq_true.1 h.2 i (List.mem_range.2 hi)
theorem orderB_parts {x : S149} (h : orderB x = true) : (1 ≤ x.f2 ∧ x.f2 ≤ 100) ∧ (0 ≤ x.f3 ∧ x.f3 ≤ 20000) := by
  unfold orderB at h
  simp only [Bool.and_eq_true, decide_eq_true_eq] at h
  exact ⟨h.2.2.1, h.2.2.2⟩
theorem validO_days {l : List S149} (h : validO l = true) : dayOk l := fun i hi => (orderB_parts (validO_at h i hi)).2
theorem earliest_eq {l : List S149} (h : validO l = true) : impl_earliestDue.f l = some (dueList l) := by
  unfold impl_earliestDue.f
  rw [if_pos ⟨validO_le h, (dayB_iff l).2 (validO_days h)⟩]
theorem valid_eq {l : List S149} (hl : l.length ≤ 1000000000) : impl_ValidOrders.f l = some (validO l) := by unfold impl_ValidOrders.f; rw [if_pos hl]
theorem each_eq (a : Int) : impl_isEach.f a = some (decide (1 ≤ a ∧ a ≤ 100)) := by unfold impl_isEach.f; rw [within_eq]; rfl

def codeO (l : List S149) (e : Int) : Int := if validO l = true then (if decide (1 ≤ e ∧ e ≤ 100) = true then 0 else 2) else 1
theorem code_ev (l : List S149) (e : Int) (hl : l.length ≤ 1000000000) : Ev (fun k => spec_l24Code.f k l e) (codeO l e) := by
  unfold spec_l24Code.f codeO
  refine Ev.bind (ok_ev l hl) ?_
  simp only [in_eq, Option.bind_some]
  split
  · split <;> exact Ev.now _
  · exact Ev.now _

/-! ### the reference's order by days -/
def castL (l : List Nat) : List Int := l.map (fun i : Nat => (i : Int))
theorem castL_length (l : List Nat) : (castL l).length = l.length := by simp [castL]
theorem rd_cast (l : List Nat) (j : Nat) (h : j < l.length) : rd (castL l) (j : Int) = ((l.getD j 0 : Nat) : Int) := by
  unfold rd
  rw [Int.toNat_natCast, List.getD_eq_getElem?_getD, List.getD_eq_getElem?_getD, List.getElem?_eq_getElem (by rw [castL_length]; exact h), List.getElem?_eq_getElem h]
  simp [castL]
theorem due_step (l : List S149) (hl : l.length ≤ 10000000) (out : List Nat) (i : Nat) (hi : i < l.length) (hm : ∀ j ∈ out, j < i) (ho : out.length ≤ 10000000) (R : List Int)
    (hn : Ev (fun k => spec_l24Due.l0 k l (castL (dueIns (keyO l) out i)) ((i + 1 : Nat) : Int)) R) (q : Nat) : q ≤ out.length → cutK (keyO l) out (keyO l i) q = cutK (keyO l) out (keyO l i) out.length →
    Ev (fun k => spec_l24Due.l1 k l (castL out) (i : Int) (q : Int)) R := by
  have fin : ∀ c : Nat, c = cutK (keyO l) out (keyO l i) out.length → c ≤ out.length → ∀ k, (if 0 ≤ (c : Int) then (if (c : Int) ≤ ((castL out).length : Int) then ((spec_l00Own.f ((castL out).take (c : Int).toNat)).bind fun t127 => (if t127.length < 17592186044416 then ((some (t127 ++ [(i : Int)] : List Int)).bind fun y130 => ((some ((castL out).drop (c : Int).toNat : List Int)).bind fun y133 => (if y130.length + y133.length < 17592186044416 then (spec_l24Due.l0 k l (y130 ++ y133) (wrap64 ((i : Int) + 1))) else (none)))) else (none))) else (none)) else (none)) = spec_l24Due.l0 k l (castL (dueIns (keyO l) out i)) ((i + 1 : Nat) : Int) := by
    intro c hc hcl k
    have hlen := castL_length out
    rw [if_pos (by omega), if_pos (by omega), Int.toNat_natCast]
    have h1 : spec_l00Own.f ((castL out).take c) = some ((castL out).take c) := by
      unfold spec_l00Own.f
      rw [Option.bind_some, if_pos (by simp; omega), List.nil_append]
    rw [h1, Option.bind_some, if_pos (by simp; omega), Option.bind_some, Option.bind_some, if_pos (by simp; omega), nx i (by omega)]
    congr 1
    unfold dueIns castL
    rw [← hc, List.map_append, List.map_cons, List.map_take, List.map_drop]
    simp
  induction q with
  | zero =>
    intro _ hq
    refine Ev.step (fun k => ?_) hn
    simp only [spec_l24Due.l1]
    rw [if_neg (by omega)]
    exact fin 0 hq (by omega) k
  | succ q ih =>
    intro hql hq
    have hw : wrap64 (((q + 1 : Nat) : Int) - 1) = (q : Int) := by rw [w64 (by omega) (by omega)]; omega
    have hlen := castL_length out
    have hmem : out.getD q 0 < i := by
      rw [getD_at (by omega)]
      exact hm _ (List.getElem_mem _)
    by_cases hx : keyO l i < keyO l (out.getD q 0)
    · refine Ev.step (f := fun k => spec_l24Due.l1 k l (castL out) (i : Int) (q : Int)) (fun k => ?_) (ih (by omega) ?_)
      · simp only [spec_l24Due.l1]
        rw [if_pos (by omega), hw, if_pos (by omega), if_pos (by omega), rd_cast out q (by omega), if_pos (by omega), if_pos (by omega), if_pos (by omega), if_pos (by omega)]
        rw [if_pos (show (rd_T149 l ((out.getD q 0 : Nat) : Int)).f3 > (rd_T149 l (i : Int)).f3 from hx)]
      · rw [← hq]
        show _ = cutK (keyO l) out (keyO l i) (q + 1)
        unfold cutK
        rw [if_pos hx]
        cases q <;> rfl
    · refine Ev.step (fun k => ?_) hn
      simp only [spec_l24Due.l1]
      rw [if_pos (by omega), hw, if_pos (by omega), if_pos (by omega), rd_cast out q (by omega), if_pos (by omega), if_pos (by omega), if_pos (by omega), if_pos (by omega)]
      rw [if_neg (show ¬ (rd_T149 l ((out.getD q 0 : Nat) : Int)).f3 > (rd_T149 l (i : Int)).f3 from hx)]
      refine fin (q + 1) ?_ hql k
      rw [← hq]
      show _ = cutK (keyO l) out (keyO l i) (q + 1)
      unfold cutK
      rw [if_neg hx]
theorem due_loop (l : List S149) (hl : l.length ≤ 10000000) (d : Nat) : ∀ i : Nat, i + d = l.length → Ev (fun k => spec_l24Due.l0 k l (castL (dueTo (keyO l) i)) (i : Int)) (dueList l) := by
  induction d with
  | zero =>
    intro i hi
    obtain rfl : i = l.length := by omega
    refine Ev.step (f := fun _ => some (dueList l)) (fun k => ?_) (Ev.now _)
    simp only [spec_l24Due.l0]
    rw [if_neg (by omega)]
    rfl
  | succ d ih =>
    intro i hi
    have hlen := dueTo_length (keyO l) i
    refine Ev.step (f := fun k => spec_l24Due.l1 k l (castL (dueTo (keyO l) i)) (i : Int) ((castL (dueTo (keyO l) i)).length : Int)) (fun k => ?_) ?_
    · simp only [spec_l24Due.l0]
      rw [if_pos (by omega)]
    · rw [castL_length]
      exact due_step l hl (dueTo (keyO l) i) i (by omega) (fun j hj => (dueTo_mem _ _ _).1 hj) (by omega) _ (ih (i + 1) (by omega)) _ (Nat.le_refl _) rfl
theorem due_ev (l : List S149) (hl : l.length ≤ 10000000) : Ev (fun k => spec_l24Due.f k l) (dueList l) := due_loop l hl l.length 0 (by omega)

theorem dueList_length (l : List S149) : (dueList l).length = l.length := by unfold dueList; rw [List.length_map, dueTo_length]
end Go.Proofs.YtdjdillppgijmaaDoor.Qo
