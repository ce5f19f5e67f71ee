/- Practise: the program and the reference answer the same, in plain Lean. No condition. -/
import Derived.Test.YtdjdillppgijmaaDoorPlPupB
set_option linter.unusedVariables false
set_option linter.unusedSimpArgs false
namespace Go.Proofs.YtdjdillppgijmaaDoor.Qp
open Go.RowKit Go.Proofs.YtdjdillppgijmaaDoorW.PrintWords Go.Proofs.YtdjdillppgijmaaDoorW.PrintLast Go.Proofs.YtdjdillppgijmaaDoorW.PrintMore

theorem pups_facts {l0 : List Int} {l1 : List S116} (h : pupsB l0 l1 = true) : (1 ≤ l0.length ∧ l0.length ≤ 10) ∧ l1.length ≤ 20 ∧ ∀ x ∈ l1, x.f2.length = l0.length := by
  unfold pupsB at h
  simp only [Bool.and_eq_true] at h
  obtain ⟨h1, h2, h3⟩ := h
  unfold needB at h2
  simp only [Bool.and_eq_true] at h2
  refine ⟨of_decide_eq_true h2.2, of_decide_eq_true h3, fun x hx => ?_⟩
  obtain ⟨i, hi, rfl⟩ := List.getElem_of_mem hx
  have h4 := List.all_eq_true.1 h1 i (List.mem_range.2 hi)
  unfold pupAt at h4
  simp only [Bool.and_eq_true] at h4
  have h5 := of_decide_eq_true h4.2.2.1
  rwa [rd116 l1 i hi] at h5
theorem check_eq (a b : Bool) : impl_check.f a b = some (if a = true then if b = true then 0 else 2 else 1) := by
  unfold impl_check.f
  cases a <;> cases b <;> rfl
theorem skill_eq (l0 : List Int) (hl : l0.length ≤ 1000000000) (a : Int) : impl_isSkill.f l0 a = some (decide (0 ≤ a ∧ a ≤ (l0.length : Int) - 1)) := by
  unfold impl_isSkill.f
  rw [w64 (by omega) (by omega), within_eq, Option.bind_some]
theorem own_eq (l : List Int) (hl : l.length ≤ 1000000000) : spec_l00Own.f l = some l := by
  unfold spec_l00Own.f
  rw [Option.bind_some, if_pos (by simp; omega), List.nil_append]

section
variable (l1 : List S116) (hl1 : l1.length ≤ 20) (hd : ∀ x ∈ l1, x.f2.length ≤ 10) (a2 a3 a4 : Int) (r : List S116 × Int)
include hl1 hd
theorem scopy (d : Nat) : ∀ (i : Nat), i + d = l1.length → Ev (fun k => if 0 ≤ a2 then (if a2 < (l1.length : Int) then (if 0 ≤ a3 then (if a3 < (((rd_T116 l1 a2).f2).length : Int) then (some ((l1.set (a2 : Int).toNat (⟨(rd_T116 l1 a2).f0, (rd_T116 l1 a2).f1, (((rd_T116 l1 a2).f2).set (a3 : Int).toNat (wrap64 ((rd ((rd_T116 l1 a2).f2) a3) + a4)))⟩ : S116)), (0 : Int))) else (none)) else (none)) else (none)) else (none)) r →
    Ev (fun k => spec_Practise.l0 k l1 a2 a3 a4 (l1.take i) (i : Int)) r := by
  induction d with
  | zero =>
    intro i hi h
    rw [List.take_of_length_le (by omega)]
    refine Ev.step (fun k => ?_) h
    simp only [spec_Practise.l0]
    rw [if_neg (show ¬ ((i : Int) < (l1.length : Int)) by omega)]
  | succ d ih =>
    intro i hi h
    have hil : i < l1.length := by omega
    refine Ev.step (f := fun k => spec_Practise.l0 k l1 a2 a3 a4 (l1.take (i + 1)) ((i + 1 : Nat) : Int)) (fun k => ?_) (ih (i + 1) (by omega) h)
    have := hd _ (List.getElem_mem hil)
    simp only [spec_Practise.l0]
    rw [if_pos (by omega), if_pos (by omega), nx i (by omega), rd116 l1 i hil, own_eq _ (by omega), Option.bind_some, if_pos (by rw [List.length_take]; omega), List.take_succ_eq_append_getElem hil]
theorem icopy (d : Nat) : ∀ (i : Nat), i + d = l1.length → Ev (fun k => if 0 ≤ a2 then (if a2 < (l1.length : Int) then (if 0 ≤ a3 then (if a3 < (((rd_T116 l1 a2).f2).length : Int) then (some ((l1.set (a2 : Int).toNat (⟨(rd_T116 l1 a2).f0, (rd_T116 l1 a2).f1, (((rd_T116 l1 a2).f2).set (a3 : Int).toNat (wrap64 ((rd ((rd_T116 l1 a2).f2) a3) + a4)))⟩ : S116)), (0 : Int))) else (none)) else (none)) else (none)) else (none)) r →
    Ev (fun k => impl_Practise.l0 k a2 a3 a4 (l1.take i) l1 (l1.length : Int) (i : Int)) r := by
  induction d with
  | zero =>
    intro i hi h
    rw [List.take_of_length_le (by omega)]
    refine Ev.step (fun k => ?_) h
    simp only [impl_Practise.l0]
    rw [if_neg (show ¬ ((i : Int) < (l1.length : Int)) by omega)]
  | succ d ih =>
    intro i hi h
    have hil : i < l1.length := by omega
    refine Ev.step (f := fun k => impl_Practise.l0 k a2 a3 a4 (l1.take (i + 1)) l1 (l1.length : Int) ((i + 1 : Nat) : Int)) (fun k => ?_) (ih (i + 1) (by omega) h)
    have := hd _ (List.getElem_mem hil)
    simp only [impl_Practise.l0]
    rw [if_pos (by omega), if_pos (by omega), if_pos (by omega), nx i (by omega), rd116 l1 i hil]
    unfold slices_Clone_int64_int64.f
    rw [if_pos (by omega), Option.bind_some, if_pos (by rw [List.length_take]; omega), List.take_succ_eq_append_getElem hil]
end

theorem practise_both (l0 : List Int) (l1 : List S116) (hl0 : l0.length ≤ 1000000000) (hl1 : l1.length ≤ 1000000000) (a2 a3 a4 : Int) :
    ∃ r : List S116 × Int, Ev (fun k => spec_Practise.f k l0 l1 a2 a3 a4) r ∧ Ev (fun k => impl_Practise.f k l0 l1 a2 a3 a4) r ∧ r.1.length ≤ 20 ∧ ∀ x ∈ r.1, x.f2.length ≤ 10 := by
  have sbad : ∀ c : Int, c ≠ 0 → Ev (fun k => spec_Practise.j3 k l1 a2 a3 a4 c) ([], c) := fun c hc =>
    Ev.step (f := fun _ => some ([], c)) (fun k => by simp only [spec_Practise.j3]; rw [if_neg hc]) (Ev.now _)
  have sbad1 : ∀ c : Int, c ≠ 0 → Ev (fun k => spec_Practise.j1 k l1 a2 a3 a4 c) ([], c) := fun c hc =>
    Ev.step (f := fun k => spec_Practise.j2 k l1 a2 a3 a4 c false) (fun k => by simp only [spec_Practise.j1]; rw [if_neg hc]) (Ev.step (f := fun k => spec_Practise.j3 k l1 a2 a3 a4 c) (fun k => by simp only [spec_Practise.j2]; rw [if_neg (by decide)]) (sbad c hc))
  have sj0 : ∀ (c : Int) r, Ev (fun k => spec_Practise.j1 k l1 a2 a3 a4 c) r → Ev (fun k => spec_Practise.j0 k l1 a2 a3 a4 c false) r := fun c r h => Ev.step (fun k => by simp only [spec_Practise.j0]; rw [if_neg (by decide)]) h
  have sj0t : ∀ (c : Int), Ev (fun k => spec_Practise.j0 k l1 a2 a3 a4 c true) ([], 2) := fun c => Ev.step (f := fun k => spec_Practise.j1 k l1 a2 a3 a4 2) (fun k => by simp only [spec_Practise.j0, if_true]) (sbad1 2 (by decide))
  have ibad : ∀ c : Int, c ≠ 0 → Ev (fun k => impl_Practise.j0 k l1 a2 a3 a4 c) ([], c) := fun c hc =>
    Ev.step (f := fun _ => some ([], c)) (fun k => by simp only [impl_Practise.j0]; rw [if_neg hc]) (Ev.now _)
  unfold spec_Practise.f impl_Practise.f spec_l25Code.f impl_pupilCode.f spec_l25Ok.f impl_ValidPupils.f
  simp only [if_pos (show l0.length ≤ 1000000000 ∧ l1.length ≤ 1000000000 from ⟨hl0, hl1⟩), Option.bind_some, w64 (show -9223372036854775808 ≤ (l1.length : Int) - 1 by omega) (by omega), w64 (show -9223372036854775808 ≤ (l0.length : Int) - 1 by omega) (by omega), in_eq, within_eq, skill_eq l0 hl0, check_eq]
  cases hv : pupsB l0 l1 with
  | false =>
    refine ⟨([], 1), ?_, ?_, Nat.zero_le _, by simp⟩
    · simp only [Bool.false_eq_true, if_false, Option.bind_some]
      simp only [if_neg (show ¬ ((1 : Int) = 0) by decide)]
      exact sj0 1 _ (sbad1 1 (by decide))
    · simp only [Bool.false_eq_true, if_false, Option.bind_some, ite_self]
      exact ibad 1 (by decide)
  | true =>
    obtain ⟨f1, f2, f3⟩ := pups_facts hv
    have hd : ∀ x ∈ l1, x.f2.length ≤ 10 := fun x hx => by have := f3 x hx; omega
    simp only [if_true]
    by_cases h2 : 0 ≤ a2 ∧ a2 ≤ (l1.length : Int) - 1
    · simp only [decide_eq_true h2, if_true, Option.bind_some]
      by_cases h3 : 0 ≤ a3 ∧ a3 ≤ (l0.length : Int) - 1
      · simp only [decide_eq_true h3, if_true]
        by_cases h4 : 1 ≤ a4 ∧ a4 ≤ 5000
        · simp only [decide_eq_true h4, if_true, Bool.not_true]
          have hx : (rd_T116 l1 a2).f2.length = l0.length := by
            have : rd_T116 l1 a2 ∈ l1 := by
              obtain ⟨n, rfl⟩ : ∃ n : Nat, a2 = n := ⟨a2.toNat, by omega⟩
              rw [rd116 l1 n (by omega)]
              exact List.getElem_mem _
            exact f3 _ this
          by_cases h5 : wrap64 (rd (rd_T116 l1 a2).f2 a3 + a4) > 5000
          · refine ⟨([], 5), ?_, ?_, Nat.zero_le _, by simp⟩
            · refine sj0 0 _ (Ev.step (f := fun k => spec_Practise.j2 k l1 a2 a3 a4 0 true) (fun k => ?_) (Ev.step (f := fun k => spec_Practise.j3 k l1 a2 a3 a4 5) (fun k => by simp only [spec_Practise.j2, if_true]) (sbad 5 (by decide))))
              simp only [spec_Practise.j1, if_true]
              rw [if_pos (by omega), if_pos (by omega), if_pos (by omega), if_pos (by omega), decide_eq_true h5]
            · refine Ev.step (f := fun _ => some ([], 5)) (fun k => ?_) (Ev.now _)
              simp only [impl_Practise.j0, if_true]
              rw [if_pos (by omega), if_pos (by omega), if_pos (by omega), if_pos (by omega), if_pos h5]
          · have hend : Ev (fun k => if 0 ≤ a2 then (if a2 < (l1.length : Int) then (if 0 ≤ a3 then (if a3 < (((rd_T116 l1 a2).f2).length : Int) then (some ((l1.set (a2 : Int).toNat (⟨(rd_T116 l1 a2).f0, (rd_T116 l1 a2).f1, (((rd_T116 l1 a2).f2).set (a3 : Int).toNat (wrap64 ((rd ((rd_T116 l1 a2).f2) a3) + a4)))⟩ : S116)), (0 : Int))) else (none)) else (none)) else (none)) else (none)) (l1.set (a2 : Int).toNat (⟨(rd_T116 l1 a2).f0, (rd_T116 l1 a2).f1, (((rd_T116 l1 a2).f2).set (a3 : Int).toNat (wrap64 ((rd ((rd_T116 l1 a2).f2) a3) + a4)))⟩ : S116), 0) := by
              simp only [if_pos (show 0 ≤ a2 by omega), if_pos (show a2 < (l1.length : Int) by omega), if_pos (show 0 ≤ a3 by omega), if_pos (show a3 < (((rd_T116 l1 a2).f2).length : Int) by omega)]
              exact Ev.now _
            refine ⟨(l1.set (a2 : Int).toNat (⟨(rd_T116 l1 a2).f0, (rd_T116 l1 a2).f1, (((rd_T116 l1 a2).f2).set (a3 : Int).toNat (wrap64 ((rd ((rd_T116 l1 a2).f2) a3) + a4)))⟩ : S116), 0), ?_, ?_, by rw [List.length_set]; exact f2, fun x hx2 => ?_⟩
            · refine sj0 0 _ (Ev.step (f := fun k => spec_Practise.j2 k l1 a2 a3 a4 0 false) (fun k => ?_) (Ev.step (f := fun k => spec_Practise.j3 k l1 a2 a3 a4 0) (fun k => by simp only [spec_Practise.j2]; rw [if_neg (by decide)]) (Ev.step (f := fun k => spec_Practise.l0 k l1 a2 a3 a4 [] 0) (fun k => by simp only [spec_Practise.j3, if_true]) ?_)))
              · simp only [spec_Practise.j1, if_true]
                rw [if_pos (by omega), if_pos (by omega), if_pos (by omega), if_pos (by omega), decide_eq_false h5]
              · exact scopy l1 f2 hd a2 a3 a4 _ l1.length 0 (by omega) hend
            · refine Ev.step (f := fun k => impl_Practise.l0 k a2 a3 a4 [] l1 (l1.length : Int) 0) (fun k => ?_) (icopy l1 f2 hd a2 a3 a4 _ l1.length 0 (by omega) hend)
              simp only [impl_Practise.j0, if_true]
              rw [if_pos (by omega), if_pos (by omega), if_pos (by omega), if_pos (by omega), if_neg h5]
            · rcases List.mem_or_eq_of_mem_set hx2 with h | rfl
              · exact hd x h
              · show (List.set _ _ _).length ≤ 10
                rw [List.length_set]; omega
        · refine ⟨([], 2), ?_, ?_, Nat.zero_le _, by simp⟩
          · simp only [decide_eq_false h4, Bool.not_false]
            exact sj0t 0
          · simp only [decide_eq_false h4, Bool.false_eq_true, if_false, Option.bind_some]
            exact ibad 2 (by decide)
      · refine ⟨([], 2), ?_, ?_, Nat.zero_le _, by simp⟩
        · simp only [decide_eq_false h3, Bool.false_eq_true, if_false, if_true]
          exact sj0t 0
        · simp only [decide_eq_false h3, Bool.false_eq_true, if_false, Option.bind_some]
          exact ibad 2 (by decide)
    · refine ⟨([], 2), ?_, ?_, Nat.zero_le _, by simp⟩
      · simp only [decide_eq_false h2, Bool.false_eq_true, if_false, Option.bind_some]
        simp only [if_neg (show ¬ ((2 : Int) = 0) by decide)]
        exact sj0 2 _ (sbad1 2 (by decide))
      · simp only [decide_eq_false h2, Bool.false_eq_true, if_false, Option.bind_some, ite_self]
        exact ibad 2 (by decide)
end Go.Proofs.YtdjdillppgijmaaDoor.Qp
