/- The law FnExactJoinStock in plain Lean. -/
import Derived.Test.YtdjdillppgijmaaDoorPlAt
import Derived.Test.YtdjdillppgijmaaDoorQsx13
import Derived.Test.YtdjdillppgijmaaDoorQsx19
import Derived.Test.YtdjdillppgijmaaDoorQsx20
set_option linter.unusedVariables false
set_option linter.unusedSimpArgs false
namespace Go.Proofs.YtdjdillppgijmaaDoor.Qs
open Go.RowKit Go.Proofs.YtdjdillppgijmaaDoorW.PrintWords Go.Proofs.YtdjdillppgijmaaDoorW.PrintLast Go.Proofs.YtdjdillppgijmaaDoorW.PrintMore

theorem min_eq (a b : Int) : spec_l00Min.f a b = some (mn a b) := by
  unfold spec_l00Min.f mn
  by_cases h : a < b
  · rw [if_pos h, if_neg (by omega)]
  · rw [if_neg h]; by_cases h2 : b < a
    · rw [if_pos h2]
    · rw [if_neg h2]; congr 1; omega
theorem join_loop (b : List S34) (hb : b.length ≤ 20) (d : Nat) : ∀ (i : Nat) (x : List S34), i + d = b.length → x.length ≤ 20 + i →
    ∃ r, Ev (fun k => impl_JoinStock.l0 k x b (b.length : Int) (i : Int)) r ∧ Ev (fun k => spec_JoinStock.l0 k b x (i : Int)) r ∧ r.1.length ≤ 1000 := by
  induction d with
  | zero =>
    intro i x hi hx
    have hv := valid_eq x (by omega)
    refine ⟨if validB x = true then (x, 0) else ([], 5), ?_, ?_, ?_⟩
    · refine Ev.step (f := fun _ => some (if validB x = true then (x, 0) else ([], 5))) (fun k => ?_) (Ev.now _)
      simp only [impl_JoinStock.l0]
      rw [if_neg (by omega), hv, Option.bind_some]
      split <;> rfl
    · refine Ev.step (f := fun _ => some (if validB x = true then (x, 0) else ([], 5))) (fun k => ?_) (Ev.now _)
      simp only [spec_JoinStock.l0, spec_l23Ok.f]
      rw [if_neg (by omega), hv, Option.bind_some]
      split <;> rfl
    · split
      · show x.length ≤ 1000; omega
      · exact Nat.zero_le _
  | succ d ih =>
    intro i x hi hx
    obtain ⟨p, p1, _, _, e1, e2, e3⟩ := at_ev x (by omega) (rd_T34 b (i : Int)).f0
    by_cases hf : foundAt x (rd_T34 b (i : Int)).f0 p = true
    · have hp := found_lt hf
      obtain ⟨r, r1, r2, r3⟩ := ih (i + 1) (x.set p ⟨(rd_T34 x p).f0, wrap64 ((rd_T34 x p).f1 + (rd_T34 b i).f1), wrap64 ((rd_T34 x p).f2 + (rd_T34 b i).f2), mn (rd_T34 x p).f3 (rd_T34 b i).f3⟩) (by omega) (by rw [List.length_set]; omega)
      refine ⟨r, ?_, ?_, r3⟩
      · refine Ev.step (f := fun k => impl_JoinStock.l0 (k + 1) x b (b.length : Int) (i : Int)) (fun k => rfl) ?_
        simp only [impl_JoinStock.l0]
        simp only [if_pos (show (i : Int) < (b.length : Int) by omega), if_pos (show (0 : Int) ≤ (i : Int) by omega)]
        refine Ev.bind e1 ?_
        simp only [hf, if_true, if_pos (show (p : Int) < (x.length : Int) by omega), if_pos (show (0 : Int) ≤ (p : Int) by omega), Option.bind_some, Int.toNat_natCast, List.set_set, rd_set x p hp, nx i (by omega)]
        exact r1
      · refine Ev.step (f := fun k => spec_JoinStock.l0 (k + 1) b x (i : Int)) (fun k => rfl) ?_
        simp only [spec_JoinStock.l0]
        simp only [if_pos (show (i : Int) < (b.length : Int) by omega), if_pos (show (0 : Int) ≤ (i : Int) by omega)]
        refine Ev.bind e2 ?_
        simp only [e3, Option.bind_some, hf, if_true, if_pos (show (p : Int) < (x.length : Int) by omega), if_pos (show (0 : Int) ≤ (p : Int) by omega), Int.toNat_natCast, List.set_set, rd_set x p hp, nx i (by omega), min_eq]
        exact r2
    · have hf' : foundAt x (rd_T34 b (i : Int)).f0 p = false := by simpa using hf
      obtain ⟨r, r1, r2, r3⟩ := ih (i + 1) (x.take p ++ [(⟨(rd_T34 b i).f0, (rd_T34 b i).f1, (rd_T34 b i).f2, (rd_T34 b i).f3⟩ : S34)] ++ x.drop p) (by omega) (by simp; omega)
      have hins : impl_Item_128.f x (p : Int) [(⟨(rd_T34 b i).f0, (rd_T34 b i).f1, (rd_T34 b i).f2, (rd_T34 b i).f3⟩ : S34)] = some (x.take p ++ [(⟨(rd_T34 b i).f0, (rd_T34 b i).f1, (rd_T34 b i).f2, (rd_T34 b i).f3⟩ : S34)] ++ x.drop p) := by
        unfold impl_Item_128.f
        rw [if_pos ⟨by omega, by omega, rfl, by omega⟩, Int.toNat_natCast]
      refine ⟨r, ?_, ?_, r3⟩
      · refine Ev.step (f := fun k => impl_JoinStock.l0 (k + 1) x b (b.length : Int) (i : Int)) (fun k => rfl) ?_
        simp only [impl_JoinStock.l0]
        simp only [if_pos (show (i : Int) < (b.length : Int) by omega), if_pos (show (0 : Int) ≤ (i : Int) by omega)]
        refine Ev.bind e1 ?_
        simp only [hf', Bool.false_eq_true, if_false, hins, Option.bind_some, nx i (by omega)]
        exact r1
      · refine Ev.step (f := fun k => spec_JoinStock.l0 (k + 1) b x (i : Int)) (fun k => rfl) ?_
        simp only [spec_JoinStock.l0]
        simp only [if_pos (show (i : Int) < (b.length : Int) by omega), if_pos (show (0 : Int) ≤ (i : Int) by omega)]
        refine Ev.bind e2 ?_
        simp only [e3, Option.bind_some, hf', Bool.false_eq_true, if_false, if_pos (show (p : Int) ≤ (x.length : Int) by omega), if_pos (show (0 : Int) ≤ (p : Int) by omega), Int.toNat_natCast, List.nil_append, nx i (by omega)]
        have l1 : ([] : List S34).length + (x.take p).length < 3518437208883 := by simp; omega
        have l2 : (x.take p).length < 3518437208883 := by simp; omega
        have l3 : (x.take p ++ [(⟨(rd_T34 b i).f0, (rd_T34 b i).f1, (rd_T34 b i).f2, (rd_T34 b i).f3⟩ : S34)]).length + (x.drop p).length < 3518437208883 := by simp; omega
        simp only [if_pos l1, if_pos l2, if_pos l3]
        exact r2

theorem join_ev (a b : List S34) (ha : a.length ≤ 1000000000) (hb : b.length ≤ 1000000000) : ∃ r, Ev (fun k => impl_JoinStock.f k a b) r ∧ Ev (fun k => spec_JoinStock.f k a b) r ∧ r.1.length ≤ 1000 := by
  unfold impl_JoinStock.f spec_JoinStock.f
  simp only [spec_l23Ok.f, valid_eq a ha, valid_eq b hb, Option.bind_some]
  cases hva : validB a with
  | false =>
    refine ⟨([], 1), ?_, ?_, Nat.zero_le _⟩
    · refine Ev.step (f := fun _ => some ([], 1)) (fun k => ?_) (Ev.now _)
      simp only [Bool.false_eq_true, if_false, impl_JoinStock.j0, if_true]
    · refine Ev.step (f := fun _ => some ([], 1)) (fun k => ?_) (Ev.now _)
      simp only [Bool.false_eq_true, if_false, spec_JoinStock.j0, if_true]
  | true =>
    cases hvb : validB b with
    | false =>
      refine ⟨([], 1), ?_, ?_, Nat.zero_le _⟩
      · refine Ev.step (f := fun _ => some ([], 1)) (fun k => ?_) (Ev.now _)
        simp only [if_true, Bool.not_false, impl_JoinStock.j0]
      · refine Ev.step (f := fun _ => some ([], 1)) (fun k => ?_) (Ev.now _)
        simp only [if_true, Bool.not_false, spec_JoinStock.j0]
    | true =>
      have la := valid_len hva
      have lb := valid_len hvb
      obtain ⟨r, r1, r2, r3⟩ := join_loop b lb b.length 0 a (by omega) (by omega)
      refine ⟨r, ?_, ?_, r3⟩
      · refine Ev.step (f := fun k => impl_JoinStock.l0 k a b (b.length : Int) ((0 : Nat) : Int)) (fun k => ?_) r1
        simp only [if_true, Bool.not_true, impl_JoinStock.j0, Bool.false_eq_true, if_false, impl_Item_126.f, if_pos ha, Option.bind_some]
        rfl
      · refine Ev.step (f := fun k => spec_JoinStock.l0 k b a ((0 : Nat) : Int)) (fun k => ?_) r2
        simp only [if_true, Bool.not_true, spec_JoinStock.j0, Bool.false_eq_true, if_false, Option.bind_some, List.nil_append]
        rw [if_pos (by simp; omega)]
        rfl

/-- THE LAW. -/
theorem join_law (l l1 : List S122) (hl : l.length ≤ 9223372036854775807) (hl1 : l1.length ≤ 9223372036854775807) (hs : ∀ x ∈ l, x.f0.size ≤ 9223372036854775807) (hs1 : ∀ x ∈ l1, x.f0.size ≤ 9223372036854775807) :
    ∃ k, laws_FnExactJoinStock.f k l l1 = some true := by
  apply Ev.rounds
  unfold laws_FnExactJoinStock.f
  obtain ⟨t, ht, ht1, ht2⟩ := sz_ev l hl hs 1048576 (by omega) (by omega)
  refine Ev.bind ht ?_
  by_cases hn : t < 0
  · simp only [if_pos hn]; exact Ev.now _
  simp only [if_neg hn]
  obtain ⟨u, hu, hu1, hu2⟩ := sz_ev l1 hl1 hs1 t (by omega) ht1
  refine Ev.bind hu ?_
  by_cases hn1 : u < 0
  · simp only [if_pos hn1]; exact Ev.now _
  simp only [if_neg hn1]
  have la := ht2 (by omega)
  have lb := hu2 (by omega)
  have hca : (l.map conv).length ≤ 1000000000 := by simp; omega
  have hcb : (l1.map conv).length ≤ 1000000000 := by simp; omega
  obtain ⟨r, r1, r2, r3⟩ := join_ev (l.map conv) (l1.map conv) hca hcb
  have ta := to_ev l (by omega)
  have tb := to_ev l1 (by omega)
  refine Ev.bind ta (Ev.bind tb (Ev.bind r2 (Ev.bind ta (Ev.bind tb (Ev.bind r1 (Ev.bind (eq_ev r.1 (by omega)) ?_))))))
  simp only [if_true, bne_self_eq_false]
  refine Ev.step (f := fun k => laws_FnExactJoinStock.j0 (k + 1) l l1 r.1 r.2 (l.map conv) (l1.map conv) r.1 r.2 false) (fun k => rfl) ?_
  simp only [laws_FnExactJoinStock.j0, Bool.false_eq_true, if_false]
  refine Ev.bind ta (Ev.bind (eq_ev _ hca) ?_)
  simp only [if_true]
  refine Ev.bind tb (Ev.bind (eq_ev _ hcb) ?_)
  simp only [if_true]
  refine Ev.bind (mark_ev (l.map conv) 1 hca (by omega)) (Ev.bind (mark_ev (l1.map conv) (1 + 4 * (l.map conv).length) hcb (by omega)) ?_)
  simp only [if_neg (show ¬ (((1 + 4 * (l.map conv).length + 4 * (l1.map conv).length : Nat) : Int) < 0) by omega)]
  refine Ev.bind (eq_ev r.1 (by omega)) ?_
  simp only [if_true, bne_self_eq_false]
  refine Ev.step (f := fun k => laws_FnExactJoinStock.j1 (k + 1) l l1 r.1 r.2 r.1 false) (fun k => rfl) ?_
  simp only [laws_FnExactJoinStock.j1, Bool.false_eq_true, if_false]
  refine Ev.bind (mark_ev r.1 1 (by omega) (by omega)) (Ev.bind (held_ev 1 r.1.length (by omega) (by omega)) ?_)
  simp only [if_neg (show ¬ (((1 + 4 * r.1.length : Nat) : Int) < 0) by omega), if_true]
  refine Ev.bind ta (Ev.bind tb (Ev.bind r1 (Ev.bind (eq_ev r.1 (by omega)) ?_)))
  simp only [if_true, bne_self_eq_false]
  refine Ev.step (f := fun k => laws_FnExactJoinStock.j2 (k + 1) (marks 1 r.1.length) ((1 + 4 * r.1.length : Nat) : Int) false) (fun k => rfl) ?_
  simp only [laws_FnExactJoinStock.j2, Bool.false_eq_true, if_false]
  refine Ev.bind (held_ev 1 r.1.length (by omega) (by omega)) ?_
  simp only [if_neg (show ¬ (((1 + 4 * r.1.length : Nat) : Int) < 0) by omega), if_true]
  exact Ev.now _
end Go.Proofs.YtdjdillppgijmaaDoor.Qs
