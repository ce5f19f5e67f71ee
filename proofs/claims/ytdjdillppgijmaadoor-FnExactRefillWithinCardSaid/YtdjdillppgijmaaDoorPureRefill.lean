/- The law FnExactRefillWithin in plain Lean. -/
import Derived.Test.YtdjdillppgijmaaDoorPlStock
import Derived.Test.YtdjdillppgijmaaDoorPlRefill2
import Derived.Test.YtdjdillppgijmaaDoorPlWalk
import Derived.Test.YtdjdillppgijmaaDoorQsx17
set_option linter.unusedVariables false
set_option linter.unusedSimpArgs false
namespace Go.Proofs.YtdjdillppgijmaaDoor.Qs
open Go.RowKit Go.Proofs.YtdjdillppgijmaaDoorW.PrintWords Go.Proofs.YtdjdillppgijmaaDoorW.PrintLast Go.Proofs.YtdjdillppgijmaaDoorW.PrintMore Go.Proofs.YtdjdillppgijmaaDoor.Pl

/-! ### Rows of numbers -/
theorem eqi_loop (l : List Int) (hl : l.length ≤ 1000000000) (d : Nat) : ∀ (i : Nat), i + d = l.length → Ev (fun k => laws_eqInt64S.l0 k l l (i : Int)) true := by
  induction d with
  | zero =>
    intro i hi
    refine Ev.step (f := fun _ => some true) (fun k => ?_) (Ev.now _)
    simp only [laws_eqInt64S.l0]
    rw [if_neg (by omega)]
  | succ d ih =>
    intro i hi
    refine Ev.step (f := fun k => laws_eqInt64S.l0 k l l ((i + 1 : Nat) : Int)) (fun k => ?_) (ih (i + 1) (by omega))
    simp only [laws_eqInt64S.l0]
    rw [if_pos (by omega), if_pos (by omega), if_pos (by omega), nx i (by omega)]
    simp only [if_true]
theorem eqi_ev (l : List Int) (hl : l.length ≤ 1000000000) : Ev (fun k => laws_eqInt64S.f k l l) true := by
  unfold laws_eqInt64S.f
  simp only [if_true]
  exact eqi_loop l hl l.length 0 (by omega)
def marksi (a n : Nat) : List Int := (List.range' a n).map fun j : Nat => (j : Int)
theorem marksi_length (a n : Nat) : (marksi a n).length = n := by simp [marksi]
theorem marksi_get (a n i : Nat) (h : i < n) : (marksi a n)[i]'(by rw [marksi_length]; exact h) = ((a + i : Nat) : Int) := by simp [marksi]
theorem marki_loop (n a : Nat) (hn : n ≤ 1000000000) (ha : a ≤ 1000000000000) (d : Nat) : ∀ (i : Nat) (l : List Int), i + d = n → l.length = n → l.take i = (marksi a n).take i →
    Ev (fun k => laws_markInt64S.l0 k l ((a + i : Nat) : Int) (i : Int)) (((a + n : Nat) : Int), marksi a n) := by
  induction d with
  | zero =>
    intro i l hi hl ht
    refine Ev.step (f := fun _ => some (((a + i : Nat) : Int), l)) (fun k => ?_) ?_
    · simp only [laws_markInt64S.l0]
      rw [if_neg (by omega)]
    · rw [List.take_of_length_le (by omega), List.take_of_length_le (by rw [marksi_length]; omega)] at ht
      obtain rfl : i = n := by omega
      rw [ht]; exact Ev.now _
  | succ d ih =>
    intro i l hi hl ht
    have e1 : wrap64 (((a + i : Nat) : Int) + 1) = ((a + (i + 1) : Nat) : Int) := by rw [w64 (by omega) (by omega)]; omega
    refine Ev.step (f := fun k => laws_markInt64S.l0 k (l.set i ((a + i : Nat) : Int)) ((a + (i + 1) : Nat) : Int) ((i + 1 : Nat) : Int)) (fun k => ?_) (ih (i + 1) _ (by omega) (by rw [List.length_set]; exact hl) ?_)
    · simp only [laws_markInt64S.l0]
      rw [if_pos (by omega), if_pos (by omega), e1, nx i (by omega), Int.toNat_natCast]
    · rw [List.take_succ_eq_append_getElem (by simp; omega), List.take_succ_eq_append_getElem (by rw [marksi_length]; omega), ← ht, marksi_get a n i (by omega)]
      simp
      exact List.take_set_of_le (Nat.le_refl i)
theorem marki_ev (l : List Int) (a : Nat) (hn : l.length ≤ 1000000000) (ha : a ≤ 1000000000000) : Ev (fun k => laws_markInt64S.f k l (a : Int)) (((a + l.length : Nat) : Int), marksi a l.length) :=
  marki_loop l.length a hn ha l.length 0 l (by omega) rfl (by simp)
theorem heldi_loop (n a : Nat) (hn : n ≤ 1000000000) (ha : a ≤ 1000000000000) (d : Nat) : ∀ (i : Nat), i + d = n → Ev (fun k => laws_heldInt64S.l0 k (marksi a n) ((a + i : Nat) : Int) (i : Int)) ((a + n : Nat) : Int) := by
  induction d with
  | zero =>
    intro i hi
    obtain rfl : i = n := by omega
    refine Ev.step (f := fun _ => some (((a + i : Nat) : Int))) (fun k => ?_) (Ev.now _)
    simp only [laws_heldInt64S.l0]
    rw [if_neg (by rw [marksi_length]; omega)]
  | succ d ih =>
    intro i hi
    have e1 : wrap64 (((a + i : Nat) : Int) + 1) = ((a + (i + 1) : Nat) : Int) := by rw [w64 (by omega) (by omega)]; omega
    have hr : rd (marksi a n) (i : Int) = ((a + i : Nat) : Int) := by
      unfold rd
      rw [Int.toNat_natCast, List.getD_eq_getElem?_getD, List.getElem?_eq_getElem (by rw [marksi_length]; omega), Option.getD_some, marksi_get a n i (by omega)]
    refine Ev.step (f := fun k => laws_heldInt64S.l0 k (marksi a n) ((a + (i + 1) : Nat) : Int) ((i + 1 : Nat) : Int)) (fun k => ?_) (ih (i + 1) (by omega))
    simp only [laws_heldInt64S.l0]
    rw [if_pos (by rw [marksi_length]; omega), if_pos (by omega), hr, if_pos rfl, e1, nx i (by omega)]
theorem heldi_ev (a n : Nat) (hn : n ≤ 1000000000) (ha : a ≤ 1000000000000) : Ev (fun k => laws_heldInt64S.f k (marksi a n) (a : Int)) ((a + n : Nat) : Int) := heldi_loop n a hn ha n 0 (by omega)

/-! ### Both sides -/
theorem refill_both (l : List S34) (hl : l.length ≤ 1000000000) (b : Int) : ∃ r : List Int × Int × Int, spec_RefillWithin.f l b = some r ∧ Ev (fun k => impl_RefillWithin.f k l b) r ∧ r.1.length ≤ 1000 := by
  by_cases hv : validB l = true
  · by_cases hb : 0 ≤ b ∧ b ≤ 100000000
    · by_cases hn : (shortL l).length ≤ 10
      · obtain ⟨B, c, hbest, hev⟩ := refill_ok l hv b hb.1 hb.2 hn
        have hvb := visit_best (need l) b (shortL l) hb.1 (fun x hx => (need_bd hv hx).1) (short_sorted l)
        obtain ⟨e1, e2⟩ := Best.unique hvb hbest
        refine ⟨(B, c, 0), ?_, hev, ?_⟩
        · unfold spec_RefillWithin.f
          rw [if_pos hl, if_pos hv, if_pos hb, if_pos hn, e1, e2]
        · have := hbest.sub.length_le
          show B.length ≤ 1000
          omega
      · refine ⟨([], 0, 5), ?_, ?_, Nat.zero_le _⟩
        · unfold spec_RefillWithin.f
          rw [if_pos hl, if_pos hv, if_pos hb, if_neg hn]
        · unfold impl_RefillWithin.f impl_ValidStock.f
          simp only [if_pos hl, Option.bind_some, within_eq, check_eq, hv, decide_eq_true hb, if_true]
          refine Ev.bind (short_ev l hl) ?_
          simp only [if_pos (show ((shortL l).length : Int) > 10 by omega)]
          exact Ev.now _
    · refine ⟨([], 0, 2), ?_, ?_, Nat.zero_le _⟩
      · unfold spec_RefillWithin.f
        rw [if_pos hl, if_pos hv, if_neg hb]
      · unfold impl_RefillWithin.f impl_ValidStock.f
        simp only [if_pos hl, Option.bind_some, within_eq, check_eq, hv, decide_eq_false hb, if_true, Bool.false_eq_true, if_false]
        simp only [if_neg (show ¬ ((2 : Int) = 0) by decide)]
        exact Ev.now _
  · have hv' : validB l = false := by simpa using hv
    refine ⟨([], 0, 1), ?_, ?_, Nat.zero_le _⟩
    · unfold spec_RefillWithin.f
      rw [if_pos hl, if_neg hv]
    · unfold impl_RefillWithin.f impl_ValidStock.f
      simp only [if_pos hl, Option.bind_some, within_eq, check_eq, hv', Bool.false_eq_true, if_false]
      simp only [if_neg (show ¬ ((1 : Int) = 0) by decide)]
      exact Ev.now _

/-- THE LAW. -/
theorem refill_law (l : List S122) (hl : l.length ≤ 9223372036854775807) (hs : ∀ x ∈ l, x.f0.size ≤ 9223372036854775807) (a1 : Int) : ∃ k, laws_FnExactRefillWithin.f k l a1 = some true := by
  apply Ev.rounds
  unfold laws_FnExactRefillWithin.f
  obtain ⟨t, ht, ht1, ht2⟩ := sz_ev l hl hs 1048576 (by omega) (by omega)
  refine Ev.bind ht ?_
  by_cases hn : t < 0
  · simp only [if_pos hn]; exact Ev.now _
  simp only [if_neg hn]
  have la := ht2 (by omega)
  have hca : (l.map conv).length ≤ 1000000000 := by simp; omega
  obtain ⟨r, r1, r2, r3⟩ := refill_both (l.map conv) hca a1
  have ta := to_ev l (by omega)
  refine Ev.bind ta ?_
  simp only [r1, Option.bind_some]
  refine Ev.bind ta (Ev.bind r2 (Ev.bind (eqi_ev r.1 (by omega)) ?_))
  simp only [if_true, bne_self_eq_false]
  refine Ev.step (f := fun k => laws_FnExactRefillWithin.j0 (k + 1) l a1 r.1 r.2.1 r.2.2 (l.map conv) r.1 r.2.1 r.2.2 false) (fun k => rfl) ?_
  simp only [laws_FnExactRefillWithin.j0, Bool.false_eq_true, if_false]
  refine Ev.bind ta (Ev.bind (eq_ev _ hca) ?_)
  simp only [if_true]
  refine Ev.bind (mark_ev (l.map conv) 1 hca (by omega)) ?_
  simp only [if_neg (show ¬ (((1 + 4 * (l.map conv).length : Nat) : Int) < 0) by omega)]
  refine Ev.bind (eqi_ev r.1 (by omega)) ?_
  simp only [if_true, bne_self_eq_false]
  refine Ev.step (f := fun k => laws_FnExactRefillWithin.j1 (k + 1) l a1 r.1 r.2.1 r.2.2 r.1 false) (fun k => rfl) ?_
  simp only [laws_FnExactRefillWithin.j1, Bool.false_eq_true, if_false]
  refine Ev.bind (marki_ev r.1 1 (by omega) (by omega)) (Ev.bind (heldi_ev 1 r.1.length (by omega) (by omega)) ?_)
  simp only [if_neg (show ¬ (((1 + r.1.length : Nat) : Int) < 0) by omega), if_true]
  refine Ev.bind ta (Ev.bind r2 (Ev.bind (eqi_ev r.1 (by omega)) ?_))
  simp only [if_true, bne_self_eq_false]
  refine Ev.step (f := fun k => laws_FnExactRefillWithin.j2 (k + 1) (marksi 1 r.1.length) ((1 + r.1.length : Nat) : Int) false) (fun k => rfl) ?_
  simp only [laws_FnExactRefillWithin.j2, Bool.false_eq_true, if_false]
  refine Ev.bind (heldi_ev 1 r.1.length (by omega) (by omega)) ?_
  simp only [if_neg (show ¬ (((1 + r.1.length : Nat) : Int) < 0) by omega), if_true]
  exact Ev.now _
end Go.Proofs.YtdjdillppgijmaaDoor.Qs
