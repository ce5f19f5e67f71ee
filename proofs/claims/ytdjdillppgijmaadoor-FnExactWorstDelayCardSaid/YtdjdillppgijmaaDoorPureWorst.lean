/- The law FnExactWorstDelay in plain Lean. -/
import Derived.Test.YtdjdillppgijmaaDoorPlOrdC
import Derived.Test.YtdjdillppgijmaaDoorQox8
set_option linter.unusedVariables false
set_option linter.unusedSimpArgs false
namespace Go.Proofs.YtdjdillppgijmaaDoor.Qo
open Go.RowKit Go.Proofs.YtdjdillppgijmaaDoorW.PrintWords Go.Proofs.YtdjdillppgijmaaDoorW.PrintLast Go.Proofs.YtdjdillppgijmaaDoorW.PrintMore

/-- How many days an order takes. -/
def takes (l : List S149) (e : Int) (i : Nat) : Int := e * (rd_T149 l (i : Int)).f2
/-- The day on which the j-th order of a list is done. -/
def dayAt (l : List S149) (e : Int) (D : List Nat) : Nat → Int
  | 0 => 0
  | j + 1 => dayAt l e D j + takes l e (D.getD j 0)

theorem takes_bound {l : List S149} {e : Int} (hv : validO l = true) (he : 1 ≤ e ∧ e ≤ 100) {i : Nat} (hi : i < l.length) : 0 ≤ takes l e i ∧ takes l e i ≤ 10000 := by
  have h := (orderB_parts (validO_at hv i hi)).1
  unfold takes
  generalize (rd_T149 l (i : Int)).f2 = m at h
  constructor
  · exact Int.mul_nonneg (by omega) (by omega)
  · have h1 : e * m ≤ 100 * m := Int.mul_le_mul_of_nonneg_right (by omega) (by omega)
    omega
theorem D_lt {l : List S149} (j : Nat) (hj : j < l.length) : (dueTo (keyO l) l.length).getD j 0 < l.length := by
  have hl := dueTo_length (keyO l) l.length
  rw [getD_at (by omega)]
  exact (dueTo_mem _ _ _).1 (List.getElem_mem _)
theorem dayAt_bound {l : List S149} {e : Int} (hv : validO l = true) (he : 1 ≤ e ∧ e ≤ 100) (j : Nat) (hj : j ≤ l.length) : 0 ≤ dayAt l e (dueTo (keyO l) l.length) j ∧ dayAt l e (dueTo (keyO l) l.length) j ≤ 10000 * j := by
  induction j with
  | zero => exact ⟨Int.le_refl _, Int.le_refl _⟩
  | succ j ih =>
    have h := ih (by omega)
    have h2 := takes_bound hv he (D_lt (l := l) j (by omega))
    unfold dayAt
    omega
theorem rd_due (l : List S149) (j : Nat) (h : j < l.length) : rd (dueList l) (j : Int) = (((dueTo (keyO l) l.length).getD j 0 : Nat) : Int) :=
  rd_cast _ j (by rw [dueTo_length]; exact h)

/-! ### the greatest of some numbers -/
def top (w : Int) (xs : List Int) : Int := xs.foldl max w
theorem top_ge (xs : List Int) : ∀ w, w ≤ top w xs ∧ ∀ x ∈ xs, x ≤ top w xs := by
  induction xs with
  | nil => intro w; exact ⟨Int.le_refl _, fun x hx => by cases hx⟩
  | cons y xs ih =>
    intro w
    obtain ⟨h1, h2⟩ := ih (max w y)
    have e : top w (y :: xs) = top (max w y) xs := rfl
    rw [e]
    refine ⟨by omega, fun x hx => ?_⟩
    rcases List.mem_cons.1 hx with rfl | hx
    · omega
    · exact h2 x hx
theorem top_mem (xs : List Int) : ∀ w, top w xs = w ∨ top w xs ∈ xs := by
  induction xs with
  | nil => intro w; exact .inl rfl
  | cons y xs ih =>
    intro w
    have e : top w (y :: xs) = top (max w y) xs := rfl
    rw [e]
    rcases ih (max w y) with h | h
    · rw [h]
      by_cases hwy : w ≤ y
      · right; rw [show max w y = y by omega]; exact List.mem_cons_self
      · left; omega
    · exact .inr (List.mem_cons_of_mem _ h)
theorem top_same {xs ys : List Int} (w : Int) (h : ∀ x, x ∈ xs ↔ x ∈ ys) : top w xs = top w ys := by
  have a := top_ge xs w
  have b := top_ge ys w
  have h1 : top w xs ≤ top w ys := by
    rcases top_mem xs w with e | e
    · rw [e]; exact b.1
    · exact b.2 _ ((h _).1 e)
  have h2 : top w ys ≤ top w xs := by
    rcases top_mem ys w with e | e
    · rw [e]; exact a.1
    · exact a.2 _ ((h _).2 e)
  omega

/-! ### the reference's loop -/
def lateBy (l : List S149) (e : Int) (j : Nat) : Int := dayAt l e (dueTo (keyO l) l.length) (j + 1) - keyO l ((dueTo (keyO l) l.length).getD j 0)
theorem spec_worst_loop (l : List S149) (e : Int) (hv : validO l = true) (he : 1 ≤ e ∧ e ≤ 100) (d : Nat) : ∀ (j : Nat) (w : Int), j + d = l.length →
    Ev (fun k => spec_WorstDelay.l0 k l e w (dayAt l e (dueTo (keyO l) l.length) j) (dueList l) (j : Int)) (top w ((List.range' j d).map (lateBy l e)), 0) := by
  have h40 := validO_le hv
  have hL := dueList_length l
  induction d with
  | zero =>
    intro j w hj
    refine Ev.step (f := fun _ => some (w, 0)) (fun k => ?_) (Ev.now _)
    simp only [spec_WorstDelay.l0]
    rw [if_neg (by omega)]
  | succ d ih =>
    intro j w hj
    have hD := D_lt (l := l) j (by omega)
    have hb := dayAt_bound hv he j (by omega)
    have ht := takes_bound hv he hD
    have hd := validO_days hv _ hD
    rw [List.range'_succ, List.map_cons]
    have e1 : top w (lateBy l e j :: (List.range' (j + 1) d).map (lateBy l e)) = top (max w (lateBy l e j)) ((List.range' (j + 1) d).map (lateBy l e)) := rfl
    rw [e1]
    refine Ev.step (f := fun k => spec_WorstDelay.l0 k l e (max w (lateBy l e j)) (dayAt l e (dueTo (keyO l) l.length) (j + 1)) (dueList l) ((j + 1 : Nat) : Int)) (fun k => ?_) (ih (j + 1) _ (by omega))
    simp only [spec_WorstDelay.l0]
    rw [if_pos (by omega), if_pos (by omega), rd_due l j (by omega), if_pos (by omega), if_pos (by omega), nx j (by omega)]
    have hm : wrap64 ((rd_T149 l (((dueTo (keyO l) l.length).getD j 0 : Nat) : Int)).f2 * e) = takes l e ((dueTo (keyO l) l.length).getD j 0) := by
      have : (rd_T149 l (((dueTo (keyO l) l.length).getD j 0 : Nat) : Int)).f2 * e = takes l e ((dueTo (keyO l) l.length).getD j 0) := Int.mul_comm _ _
      rw [this, w64 (by omega) (by omega)]
    simp only [spec_l24Days.f, Option.bind_some, hm]
    have hs : wrap64 (dayAt l e (dueTo (keyO l) l.length) j + takes l e ((dueTo (keyO l) l.length).getD j 0)) = dayAt l e (dueTo (keyO l) l.length) (j + 1) := by
      rw [w64 (by omega) (by omega)]; rfl
    rw [hs]
    have hb2 := dayAt_bound hv he (j + 1) (by omega)
    have hk : wrap64 (dayAt l e (dueTo (keyO l) l.length) (j + 1) - (rd_T149 l (((dueTo (keyO l) l.length).getD j 0 : Nat) : Int)).f3) = lateBy l e j := by
      rw [show (rd_T149 l (((dueTo (keyO l) l.length).getD j 0 : Nat) : Int)).f3 = keyO l ((dueTo (keyO l) l.length).getD j 0) from rfl, w64 (by omega) (by omega)]; rfl
    rw [hk]
    have hmax : spec_l00Max.f w (lateBy l e j) = some (max w (lateBy l e j)) := by
      unfold spec_l00Max.f
      split <;> (congr 1; omega)
    rw [hmax, Option.bind_some]

/-! ### the program's loops -/
theorem done_loop (l : List S149) (e : Int) (hv : validO l = true) (he : 1 ≤ e ∧ e ≤ 100) (d : Nat) : ∀ (j : Nat) (out : List Int), j + d = l.length → out.length = l.length → (∀ t, t < j → rd out (((dueTo (keyO l) l.length).getD t 0 : Nat) : Int) = dayAt l e (dueTo (keyO l) l.length) (t + 1)) →
    ∃ r : List Int, Ev (fun k => impl_doneDays.l0 k l e out (dayAt l e (dueTo (keyO l) l.length) j) (dueList l) (l.length : Int) (j : Int)) r ∧ r.length = l.length ∧ ∀ t, t < l.length → rd r (((dueTo (keyO l) l.length).getD t 0 : Nat) : Int) = dayAt l e (dueTo (keyO l) l.length) (t + 1) := by
  have h40 := validO_le hv
  have hL := dueList_length l
  induction d with
  | zero =>
    intro j out hj ho ht
    refine ⟨out, Ev.step (f := fun _ => some out) (fun k => ?_) (Ev.now _), ho, fun t h => ht t (by omega)⟩
    simp only [impl_doneDays.l0]
    rw [if_neg (by omega)]
  | succ d ih =>
    intro j out hj ho ht
    have hD := D_lt (l := l) j (by omega)
    have hb := dayAt_bound hv he j (by omega)
    have htk := takes_bound hv he hD
    obtain ⟨r, r1, r2, r3⟩ := ih (j + 1) (out.set ((dueTo (keyO l) l.length).getD j 0) (dayAt l e (dueTo (keyO l) l.length) (j + 1))) (by omega) (by rw [List.length_set]; exact ho) (fun t h => by
      unfold rd
      rw [Int.toNat_natCast, List.getD_eq_getElem?_getD, List.getElem?_set]
      by_cases e2 : t = j
      · subst e2
        rw [if_pos rfl, if_pos (by omega)]; rfl
      · have hne : (dueTo (keyO l) l.length).getD j 0 ≠ (dueTo (keyO l) l.length).getD t 0 := by
          have hl := dueTo_length (keyO l) l.length
          rw [getD_at (by omega), getD_at (by omega)]
          have := (List.pairwise_iff_getElem.1 (dueTo_sorted (keyO l) l.length)) t j (by omega) (by omega) (by omega)
          unfold dueLt at this
          intro e3
          rw [e3] at this
          omega
        rw [if_neg hne]
        have := ht t (by omega)
        unfold rd at this
        rwa [Int.toNat_natCast, List.getD_eq_getElem?_getD] at this)
    refine ⟨r, Ev.step (fun k => ?_) r1, r2, r3⟩
    simp only [impl_doneDays.l0]
    rw [if_pos (by omega), if_pos (by omega), if_pos (by omega), rd_due l j (by omega), if_pos (by omega), if_pos (by omega), if_pos (by omega), nx j (by omega), Int.toNat_natCast]
    have hm : wrap64 (e * (rd_T149 l (((dueTo (keyO l) l.length).getD j 0 : Nat) : Int)).f2) = takes l e ((dueTo (keyO l) l.length).getD j 0) := by
      rw [show e * (rd_T149 l (((dueTo (keyO l) l.length).getD j 0 : Nat) : Int)).f2 = takes l e ((dueTo (keyO l) l.length).getD j 0) from rfl, w64 (by omega) (by omega)]
    rw [hm]
    have hs : wrap64 (dayAt l e (dueTo (keyO l) l.length) j + takes l e ((dueTo (keyO l) l.length).getD j 0)) = dayAt l e (dueTo (keyO l) l.length) (j + 1) := by
      rw [w64 (by omega) (by omega)]; rfl
    rw [hs]
theorem done_ev (l : List S149) (e : Int) (hv : validO l = true) (he : 1 ≤ e ∧ e ≤ 100) : ∃ r : List Int, Ev (fun k => impl_doneDays.f k l e (dueList l)) r ∧ r.length = l.length ∧ ∀ t, t < l.length → rd r (((dueTo (keyO l) l.length).getD t 0 : Nat) : Int) = dayAt l e (dueTo (keyO l) l.length) (t + 1) := by
  have h40 := validO_le hv
  obtain ⟨r, r1, r2, r3⟩ := done_loop l e hv he l.length 0 (List.replicate l.length 0) (by omega) (by simp) (fun t h => by omega)
  refine ⟨r, ?_, r2, r3⟩
  unfold impl_doneDays.f
  rw [dueList_length]
  simp only [Int.toNat_natCast, if_pos (show (0 : Int) ≤ (l.length : Int) by omega), if_pos (show l.length ≤ 35184372088832 by omega)]
  exact r1
def overBy (l : List S149) (r : List Int) (i : Nat) : Int := rd r (i : Int) - keyO l i
theorem impl_worst_loop (l : List S149) (r : List Int) (hv : validO l = true) (hr : r.length = l.length) (hb : ∀ i, i < l.length → 0 ≤ rd r (i : Int) ∧ rd r (i : Int) ≤ 400000) (d : Nat) : ∀ (i : Nat) (w : Int), i + d = l.length →
    Ev (fun k => impl_WorstDelay.l0 k l w r (l.length : Int) (i : Int)) (top w ((List.range' i d).map (overBy l r)), 0) := by
  have h40 := validO_le hv
  induction d with
  | zero =>
    intro j w hj
    refine Ev.step (f := fun _ => some (w, 0)) (fun k => ?_) (Ev.now _)
    simp only [impl_WorstDelay.l0]
    rw [if_neg (by omega)]
  | succ d ih =>
    intro i w hi
    have h1 := hb i (by omega)
    have hd := validO_days hv i (by omega)
    rw [List.range'_succ, List.map_cons]
    have e1 : top w (overBy l r i :: (List.range' (i + 1) d).map (overBy l r)) = top (max w (overBy l r i)) ((List.range' (i + 1) d).map (overBy l r)) := rfl
    rw [e1]
    refine Ev.step (f := fun k => impl_WorstDelay.l0 k l (max w (overBy l r i)) r (l.length : Int) ((i + 1 : Nat) : Int)) (fun k => ?_) (ih (i + 1) _ (by omega))
    simp only [impl_WorstDelay.l0]
    rw [if_pos (by omega), if_pos (by omega), if_pos (by omega), if_pos (by omega), nx i (by omega)]
    have hk : wrap64 (rd r (i : Int) - (rd_T149 l (i : Int)).f3) = overBy l r i := by
      rw [show (rd_T149 l (i : Int)).f3 = keyO l i from rfl, w64 (by omega) (by omega)]; rfl
    rw [hk]
    congr 1
    unfold mx; omega

/-- Both answers are one. -/
theorem worst_ev (l : List S149) (e : Int) (hl : l.length ≤ 10000000) : ∃ r, Ev (fun k => spec_WorstDelay.f k l e) r ∧ Ev (fun k => impl_WorstDelay.f k l e) r := by
  unfold spec_WorstDelay.f impl_WorstDelay.f
  simp only [valid_eq (show l.length ≤ 1000000000 by omega), each_eq, Option.bind_some, impl_check.f]
  cases hv : validO l with
  | false =>
    refine ⟨(0, 1), ?_, ?_⟩
    · refine Ev.bind (code_ev l e (by omega)) ?_
      unfold codeO; rw [hv]
      exact Ev.now _
    · exact Ev.now _
  | true =>
    cases hq : decide (1 ≤ e ∧ e ≤ 100) with
    | false =>
      refine ⟨(0, 2), ?_, ?_⟩
      · refine Ev.bind (code_ev l e (by omega)) ?_
        unfold codeO; rw [hv, hq]
        exact Ev.now _
      · exact Ev.now _
    | true =>
      have he : 1 ≤ e ∧ e ≤ 100 := of_decide_eq_true hq
      have h40 := validO_le hv
      obtain ⟨r, r1, r2, r3⟩ := done_ev l e hv he
      have hlen := dueTo_length (keyO l) l.length
      have hsur : ∀ i, i < l.length → ∃ t, t < l.length ∧ (dueTo (keyO l) l.length).getD t 0 = i := fun i hi => by
        obtain ⟨t, ht, e1⟩ := List.getElem_of_mem ((dueTo_mem (keyO l) l.length i).2 hi)
        exact ⟨t, by omega, by rw [getD_at ht]; exact e1⟩
      have hb : ∀ i, i < l.length → 0 ≤ rd r (i : Int) ∧ rd r (i : Int) ≤ 400000 := fun i hi => by
        obtain ⟨t, ht, rfl⟩ := hsur i hi
        have := dayAt_bound hv he (t + 1) (by omega)
        rw [r3 t ht]; omega
      have a1 := spec_worst_loop l e hv he l.length 0 0 (by omega)
      have a2 := impl_worst_loop l r hv r2 hb l.length 0 0 (by omega)
      have hsame : top 0 ((List.range' 0 l.length).map (overBy l r)) = top 0 ((List.range' 0 l.length).map (lateBy l e)) := by
        apply top_same
        intro x
        simp only [List.mem_map, List.mem_range'_1]
        constructor
        · rintro ⟨i, hi, rfl⟩
          obtain ⟨t, ht, rfl⟩ := hsur i (by omega)
          exact ⟨t, by omega, by unfold overBy lateBy; rw [r3 t ht]⟩
        · rintro ⟨t, ht, rfl⟩
          exact ⟨(dueTo (keyO l) l.length).getD t 0, ⟨Nat.zero_le _, by have := D_lt (l := l) t (by omega); omega⟩, by unfold overBy lateBy; rw [r3 t (by omega)]⟩
      rw [hsame] at a2
      refine ⟨(top 0 ((List.range' 0 l.length).map (lateBy l e)), 0), ?_, ?_⟩
      · refine Ev.bind (code_ev l e (by omega)) ?_
        unfold codeO; rw [hv, hq]
        simp only [if_true]
        exact Ev.bind (due_ev l hl) a1
      · simp only [if_true, earliest_eq hv, Option.bind_some]
        refine Ev.bind r1 ?_
        rw [r2]
        exact a2

/-- THE LAW. -/
theorem worst_law (l : List S145) (a1 : Int) (hl : l.length ≤ 9223372036854775807) (hs : ∀ x ∈ l, x.f0.size ≤ 9223372036854775807) : ∃ k, laws_FnExactWorstDelay.f k l a1 = some true := by
  apply Ev.rounds
  unfold laws_FnExactWorstDelay.f
  obtain ⟨t, ht, ht1, ht2⟩ := sz_ev l hl hs 1048576 (by omega) (by omega)
  refine Ev.bind ht ?_
  by_cases hn : t < 0
  · simp only [if_pos hn]; exact Ev.now _
  simp only [if_neg hn]
  have la := ht2 (by omega)
  have hca : (l.map conv).length ≤ 1000000000 := by simp; omega
  have hbig : (l.map conv).length ≤ 10000000 := by simp; omega
  · obtain ⟨r, r1, r2⟩ := worst_ev (l.map conv) a1 hbig
    have ta := to_ev l (by omega)
    refine Ev.bind ta (Ev.bind r1 (Ev.bind ta (Ev.bind r2 ?_)))
    simp only [if_true, bne_self_eq_false]
    refine Ev.step (f := fun k => laws_FnExactWorstDelay.j0 (k + 1) l (l.map conv) false) (fun k => rfl) ?_
    simp only [laws_FnExactWorstDelay.j0, Bool.false_eq_true, if_false]
    refine Ev.bind ta (Ev.bind (eq_ev _ hca) ?_)
    simp only [if_true]
    exact Ev.now _
end Go.Proofs.YtdjdillppgijmaaDoor.Qo
