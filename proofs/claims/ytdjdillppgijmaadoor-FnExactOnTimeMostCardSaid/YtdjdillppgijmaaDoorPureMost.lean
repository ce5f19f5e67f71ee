/- The law FnExactOnTimeMost in plain Lean. -/
import Derived.Test.YtdjdillppgijmaaDoorPlOrdC
import Derived.Test.YtdjdillppgijmaaDoorQox14
set_option linter.unusedVariables false
set_option linter.unusedSimpArgs false
namespace Go.Proofs.YtdjdillppgijmaaDoor.Qo
open Go.RowKit Go.Proofs.YtdjdillppgijmaaDoorW.PrintWords Go.Proofs.YtdjdillppgijmaaDoorW.PrintLast Go.Proofs.YtdjdillppgijmaaDoorW.PrintMore

/-- How many days an order takes. -/
def longOf (l : List S149) (e : Int) (i : Nat) : Int := e * (rd_T149 l (i : Int)).f2
def manyOf (l : List S149) (i : Nat) : Int := (rd_T149 l (i : Int)).f2
theorem longOf_bound {l : List S149} {e : Int} (hv : validO l = true) (he : 1 ≤ e ∧ e ≤ 100) {i : Nat} (hi : i < l.length) : 0 ≤ longOf l e i ∧ longOf l e i ≤ 10000 := by
  have h := (orderB_parts (validO_at hv i hi)).1
  unfold longOf
  generalize (rd_T149 l (i : Int)).f2 = m at h
  constructor
  · exact Int.mul_nonneg (by omega) (by omega)
  · have h1 : e * m ≤ 100 * m := Int.mul_le_mul_of_nonneg_right (by omega) (by omega)
    omega
theorem longOf_lt {l : List S149} {e : Int} (he : 1 ≤ e) (i j : Nat) : longOf l e i < longOf l e j ↔ manyOf l i < manyOf l j := by
  unfold longOf manyOf
  constructor
  · intro h
    exact Int.lt_of_mul_lt_mul_left h (by omega)
  · intro h
    exact Int.mul_lt_mul_of_pos_left h (by omega)
theorem rd_list (l : List Int) (j : Nat) (h : j < l.length) : rd l (j : Int) = l[j] := by
  unfold rd
  rw [Int.toNat_natCast, List.getD_eq_getElem?_getD, List.getElem?_eq_getElem h]
  rfl
theorem D_lt' {l : List S149} (j : Nat) (hj : j < l.length) : (dueTo (keyO l) l.length).getD j 0 < l.length := by
  have hl := dueTo_length (keyO l) l.length
  rw [getD_at (by omega)]
  exact (dueTo_mem _ _ _).1 (List.getElem_mem _)
theorem rd_due' (l : List S149) (j : Nat) (h : j < l.length) : rd (dueList l) (j : Int) = (((dueTo (keyO l) l.length).getD j 0 : Nat) : Int) :=
  rd_cast _ j (by rw [dueTo_length]; exact h)

/-! ### the first of the greatest -/
/-- The first of those before k that take longest. -/
structure FirstMax (l : List S149) (T : List Nat) (k L : Nat) : Prop where
  lt : L < k
  le : ∀ t, t < k → manyOf l (T.getD t 0) ≤ manyOf l (T.getD L 0)
  first : ∀ t, t < L → manyOf l (T.getD t 0) < manyOf l (T.getD L 0)

theorem mem_lt {T : List Nat} {n j : Nat} (h : ∀ i ∈ T, i < n) (hj : j < T.length) : T.getD j 0 < n := by rw [getD_at hj]; exact h _ (List.getElem_mem _)

def without (T : List Nat) (L : Nat) : List Nat := T.take L ++ T.drop (L + 1)
theorem spec_inner (l : List S149) (e : Int) (hv : validO l = true) (he : 1 ≤ e ∧ e ≤ 100) (T : List Nat) (hT : ∀ i ∈ T, i < l.length) (hq : T.length ≤ 1000) (now : Int) (hn : -10000000 ≤ now ∧ now ≤ 10000000) (j : Nat) (hj : j ≤ 1000) (d : Nat) :
    ∀ (k L : Nat), k + d = T.length → FirstMax l T k L → ∃ M, FirstMax l T T.length M ∧ ∀ R, Ev (fun q => spec_OnTimeMost.l0 q l e (castL (without T M)) (now - longOf l e (T.getD M 0)) (dueList l) ((j + 1 : Nat) : Int)) R →
      Ev (fun q => spec_OnTimeMost.l1 q l e (castL T) now (dueList l) (j : Int) (L : Int) (k : Int)) R := by
  have hcl := castL_length T
  induction d with
  | zero =>
    intro k L hk hL
    obtain rfl : k = T.length := by omega
    refine ⟨L, hL, fun R hR => Ev.step (fun q => ?_) hR⟩
    have hL1 := hL.lt
    have hm := mem_lt hT hL1
    have hb := longOf_bound hv he hm
    simp only [spec_OnTimeMost.l1]
    rw [if_neg (by omega), if_pos (by omega), if_pos (by omega), rd_cast T L hL1, if_pos (by omega), if_pos (by omega)]
    have hmul : wrap64 ((rd_T149 l ((T.getD L 0 : Nat) : Int)).f2 * e) = longOf l e (T.getD L 0) := by
      have : (rd_T149 l ((T.getD L 0 : Nat) : Int)).f2 * e = longOf l e (T.getD L 0) := Int.mul_comm _ _
      rw [this, w64 (by omega) (by omega)]
    simp only [spec_l24Days.f, Option.bind_some, hmul, nx L (by omega), nx j (by omega), Int.toNat_natCast]
    rw [if_pos (by omega)]
    have h1 : spec_l00Own.f ((castL T).take L) = some ((castL T).take L) := by
      unfold spec_l00Own.f
      rw [Option.bind_some, if_pos (by simp; omega), List.nil_append]
    rw [h1, Option.bind_some, if_pos (by omega), if_pos (by omega), if_pos (by simp; omega), w64 (by omega) (by omega)]
    congr 1
    unfold without castL
    rw [List.map_append, List.map_take, List.map_drop]
  | succ d ih =>
    intro k L hk hL
    have hL1 := hL.lt
    have hm := mem_lt hT (show L < T.length by omega)
    have hm2 := mem_lt hT (show k < T.length by omega)
    by_cases hgt : manyOf l (T.getD L 0) < manyOf l (T.getD k 0)
    · obtain ⟨M, m1, m2⟩ := ih (k + 1) k (by omega) ⟨by omega, fun t ht => by
          by_cases e2 : t = k
          · subst e2; exact Int.le_refl _
          · have := hL.le t (by omega); omega, fun t ht => by have := hL.le t ht; omega⟩
      refine ⟨M, m1, fun R hR => Ev.step (fun q => ?_) (m2 R hR)⟩
      simp only [spec_OnTimeMost.l1]
      rw [if_pos (by omega), if_pos (by omega), rd_cast T k (by omega), if_pos (by omega), if_pos (by omega), if_pos (by omega), if_pos (by omega), rd_cast T L (by omega), if_pos (by omega), if_pos (by omega)]
      rw [if_pos (show (rd_T149 l ((T.getD k 0 : Nat) : Int)).f2 > (rd_T149 l ((T.getD L 0 : Nat) : Int)).f2 from hgt), nx k (by omega)]
    · obtain ⟨M, m1, m2⟩ := ih (k + 1) L (by omega) ⟨by omega, fun t ht => by
          by_cases e2 : t = k
          · subst e2; omega
          · exact hL.le t (by omega), hL.first⟩
      refine ⟨M, m1, fun R hR => Ev.step (fun q => ?_) (m2 R hR)⟩
      simp only [spec_OnTimeMost.l1]
      rw [if_pos (by omega), if_pos (by omega), rd_cast T k (by omega), if_pos (by omega), if_pos (by omega), if_pos (by omega), if_pos (by omega), rd_cast T L (by omega), if_pos (by omega), if_pos (by omega)]
      rw [if_neg (show ¬ (rd_T149 l ((T.getD k 0 : Nat) : Int)).f2 > (rd_T149 l ((T.getD L 0 : Nat) : Int)).f2 from hgt), nx k (by omega)]

/-! ### the program's: the greatest, and where it first is -/
def madeOf (l : List S149) (e : Int) (T : List Nat) : List Int := T.map (longOf l e)
theorem madeOf_length (l : List S149) (e : Int) (T : List Nat) : (madeOf l e T).length = T.length := by simp [madeOf]
theorem rd_made (l : List S149) (e : Int) (T : List Nat) (j : Nat) (h : j < T.length) : rd (madeOf l e T) (j : Int) = longOf l e (T.getD j 0) := by
  rw [rd_list _ j (by rw [madeOf_length]; exact h), getD_at h]
  simp [madeOf]
theorem maxTo_ge (m : List Int) (i : Nat) : ∀ t, t ≤ i → rd m (t : Int) ≤ maxTo m i := by
  induction i with
  | zero => intro t ht; obtain rfl : t = 0 := by omega
            exact Int.le_refl _
  | succ i ih =>
    intro t ht
    have e1 : maxTo m (i + 1) = mx (maxTo m i) (rd m ((i + 1 : Nat) : Int)) := rfl
    rw [e1]
    by_cases e2 : t = i + 1
    · subst e2; unfold mx; omega
    · have := ih t (by omega); unfold mx; omega
theorem maxTo_mem (m : List Int) (i : Nat) : ∃ t, t ≤ i ∧ maxTo m i = rd m (t : Int) := by
  induction i with
  | zero => exact ⟨0, Nat.le_refl _, rfl⟩
  | succ i ih =>
    obtain ⟨t, h1, h2⟩ := ih
    have e1 : maxTo m (i + 1) = mx (maxTo m i) (rd m ((i + 1 : Nat) : Int)) := rfl
    rw [e1]
    by_cases e2 : rd m ((i + 1 : Nat) : Int) ≤ maxTo m i
    · exact ⟨t, by omega, by rw [← h2]; unfold mx; omega⟩
    · exact ⟨i + 1, Nat.le_refl _, by unfold mx; omega⟩
theorem max_is {l : List S149} {e : Int} (he : 1 ≤ e) {T : List Nat} {M : Nat} (h : FirstMax l T T.length M) : maxTo (madeOf l e T) ((madeOf l e T).length - 1) = longOf l e (T.getD M 0) := by
  have hl := madeOf_length l e T
  have hM := h.lt
  have a := maxTo_ge (madeOf l e T) ((madeOf l e T).length - 1) M (by omega)
  obtain ⟨t, t1, t2⟩ := maxTo_mem (madeOf l e T) ((madeOf l e T).length - 1)
  rw [rd_made l e T M hM] at a
  rw [t2, rd_made l e T t (by omega)] at a ⊢
  have b := h.le t (by omega)
  have c := (longOf_lt (l := l) he (T.getD M 0) (T.getD t 0)).1
  by_cases e2 : longOf l e (T.getD M 0) < longOf l e (T.getD t 0)
  · have := c e2; omega
  · omega
theorem index_loop (l : List S149) (e : Int) (he : 1 ≤ e) (T : List Nat) (hq : T.length ≤ 1000) (M : Nat) (h : FirstMax l T T.length M) (d : Nat) : ∀ i : Nat, i + d = M → Ev (fun k => slices_Index_int64_int64.l0 k (madeOf l e T) (longOf l e (T.getD M 0)) ((madeOf l e T).length : Int) (i : Int)) (M : Int) := by
  have hl := madeOf_length l e T
  have hM := h.lt
  induction d with
  | zero =>
    intro i hi
    obtain rfl : i = M := by omega
    refine Ev.step (f := fun _ => some ((i : Int))) (fun k => ?_) (Ev.now _)
    simp only [slices_Index_int64_int64.l0]
    rw [if_pos (by omega), if_pos (by omega), if_pos (by omega), rd_made l e T i hM, if_pos rfl]
  | succ d ih =>
    intro i hi
    have hne : longOf l e (T.getD M 0) ≠ longOf l e (T.getD i 0) := by
      have := (longOf_lt (l := l) he (T.getD i 0) (T.getD M 0)).2 (h.first i (by omega))
      omega
    refine Ev.step (f := fun k => slices_Index_int64_int64.l0 k (madeOf l e T) (longOf l e (T.getD M 0)) ((madeOf l e T).length : Int) ((i + 1 : Nat) : Int)) (fun k => ?_) (ih (i + 1) (by omega))
    simp only [slices_Index_int64_int64.l0]
    rw [if_pos (by omega), if_pos (by omega), if_pos (by omega), rd_made l e T i (by omega), if_neg hne, nx i (by omega)]

theorem first_one (l : List S149) (T : List Nat) : FirstMax l T 1 0 := by
  refine ⟨by omega, fun t ht => ?_, fun t ht => by omega⟩
  obtain rfl : t = 0 := by omega
  exact Int.le_refl _
theorem del_eq (l : List S149) (e : Int) (T : List Nat) (M : Nat) (h : M < T.length) : slices_Delete_int64_int64.f (madeOf l e T) (M : Int) (((M + 1 : Nat)) : Int) = some (madeOf l e (without T M)) := by
  have hml := madeOf_length l e T
  unfold slices_Delete_int64_int64.f
  rw [if_pos ⟨by omega, by omega, by omega⟩, Int.toNat_natCast, Int.toNat_natCast]
  congr 1
  unfold madeOf without
  rw [List.map_append, List.map_take, List.map_drop]

/-! ### both loops -/
theorem most_loop (l : List S149) (e : Int) (hv : validO l = true) (he : 1 ≤ e ∧ e ≤ 100) (d : Nat) : ∀ (j : Nat) (T : List Nat) (now : Int), j + d = l.length → (∀ i ∈ T, i < l.length) → T.length ≤ j → -(20000 * j) ≤ now → now ≤ 20000 * j →
    ∃ r, Ev (fun k => spec_OnTimeMost.l0 k l e (castL T) now (dueList l) (j : Int)) r ∧ Ev (fun k => impl_OnTimeMost.l0 k l e (madeOf l e T) now (dueList l) (l.length : Int) (j : Int)) r := by
  have h40 := validO_le hv
  have hL := dueList_length l
  induction d with
  | zero =>
    intro j T now hj hT hTl hn1 hn2
    have hcl := castL_length T
    have hml := madeOf_length l e T
    refine ⟨((T.length : Int), 0), ?_, ?_⟩
    · refine Ev.step (f := fun _ => some ((T.length : Int), 0)) (fun k => ?_) (Ev.now _)
      simp only [spec_OnTimeMost.l0]
      rw [if_neg (by omega), hcl]
    · refine Ev.step (f := fun _ => some ((T.length : Int), 0)) (fun k => ?_) (Ev.now _)
      simp only [impl_OnTimeMost.l0]
      rw [if_neg (by omega), hml]
  | succ d ih =>
    intro j T now hj hT hTl hn1 hn2
    have hcl := castL_length T
    have hml := madeOf_length l e T
    obtain ⟨i, hi⟩ : ∃ i, i = (dueTo (keyO l) l.length).getD j 0 := ⟨_, rfl⟩
    have hD := D_lt' (l := l) j (by omega)
    have hrd := rd_due' l j (by omega)
    rw [← hi] at hD hrd
    have hb := longOf_bound hv he hD
    have hdy := validO_days hv i hD
    have hT2 : ∀ t ∈ T ++ [i], t < l.length := fun t ht => by
      rcases List.mem_append.1 ht with h | h
      · exact hT t h
      · rw [List.mem_singleton.1 h]; exact hD
    have hcast : castL T ++ [(i : Int)] = castL (T ++ [i]) := by simp [castL]
    have hmade : madeOf l e T ++ [longOf l e i] = madeOf l e (T ++ [i]) := by simp [madeOf]
    have hm1 : wrap64 ((rd_T149 l (i : Int)).f2 * e) = longOf l e i := by
      have : (rd_T149 l (i : Int)).f2 * e = longOf l e i := Int.mul_comm _ _
      rw [this, w64 (by omega) (by omega)]
    have hm2 : wrap64 (e * (rd_T149 l (i : Int)).f2) = longOf l e i := by
      rw [show e * (rd_T149 l (i : Int)).f2 = longOf l e i from rfl, w64 (by omega) (by omega)]
    have hs : wrap64 (now + longOf l e i) = now + longOf l e i := w64 (by omega) (by omega)
    have hlen2 : (T ++ [i]).length = T.length + 1 := by simp
    by_cases hlate : now + longOf l e i ≤ (rd_T149 l (i : Int)).f3
    · obtain ⟨r, r1, r2⟩ := ih (j + 1) (T ++ [i]) (now + longOf l e i) (by omega) hT2 (by omega) (by omega) (by omega)
      refine ⟨r, Ev.step (fun k => ?_) r1, Ev.step (fun k => ?_) r2⟩
      · simp only [spec_OnTimeMost.l0]
        rw [if_pos (by omega), if_pos (by omega), if_pos (by omega), Option.bind_some, hrd, if_pos (by omega), if_pos (by omega)]
        simp only [spec_l24Days.f, Option.bind_some, hm1, hs, nx j (by omega), hcast]
        rw [if_pos hlate]
      · simp only [impl_OnTimeMost.l0]
        rw [if_pos (by omega), if_pos (by omega), if_pos (by omega), hrd, if_pos (by omega), if_pos (by omega), if_pos (by omega), Option.bind_some, hm2, hs, nx j (by omega), hmade]
        rw [if_neg (by omega)]
    · have hfm0 : FirstMax l (T ++ [i]) 1 0 := first_one l (T ++ [i])
      obtain ⟨M, m1, m2⟩ := spec_inner l e hv he (T ++ [i]) hT2 (by omega) (now + longOf l e i) ⟨by omega, by omega⟩ j (by omega) T.length 1 0 (by omega) hfm0
      have hMl := m1.lt
      have hbM := longOf_bound hv he (mem_lt hT2 hMl)
      have hw2 : ∀ t ∈ without (T ++ [i]) M, t < l.length := fun t ht => by
        unfold without at ht
        rcases List.mem_append.1 ht with h | h
        · exact hT2 t (List.mem_of_mem_take h)
        · exact hT2 t (List.mem_of_mem_drop h)
      have hwl : (without (T ++ [i]) M).length = T.length := by unfold without; rw [List.length_append, List.length_take, List.length_drop]; omega
      obtain ⟨r, r1, r2⟩ := ih (j + 1) (without (T ++ [i]) M) (now + longOf l e i - longOf l e ((T ++ [i]).getD M 0)) (by omega) hw2 (by omega) (by omega) (by omega)
      refine ⟨r, Ev.step (fun k => ?_) (m2 r r1), ?_⟩
      · simp only [spec_OnTimeMost.l0]
        rw [if_pos (by omega), if_pos (by omega), if_pos (by omega), Option.bind_some, hrd, if_pos (by omega), if_pos (by omega)]
        simp only [spec_l24Days.f, Option.bind_some, hm1, hs, hcast]
        rw [if_neg hlate]
        rfl
      · refine Ev.step (f := fun k => impl_OnTimeMost.l0 (k + 1) l e (madeOf l e T) now (dueList l) (l.length : Int) (j : Int)) (fun k => rfl) ?_
        have hml2 := madeOf_length l e (T ++ [i])
        have hmaxv : slices_Max_int64_int64.f (madeOf l e (T ++ [i])) = some (longOf l e ((T ++ [i]).getD M 0)) := by
          unfold slices_Max_int64_int64.f
          rw [if_pos ⟨by omega, by omega⟩, max_is he.1 m1]
        have hdel := del_eq l e (T ++ [i]) M hMl
        simp only [impl_OnTimeMost.l0]
        simp only [if_pos (show (j : Int) < (l.length : Int) by omega), if_pos (show (0 : Int) ≤ (j : Int) by omega), if_pos (show (j : Int) < ((dueList l).length : Int) by omega), hrd, if_pos (show (0 : Int) ≤ (i : Int) by omega), if_pos (show (i : Int) < (l.length : Int) by omega), if_pos (show (madeOf l e T).length < 17592186044416 by omega), Option.bind_some, hm2, hs, hmade, nx j (by omega)]
        simp only [if_pos (show now + longOf l e i > (rd_T149 l (i : Int)).f3 by omega), hmaxv, Option.bind_some]
        refine Ev.bind (index_loop l e he.1 (T ++ [i]) (by omega) M m1 M 0 (by omega)) ?_
        simp only [if_pos (show (0 : Int) ≤ (M : Int) by omega), if_pos (show (M : Int) < ((madeOf l e (T ++ [i])).length : Int) by omega), nx M (by omega), hdel, Option.bind_some, rd_made l e (T ++ [i]) M hMl]
        rw [show wrap64 (now + longOf l e i - longOf l e ((T ++ [i]).getD M 0)) = now + longOf l e i - longOf l e ((T ++ [i]).getD M 0) from w64 (by omega) (by omega)]
        exact r2

/-- Both answers are one. -/
theorem most_ev (l : List S149) (e : Int) (hl : l.length ≤ 10000000) : ∃ r, Ev (fun k => spec_OnTimeMost.f k l e) r ∧ Ev (fun k => impl_OnTimeMost.f k l e) r := by
  unfold spec_OnTimeMost.f impl_OnTimeMost.f
  simp only [valid_eq (show l.length ≤ 1000000000 by omega), each_eq, Option.bind_some, impl_check.f]
  cases hv : validO l with
  | false =>
    refine ⟨(0, 1), ?_, ?_⟩
    · refine Ev.bind (code_ev l e (by omega)) ?_
      unfold codeO; rw [hv]
      exact Ev.now _
    · exact Ev.now _
  | true =>
    cases hq : decide (1 ≤ e ∧ e ≤ 100) with
    | false =>
      refine ⟨(0, 2), ?_, ?_⟩
      · refine Ev.bind (code_ev l e (by omega)) ?_
        unfold codeO; rw [hv, hq]
        exact Ev.now _
      · exact Ev.now _
    | true =>
      have he : 1 ≤ e ∧ e ≤ 100 := of_decide_eq_true hq
      obtain ⟨r, r1, r2⟩ := most_loop l e hv he l.length 0 [] 0 (by omega) (fun t ht => by cases ht) (Nat.le_refl _) (by omega) (by omega)
      refine ⟨r, ?_, ?_⟩
      · refine Ev.bind (code_ev l e (by omega)) ?_
        unfold codeO; rw [hv, hq]
        simp only [if_true]
        exact Ev.bind (due_ev l hl) r1
      · simp only [if_true, earliest_eq hv, Option.bind_some, dueList_length]
        exact r2

/-- THE LAW. -/
theorem most_law (l : List S145) (a1 : Int) (hl : l.length ≤ 9223372036854775807) (hs : ∀ x ∈ l, x.f0.size ≤ 9223372036854775807) : ∃ k, laws_FnExactOnTimeMost.f k l a1 = some true := by
  apply Ev.rounds
  unfold laws_FnExactOnTimeMost.f
  obtain ⟨t, ht, ht1, ht2⟩ := sz_ev l hl hs 1048576 (by omega) (by omega)
  refine Ev.bind ht ?_
  by_cases hn : t < 0
  · simp only [if_pos hn]; exact Ev.now _
  simp only [if_neg hn]
  have la := ht2 (by omega)
  have hca : (l.map conv).length ≤ 1000000000 := by simp; omega
  have hbig : (l.map conv).length ≤ 10000000 := by simp; omega
  obtain ⟨r, r1, r2⟩ := most_ev (l.map conv) a1 hbig
  have ta := to_ev l (by omega)
  refine Ev.bind ta (Ev.bind r1 (Ev.bind ta (Ev.bind r2 ?_)))
  simp only [if_true, bne_self_eq_false]
  refine Ev.step (f := fun k => laws_FnExactOnTimeMost.j0 (k + 1) l (l.map conv) false) (fun k => rfl) ?_
  simp only [laws_FnExactOnTimeMost.j0, Bool.false_eq_true, if_false]
  refine Ev.bind ta (Ev.bind (eq_ev _ hca) ?_)
  simp only [if_true]
  exact Ev.now _
end Go.Proofs.YtdjdillppgijmaaDoor.Qo
