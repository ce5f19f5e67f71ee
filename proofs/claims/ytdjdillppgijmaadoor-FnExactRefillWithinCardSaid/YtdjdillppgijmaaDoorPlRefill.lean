/- RefillWithin finds the best set of the short items within the budget. Stocks in order alone. -/
import Derived.Test.YtdjdillppgijmaaDoorSOk
import Derived.Test.YtdjdillppgijmaaDoorQsx8
import Derived.Test.YtdjdillppgijmaaDoorQsx9
import Derived.Test.YtdjdillppgijmaaDoorPlSet
import Derived.Lib.RabinKarpLaws
set_option linter.unusedVariables false
set_option linter.unusedSimpArgs false
namespace Go.Proofs.YtdjdillppgijmaaDoor.Qs
open Go.RowKit Go.Proofs.YtdjdillppgijmaaDoorW.PrintWords Go.Proofs.YtdjdillppgijmaaDoorW.PrintLast Go.Proofs.YtdjdillppgijmaaDoorW.PrintMore Go.Proofs.YtdjdillppgijmaaDoor.Pl

theorem rd_nat (l : List S34) (i : Nat) : rd_T34 l (i : Int) = l.getD i z34 := by unfold rd_T34; rw [Int.toNat_natCast]
theorem rdi_nat (l : List Int) (i : Nat) : rd l (i : Int) = l.getD i 0 := by unfold rd; rw [Int.toNat_natCast]
theorem succ_nat (i : Nat) (h : i < 1000000000000) : wrap64 ((i : Int) + 1) = ((i + 1 : Nat) : Int) := by rw [w64 (by omega) (by omega)]; omega

/-- What one more of an item's lack costs in all. -/
def need (l : List S34) (i : Int) : Int := ((rd_T34 l i).f2 - (rd_T34 l i).f1) * (rd_T34 l i).f3
def isShort (l : List S34) (i : Nat) : Bool := decide ((rd_T34 l (i : Int)).f1 < (rd_T34 l (i : Int)).f2)
def shortFrom (l : List S34) (i d : Nat) : List Int := ((List.range' i d).filter (isShort l)).map (fun (i : Nat) => (i : Int))
def shortL (l : List S34) : List Int := shortFrom l 0 l.length
theorem shortFrom_succ (l : List S34) (i d : Nat) : shortFrom l i (d + 1) = if isShort l i = true then (i : Int) :: shortFrom l (i + 1) d else shortFrom l (i + 1) d := by
  unfold shortFrom
  rw [List.range'_succ, List.filter_cons]
  by_cases h : isShort l i = true
  · rw [if_pos h, if_pos h]; rfl
  · rw [if_neg h, if_neg h]

theorem short_loop (l : List S34) (hl : l.length ≤ 1000000000) (d : Nat) : ∀ (i : Nat) (acc : List Int), i + d = l.length → acc.length ≤ i →
    Ev (fun k => impl_shortItems.l0 k acc l (l.length : Int) (i : Int)) (acc ++ shortFrom l i d) := by
  induction d with
  | zero =>
    intro i acc hi ha
    refine Ev.step (f := fun _ => some acc) (fun k => by simp only [impl_shortItems.l0]; rw [if_neg (by omega)]) ?_
    rw [shortFrom]; simp only [List.range'_zero, List.filter_nil, List.map_nil, List.append_nil]
    exact Ev.now _
  | succ d ih =>
    intro i acc hi ha
    rw [shortFrom_succ]
    by_cases h : isShort l i = true
    · rw [if_pos h]
      have h2 : (rd_T34 l (i : Int)).f1 < (rd_T34 l (i : Int)).f2 := of_decide_eq_true h
      refine Ev.step (f := fun k => impl_shortItems.l0 k (acc ++ [(i : Int)]) l (l.length : Int) ((i + 1 : Nat) : Int)) (fun k => by
        simp only [impl_shortItems.l0]
        rw [if_pos (by omega), if_pos (by omega), if_pos (by omega), if_pos h2, if_pos (by omega), succ_nat i (by omega)]) ?_
      have := ih (i + 1) (acc ++ [(i : Int)]) (by omega) (by simp; omega)
      rwa [List.append_assoc] at this
    · rw [if_neg h]
      have h2 : ¬ (rd_T34 l (i : Int)).f1 < (rd_T34 l (i : Int)).f2 := fun e => h (decide_eq_true e)
      refine Ev.step (f := fun k => impl_shortItems.l0 k acc l (l.length : Int) ((i + 1 : Nat) : Int)) (fun k => by
        simp only [impl_shortItems.l0]
        rw [if_pos (by omega), if_pos (by omega), if_pos (by omega), if_neg h2, succ_nat i (by omega)]) ?_
      exact ih (i + 1) acc (by omega) (by omega)
theorem short_ev (l : List S34) (hl : l.length ≤ 1000000000) : Ev (fun k => impl_shortItems.f k l) (shortL l) := by
  unfold impl_shortItems.f
  exact short_loop l hl l.length 0 [] (by omega) (by simp)
theorem short2_loop (l : List S34) (hl : l.length ≤ 1000000000) (d : Nat) : ∀ (i : Nat) (acc : List Int), i + d = l.length → acc.length ≤ i →
    Ev (fun k => spec_l23Short.l0 k l acc (i : Int)) (acc ++ shortFrom l i d) := by
  induction d with
  | zero =>
    intro i acc hi ha
    refine Ev.step (f := fun _ => some acc) (fun k => by simp only [spec_l23Short.l0]; rw [if_neg (by omega)]) ?_
    rw [shortFrom]; simp only [List.range'_zero, List.filter_nil, List.map_nil, List.append_nil]
    exact Ev.now _
  | succ d ih =>
    intro i acc hi ha
    rw [shortFrom_succ]
    by_cases h : isShort l i = true
    · rw [if_pos h]
      have h2 : (rd_T34 l (i : Int)).f1 < (rd_T34 l (i : Int)).f2 := of_decide_eq_true h
      refine Ev.step (f := fun k => spec_l23Short.l0 k l (acc ++ [(i : Int)]) ((i + 1 : Nat) : Int)) (fun k => by
        simp only [spec_l23Short.l0]
        rw [if_pos (by omega), if_pos (by omega), if_pos h2, if_pos (by omega), succ_nat i (by omega)]) ?_
      have := ih (i + 1) (acc ++ [(i : Int)]) (by omega) (by simp; omega)
      rwa [List.append_assoc] at this
    · rw [if_neg h]
      have h2 : ¬ (rd_T34 l (i : Int)).f1 < (rd_T34 l (i : Int)).f2 := fun e => h (decide_eq_true e)
      refine Ev.step (f := fun k => spec_l23Short.l0 k l acc ((i + 1 : Nat) : Int)) (fun k => by
        simp only [spec_l23Short.l0]
        rw [if_pos (by omega), if_pos (by omega), if_neg h2, succ_nat i (by omega)]) ?_
      exact ih (i + 1) acc (by omega) (by omega)
theorem short2_ev (l : List S34) (hl : l.length ≤ 1000000000) : Ev (fun k => spec_l23Short.f k l) (shortL l) := by
  unfold spec_l23Short.f
  exact short2_loop l hl l.length 0 [] (by omega) (by simp)

/-! ### a stock in order: its items -/
theorem valid_len {l : List S34} (h : validB l = true) : l.length ≤ 20 := by
  unfold validB at h
  rw [Bool.and_eq_true] at h
  exact of_decide_eq_true h.2
theorem valid_item {l : List S34} (h : validB l = true) (i : Int) (h0 : 0 ≤ i) (hi : i < l.length) :
    (0 ≤ (rd_T34 l i).f1 ∧ (rd_T34 l i).f1 ≤ 100000) ∧ (0 ≤ (rd_T34 l i).f2 ∧ (rd_T34 l i).f2 ≤ 100000) ∧ (0 ≤ (rd_T34 l i).f3 ∧ (rd_T34 l i).f3 ≤ 1000000) := by
  unfold validB at h
  rw [Bool.and_eq_true] at h
  have := List.all_eq_true.1 h.1 i.toNat (List.mem_range.2 (by omega))
  rw [Int.toNat_of_nonneg h0] at this
  unfold okAt itemB haveB centsB at this
  simp only [Bool.and_eq_true, decide_eq_true_eq] at this
  exact ⟨this.1.2.1, this.1.2.2.1, this.1.2.2.2⟩
theorem short_mem {l : List S34} {x : Int} (h : x ∈ shortL l) : 0 ≤ x ∧ x < l.length ∧ (rd_T34 l x).f1 < (rd_T34 l x).f2 := by
  unfold shortL shortFrom at h
  obtain ⟨i, hi, rfl⟩ := List.mem_map.1 h
  obtain ⟨h1, h2⟩ := List.mem_filter.1 hi
  have := List.mem_range'_1.1 h1
  exact ⟨by omega, by omega, of_decide_eq_true h2⟩
theorem mem_short {l : List S34} {x : Int} (h0 : 0 ≤ x) (h1 : x < l.length) (h2 : (rd_T34 l x).f1 < (rd_T34 l x).f2) : x ∈ shortL l := by
  unfold shortL shortFrom
  refine List.mem_map.2 ⟨x.toNat, List.mem_filter.2 ⟨List.mem_range'_1.2 ⟨by omega, by omega⟩, decide_eq_true ?_⟩, Int.toNat_of_nonneg h0⟩
  rw [Int.toNat_of_nonneg h0]; exact h2
theorem short_sorted (l : List S34) : (shortL l).Pairwise (· < ·) := by
  unfold shortL shortFrom
  have : ((List.range' 0 l.length).filter (isShort l)).Pairwise (· < ·) := (List.pairwise_lt_range' (s := 0) (n := l.length)).filter _
  exact this.map _ (fun a b h => by exact_mod_cast h)
theorem short_length (l : List S34) : (shortL l).length ≤ l.length := by
  unfold shortL shortFrom
  rw [List.length_map]
  have := List.length_filter_le (isShort l) (List.range' 0 l.length)
  simpa using this
theorem need_bd {l : List S34} (h : validB l = true) {x : Int} (hx : x ∈ shortL l) : 0 ≤ need l x ∧ need l x ≤ 100000000000 := by
  obtain ⟨h0, h1, h2⟩ := short_mem hx
  obtain ⟨a, b, c⟩ := valid_item h x h0 h1
  unfold need
  constructor
  · exact Int.mul_nonneg (by omega) c.1
  · calc _ ≤ (100000 : Int) * 1000000 := Int.mul_le_mul (by omega) c.2 c.1 (by omega)
      _ = _ := by decide

/-! ### the cost of some items -/
theorem costL_cons (f : Int → Int) (x : Int) (S : List Int) : costL f (x :: S) = f x + costL f S := by unfold costL; simp
theorem costL_append (f : Int → Int) (S T : List Int) : costL f (S ++ T) = costL f S + costL f T := by unfold costL; simp
theorem costL_bd {l : List S34} (h : validB l = true) : ∀ S : List Int, (∀ x ∈ S, x ∈ shortL l) → 0 ≤ costL (need l) S ∧ costL (need l) S ≤ S.length * 100000000000
  | [], _ => by simp [costL]
  | x :: S, hS => by
    rw [costL_cons]
    have := need_bd h (hS x (by simp))
    have := costL_bd h S (fun y hy => hS y (by simp [hy]))
    simp only [List.length_cons]
    omega
theorem cost_loop (l : List S34) (hv : validB l = true) (S : List Int) (hS : ∀ x ∈ S, x ∈ shortL l) (hlen : S.length ≤ 1000) (d : Nat) : ∀ (i : Nat) (acc : Int), i + d = S.length → acc = costL (need l) (S.take i) →
    Ev (fun k => impl_refillCost.l0 k l acc S (S.length : Int) (i : Int)) (costL (need l) S) := by
  induction d with
  | zero =>
    intro i acc hi ha
    refine Ev.step (f := fun _ => some acc) (fun k => by simp only [impl_refillCost.l0]; rw [if_neg (by omega)]) ?_
    rw [ha, List.take_of_length_le (by omega)]
    exact Ev.now _
  | succ d ih =>
    intro i acc hi ha
    have hlt : i < S.length := by omega
    have hx : S[i] ∈ shortL l := hS _ (List.getElem_mem hlt)
    have hrd : rd S (i : Int) = S[i] := by rw [rdi_nat]; simp [List.getD, hlt]
    obtain ⟨h0, h1, h2⟩ := short_mem hx
    obtain ⟨a, b, c⟩ := valid_item hv _ h0 h1
    have hn := need_bd hv hx
    have hc := costL_bd hv (S.take i) (fun y hy => hS y (List.mem_of_mem_take hy))
    have hl : (S.take i).length = i := by rw [List.length_take]; omega
    rw [hl] at hc
    have e1 : wrap64 ((rd_T34 l S[i]).f2 - (rd_T34 l S[i]).f1) = (rd_T34 l S[i]).f2 - (rd_T34 l S[i]).f1 := w64 (by omega) (by omega)
    have e2 : wrap64 (((rd_T34 l S[i]).f2 - (rd_T34 l S[i]).f1) * (rd_T34 l S[i]).f3) = need l S[i] := w64 (by unfold need at hn; omega) (by unfold need at hn; omega)
    have e3 : wrap64 (acc + need l S[i]) = acc + need l S[i] := w64 (by omega) (by omega)
    refine Ev.step (f := fun k => impl_refillCost.l0 k l (acc + need l S[i]) S (S.length : Int) ((i + 1 : Nat) : Int)) (fun k => by
      simp only [impl_refillCost.l0]
      rw [if_pos (by omega), if_pos (by omega), if_pos (by omega), hrd, if_pos h0, if_pos h1, e1, e2, e3, succ_nat i (by omega)]) ?_
    refine ih (i + 1) _ (by omega) ?_
    rw [List.take_succ_eq_append_getElem hlt, costL_append, ha]
    simp [costL]
theorem cost_ev (l : List S34) (hv : validB l = true) (S : List Int) (hS : ∀ x ∈ S, x ∈ shortL l) (hlen : S.length ≤ 1000) : Ev (fun k => impl_refillCost.f k l S) (costL (need l) S) := by
  unfold impl_refillCost.f
  exact cost_loop l hv S hS hlen S.length 0 0 (by omega) (by simp [costL])

/-! ### the places of a number's bits -/
def posI (m p : Nat) : List Int := (posOf m p).map (fun (q : Nat) => (q : Int))
theorem posI_step (m p : Nat) (h : m ≠ 0) : posI m p = if m % 2 = 1 then (p : Int) :: posI (m / 2) (p + 1) else posI (m / 2) (p + 1) := by
  unfold posI
  rw [posOf, dif_neg h]
  by_cases h1 : m % 2 = 1
  · rw [if_pos h1, if_pos h1]; rfl
  · rw [if_neg h1, if_neg h1]
theorem members_loop : ∀ (m p : Nat) (acc : List Int), m < 1000000000 → p + m < 1000000000000 → acc.length + m < 1000000000000 →
    Ev (fun k => impl_members.l0 k (m : Int) acc (p : Int)) (acc ++ posI m p) := by
  intro m
  induction m using Nat.strongRecOn with
  | _ m ih =>
    intro p acc hm hp ha
    by_cases h0 : m = 0
    · subst h0
      refine Ev.step (f := fun _ => some acc) (fun k => by simp only [impl_members.l0]; rw [if_neg (by omega)]) ?_
      have : posI 0 p = [] := by unfold posI; rw [posOf, dif_pos rfl]; rfl
      rw [this, List.append_nil]
      exact Ev.now _
    · rw [posI_step m p h0]
      have hb : Go.bits .and .i64 (m : Int) 1 = ((m % 2 : Nat) : Int) := and_one m (by omega)
      have hd : (m : Int) / 2 = ((m / 2 : Nat) : Int) := by omega
      by_cases h1 : m % 2 = 1
      · rw [if_pos h1]
        refine Ev.step (f := fun k => impl_members.l0 k ((m / 2 : Nat) : Int) (acc ++ [(p : Int)]) ((p + 1 : Nat) : Int)) (fun k => by
          simp only [impl_members.l0]
          rw [if_pos (by omega), hb, if_pos (by omega), if_pos (by omega), hd, succ_nat p (by omega)]) ?_
        have := ih (m / 2) (by omega) (p + 1) (acc ++ [(p : Int)]) (by omega) (by omega) (by simp; omega)
        rwa [List.append_assoc] at this
      · rw [if_neg h1]
        refine Ev.step (f := fun k => impl_members.l0 k ((m / 2 : Nat) : Int) acc ((p + 1 : Nat) : Int)) (fun k => by
          simp only [impl_members.l0]
          rw [if_pos (by omega), hb, if_neg (by omega), hd, succ_nat p (by omega)]) ?_
        exact ih (m / 2) (by omega) (p + 1) acc (by omega) (by omega) (by omega)
theorem members_ev (m : Nat) (hm : m < 1000000000) : Ev (fun k => impl_members.f k (m : Int)) (posI m 0) := by
  unfold impl_members.f
  exact members_loop m 0 [] hm (by omega) (by simp; omega)

/-! ### lists compared -/
theorem compare_eq (a b : Int) : cmp_Compare_int64.f a b = some (if a < b then -1 else if a > b then 1 else 0) := by
  unfold cmp_Compare_int64.f cmp_isNaN_int64.f
  simp only [Option.bind_some, bne_self_eq_false, Bool.false_eq_true, if_false]
  by_cases h : a < b
  · rw [if_pos h, if_pos h]
  · by_cases h2 : a > b
    · rw [if_neg h, if_neg h, if_pos h2, if_pos h2]
    · rw [if_neg h, if_neg h, if_neg h2, if_neg h2]
theorem cmp_loop (a b : List Int) (ha : a.length ≤ 1000000) (d : Nat) : ∀ i : Nat, i + d = a.length → i ≤ b.length →
    Ev (fun k => slices_Compare_int64_int64.l0 k a b a (a.length : Int) (i : Int)) (cmpL (a.drop i) (b.drop i)) := by
  induction d with
  | zero =>
    intro i hi hb
    rw [List.drop_eq_nil_of_le (show a.length ≤ i by omega)]
    by_cases h : i < b.length
    · refine Ev.step (f := fun _ => some (-1)) (fun k => by simp only [slices_Compare_int64_int64.l0]; rw [if_neg (by omega), if_pos (by omega)]) ?_
      rw [List.drop_eq_getElem_cons h, cmpL]
      exact Ev.now _
    · refine Ev.step (f := fun _ => some 0) (fun k => by simp only [slices_Compare_int64_int64.l0]; rw [if_neg (by omega), if_neg (by omega)]) ?_
      rw [List.drop_eq_nil_of_le (show b.length ≤ i by omega), cmpL]
      exact Ev.now _
  | succ d ih =>
    intro i hi hb
    have hlt : i < a.length := by omega
    rw [List.drop_eq_getElem_cons hlt]
    by_cases h : i < b.length
    · have ea : rd a (i : Int) = a[i] := by rw [rdi_nat]; simp [List.getD, hlt]
      have eb : rd b (i : Int) = b[i] := by rw [rdi_nat]; simp [List.getD, h]
      rw [List.drop_eq_getElem_cons h, cmpL]
      refine Ev.step (f := fun k => if (if a[i] < b[i] then (-1 : Int) else if a[i] > b[i] then 1 else 0) = 0 then slices_Compare_int64_int64.l0 k a b a (a.length : Int) ((i + 1 : Nat) : Int) else some (if a[i] < b[i] then (-1 : Int) else if a[i] > b[i] then 1 else 0)) (fun k => by
        simp only [slices_Compare_int64_int64.l0]
        rw [if_pos (by omega), if_pos (by omega), if_pos (by omega), if_neg (by omega), if_pos (by omega), ea, eb, compare_eq, succ_nat i (by omega)]
        rfl) ?_
      by_cases h1 : a[i] < b[i]
      · simp only [if_pos h1]; simpa using Ev.now (-1 : Int)
      · by_cases h2 : a[i] > b[i]
        · simp only [if_neg h1, if_pos h2]; simpa using Ev.now (1 : Int)
        · simp only [if_neg h1, if_neg h2]; simpa using ih (i + 1) (by omega) (by omega)
    · refine Ev.step (f := fun _ => some 1) (fun k => by
        simp only [slices_Compare_int64_int64.l0]
        rw [if_pos (by omega), if_pos (by omega), if_pos (by omega), if_pos (by omega)]) ?_
      rw [List.drop_eq_nil_of_le (show b.length ≤ i by omega), cmpL]
      exact Ev.now _
theorem cmp_ev (a b : List Int) (ha : a.length ≤ 1000000) : Ev (fun k => slices_Compare_int64_int64.f k a b) (cmpL a b) := by
  unfold slices_Compare_int64_int64.f
  have := cmp_loop a b ha a.length 0 (by omega) (by omega)
  simpa using this
end Go.Proofs.YtdjdillppgijmaaDoor.Qs
