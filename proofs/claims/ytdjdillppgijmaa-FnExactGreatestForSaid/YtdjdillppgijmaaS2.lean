/- impl.GreatestFor's contract; what the two checks of a price list answer. -/
import Derived.Test.YtdjdillppgijmaaQx2
import Derived.Test.YtdjdillppgijmaaSGreat
set_option linter.unusedVariables false
set_option linter.unusedSimpArgs false
namespace Go.Proofs.Ytdjdillppgijmaa.Q
open Go.RowKit Go.Proofs.YtdjdillppgijmaaW.PrintWords Go.Proofs.YtdjdillppgijmaaW.PrintLast Go.Proofs.YtdjdillppgijmaaW.PrintMore

theorem w64 {x : Int} (h1 : -9223372036854775808 ≤ x) (h2 : x ≤ 9223372036854775807) : wrap64 x = x := by unfold wrap64; omega
theorem in_eq (a b c : Int) : spec_l00In.f a b c = some (decide (b ≤ a ∧ a ≤ c)) := by
  unfold spec_l00In.f
  by_cases h : a ≥ b
  · rw [if_pos h]; congr 1; by_cases h2 : a ≤ c <;> simp [h2]; omega
  · rw [if_neg h]; congr 1; symm; apply decide_eq_false; omega
theorem isSize_eq (a : Int) : impl_isSize.f a = some (decide (1 ≤ a ∧ a ≤ 200)) := by unfold impl_isSize.f; rw [within_eq]; rfl

def okP (l : List S35) (i : Int) : Bool :=
  decide (1 ≤ (rd_T35 l i).f0 ∧ (rd_T35 l i).f0 ≤ 200) && (decide (1 ≤ (rd_T35 l i).f1 ∧ (rd_T35 l i).f1 ≤ 1000000) && (decide (0 ≤ (rd_T35 l i).f2 ∧ (rd_T35 l i).f2 ≤ 1000000) &&
    (decide (i ≤ 0) || (decide ((rd_T35 l (i - 1)).f0 < (rd_T35 l i).f0) && decide ((rd_T35 l (i - 1)).f1 ≤ (rd_T35 l i).f1)))))
def restP (l : List S35) (i d : Nat) : Bool := (List.range' i d).all (fun j => okP l (j : Int)) && decide (l.length ≤ 12)
def validP (l : List S35) : Bool := restP l 0 l.length
theorem restP_succ (l : List S35) (i d : Nat) : restP l i (d + 1) = (okP l i && restP l (i + 1) d) := by
  unfold restP; rw [List.range'_succ, List.all_cons, Bool.and_assoc]
theorem ite_ev {g : Nat → Option Bool} {b r : Bool} (h : Ev g r) : Ev (fun k => if b = true then g k else some false) (b && r) := by
  cases b
  · simpa using Ev.now false
  · simpa using h

theorem ok_loop (l : List S35) (hl : l.length ≤ 1000000000) (d : Nat) : ∀ i : Nat, i + d = l.length → Ev (fun k => spec_l26Ok.l0 k l (i : Int)) (restP l i d) := by
  induction d with
  | zero =>
    intro i hi
    refine Ev.step (f := fun _ => some (restP l i 0)) (fun k => ?_) (Ev.now _)
    simp only [spec_l26Ok.l0]
    rw [if_neg (by omega)]
    unfold restP
    simp
    omega
  | succ d ih =>
    intro i hi
    rw [restP_succ]
    refine Ev.step (f := fun k => if okP l i = true then spec_l26Ok.l0 k l ((i + 1 : Nat) : Int) else some false) (fun k => ?_) (ite_ev (ih (i + 1) (by omega)))
    have hw : wrap64 ((i : Int) + 1) = ((i + 1 : Nat) : Int) := by rw [w64 (by omega) (by omega)]; omega
    have hw2 : wrap64 ((i : Int) - 1) = (i : Int) - 1 := w64 (by omega) (by omega)
    simp only [spec_l26Ok.l0]
    rw [if_pos (by omega), if_pos (by omega), hw, hw2]
    simp only [in_eq, Option.bind_some]
    unfold okP
    by_cases c1 : 1 ≤ (rd_T35 l i).f0 ∧ (rd_T35 l i).f0 ≤ 200
    · by_cases c2 : 1 ≤ (rd_T35 l i).f1 ∧ (rd_T35 l i).f1 ≤ 1000000
      · by_cases c3 : 0 ≤ (rd_T35 l i).f2 ∧ (rd_T35 l i).f2 ≤ 1000000
        · by_cases c4 : (i : Int) > 0
          · rw [decide_eq_true c1, decide_eq_true c2, decide_eq_true c3, if_pos rfl, if_pos rfl, if_pos rfl, if_pos c4, if_pos (by omega), if_pos (by omega), decide_eq_false (show ¬ (i : Int) ≤ 0 by omega)]
            by_cases c5 : (rd_T35 l (i - 1)).f0 ≥ (rd_T35 l i).f0
            · rw [if_pos c5, decide_eq_false (by omega)]; rfl
            · rw [if_neg c5, decide_eq_true (show (rd_T35 l (i - 1)).f0 < (rd_T35 l i).f0 by omega)]
              by_cases c6 : (rd_T35 l (i - 1)).f1 > (rd_T35 l i).f1
              · rw [if_pos c6, decide_eq_false (by omega)]; rfl
              · rw [if_neg c6, decide_eq_true (by omega)]; rfl
          · rw [decide_eq_true c1, decide_eq_true c2, decide_eq_true c3, if_pos rfl, if_pos rfl, if_pos rfl, if_neg c4, decide_eq_true (show (i : Int) ≤ 0 by omega)]; rfl
        · rw [decide_eq_true c1, decide_eq_true c2, decide_eq_false c3]; rfl
      · rw [decide_eq_true c1, decide_eq_false c2]; rfl
    · rw [decide_eq_false c1]; rfl
theorem l26Ok_ev (l : List S35) (hl : l.length ≤ 1000000000) : Ev (fun k => spec_l26Ok.f k l) (validP l) := ok_loop l hl l.length 0 (by omega)

theorem vp_loop (l : List S35) (hl : l.length ≤ 1000000000) (d : Nat) : ∀ i : Nat, i + d = l.length → Ev (fun k => impl_ValidPrices.l0 k l l (l.length : Int) (i : Int)) (restP l i d) := by
  induction d with
  | zero =>
    intro i hi
    refine Ev.step (f := fun _ => some (restP l i 0)) (fun k => ?_) (Ev.now _)
    simp only [impl_ValidPrices.l0]
    rw [if_neg (by omega)]
    unfold restP
    simp
    omega
  | succ d ih =>
    intro i hi
    rw [restP_succ]
    have hw : wrap64 ((i : Int) + 1) = ((i + 1 : Nat) : Int) := by rw [w64 (by omega) (by omega)]; omega
    have hw2 : wrap64 ((i : Int) - 1) = (i : Int) - 1 := w64 (by omega) (by omega)
    refine Ev.step (f := fun k => impl_ValidPrices.j1 k l (i : Int) l (l.length : Int) (i : Int) (!(decide (1 ≤ (rd_T35 l i).f0 ∧ (rd_T35 l i).f0 ≤ 200) && (decide (1 ≤ (rd_T35 l i).f1 ∧ (rd_T35 l i).f1 ≤ 1000000) && decide (0 ≤ (rd_T35 l i).f2 ∧ (rd_T35 l i).f2 ≤ 1000000)))) (rd_T35 l i).f0 (rd_T35 l i).f1 (rd_T35 l i).f2) (fun k => ?_) ?_
    · simp only [impl_ValidPrices.l0]
      rw [if_pos (by omega), if_pos (by omega), if_pos (by omega)]
      simp only [isSize_eq, within_eq, Option.bind_some]
      by_cases c1 : 1 ≤ (rd_T35 l i).f0 ∧ (rd_T35 l i).f0 ≤ 200
      · by_cases c2 : 1 ≤ (rd_T35 l i).f1 ∧ (rd_T35 l i).f1 ≤ 1000000
        · rw [decide_eq_true c1, decide_eq_true c2]; rfl
        · rw [decide_eq_true c1, decide_eq_false c2]; rfl
      · rw [decide_eq_false c1]; rfl
    · refine Ev.step (f := fun k => if okP l i = true then impl_ValidPrices.l0 k l l (l.length : Int) ((i + 1 : Nat) : Int) else some false) (fun k => ?_) (ite_ev (ih (i + 1) (by omega)))
      simp only [impl_ValidPrices.j1]
      rw [hw, hw2]
      unfold okP
      by_cases c1 : 1 ≤ (rd_T35 l i).f0 ∧ (rd_T35 l i).f0 ≤ 200
      · by_cases c2 : 1 ≤ (rd_T35 l i).f1 ∧ (rd_T35 l i).f1 ≤ 1000000
        · by_cases c3 : 0 ≤ (rd_T35 l i).f2 ∧ (rd_T35 l i).f2 ≤ 1000000
          · by_cases c4 : (i : Int) > 0
            · rw [decide_eq_true c1, decide_eq_true c2, decide_eq_true c3, if_neg (by decide), if_pos c4, if_pos (by omega), if_pos (by omega), decide_eq_false (show ¬ (i : Int) ≤ 0 by omega)]
              by_cases c5 : (rd_T35 l (i - 1)).f0 ≥ (rd_T35 l i).f0
              · rw [if_pos c5, decide_eq_false (by omega)]; rfl
              · rw [if_neg c5, decide_eq_true (show (rd_T35 l (i - 1)).f0 < (rd_T35 l i).f0 by omega)]
                by_cases c6 : (rd_T35 l (i - 1)).f1 > (rd_T35 l i).f1
                · rw [if_pos c6, decide_eq_false (by omega)]; rfl
                · rw [if_neg c6, decide_eq_true (by omega)]; rfl
            · rw [decide_eq_true c1, decide_eq_true c2, decide_eq_true c3, if_neg (by decide), if_neg c4, decide_eq_true (show (i : Int) ≤ 0 by omega)]; rfl
          · rw [decide_eq_true c1, decide_eq_true c2, decide_eq_false c3]; rfl
        · rw [decide_eq_true c1, decide_eq_false c2]; rfl
      · rw [decide_eq_false c1]; rfl
theorem vp_ev (l : List S35) (hl : l.length ≤ 1000000000) : Ev (fun k => impl_ValidPrices.f k l) (validP l) := vp_loop l hl l.length 0 (by omega)

def impl_GreatestFor.f (l0 : List S35) (a1 : Int) (a2 : Bool) : Option (Int × Int) := if l0.length ≤ 1000000000 then some (resB (validP l0) (decide ((0 : Int) ≤ a1 ∧ a1 ≤ 10000000)) l0 a1 a2) else none
theorem impl_GreatestFor.calls (A0 : Option Addr) (c0 : Nat) (l0 : List S35) (a1 : Int) (a2 : Bool) (r1 r2 : Int) (w : World) (hr0 : Kd.C k35 w A0 l0.length l0) (hc0 : l0.length ≤ c0) (h : impl_GreatestFor.f l0 a1 a2 = some (r1, r2)) :
    Calls Try.prog 7 #[.slice A0 l0.length c0, .int .i64 a1, .bool a2] w fun e w' => e = .returned (.tuple #[.int .i64 r1, .int .i64 r2]) ∧ Below w.heap.size w w' := by
  unfold impl_GreatestFor.f at h
  by_cases hl : l0.length ≤ 1000000000
  · rw [if_pos hl] at h
    obtain ⟨k, hk⟩ := (vp_ev l0 hl).rounds
    exact greatest_calls k A0 c0 l0 a1 a2 _ _ r1 r2 w hk rfl (Option.some.inj h) hr0 hc0 hl
  · rw [if_neg hl] at h; cases h
end Go.Proofs.Ytdjdillppgijmaa.Q
