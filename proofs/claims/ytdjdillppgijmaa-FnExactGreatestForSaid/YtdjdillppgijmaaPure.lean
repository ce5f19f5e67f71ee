/- The law FnExactGreatestFor in plain Lean: both find the last item whose price is within the money. No condition. -/
import Derived.Test.YtdjdillppgijmaaQx4
set_option linter.unusedVariables false
set_option linter.unusedSimpArgs false
namespace Go.Proofs.Ytdjdillppgijmaa.Q
open Go.RowKit Go.Proofs.YtdjdillppgijmaaW.PrintWords Go.Proofs.YtdjdillppgijmaaW.PrintLast Go.Proofs.YtdjdillppgijmaaW.PrintMore

def pick (a1 : Int) (a2 : Bool) (xs : List (Int × S35)) : Int × Int :=
  match xs.find? (fun p => decide (priceB p.2 a2 ≤ a1)) with
  | some p => (p.2.f0, 0)
  | none => (0, 3)
theorem found_pick (zs : List S35) (a1 : Int) (a2 : Bool) : found zs a1 a2 = pick a1 a2 ((List.range' 0 zs.length).map (bw zs)) := by
  unfold found pick upto; rw [List.range_eq_range']
  cases List.find? (fun p : Int × S35 => decide (priceB p.snd a2 ≤ a1)) (List.map (bw zs) (List.range' 0 zs.length)) <;> rfl
theorem great_loop (l : List S35) (hl : l.length ≤ 1000000000) (a1 : Int) (a2 : Bool) (d : Nat) : ∀ j : Nat, j + d = l.length →
    Ev (fun k => spec_GreatestFor.l0 k l a1 a2 ((l.length : Int) - 1 - j)) (pick a1 a2 ((List.range' j d).map (bw l))) := by
  induction d with
  | zero =>
    intro j hj
    refine Ev.step (f := fun _ => some (0, 3)) (fun k => ?_) (Ev.now _)
    simp only [spec_GreatestFor.l0]
    rw [if_neg (by omega)]
  | succ d ih =>
    intro j hj
    rw [List.range'_succ, List.map_cons]
    have hw : wrap64 ((l.length : Int) - 1 - j - 1) = (l.length : Int) - 1 - ((j + 1 : Nat) : Int) := by rw [w64 (by omega) (by omega)]; omega
    refine Ev.step (f := fun k => if priceB (bw l j).2 a2 ≤ a1 then some ((bw l j).2.f0, 0) else spec_GreatestFor.l0 k l a1 a2 ((l.length : Int) - 1 - ((j + 1 : Nat) : Int))) (fun k => ?_) ?_
    · simp only [spec_GreatestFor.l0]
      rw [if_pos (by omega), if_pos (by omega), if_pos (by omega), hw]
      rfl
    · by_cases h : priceB (bw l j).2 a2 ≤ a1
      · simp only [if_pos h]
        have : pick a1 a2 (bw l j :: (List.range' (j + 1) d).map (bw l)) = ((bw l j).2.f0, 0) := by unfold pick; rw [List.find?_cons_of_pos (by simpa using h)]
        rw [this]; exact Ev.now _
      · simp only [if_neg h]
        have : pick a1 a2 (bw l j :: (List.range' (j + 1) d).map (bw l)) = pick a1 a2 ((List.range' (j + 1) d).map (bw l)) := by unfold pick; rw [List.find?_cons_of_neg (by simpa using h)]
        rw [this]; exact ih (j + 1) (by omega)
theorem great_ev (l : List S35) (hl : l.length ≤ 1000000000) (a1 : Int) (a2 : Bool) : Ev (fun k => spec_GreatestFor.f k l a1 a2) (resB (validP l) (decide ((0 : Int) ≤ a1 ∧ a1 ≤ 10000000)) l a1 a2) := by
  unfold spec_GreatestFor.f
  refine Ev.bind (l26Ok_ev l hl) ?_
  unfold resB
  cases validP l
  · exact Ev.now _
  · simp only [if_true, in_eq, Option.bind_some]
    cases decide ((0 : Int) ≤ a1 ∧ a1 ≤ 10000000)
    · exact Ev.now _
    · simp only [if_true]
      have := great_loop l hl a1 a2 l.length 0 (by omega)
      rw [found_pick, w64 (by omega) (by omega)]
      simpa using this

def conv (x : S37) : S35 := ⟨x.f0, x.f1, x.f2⟩
theorem to_loop (l : List S37) (hl : l.length ≤ 1000000000) (d : Nat) : ∀ (i : Nat) (acc : List S35), i + d = l.length → acc.length = l.length → acc.take i = (l.take i).map conv →
    Ev (fun k => laws_toListedS.l0 k l acc (i : Int)) (l.map conv) := by
  induction d with
  | zero =>
    intro i acc hi ha ht
    refine Ev.step (f := fun _ => some acc) (fun k => ?_) ?_
    · simp only [laws_toListedS.l0]
      rw [if_neg (by omega)]
    · rw [List.take_of_length_le (by omega), List.take_of_length_le (by omega)] at ht
      rw [ht]; exact Ev.now _
  | succ d ih =>
    intro i acc hi ha ht
    have hw : wrap64 ((i : Int) + 1) = ((i + 1 : Nat) : Int) := by rw [w64 (by omega) (by omega)]; omega
    have hil : i < l.length := by omega
    have hrd : rd_T37 l (i : Int) = l[i] := by
      unfold rd_T37
      rw [Int.toNat_natCast, List.getD_eq_getElem?_getD, List.getElem?_eq_getElem hil]; rfl
    refine Ev.step (f := fun k => laws_toListedS.l0 k l (acc.set i (conv l[i])) ((i + 1 : Nat) : Int)) (fun k => ?_) (ih (i + 1) (acc.set i (conv l[i])) (by omega) (by rw [List.length_set]; exact ha) ?_)
    · simp only [laws_toListedS.l0]
      rw [if_pos (by omega), if_pos (by omega), hw, hrd]
      simp only [laws_toListed.f, Option.bind_some]
      rw [if_pos (by omega), Int.toNat_natCast]
      rfl
    · rw [List.take_succ_eq_append_getElem (by simp; omega), List.take_succ_eq_append_getElem hil, List.map_append, ← ht]
      simp
      exact List.take_set_of_le (Nat.le_refl i)
theorem to_ev (l : List S37) (hl : l.length ≤ 1000000000) : Ev (fun k => laws_toListedS.f k l) (l.map conv) := by
  unfold laws_toListedS.f
  simp only [if_pos (show (0 : Int) ≤ (l.length : Int) by omega), if_pos (show ((l.length : Int)).toNat ≤ 11728124029610 by omega)]
  exact to_loop l hl l.length 0 _ (by omega) (by simp) (by simp)

theorem eq_loop (l : List S35) (hl : l.length ≤ 1000000000) (d : Nat) : ∀ (i : Nat), i + d = l.length → Ev (fun k => laws_eqListedS.l0 k l l (i : Int)) true := by
  induction d with
  | zero =>
    intro i hi
    refine Ev.step (f := fun _ => some true) (fun k => ?_) (Ev.now _)
    simp only [laws_eqListedS.l0]
    rw [if_neg (by omega)]
  | succ d ih =>
    intro i hi
    have hw : wrap64 ((i : Int) + 1) = ((i + 1 : Nat) : Int) := by rw [w64 (by omega) (by omega)]; omega
    refine Ev.step (f := fun k => laws_eqListedS.l0 k l l ((i + 1 : Nat) : Int)) (fun k => ?_) (ih (i + 1) (by omega))
    simp only [laws_eqListedS.l0]
    rw [if_pos (by omega), if_pos (by omega), if_pos (by omega), hw]
    simp only [laws_eqListed.f, if_true, Option.bind_some]
theorem eq_ev (l : List S35) (hl : l.length ≤ 1000000000) : Ev (fun k => laws_eqListedS.f k l l) true := by
  unfold laws_eqListedS.f
  simp only [if_true]
  exact eq_loop l hl l.length 0 (by omega)

/-- THE LAW. -/
theorem law (l : List S37) (hl : l.length ≤ 9223372036854775807) (a1 : Int) (a2 : Bool) : ∃ k, laws_FnExactGreatestFor.f k l a1 a2 = some true := by
  apply Ev.rounds
  unfold laws_FnExactGreatestFor.f
  by_cases h : l.length ≤ 1048576
  · have hs : laws_szListedS.f l 1048576 = some (1048576 - (l.length : Int)) := by
      unfold laws_szListedS.f
      rw [w64 (by omega) (by omega), if_neg (by omega)]
    have hc : (l.map conv).length ≤ 1000000000 := by simp; omega
    simp only [hs, Option.bind_some]
    simp only [if_neg (show ¬ (1048576 - (l.length : Int)) < 0 by omega)]
    refine Ev.bind (to_ev l (by omega)) (Ev.bind (great_ev _ hc a1 a2) (Ev.bind (to_ev l (by omega)) ?_))
    have hi : impl_GreatestFor.f (l.map conv) a1 a2 = some (resB (validP (l.map conv)) (decide ((0 : Int) ≤ a1 ∧ a1 ≤ 10000000)) (l.map conv) a1 a2) := by unfold impl_GreatestFor.f; rw [if_pos hc]
    simp only [hi, Option.bind_some, if_true, bne_self_eq_false]
    refine Ev.step (f := fun k => (laws_toListedS.f k l).bind fun t149 => ((laws_eqListedS.f k (l.map conv) t149).bind fun t152 => (if t152 = true then (some true) else (some false)))) (fun k => ?_) ?_
    · simp only [laws_FnExactGreatestFor.j0]
      rfl
    · refine Ev.bind (to_ev l (by omega)) (Ev.bind (eq_ev _ hc) ?_)
      exact Ev.now _
  · have hs : laws_szListedS.f l 1048576 = some (-1) := by
      unfold laws_szListedS.f
      rw [w64 (by omega) (by omega), if_pos (by omega)]
    simp only [hs, Option.bind_some]
    exact Ev.now _
end Go.Proofs.Ytdjdillppgijmaa.Q
