/- What the names' checks answer, in plain Lean (pupils). No condition. -/
import Derived.Test.YtdjdillppgijmaaDoorQpx1
import Derived.Test.YtdjdillppgijmaaDoorSName
set_option linter.unusedVariables false
set_option linter.unusedSimpArgs false
namespace Go.Proofs.YtdjdillppgijmaaDoor.Qp
open Go.RowKit Go.Proofs.YtdjdillppgijmaaDoorW.PrintWords Go.Proofs.YtdjdillppgijmaaDoorW.PrintLast Go.Proofs.YtdjdillppgijmaaDoorW.PrintMore

theorem w64 {x : Int} (h1 : -9223372036854775808 ≤ x) (h2 : x ≤ 9223372036854775807) : wrap64 x = x := by unfold wrap64; omega
theorem getD_nat {α : Type} (l : List α) (i : Nat) (z : α) : l.getD ((i : Int).toNat) z = l.getD i z := by rw [Int.toNat_natCast]

theorem in_eq (a b c : Int) : spec_l00In.f a b c = some (decide (b ≤ a ∧ a ≤ c)) := by
  unfold spec_l00In.f
  by_cases h : a ≥ b
  · rw [if_pos h]; congr 1; by_cases h2 : a ≤ c <;> simp [h2]; omega
  · rw [if_neg h]; congr 1; symm; apply decide_eq_false; omega
theorem small_eq (a : Int) : spec_l01Small.f a = some (decide (97 ≤ a ∧ a ≤ 122)) := by
  unfold spec_l01Small.f
  by_cases h : a ≥ 97
  · rw [if_pos h]; congr 1; by_cases h2 : a ≤ 122 <;> simp [h2]; omega
  · rw [if_neg h]; congr 1; symm; apply decide_eq_false; omega
theorem digit_eq (a : Int) : spec_l01Digit.f a = some (decide (48 ≤ a ∧ a ≤ 57)) := by
  unfold spec_l01Digit.f
  by_cases h : a ≥ 48
  · rw [if_pos h]; congr 1; by_cases h2 : a ≤ 57 <;> simp [h2]; omega
  · rw [if_neg h]; congr 1; symm; apply decide_eq_false; omega

/-- a byte of names, as a number -/
def nameB (c : Int) : Bool := decide (97 ≤ c ∧ c ≤ 122) || (decide (48 ≤ c ∧ c ≤ 57) || decide (c = 45))
theorem nameB_eq : ∀ b : UInt8, nameSet.contains b = nameB b.toNat := by
  have h : ∀ n : Nat, n < 256 → nameSet.contains (UInt8.ofNat n) = nameB (UInt8.ofNat n).toNat := by decide +kernel
  intro b
  have := h b.toNat b.toNat_lt
  rwa [UInt8.ofNat_toNat] at this
theorem bt_list (s : ByteArray) (i : Nat) (h : i < s.size) : bt s i = ((s.data.toList[i]'(by rw [data_length]; exact h)).toNat : Int) := by
  unfold bt
  rw [dif_pos (by rw [Int.toNat_natCast]; exact h)]
  simp
  rfl
theorem isName_loop (s : ByteArray) (hs : s.size ≤ 12) (d : Nat) : ∀ i : Nat, i + d = s.size →
    Ev (fun k => spec_IsName.l0 k s (i : Int)) ((s.data.toList.drop i).all (nameSet.contains ·)) := by
  induction d with
  | zero =>
    intro i hi
    refine Ev.step (f := fun _ => some true) (fun k => by simp only [spec_IsName.l0]; rw [if_neg (by omega)]) ?_
    rw [List.drop_eq_nil_of_le (by rw [data_length]; omega)]
    exact Ev.now _
  | succ d ih =>
    intro i hi
    have hd : s.data.toList.drop i = (s.data.toList[i]'(by rw [data_length]; omega)) :: s.data.toList.drop (i + 1) := List.drop_eq_getElem_cons _
    have hb := bt_list s i (by omega)
    have hn := nameB_eq (s.data.toList[i]'(by rw [data_length]; omega))
    rw [hd, List.all_cons, hn, ← hb]
    have nx := ih (i + 1) (by omega)
    have hw : wrap64 ((i : Int) + 1) = ((i + 1 : Nat) : Int) := by rw [w64 (by omega) (by omega)]; omega
    refine Ev.step (f := fun k => if decide (97 ≤ bt s i ∧ bt s i ≤ 122) = true then spec_IsName.l0 k s ((i + 1 : Nat) : Int) else if decide (48 ≤ bt s i ∧ bt s i ≤ 57) = true then spec_IsName.l0 k s ((i + 1 : Nat) : Int) else if bt s i = 45 then spec_IsName.l0 k s ((i + 1 : Nat) : Int) else some false)
      (fun k => by simp only [spec_IsName.l0]; rw [if_pos (by omega), if_pos (by omega), small_eq, hw]; simp only [Option.bind_some, digit_eq]) ?_
    unfold nameB
    by_cases h1 : 97 ≤ bt s i ∧ bt s i ≤ 122
    · simp only [h1]; simpa using nx
    · by_cases h2 : 48 ≤ bt s i ∧ bt s i ≤ 57
      · simp only [h1, h2]; simpa using nx
      · by_cases h3 : bt s i = 45
        · simp only [h3]; simpa using nx
        · simp only [h1, h2, h3]; simpa using Ev.now false
theorem isName_ev (s : ByteArray) : Ev (fun k => spec_IsName.f k s) (isName s) := by
  unfold spec_IsName.f
  by_cases h1 : s.size = 0
  · have : s.toList = [] := by
      have := Lib.toList_data s
      rw [this]
      exact List.length_eq_zero_iff.1 (by rw [data_length]; exact h1)
    simp only [this, if_true]
    refine Ev.step (f := fun _ => some false) (fun k => by simp only [spec_IsName.j0]; rfl) ?_
    have : isName s = false := by unfold isName; rw [h1]; rfl
    rw [this]; exact Ev.now _
  · have : s.toList ≠ [] := by
      intro h
      have h2 := Lib.toList_data s
      rw [h2] at h
      have := congrArg List.length h
      rw [data_length] at this
      exact h1 this
    simp only [if_neg this]
    by_cases h2 : (s.size : Int) > 12
    · simp only [if_pos h2]
      refine Ev.step (f := fun _ => some false) (fun k => by simp only [spec_IsName.j0]; rfl) ?_
      have : isName s = false := by unfold isName; rw [decide_eq_false (show ¬ s.size ≤ 12 by omega)]; simp
      rw [this]; exact Ev.now _
    · simp only [if_neg h2, if_pos (show 0 < (s.size : Int) by omega), small_eq, Option.bind_some]
      by_cases h3 : 97 ≤ bt s 0 ∧ bt s 0 ≤ 122
      · simp only [h3, and_self, decide_true, Bool.not_true]
        have nx := isName_loop s (by omega) s.size 0 (by omega)
        refine Ev.step (f := fun k => spec_IsName.l0 k s ((0 : Nat) : Int)) (fun k => by simp only [spec_IsName.j0]; rfl) ?_
        have : isName s = (s.data.toList.drop 0).all (nameSet.contains ·) := by
          unfold isName
          rw [decide_eq_true (show 1 ≤ s.size by omega), decide_eq_true (show s.size ≤ 12 by omega), decide_eq_true h3.1, decide_eq_true h3.2]
          simp
        rw [this]; exact nx
      · refine Ev.step (f := fun _ => some false) (fun k => by simp only [decide_eq_false h3, Bool.not_false, spec_IsName.j0]; rfl) ?_
        have : isName s = false := by
          unfold isName
          by_cases h4 : 97 ≤ bt s 0
          · rw [decide_eq_false (show ¬ bt s 0 ≤ 122 by omega)]; simp
          · rw [decide_eq_false h4]; simp
        rw [this]; exact Ev.now _
end Go.Proofs.YtdjdillppgijmaaDoor.Qp
