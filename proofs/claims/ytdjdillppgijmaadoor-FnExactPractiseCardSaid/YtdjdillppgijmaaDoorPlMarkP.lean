/- What the law's own helpers that write answer at texts and at rows of numbers, in plain Lean (apprentices). No condition. -/
import Derived.Test.YtdjdillppgijmaaDoorQpx3
import Derived.Test.YtdjdillppgijmaaDoorPlNameP
set_option linter.unusedVariables false
set_option linter.unusedSimpArgs false
namespace Go.Proofs.YtdjdillppgijmaaDoor.Qp
open Go.RowKit Go.Proofs.YtdjdillppgijmaaDoorW.PrintWords Go.Proofs.YtdjdillppgijmaaDoorW.PrintLast Go.Proofs.YtdjdillppgijmaaDoorW.PrintMore

theorem nx (i : Nat) (h : i ≤ 1000000000000) : wrap64 ((i : Int) + 1) = ((i + 1 : Nat) : Int) := by rw [w64 (by omega) (by omega)]; omega
theorem str_one (n : Int) : (strOfNums [n]).size = 1 := by rfl
theorem mark_text_loop (n : Nat) : ∀ (a : Int) (s : ByteArray), 0 ≤ a → a.toNat = n → s.size + n ≤ 4611686018427387904 → ∃ t, Ev (fun k => laws_markText.l0 k a s) t := by
  induction n using Nat.strongRecOn with
  | _ n ih =>
    intro a s h0 hn hs
    by_cases hp : a > 0
    · have ht : Int.tdiv a 10 = ((n / 10 : Nat) : Int) := by rw [Int.tdiv_eq_ediv_of_nonneg h0]; omega
      have hsz : ∀ m : Int, (strOfNums [m] ++ s).size = 1 + s.size := fun m => by rw [ByteArray.size_append, str_one]
      obtain ⟨t, h⟩ := ih (n / 10) (by omega) ((n / 10 : Nat) : Int) (strOfNums [(wrap64 (48 + (Int.tmod a 10))) % 256] ++ s) (by omega) (by omega) (by rw [hsz]; omega)
      refine ⟨t, Ev.step (fun k => ?_) h⟩
      simp only [laws_markText.l0]
      rw [if_pos hp, Option.bind_some, if_pos (by rw [str_one]; omega), ht, w64 (by omega) (by omega)]
    · refine ⟨_, Ev.step (f := fun _ => some ((⟨#[109]⟩ : ByteArray) ++ s)) (fun k => ?_) (Ev.now _)⟩
      simp only [laws_markText.l0]
      rw [if_neg hp, if_pos (by omega)]
theorem mark_text (a : Int) (h0 : 0 ≤ a) (h1 : a ≤ 4611686018427387904) : ∃ t, Ev (fun k => laws_markText.f k a) t := by
  unfold laws_markText.f
  by_cases hp : a ≤ 0
  · simp only [if_pos hp]; exact ⟨_, Ev.now _⟩
  · simp only [if_neg hp]
    exact mark_text_loop a.toNat a _ h0 rfl (by have : (⟨#[]⟩ : ByteArray).size = 0 := rfl; omega)
open Classical in
noncomputable def mt (a : Int) : ByteArray := if h : 0 ≤ a ∧ a ≤ 4611686018427387904 then Classical.choose (mark_text a h.1 h.2) else ⟨#[]⟩
theorem mt_ev (a : Int) (h0 : 0 ≤ a) (h1 : a ≤ 4611686018427387904) : Ev (fun k => laws_markText.f k a) (mt a) := by
  unfold mt
  rw [dif_pos ⟨h0, h1⟩]
  exact Classical.choose_spec (mark_text a h0 h1)

/-! ### Rows of numbers -/
theorem eqi_loop (l : List Int) (hl : l.length ≤ 1000000000) (d : Nat) : ∀ (i : Nat), i + d = l.length → Ev (fun k => laws_eqInt64S.l0 k l l (i : Int)) true := by
  induction d with
  | zero =>
    intro i hi
    refine Ev.step (f := fun _ => some true) (fun k => ?_) (Ev.now _)
    simp only [laws_eqInt64S.l0]
    rw [if_neg (by omega)]
  | succ d ih =>
    intro i hi
    refine Ev.step (f := fun k => laws_eqInt64S.l0 k l l ((i + 1 : Nat) : Int)) (fun k => ?_) (ih (i + 1) (by omega))
    simp only [laws_eqInt64S.l0]
    rw [if_pos (by omega), if_pos (by omega), if_pos (by omega), nx i (by omega)]
    simp only [if_true]
theorem eqi_ev (l : List Int) (hl : l.length ≤ 1000000000) : Ev (fun k => laws_eqInt64S.f k l l) true := by
  unfold laws_eqInt64S.f
  simp only [if_true]
  exact eqi_loop l hl l.length 0 (by omega)
def marksi (a n : Nat) : List Int := (List.range' a n).map fun j : Nat => (j : Int)
theorem marksi_length (a n : Nat) : (marksi a n).length = n := by simp [marksi]
theorem marksi_get (a n i : Nat) (h : i < n) : (marksi a n)[i]'(by rw [marksi_length]; exact h) = ((a + i : Nat) : Int) := by simp [marksi]
theorem marki_loop (n a : Nat) (hn : n ≤ 1000000000) (ha : a ≤ 1000000000000) (d : Nat) : ∀ (i : Nat) (l : List Int), i + d = n → l.length = n → l.take i = (marksi a n).take i →
    Ev (fun k => laws_markInt64S.l0 k l ((a + i : Nat) : Int) (i : Int)) (((a + n : Nat) : Int), marksi a n) := by
  induction d with
  | zero =>
    intro i l hi hl ht
    refine Ev.step (f := fun _ => some (((a + i : Nat) : Int), l)) (fun k => ?_) ?_
    · simp only [laws_markInt64S.l0]
      rw [if_neg (by omega)]
    · rw [List.take_of_length_le (by omega), List.take_of_length_le (by rw [marksi_length]; omega)] at ht
      obtain rfl : i = n := by omega
      rw [ht]; exact Ev.now _
  | succ d ih =>
    intro i l hi hl ht
    have e1 : wrap64 (((a + i : Nat) : Int) + 1) = ((a + (i + 1) : Nat) : Int) := by rw [w64 (by omega) (by omega)]; omega
    refine Ev.step (f := fun k => laws_markInt64S.l0 k (l.set i ((a + i : Nat) : Int)) ((a + (i + 1) : Nat) : Int) ((i + 1 : Nat) : Int)) (fun k => ?_) (ih (i + 1) _ (by omega) (by rw [List.length_set]; exact hl) ?_)
    · simp only [laws_markInt64S.l0]
      rw [if_pos (by omega), if_pos (by omega), e1, nx i (by omega), Int.toNat_natCast]
    · rw [List.take_succ_eq_append_getElem (by simp; omega), List.take_succ_eq_append_getElem (by rw [marksi_length]; omega), ← ht, marksi_get a n i (by omega)]
      simp
      exact List.take_set_of_le (Nat.le_refl i)
theorem marki_ev (l : List Int) (a : Nat) (hn : l.length ≤ 1000000000) (ha : a ≤ 1000000000000) : Ev (fun k => laws_markInt64S.f k l (a : Int)) (((a + l.length : Nat) : Int), marksi a l.length) :=
  marki_loop l.length a hn ha l.length 0 l (by omega) rfl (by simp)
theorem heldi_loop (n a : Nat) (hn : n ≤ 1000000000) (ha : a ≤ 1000000000000) (d : Nat) : ∀ (i : Nat), i + d = n → Ev (fun k => laws_heldInt64S.l0 k (marksi a n) ((a + i : Nat) : Int) (i : Int)) ((a + n : Nat) : Int) := by
  induction d with
  | zero =>
    intro i hi
    obtain rfl : i = n := by omega
    refine Ev.step (f := fun _ => some (((a + i : Nat) : Int))) (fun k => ?_) (Ev.now _)
    simp only [laws_heldInt64S.l0]
    rw [if_neg (by rw [marksi_length]; omega)]
  | succ d ih =>
    intro i hi
    have e1 : wrap64 (((a + i : Nat) : Int) + 1) = ((a + (i + 1) : Nat) : Int) := by rw [w64 (by omega) (by omega)]; omega
    have hr : rd (marksi a n) (i : Int) = ((a + i : Nat) : Int) := by
      unfold rd
      rw [Int.toNat_natCast, List.getD_eq_getElem?_getD, List.getElem?_eq_getElem (by rw [marksi_length]; omega), Option.getD_some, marksi_get a n i (by omega)]
    refine Ev.step (f := fun k => laws_heldInt64S.l0 k (marksi a n) ((a + (i + 1) : Nat) : Int) ((i + 1 : Nat) : Int)) (fun k => ?_) (ih (i + 1) (by omega))
    simp only [laws_heldInt64S.l0]
    rw [if_pos (by rw [marksi_length]; omega), if_pos (by omega), hr, if_pos rfl, e1, nx i (by omega)]
theorem heldi_ev (a n : Nat) (hn : n ≤ 1000000000) (ha : a ≤ 1000000000000) : Ev (fun k => laws_heldInt64S.f k (marksi a n) (a : Int)) ((a + n : Nat) : Int) := heldi_loop n a hn ha n 0 (by omega)

/-! ### Apprentices, marked -/
noncomputable def mkp (a : Nat) (x : S116) : S116 := ⟨mt (a : Int), ((a + 1 : Nat) : Int), marksi (a + 2) x.f2.length⟩
def wide (x : S116) : Nat := 2 + x.f2.length
noncomputable def marksP : Nat → List S116 → List S116
  | _, [] => []
  | a, x :: l => mkp a x :: marksP (a + wide x) l
def endP : Nat → List S116 → Nat
  | a, [] => a
  | a, x :: l => endP (a + wide x) l
theorem marksP_length : ∀ (l : List S116) (a : Nat), (marksP a l).length = l.length
  | [], _ => rfl
  | x :: l, a => by simp [marksP, marksP_length l]
theorem endP_le : ∀ (l : List S116) (a : Nat), a ≤ endP a l
  | [], _ => Nat.le_refl _
  | x :: l, a => Nat.le_trans (by omega) (endP_le l (a + wide x))
theorem endP_append : ∀ (l m : List S116) (a : Nat), endP a (l ++ m) = endP (endP a l) m
  | [], _, _ => rfl
  | x :: l, m, a => by simp [endP, endP_append l]
theorem marksP_append : ∀ (l m : List S116) (a : Nat), marksP a (l ++ m) = marksP a l ++ marksP (endP a l) m
  | [], _, _ => rfl
  | x :: l, m, a => by simp [marksP, endP, marksP_append l]
end Go.Proofs.YtdjdillppgijmaaDoor.Qp
