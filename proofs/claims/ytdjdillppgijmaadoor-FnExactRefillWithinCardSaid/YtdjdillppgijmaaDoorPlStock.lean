/- What the law's own helpers answer at rows of items, in plain Lean. No condition. -/
import Derived.Test.YtdjdillppgijmaaDoorQsx5
import Derived.Test.YtdjdillppgijmaaDoorQsx6
import Derived.Test.YtdjdillppgijmaaDoorQsx12
import Derived.Test.YtdjdillppgijmaaDoorPlName
set_option linter.unusedVariables false
set_option linter.unusedSimpArgs false
namespace Go.Proofs.YtdjdillppgijmaaDoor.Qs
open Go.RowKit Go.Proofs.YtdjdillppgijmaaDoorW.PrintWords Go.Proofs.YtdjdillppgijmaaDoorW.PrintLast Go.Proofs.YtdjdillppgijmaaDoorW.PrintMore

theorem nx (i : Nat) (h : i ≤ 1000000000000) : wrap64 ((i : Int) + 1) = ((i + 1 : Nat) : Int) := by rw [w64 (by omega) (by omega)]; omega
theorem rd34 (l : List S34) (i : Nat) (h : i < l.length) : rd_T34 l (i : Int) = l[i] := by
  unfold rd_T34
  rw [Int.toNat_natCast, List.getD_eq_getElem?_getD, List.getElem?_eq_getElem h]; rfl
theorem rd_set (l : List S34) (i : Nat) (h : i < l.length) (x : S34) : rd_T34 (l.set i x) (i : Int) = x := by
  rw [rd34 _ i (by simpa using h)]; simp
theorem rd122 (l : List S122) (i : Nat) (h : i < l.length) : rd_T122 l (i : Int) = l[i] := by
  unfold rd_T122
  rw [Int.toNat_natCast, List.getD_eq_getElem?_getD, List.getElem?_eq_getElem h]; rfl

def conv (x : S122) : S34 := ⟨x.f0, x.f1, x.f2, x.f3⟩
theorem to_loop (l : List S122) (hl : l.length ≤ 1000000000) (d : Nat) : ∀ (i : Nat) (acc : List S34), i + d = l.length → acc.length = l.length → acc.take i = (l.take i).map conv →
    Ev (fun k => laws_toItemS.l0 k l acc (i : Int)) (l.map conv) := by
  induction d with
  | zero =>
    intro i acc hi ha ht
    refine Ev.step (f := fun _ => some acc) (fun k => ?_) ?_
    · simp only [laws_toItemS.l0]
      rw [if_neg (by omega)]
    · rw [List.take_of_length_le (by omega), List.take_of_length_le (by omega)] at ht
      rw [ht]; exact Ev.now _
  | succ d ih =>
    intro i acc hi ha ht
    have hil : i < l.length := by omega
    refine Ev.step (f := fun k => laws_toItemS.l0 k l (acc.set i (conv l[i])) ((i + 1 : Nat) : Int)) (fun k => ?_) (ih (i + 1) (acc.set i (conv l[i])) (by omega) (by rw [List.length_set]; exact ha) ?_)
    · simp only [laws_toItemS.l0]
      rw [if_pos (by omega), if_pos (by omega), nx i (by omega), rd122 l i hil]
      simp only [laws_toItem.f, Option.bind_some]
      rw [if_pos (by omega), Int.toNat_natCast]
      rfl
    · rw [List.take_succ_eq_append_getElem (by simp; omega), List.take_succ_eq_append_getElem hil, List.map_append, ← ht]
      simp
      exact List.take_set_of_le (Nat.le_refl i)
theorem to_ev (l : List S122) (hl : l.length ≤ 1000000000) : Ev (fun k => laws_toItemS.f k l) (l.map conv) := by
  unfold laws_toItemS.f
  simp only [if_pos (show (0 : Int) ≤ (l.length : Int) by omega), if_pos (show ((l.length : Int)).toNat ≤ 7036874417766 by omega)]
  exact to_loop l hl l.length 0 _ (by omega) (by simp) (by simp)

theorem eq_loop (l : List S34) (hl : l.length ≤ 1000000000) (d : Nat) : ∀ (i : Nat), i + d = l.length → Ev (fun k => laws_eqItemS.l0 k l l (i : Int)) true := by
  induction d with
  | zero =>
    intro i hi
    refine Ev.step (f := fun _ => some true) (fun k => ?_) (Ev.now _)
    simp only [laws_eqItemS.l0]
    rw [if_neg (by omega)]
  | succ d ih =>
    intro i hi
    refine Ev.step (f := fun k => laws_eqItemS.l0 k l l ((i + 1 : Nat) : Int)) (fun k => ?_) (ih (i + 1) (by omega))
    simp only [laws_eqItemS.l0]
    rw [if_pos (by omega), if_pos (by omega), if_pos (by omega), nx i (by omega)]
    simp only [laws_eqItem.f, if_true, Option.bind_some]
theorem eq_ev (l : List S34) (hl : l.length ≤ 1000000000) : Ev (fun k => laws_eqItemS.f k l l) true := by
  unfold laws_eqItemS.f
  simp only [if_true]
  exact eq_loop l hl l.length 0 (by omega)

theorem str_one (n : Int) : (strOfNums [n]).size = 1 := by rfl
theorem mark_text_loop (n : Nat) : ∀ (a : Int) (s : ByteArray), 0 ≤ a → a.toNat = n → s.size + n ≤ 4611686018427387904 → ∃ t, Ev (fun k => laws_markText.l0 k a s) t := by
  induction n using Nat.strongRecOn with
  | _ n ih =>
    intro a s h0 hn hs
    by_cases hp : a > 0
    · have ht : Int.tdiv a 10 = ((n / 10 : Nat) : Int) := by rw [Int.tdiv_eq_ediv_of_nonneg h0]; omega
      have hsz : ∀ m : Int, (strOfNums [m] ++ s).size = 1 + s.size := fun m => by rw [ByteArray.size_append, str_one]
      obtain ⟨t, h⟩ := ih (n / 10) (by omega) ((n / 10 : Nat) : Int) (strOfNums [(wrap64 (48 + (Int.tmod a 10))) % 256] ++ s) (by omega) (by omega) (by rw [hsz]; omega)
      refine ⟨t, Ev.step (fun k => ?_) h⟩
      simp only [laws_markText.l0]
      rw [if_pos hp, Option.bind_some, if_pos (by rw [str_one]; omega), ht, w64 (by omega) (by omega)]
    · refine ⟨_, Ev.step (f := fun _ => some ((⟨#[109]⟩ : ByteArray) ++ s)) (fun k => ?_) (Ev.now _)⟩
      simp only [laws_markText.l0]
      rw [if_neg hp, if_pos (by omega)]
theorem mark_text (a : Int) (h0 : 0 ≤ a) (h1 : a ≤ 4611686018427387904) : ∃ t, Ev (fun k => laws_markText.f k a) t := by
  unfold laws_markText.f
  by_cases hp : a ≤ 0
  · simp only [if_pos hp]; exact ⟨_, Ev.now _⟩
  · simp only [if_neg hp]
    exact mark_text_loop a.toNat a _ h0 rfl (by have : (⟨#[]⟩ : ByteArray).size = 0 := rfl; omega)
open Classical in
noncomputable def mt (a : Int) : ByteArray := if h : 0 ≤ a ∧ a ≤ 4611686018427387904 then Classical.choose (mark_text a h.1 h.2) else ⟨#[]⟩
theorem mt_ev (a : Int) (h0 : 0 ≤ a) (h1 : a ≤ 4611686018427387904) : Ev (fun k => laws_markText.f k a) (mt a) := by
  unfold mt
  rw [dif_pos ⟨h0, h1⟩]
  exact Classical.choose_spec (mark_text a h0 h1)

noncomputable def markOne (a : Int) : S34 := ⟨mt a, a + 1, a + 1 + 1, a + 1 + 1 + 1⟩
noncomputable def marks (a n : Nat) : List S34 := (List.range' 0 n).map fun j => markOne ((a + 4 * j : Nat) : Int)
theorem marks_length (a n : Nat) : (marks a n).length = n := by simp [marks]
theorem marks_get (a n i : Nat) (h : i < n) : (marks a n)[i]'(by rw [marks_length]; exact h) = markOne ((a + 4 * i : Nat) : Int) := by simp [marks]
theorem mark_loop (n a : Nat) (hn : n ≤ 1000000000) (ha : a ≤ 1000000000000) (d : Nat) : ∀ (i : Nat) (l : List S34), i + d = n → l.length = n → l.take i = (marks a n).take i →
    Ev (fun k => laws_markItemS.l0 k l ((a + 4 * i : Nat) : Int) (i : Int)) (((a + 4 * n : Nat) : Int), marks a n) := by
  induction d with
  | zero =>
    intro i l hi hl ht
    refine Ev.step (f := fun _ => some (((a + 4 * i : Nat) : Int), l)) (fun k => ?_) ?_
    · simp only [laws_markItemS.l0]
      rw [if_neg (by omega)]
    · rw [List.take_of_length_le (by omega), List.take_of_length_le (by rw [marks_length]; omega)] at ht
      obtain rfl : i = n := by omega
      rw [ht]; exact Ev.now _
  | succ d ih =>
    intro i l hi hl ht
    have hil : i < l.length := by omega
    have e1 : wrap64 (((a + 4 * i : Nat) : Int) + 1) = ((a + 4 * i : Nat) : Int) + 1 := w64 (by omega) (by omega)
    have e2 : wrap64 (((a + 4 * i : Nat) : Int) + 1 + 1) = ((a + 4 * i : Nat) : Int) + 1 + 1 := w64 (by omega) (by omega)
    have e3 : wrap64 (((a + 4 * i : Nat) : Int) + 1 + 1 + 1) = ((a + 4 * i : Nat) : Int) + 1 + 1 + 1 := w64 (by omega) (by omega)
    have e4 : wrap64 (((a + 4 * i : Nat) : Int) + 1 + 1 + 1 + 1) = ((a + 4 * (i + 1) : Nat) : Int) := by rw [w64 (by omega) (by omega)]; omega
    refine Ev.step (f := fun k => (laws_markText.f k ((a + 4 * i : Nat) : Int)).bind fun t => laws_markItemS.l0 k (l.set i ⟨t, ((a + 4 * i : Nat) : Int) + 1, ((a + 4 * i : Nat) : Int) + 1 + 1, ((a + 4 * i : Nat) : Int) + 1 + 1 + 1⟩) ((a + 4 * (i + 1) : Nat) : Int) ((i + 1 : Nat) : Int)) (fun k => ?_) ?_
    · simp only [laws_markItemS.l0]
      rw [if_pos (by omega)]
      congr 1
      funext t
      rw [if_pos (by omega)]
      simp only [Option.bind_some, e1, e2, e3, e4, nx i (by omega), Int.toNat_natCast, List.set_set, rd_set l i hil]
    · refine Ev.bind (mt_ev _ (by omega) (by omega)) ?_
      refine ih (i + 1) _ (by omega) (by rw [List.length_set]; exact hl) ?_
      rw [List.take_succ_eq_append_getElem (by simp; omega), List.take_succ_eq_append_getElem (by rw [marks_length]; omega), ← ht, marks_get a n i (by omega)]
      simp [markOne]
      exact List.take_set_of_le (Nat.le_refl i)
theorem mark_ev (l : List S34) (a : Nat) (hn : l.length ≤ 1000000000) (ha : a ≤ 1000000000000) : Ev (fun k => laws_markItemS.f k l (a : Int)) (((a + 4 * l.length : Nat) : Int), marks a l.length) :=
  mark_loop l.length a hn ha l.length 0 l (by omega) rfl (by simp)
theorem held_loop (n a : Nat) (hn : n ≤ 1000000000) (ha : a ≤ 1000000000000) (d : Nat) : ∀ (i : Nat), i + d = n → Ev (fun k => laws_heldItemS.l0 k (marks a n) ((a + 4 * i : Nat) : Int) (i : Int)) ((a + 4 * n : Nat) : Int) := by
  induction d with
  | zero =>
    intro i hi
    obtain rfl : i = n := by omega
    refine Ev.step (f := fun _ => some (((a + 4 * i : Nat) : Int))) (fun k => ?_) (Ev.now _)
    simp only [laws_heldItemS.l0]
    rw [if_neg (by rw [marks_length]; omega)]
  | succ d ih =>
    intro i hi
    have e1 : wrap64 (((a + 4 * i : Nat) : Int) + 1) = ((a + 4 * i : Nat) : Int) + 1 := w64 (by omega) (by omega)
    have e2 : wrap64 (((a + 4 * i : Nat) : Int) + 1 + 1) = ((a + 4 * i : Nat) : Int) + 1 + 1 := w64 (by omega) (by omega)
    have e3 : wrap64 (((a + 4 * i : Nat) : Int) + 1 + 1 + 1) = ((a + 4 * i : Nat) : Int) + 1 + 1 + 1 := w64 (by omega) (by omega)
    have e4 : wrap64 (((a + 4 * i : Nat) : Int) + 1 + 1 + 1 + 1) = ((a + 4 * (i + 1) : Nat) : Int) := by rw [w64 (by omega) (by omega)]; omega
    have hr : rd_T34 (marks a n) (i : Int) = markOne ((a + 4 * i : Nat) : Int) := by rw [rd34 _ i (by rw [marks_length]; omega), marks_get a n i (by omega)]
    refine Ev.step (f := fun k => (laws_markText.f k ((a + 4 * i : Nat) : Int)).bind fun t => if (mt ((a + 4 * i : Nat) : Int)).toList = t.toList then laws_heldItemS.l0 k (marks a n) ((a + 4 * (i + 1) : Nat) : Int) ((i + 1 : Nat) : Int) else some (-1)) (fun k => ?_) ?_
    · simp only [laws_heldItemS.l0]
      rw [if_pos (by rw [marks_length]; omega), if_pos (by omega), hr, e1, e2, e3, e4, nx i (by omega)]
      simp only [markOne, if_true]
    · refine Ev.bind (mt_ev _ (by omega) (by omega)) ?_
      simp only [if_true]
      exact ih (i + 1) (by omega)
theorem held_ev (a n : Nat) (hn : n ≤ 1000000000) (ha : a ≤ 1000000000000) : Ev (fun k => laws_heldItemS.f k (marks a n) (a : Int)) ((a + 4 * n : Nat) : Int) := held_loop n a hn ha n 0 (by omega)

/-- The size of what came in: either it is too large, or it is small. -/
theorem sz_loop (l : List S122) (hl : l.length ≤ 1000000000) (hs : ∀ x ∈ l, x.f0.size ≤ 9223372036854775807) (d : Nat) : ∀ (i : Nat) (a : Int), i + d = l.length → 0 ≤ a → a ≤ 1048576 → ∃ t, Ev (fun k => laws_szItemS.l0 k l a (i : Int)) t ∧ t ≤ 1048576 := by
  induction d with
  | zero =>
    intro i a hi h0 h1
    refine ⟨a, Ev.step (f := fun _ => some a) (fun k => ?_) (Ev.now _), h1⟩
    simp only [laws_szItemS.l0]
    rw [if_neg (by omega)]
  | succ d ih =>
    intro i a hi h0 h1
    have hil : i < l.length := by omega
    have hx := hs l[i] (List.getElem_mem hil)
    have hw : wrap64 (a - (l[i].f0.size : Int)) = a - (l[i].f0.size : Int) := w64 (by omega) (by omega)
    by_cases hneg : a - (l[i].f0.size : Int) < 0
    · refine ⟨-1, Ev.step (f := fun _ => some (-1)) (fun k => ?_) (Ev.now _), by omega⟩
      simp only [laws_szItemS.l0]
      rw [if_pos (by omega), if_pos (by omega), rd122 l i hil]
      simp only [laws_szItem.f, hw, if_pos hneg, Option.bind_some]
      rfl
    · obtain ⟨t, ht, h2⟩ := ih (i + 1) (a - (l[i].f0.size : Int)) (by omega) (by omega) (by omega)
      refine ⟨t, Ev.step (fun k => ?_) ht, h2⟩
      simp only [laws_szItemS.l0]
      rw [if_pos (by omega), if_pos (by omega), rd122 l i hil]
      simp only [laws_szItem.f, hw, if_neg hneg, Option.bind_some, nx i (by omega)]
theorem sz_ev (l : List S122) (hl : l.length ≤ 9223372036854775807) (hs : ∀ x ∈ l, x.f0.size ≤ 9223372036854775807) (a : Int) (h0 : 0 ≤ a) (h1 : a ≤ 1048576) : ∃ t, Ev (fun k => laws_szItemS.f k l a) t ∧ t ≤ 1048576 ∧ (0 ≤ t → l.length ≤ 1048576) := by
  unfold laws_szItemS.f
  rw [w64 (by omega) (by omega)]
  by_cases hneg : a - (l.length : Int) < 0
  · simp only [if_pos hneg]
    exact ⟨-1, Ev.now _, by omega, fun h => by omega⟩
  · simp only [if_neg hneg]
    obtain ⟨t, ht, h2⟩ := sz_loop l (by omega) hs l.length 0 (a - (l.length : Int)) (by omega) (by omega) (by omega)
    exact ⟨t, ht, h2, fun _ => by omega⟩
end Go.Proofs.YtdjdillppgijmaaDoor.Qs
