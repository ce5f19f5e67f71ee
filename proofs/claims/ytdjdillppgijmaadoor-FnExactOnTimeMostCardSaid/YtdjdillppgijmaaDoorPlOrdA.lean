/- What the law's own helpers answer at rows of orders, in plain Lean. No condition. -/
import Derived.Test.YtdjdillppgijmaaDoorQox1
import Derived.Test.YtdjdillppgijmaaDoorQox2
import Derived.Test.YtdjdillppgijmaaDoorQox3
import Derived.Test.YtdjdillppgijmaaDoorPlNameO
set_option linter.unusedVariables false
set_option linter.unusedSimpArgs false
namespace Go.Proofs.YtdjdillppgijmaaDoor.Qo
open Go.RowKit Go.Proofs.YtdjdillppgijmaaDoorW.PrintWords Go.Proofs.YtdjdillppgijmaaDoorW.PrintLast Go.Proofs.YtdjdillppgijmaaDoorW.PrintMore

theorem nx (i : Nat) (h : i ≤ 1000000000000) : wrap64 ((i : Int) + 1) = ((i + 1 : Nat) : Int) := by rw [w64 (by omega) (by omega)]; omega
theorem rd149 (l : List S149) (i : Nat) (h : i < l.length) : rd_T149 l (i : Int) = l[i] := by
  unfold rd_T149
  rw [Int.toNat_natCast, List.getD_eq_getElem?_getD, List.getElem?_eq_getElem h]; rfl
theorem rd_set (l : List S149) (i : Nat) (h : i < l.length) (x : S149) : rd_T149 (l.set i x) (i : Int) = x := by
  rw [rd149 _ i (by simpa using h)]; simp
theorem rd145 (l : List S145) (i : Nat) (h : i < l.length) : rd_T145 l (i : Int) = l[i] := by
  unfold rd_T145
  rw [Int.toNat_natCast, List.getD_eq_getElem?_getD, List.getElem?_eq_getElem h]; rfl

def conv (x : S145) : S149 := ⟨x.f0, x.f1, x.f2, x.f3⟩
theorem to_loop (l : List S145) (hl : l.length ≤ 1000000000) (d : Nat) : ∀ (i : Nat) (acc : List S149), i + d = l.length → acc.length = l.length → acc.take i = (l.take i).map conv →
    Ev (fun k => laws_toOrderS.l0 k l acc (i : Int)) (l.map conv) := by
  induction d with
  | zero =>
    intro i acc hi ha ht
    refine Ev.step (f := fun _ => some acc) (fun k => ?_) ?_
    · simp only [laws_toOrderS.l0]
      rw [if_neg (by omega)]
    · rw [List.take_of_length_le (by omega), List.take_of_length_le (by omega)] at ht
      rw [ht]; exact Ev.now _
  | succ d ih =>
    intro i acc hi ha ht
    have hil : i < l.length := by omega
    refine Ev.step (f := fun k => laws_toOrderS.l0 k l (acc.set i (conv l[i])) ((i + 1 : Nat) : Int)) (fun k => ?_) (ih (i + 1) (acc.set i (conv l[i])) (by omega) (by rw [List.length_set]; exact ha) ?_)
    · simp only [laws_toOrderS.l0]
      rw [if_pos (by omega), if_pos (by omega), nx i (by omega), rd145 l i hil]
      simp only [laws_toOrder.f, Option.bind_some]
      rw [if_pos (by omega), Int.toNat_natCast]
      rfl
    · rw [List.take_succ_eq_append_getElem (by simp; omega), List.take_succ_eq_append_getElem hil, List.map_append, ← ht]
      simp
      exact List.take_set_of_le (Nat.le_refl i)
theorem to_ev (l : List S145) (hl : l.length ≤ 1000000000) : Ev (fun k => laws_toOrderS.f k l) (l.map conv) := by
  unfold laws_toOrderS.f
  simp only [if_pos (show (0 : Int) ≤ (l.length : Int) by omega), if_pos (show ((l.length : Int)).toNat ≤ 7036874417766 by omega)]
  exact to_loop l hl l.length 0 _ (by omega) (by simp) (by simp)

theorem eq_loop (l : List S149) (hl : l.length ≤ 1000000000) (d : Nat) : ∀ (i : Nat), i + d = l.length → Ev (fun k => laws_eqOrderS.l0 k l l (i : Int)) true := by
  induction d with
  | zero =>
    intro i hi
    refine Ev.step (f := fun _ => some true) (fun k => ?_) (Ev.now _)
    simp only [laws_eqOrderS.l0]
    rw [if_neg (by omega)]
  | succ d ih =>
    intro i hi
    refine Ev.step (f := fun k => laws_eqOrderS.l0 k l l ((i + 1 : Nat) : Int)) (fun k => ?_) (ih (i + 1) (by omega))
    simp only [laws_eqOrderS.l0]
    rw [if_pos (by omega), if_pos (by omega), if_pos (by omega), nx i (by omega)]
    simp only [laws_eqOrder.f, if_true, Option.bind_some]
theorem eq_ev (l : List S149) (hl : l.length ≤ 1000000000) : Ev (fun k => laws_eqOrderS.f k l l) true := by
  unfold laws_eqOrderS.f
  simp only [if_true]
  exact eq_loop l hl l.length 0 (by omega)

/-- The size of what came in: either it is too large, or it is small. -/
theorem sz_loop (l : List S145) (hl : l.length ≤ 1000000000) (hs : ∀ x ∈ l, x.f0.size ≤ 9223372036854775807) (d : Nat) : ∀ (i : Nat) (a : Int), i + d = l.length → 0 ≤ a → a ≤ 1048576 → ∃ t, Ev (fun k => laws_szOrderS.l0 k l a (i : Int)) t ∧ t ≤ 1048576 := by
  induction d with
  | zero =>
    intro i a hi h0 h1
    refine ⟨a, Ev.step (f := fun _ => some a) (fun k => ?_) (Ev.now _), h1⟩
    simp only [laws_szOrderS.l0]
    rw [if_neg (by omega)]
  | succ d ih =>
    intro i a hi h0 h1
    have hil : i < l.length := by omega
    have hx := hs l[i] (List.getElem_mem hil)
    have hw : wrap64 (a - (l[i].f0.size : Int)) = a - (l[i].f0.size : Int) := w64 (by omega) (by omega)
    by_cases hneg : a - (l[i].f0.size : Int) < 0
    · refine ⟨-1, Ev.step (f := fun _ => some (-1)) (fun k => ?_) (Ev.now _), by omega⟩
      simp only [laws_szOrderS.l0]
      rw [if_pos (by omega), if_pos (by omega), rd145 l i hil]
      simp only [laws_szOrder.f, hw, if_pos hneg, Option.bind_some]
      rfl
    · obtain ⟨t, ht, h2⟩ := ih (i + 1) (a - (l[i].f0.size : Int)) (by omega) (by omega) (by omega)
      refine ⟨t, Ev.step (fun k => ?_) ht, h2⟩
      simp only [laws_szOrderS.l0]
      rw [if_pos (by omega), if_pos (by omega), rd145 l i hil]
      simp only [laws_szOrder.f, hw, if_neg hneg, Option.bind_some, nx i (by omega)]
theorem sz_ev (l : List S145) (hl : l.length ≤ 9223372036854775807) (hs : ∀ x ∈ l, x.f0.size ≤ 9223372036854775807) (a : Int) (h0 : 0 ≤ a) (h1 : a ≤ 1048576) : ∃ t, Ev (fun k => laws_szOrderS.f k l a) t ∧ t ≤ 1048576 ∧ (0 ≤ t → l.length ≤ 1048576) := by
  unfold laws_szOrderS.f
  rw [w64 (by omega) (by omega)]
  by_cases hneg : a - (l.length : Int) < 0
  · simp only [if_pos hneg]
    exact ⟨-1, Ev.now _, by omega, fun h => by omega⟩
  · simp only [if_neg hneg]
    obtain ⟨t, ht, h2⟩ := sz_loop l (by omega) hs l.length 0 (a - (l.length : Int)) (by omega) (by omega) (by omega)
    exact ⟨t, ht, h2, fun _ => by omega⟩
end Go.Proofs.YtdjdillppgijmaaDoor.Qo
