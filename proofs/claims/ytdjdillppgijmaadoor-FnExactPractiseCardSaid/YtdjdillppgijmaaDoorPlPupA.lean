/- What the law's own helpers answer at rows of apprentices, in plain Lean. No condition. -/
import Derived.Test.YtdjdillppgijmaaDoorPlMarkP
import Derived.Test.YtdjdillppgijmaaDoorQpx7
set_option linter.unusedVariables false
set_option linter.unusedSimpArgs false
namespace Go.Proofs.YtdjdillppgijmaaDoor.Qp
open Go.RowKit Go.Proofs.YtdjdillppgijmaaDoorW.PrintWords Go.Proofs.YtdjdillppgijmaaDoorW.PrintLast Go.Proofs.YtdjdillppgijmaaDoorW.PrintMore

theorem rdi (l : List Int) (i : Nat) (h : i < l.length) : rd l (i : Int) = l[i] := by unfold rd; rw [Int.toNat_natCast, List.getD_eq_getElem?_getD, List.getElem?_eq_getElem h]; rfl
theorem rd116 (l : List S116) (i : Nat) (h : i < l.length) : rd_T116 l (i : Int) = l[i] := by unfold rd_T116; rw [Int.toNat_natCast, List.getD_eq_getElem?_getD, List.getElem?_eq_getElem h]; rfl
theorem rd114 (l : List S114) (i : Nat) (h : i < l.length) : rd_T114 l (i : Int) = l[i] := by unfold rd_T114; rw [Int.toNat_natCast, List.getD_eq_getElem?_getD, List.getElem?_eq_getElem h]; rfl
def convP (x : S114) : S116 := ⟨x.f0, x.f1, x.f2⟩
def tot114 : List S114 → Nat
  | [] => 0
  | x :: l => x.f2.length + tot114 l
def totP : List S116 → Nat
  | [] => 0
  | x :: l => x.f2.length + totP l
theorem tot_conv : ∀ l : List S114, totP (l.map convP) = tot114 l
  | [] => rfl
  | x :: l => by simp [totP, tot114, tot_conv l, convP]
theorem totP_mem : ∀ (l : List S116) (x : S116), x ∈ l → x.f2.length ≤ totP l
  | y :: l, x, h => by
    rcases List.mem_cons.1 h with rfl | h
    · simp [totP]
    · have := totP_mem l x h; simp only [totP]; omega
theorem endP_eq : ∀ (l : List S116) (a : Nat), endP a l = a + 2 * l.length + totP l
  | [], a => by simp [endP, totP]
  | x :: l, a => by simp only [endP, endP_eq l, wide, totP, List.length_cons]; omega

/-! ### Sizes -/
theorem szp_loop (l : List S114) (hl : l.length ≤ 1000000000) (hs : ∀ x ∈ l, x.f0.size ≤ 9223372036854775807 ∧ x.f2.length ≤ 9223372036854775807) (d : Nat) : ∀ (i : Nat) (a : Int), i + d = l.length → 0 ≤ a → a ≤ 1048576 → ∃ t, Ev (fun k => laws_szPupilS.l0 k l a (i : Int)) t ∧ t ≤ 1048576 ∧ (0 ≤ t → t + (tot114 (l.drop i) : Int) ≤ a) := by
  induction d with
  | zero =>
    intro i a hi h0 h1
    refine ⟨a, Ev.step (f := fun _ => some a) (fun k => ?_) (Ev.now _), h1, fun _ => ?_⟩
    · simp only [laws_szPupilS.l0]
      rw [if_neg (by omega)]
    · rw [List.drop_eq_nil_of_le (by omega)]; simp [tot114]
  | succ d ih =>
    intro i a hi h0 h1
    have hil : i < l.length := by omega
    obtain ⟨hx, hy⟩ := hs l[i] (List.getElem_mem hil)
    have hw : wrap64 (a - (l[i].f0.size : Int)) = a - (l[i].f0.size : Int) := w64 (by omega) (by omega)
    have hbad : laws_szPupil.f l[i].f0 l[i].f1 l[i].f2 a = some (-1) → ∃ t, Ev (fun k => laws_szPupilS.l0 k l a (i : Int)) t ∧ t ≤ 1048576 ∧ (0 ≤ t → t + (tot114 (l.drop i) : Int) ≤ a) := fun hb => by
      refine ⟨-1, Ev.step (f := fun _ => some (-1)) (fun k => ?_) (Ev.now _), by omega, fun h => by omega⟩
      simp only [laws_szPupilS.l0]
      rw [if_pos (by omega), if_pos (by omega), rd114 l i hil, hb]
      rfl
    by_cases hneg : a - (l[i].f0.size : Int) < 0
    · exact hbad (by unfold laws_szPupil.f; rw [hw, if_pos hneg])
    · have hw2 : wrap64 (a - (l[i].f0.size : Int) - (l[i].f2.length : Int)) = a - (l[i].f0.size : Int) - (l[i].f2.length : Int) := w64 (by omega) (by omega)
      by_cases hneg2 : a - (l[i].f0.size : Int) - (l[i].f2.length : Int) < 0
      · exact hbad (by unfold laws_szPupil.f laws_szInt64S.f; rw [hw, if_neg hneg, hw2, if_pos hneg2]; rfl)
      · obtain ⟨t, ht, h2, h3⟩ := ih (i + 1) (a - (l[i].f0.size : Int) - (l[i].f2.length : Int)) (by omega) (by omega) (by omega)
        refine ⟨t, Ev.step (fun k => ?_) ht, h2, fun h => ?_⟩
        · simp only [laws_szPupilS.l0]
          rw [if_pos (by omega), if_pos (by omega), rd114 l i hil]
          unfold laws_szPupil.f laws_szInt64S.f
          rw [hw, if_neg hneg, hw2, if_neg hneg2]
          simp only [Option.bind_some, if_neg hneg2, nx i (by omega)]
        · have := h3 h
          rw [List.drop_eq_getElem_cons hil]
          simp only [tot114]
          omega
theorem szp_ev (l : List S114) (hl : l.length ≤ 9223372036854775807) (hs : ∀ x ∈ l, x.f0.size ≤ 9223372036854775807 ∧ x.f2.length ≤ 9223372036854775807) (a : Int) (h0 : 0 ≤ a) (h1 : a ≤ 1048576) : ∃ t, Ev (fun k => laws_szPupilS.f k l a) t ∧ (0 ≤ t → l.length ≤ 1048576 ∧ tot114 l ≤ 1048576) := by
  unfold laws_szPupilS.f
  rw [w64 (by omega) (by omega)]
  by_cases hneg : a - (l.length : Int) < 0
  · simp only [if_pos hneg]
    exact ⟨-1, Ev.now _, fun h => by omega⟩
  · simp only [if_neg hneg]
    obtain ⟨t, ht, h2, h3⟩ := szp_loop l (by omega) hs l.length 0 (a - (l.length : Int)) (by omega) (by omega) (by omega)
    exact ⟨t, ht, fun h => by have := h3 h; rw [List.drop_zero] at this; omega⟩

/-! ### Copies -/
theorem toi_loop (l : List Int) (hl : l.length ≤ 1000000000) (d : Nat) : ∀ (i : Nat) (acc : List Int), i + d = l.length → acc.length = l.length → acc.take i = l.take i → Ev (fun k => laws_toInt64S.l0 k l acc (i : Int)) l := by
  induction d with
  | zero =>
    intro i acc hi ha ht
    refine Ev.step (f := fun _ => some acc) (fun k => ?_) ?_
    · simp only [laws_toInt64S.l0]
      rw [if_neg (by omega)]
    · rw [List.take_of_length_le (by omega), List.take_of_length_le (by omega)] at ht
      rw [ht]; exact Ev.now _
  | succ d ih =>
    intro i acc hi ha ht
    have hil : i < l.length := by omega
    refine Ev.step (f := fun k => laws_toInt64S.l0 k l (acc.set i l[i]) ((i + 1 : Nat) : Int)) (fun k => ?_) (ih (i + 1) (acc.set i l[i]) (by omega) (by rw [List.length_set]; exact ha) ?_)
    · simp only [laws_toInt64S.l0]
      rw [if_pos (by omega), if_pos (by omega), if_pos (by omega), nx i (by omega), rdi l i hil, Int.toNat_natCast]
    · rw [List.take_succ_eq_append_getElem (by simp; omega), List.take_succ_eq_append_getElem hil, ← ht]
      simp
      exact List.take_set_of_le (Nat.le_refl i)
theorem toi_ev (l : List Int) (hl : l.length ≤ 1000000000) : Ev (fun k => laws_toInt64S.f k l) l := by
  unfold laws_toInt64S.f
  simp only [if_pos (show (0 : Int) ≤ (l.length : Int) by omega), if_pos (show ((l.length : Int)).toNat ≤ 35184372088832 by omega)]
  exact toi_loop l hl l.length 0 _ (by omega) (by simp) (by simp)
theorem top_loop (l : List S114) (hl : l.length ≤ 1000000000) (hd : ∀ x ∈ l, x.f2.length ≤ 1000000000) (d : Nat) : ∀ (i : Nat) (acc : List S116), i + d = l.length → acc.length = l.length → acc.take i = (l.take i).map convP →
    Ev (fun k => laws_toPupilS.l0 k l acc (i : Int)) (l.map convP) := by
  induction d with
  | zero =>
    intro i acc hi ha ht
    refine Ev.step (f := fun _ => some acc) (fun k => ?_) ?_
    · simp only [laws_toPupilS.l0]
      rw [if_neg (by omega)]
    · rw [List.take_of_length_le (by omega), List.take_of_length_le (by omega)] at ht
      rw [ht]; exact Ev.now _
  | succ d ih =>
    intro i acc hi ha ht
    have hil : i < l.length := by omega
    refine Ev.step (f := fun k => (laws_toInt64S.f k l[i].f2).bind fun t => laws_toPupilS.l0 k l (acc.set i ⟨l[i].f0, l[i].f1, t⟩) ((i + 1 : Nat) : Int)) (fun k => ?_) (Ev.bind (toi_ev _ (hd _ (List.getElem_mem hil))) (ih (i + 1) (acc.set i (convP l[i])) (by omega) (by rw [List.length_set]; exact ha) ?_))
    · simp only [laws_toPupilS.l0]
      rw [if_pos (by omega), if_pos (by omega), nx i (by omega), rd114 l i hil]
      unfold laws_toPupil.f
      rw [Option.bind_assoc]
      congr 1
      funext t
      simp only [Option.bind_some]
      rw [if_pos (by omega), Int.toNat_natCast]
    · rw [List.take_succ_eq_append_getElem (by simp; omega), List.take_succ_eq_append_getElem hil, List.map_append, ← ht]
      simp
      exact List.take_set_of_le (Nat.le_refl i)
theorem top_ev (l : List S114) (hl : l.length ≤ 1000000000) (hd : ∀ x ∈ l, x.f2.length ≤ 1000000000) : Ev (fun k => laws_toPupilS.f k l) (l.map convP) := by
  unfold laws_toPupilS.f
  simp only [if_pos (show (0 : Int) ≤ (l.length : Int) by omega), if_pos (show ((l.length : Int)).toNat ≤ 5864062014805 by omega)]
  exact top_loop l hl hd l.length 0 _ (by omega) (by simp) (by simp)

/-! ### Sameness -/
theorem eqp_loop (l : List S116) (hl : l.length ≤ 1000000000) (hd : ∀ x ∈ l, x.f2.length ≤ 1000000000) (d : Nat) : ∀ (i : Nat), i + d = l.length → Ev (fun k => laws_eqPupilS.l0 k l l (i : Int)) true := by
  induction d with
  | zero =>
    intro i hi
    refine Ev.step (f := fun _ => some true) (fun k => ?_) (Ev.now _)
    simp only [laws_eqPupilS.l0]
    rw [if_neg (by omega)]
  | succ d ih =>
    intro i hi
    have hil : i < l.length := by omega
    refine Ev.step (f := fun k => (laws_eqInt64S.f k l[i].f2 l[i].f2).bind fun t => (if t = true then (some true) else (some false)).bind fun t198 => (if t198 = true then (laws_eqPupilS.l0 k l l ((i + 1 : Nat) : Int)) else (some false))) (fun k => ?_) (Ev.bind (eqi_ev _ (hd _ (List.getElem_mem hil))) ?_)
    · simp only [laws_eqPupilS.l0]
      rw [if_pos (by omega), if_pos (by omega), if_pos (by omega), nx i (by omega), rd116 l i hil]
      unfold laws_eqPupil.f
      rw [if_pos rfl, if_pos rfl, Option.bind_assoc]
    · simp only [if_true, Option.bind_some]
      exact ih (i + 1) (by omega)
theorem eqp_ev (l : List S116) (hl : l.length ≤ 1000000000) (hd : ∀ x ∈ l, x.f2.length ≤ 1000000000) : Ev (fun k => laws_eqPupilS.f k l l) true := by
  unfold laws_eqPupilS.f
  simp only [if_true]
  exact eqp_loop l hl hd l.length 0 (by omega)
end Go.Proofs.YtdjdillppgijmaaDoor.Qp
