/- Sets of short items by numbers, and which of them is the best: plain Lean, no program. -/
import Derived.RowKit
set_option linter.unusedVariables false
set_option linter.unusedSimpArgs false
namespace Go.Proofs.YtdjdillppgijmaaDoor.Pl

/-- The elements of a list at the bits of a number. -/
def setOf : Nat → List Int → List Int
  | _, [] => []
  | m, x :: xs => if m % 2 = 1 then x :: setOf (m / 2) xs else setOf (m / 2) xs
/-- The bits' places of a number, from a place on. -/
def posOf (m p : Nat) : List Nat :=
  if h : m = 0 then [] else if m % 2 = 1 then p :: posOf (m / 2) (p + 1) else posOf (m / 2) (p + 1)
termination_by m
decreasing_by all_goals omega

theorem setOf_sublist : ∀ (l : List Int) (m : Nat), (setOf m l).Sublist l
  | [], m => by simp [setOf]
  | x :: xs, m => by
    unfold setOf
    by_cases h : m % 2 = 1
    · rw [if_pos h]; exact (setOf_sublist xs _).cons_cons x
    · rw [if_neg h]; exact (setOf_sublist xs _).cons x
theorem setOf_all {l S : List Int} (h : S.Sublist l) : ∃ m, m < 2 ^ l.length ∧ setOf m l = S := by
  induction h with
  | slnil => exact ⟨0, by simp, rfl⟩
  | @cons l1 l2 a h ih =>
    obtain ⟨m, hm, rfl⟩ := ih
    refine ⟨2 * m, by simp only [List.length_cons, Nat.pow_succ]; omega, ?_⟩
    rw [setOf, if_neg (by omega), show 2 * m / 2 = m by omega]
  | @cons_cons l1 l2 a h ih =>
    obtain ⟨m, hm, rfl⟩ := ih
    refine ⟨2 * m + 1, by simp only [List.length_cons, Nat.pow_succ]; omega, ?_⟩
    rw [setOf, if_pos (by omega), show (2 * m + 1) / 2 = m by omega]
theorem setOf_zero : ∀ l : List Int, setOf 0 l = []
  | [] => rfl
  | x :: xs => by unfold setOf; rw [if_neg (by omega)]; exact setOf_zero xs
theorem posOf_map (full : List Int) : ∀ (m p : Nat), m < 2 ^ (full.length - p) → (posOf m p).map (fun q => full.getD q 0) = setOf m (full.drop p) := by
  intro m
  induction m using Nat.strongRecOn with
  | _ m ih =>
    intro p hm
    unfold posOf
    by_cases h0 : m = 0
    · rw [dif_pos h0, h0, setOf_zero]; rfl
    · rw [dif_neg h0]
      have hp : p < full.length := by
        apply Nat.lt_of_not_le
        intro hle
        rw [Nat.sub_eq_zero_of_le hle] at hm
        simp at hm; omega
      have hd : full.drop p = full[p] :: full.drop (p + 1) := List.drop_eq_getElem_cons hp
      have hm2 : m / 2 < 2 ^ (full.length - (p + 1)) := by
        have : full.length - p = (full.length - (p + 1)) + 1 := by omega
        rw [this, Nat.pow_succ] at hm
        omega
      rw [hd]
      by_cases h1 : m % 2 = 1
      · rw [if_pos h1, setOf, if_pos h1, List.map_cons, ih (m / 2) (by omega) (p + 1) hm2]
        congr 1
        simp [List.getD, hp]
      · rw [if_neg h1, setOf, if_neg h1, ih (m / 2) (by omega) (p + 1) hm2]
theorem posOf_bound : ∀ (m p n : Nat), m < 2 ^ (n - p) → ∀ q ∈ posOf m p, p ≤ q ∧ q < n := by
  intro m
  induction m using Nat.strongRecOn with
  | _ m ih =>
    intro p n hm q hq
    unfold posOf at hq
    by_cases h0 : m = 0
    · rw [dif_pos h0] at hq; cases hq
    · rw [dif_neg h0] at hq
      have hp : p < n := by
        apply Nat.lt_of_not_le
        intro hle
        rw [Nat.sub_eq_zero_of_le hle] at hm
        simp at hm; omega
      have hm2 : m / 2 < 2 ^ (n - (p + 1)) := by
        have : n - p = (n - (p + 1)) + 1 := by omega
        rw [this, Nat.pow_succ] at hm
        omega
      by_cases h1 : m % 2 = 1
      · rw [if_pos h1] at hq
        rcases List.mem_cons.1 hq with rfl | hq
        · omega
        · have := ih (m / 2) (by omega) (p + 1) n hm2 q hq; omega
      · rw [if_neg h1] at hq
        have := ih (m / 2) (by omega) (p + 1) n hm2 q hq; omega
theorem posOf_length : ∀ (m p : Nat), (posOf m p).length ≤ m := by
  intro m
  induction m using Nat.strongRecOn with
  | _ m ih =>
    intro p
    unfold posOf
    by_cases h0 : m = 0
    · rw [dif_pos h0]; simp
    · rw [dif_neg h0]
      have := ih (m / 2) (by omega) (p + 1)
      by_cases h1 : m % 2 = 1
      · rw [if_pos h1, List.length_cons]; omega
      · rw [if_neg h1]; omega

/-- The order of lists number by number, as Go's slices.Compare tells it. -/
def cmpL : List Int → List Int → Int
  | [], [] => 0
  | [], _ :: _ => -1
  | _ :: _, [] => 1
  | x :: xs, y :: ys => if x < y then -1 else if x > y then 1 else cmpL xs ys
theorem cmpL_refl : ∀ l, cmpL l l = 0
  | [] => rfl
  | x :: xs => by unfold cmpL; rw [if_neg (by omega), if_neg (by omega)]; exact cmpL_refl xs
theorem cmpL_anti : ∀ a b, cmpL a b < 0 ↔ 0 < cmpL b a
  | [], [] => by simp [cmpL]
  | [], _ :: _ => by simp [cmpL]
  | _ :: _, [] => by simp [cmpL]
  | x :: xs, y :: ys => by
    unfold cmpL
    by_cases h : x < y
    · rw [if_pos h, if_neg (by omega), if_pos (by omega)]; simp
    · by_cases h2 : x > y
      · rw [if_neg h, if_pos h2, if_pos (by omega)]; simp
      · rw [if_neg h, if_neg h2, if_neg (by omega), if_neg (by omega)]; exact cmpL_anti xs ys
theorem cmpL_eq : ∀ a b, cmpL a b = 0 → a = b
  | [], [], _ => rfl
  | [], _ :: _, h => by simp [cmpL] at h
  | _ :: _, [], h => by simp [cmpL] at h
  | x :: xs, y :: ys, h => by
    unfold cmpL at h
    by_cases h1 : x < y
    · rw [if_pos h1] at h; simp at h
    · by_cases h2 : x > y
      · rw [if_neg h1, if_pos h2] at h; simp at h
      · rw [if_neg h1, if_neg h2] at h
        rw [show x = y by omega, cmpL_eq xs ys h]
theorem cmpL_trans : ∀ a b c, cmpL a b < 0 → cmpL b c < 0 → cmpL a c < 0
  | [], [], c, h, _ => by simp [cmpL] at h
  | [], _ :: _, [], _, h => by simp [cmpL] at h
  | [], _ :: _, _ :: _, _, _ => by simp [cmpL]
  | _ :: _, [], _, h, _ => by simp [cmpL] at h
  | _ :: _, _ :: _, [], _, h => by simp [cmpL] at h
  | x :: xs, y :: ys, z :: zs, h1, h2 => by
    unfold cmpL at h1 h2 ⊢
    by_cases a : x < y
    · by_cases b : y < z
      · rw [if_pos (by omega)]; simp
      · by_cases b2 : y > z
        · rw [if_neg b, if_pos b2] at h2; simp at h2
        · rw [if_pos (by omega)]; simp
    · by_cases a2 : x > y
      · rw [if_neg a, if_pos a2] at h1; simp at h1
      · rw [if_neg a, if_neg a2] at h1
        by_cases b : y < z
        · rw [if_pos (by omega)]; simp
        · by_cases b2 : y > z
          · rw [if_neg b, if_pos b2] at h2; simp at h2
          · rw [if_neg b, if_neg b2] at h2
            rw [if_neg (by omega), if_neg (by omega)]
            exact cmpL_trans xs ys zs h1 h2

/-- A set is better than another: more items, or as many for less, or as many for as much and ahead in the order of lists. -/
def better (S : List Int) (c : Int) (B : List Int) (b : Int) : Prop := S.length > B.length ∨ (S.length = B.length ∧ (c < b ∨ (c = b ∧ cmpL S B < 0)))
instance (S c B b) : Decidable (better S c B b) := by unfold better; infer_instance
theorem better_irrefl (S : List Int) (c : Int) : ¬ better S c S c := by
  unfold better; rw [cmpL_refl]; omega
theorem better_trans {S T U : List Int} {a b c : Int} (h : better S a T b) (k : better T b U c) : better S a U c := by
  unfold better at *
  rcases h with h | ⟨h, h2⟩
  · rcases k with k | ⟨k, _⟩
    · left; omega
    · left; omega
  · rcases k with k | ⟨k, k2⟩
    · left; omega
    · right
      refine ⟨by omega, ?_⟩
      rcases h2 with h2 | ⟨h2, h3⟩
      · rcases k2 with k2 | ⟨k2, _⟩
        · left; omega
        · left; omega
      · rcases k2 with k2 | ⟨k2, k3⟩
        · left; omega
        · right; exact ⟨by omega, cmpL_trans _ _ _ h3 k3⟩
theorem better_total {S T : List Int} {a b : Int} (h : ¬ better S a T b) (k : ¬ better T b S a) : S = T ∧ a = b := by
  unfold better at *
  have h1 : S.length = T.length := by omega
  have h2 : a = b := by omega
  have h3 : ¬ cmpL S T < 0 := fun e => h (.inr ⟨h1, .inr ⟨h2, e⟩⟩)
  have h4 : ¬ cmpL T S < 0 := fun e => k (.inr ⟨h1.symm, .inr ⟨h2.symm, e⟩⟩)
  rw [cmpL_anti] at h4
  exact ⟨cmpL_eq _ _ (by omega), h2⟩

/-- What some items cost, each by a function. -/
def costL (f : Int → Int) (S : List Int) : Int := (S.map f).sum
/-- The best set of a list within a budget. -/
structure Best (f : Int → Int) (l : List Int) (budget : Int) (B : List Int) (b : Int) : Prop where
  sub : B.Sublist l
  cost : costL f B = b
  fits : b ≤ budget
  top : ∀ S, S.Sublist l → costL f S ≤ budget → ¬ better S (costL f S) B b
theorem Best.unique {f : Int → Int} {l : List Int} {budget : Int} {B C : List Int} {b c : Int} (h : Best f l budget B b) (k : Best f l budget C c) : B = C ∧ b = c := by
  have h1 := h.top C k.sub (by rw [k.cost]; exact k.fits)
  have h2 := k.top B h.sub (by rw [h.cost]; exact h.fits)
  rw [k.cost] at h1
  rw [h.cost] at h2
  exact better_total h2 h1
end Go.Proofs.YtdjdillppgijmaaDoor.Pl
