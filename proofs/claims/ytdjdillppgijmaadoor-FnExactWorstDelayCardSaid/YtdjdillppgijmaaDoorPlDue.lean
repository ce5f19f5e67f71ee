/- The order of numbers by a key, those of one key in their own order: built by insertion, and there is one such list. Plain Lean. -/
import Derived.Sort.LotA
namespace Go.Proofs.YtdjdillppgijmaaDoor
open Go.Sort

/-- Where a key x is put into a list that is sorted by keys: the search from the end. -/
def cutK (key : Nat → Int) (out : List Nat) (x : Int) : Nat → Nat
  | 0 => 0
  | k + 1 => if x < key (out.getD k 0) then cutK key out x k else k + 1
def dueIns (key : Nat → Int) (out : List Nat) (i : Nat) : List Nat := out.take (cutK key out (key i) out.length) ++ i :: out.drop (cutK key out (key i) out.length)
/-- The numbers below n by their keys. -/
def dueTo (key : Nat → Int) : Nat → List Nat
  | 0 => []
  | i + 1 => dueIns key (dueTo key i) i
def dueLt (key : Nat → Int) (i j : Nat) : Prop := key i < key j ∨ key i = key j ∧ i < j

theorem getD_at {l : List Nat} {j : Nat} (h : j < l.length) : l.getD j 0 = l[j] := by rw [List.getD_eq_getElem?_getD, List.getElem?_eq_getElem h, Option.getD_some]
theorem cutK_le (key : Nat → Int) (out : List Nat) (x : Int) (k : Nat) : cutK key out x k ≤ k := by
  induction k with
  | zero => exact Nat.le_refl _
  | succ k ih =>
    unfold cutK
    split
    · omega
    · exact Nat.le_refl _
theorem cutK_high (key : Nat → Int) (out : List Nat) (x : Int) (k : Nat) : ∀ j, cutK key out x k ≤ j → j < k → x < key (out.getD j 0) := by
  induction k with
  | zero => intro j _ h; omega
  | succ k ih =>
    intro j h1 h2
    unfold cutK at h1
    split at h1
    · by_cases e : j = k
      · subst e; assumption
      · exact ih j h1 (by omega)
    · omega
theorem cutK_low (key : Nat → Int) (out : List Nat) (x : Int) (k : Nat) : 0 < cutK key out x k → key (out.getD (cutK key out x k - 1) 0) ≤ x := by
  induction k with
  | zero => intro h; exact absurd h (by simp [cutK])
  | succ k ih =>
    intro h
    unfold cutK at h ⊢
    by_cases hx : x < key (out.getD k 0)
    · rw [if_pos hx] at h ⊢
      exact ih h
    · rw [if_neg hx]
      show key (out.getD (k + 1 - 1) 0) ≤ x
      rw [Nat.add_sub_cancel]; omega

theorem dueIns_perm (key : Nat → Int) (out : List Nat) (i : Nat) : (dueIns key out i).Perm (i :: out) := by
  unfold dueIns
  have := List.perm_middle (a := i) (l₁ := out.take (cutK key out (key i) out.length)) (l₂ := out.drop (cutK key out (key i) out.length))
  rwa [List.take_append_drop] at this
theorem dueTo_perm (key : Nat → Int) (n : Nat) : (dueTo key n).Perm (List.range n) := by
  induction n with
  | zero => exact List.Perm.refl _
  | succ n ih =>
    rw [List.range_succ]
    exact ((dueIns_perm key _ n).trans (ih.cons n)).trans (List.perm_append_singleton n _).symm
theorem dueTo_length (key : Nat → Int) (n : Nat) : (dueTo key n).length = n := by rw [(dueTo_perm key n).length_eq, List.length_range]
theorem dueTo_mem (key : Nat → Int) (n j : Nat) : j ∈ dueTo key n ↔ j < n := by rw [(dueTo_perm key n).mem_iff, List.mem_range]

theorem dueIns_sorted (key : Nat → Int) (out : List Nat) (i : Nat) (hs : out.Pairwise (dueLt key)) (hi : ∀ j ∈ out, j < i) : (dueIns key out i).Pairwise (dueLt key) := by
  have hle := cutK_le key out (key i) out.length
  have hlow : ∀ a ∈ out.take (cutK key out (key i) out.length), key a ≤ key i := by
    intro a ha
    obtain ⟨j, hj, rfl⟩ := List.getElem_of_mem ha
    rw [List.length_take] at hj
    rw [List.getElem_take]
    have h0 := cutK_low key out (key i) out.length (by omega)
    rw [getD_at (by omega)] at h0
    by_cases e : j = cutK key out (key i) out.length - 1
    · simp only [e]; exact h0
    · have := (List.pairwise_iff_getElem.1 hs) j (cutK key out (key i) out.length - 1) (by omega) (by omega) (by omega)
      unfold dueLt at this
      omega
  have hhigh : ∀ a ∈ out.drop (cutK key out (key i) out.length), key i < key a := by
    intro a ha
    obtain ⟨j, hj, rfl⟩ := List.getElem_of_mem ha
    rw [List.length_drop] at hj
    rw [List.getElem_drop]
    have := cutK_high key out (key i) out.length (cutK key out (key i) out.length + j) (by omega) (by omega)
    rwa [getD_at (by omega)] at this
  unfold dueIns
  rw [List.pairwise_append, List.pairwise_cons]
  refine ⟨hs.sublist (List.take_sublist _ _), ⟨fun a ha => Or.inl (hhigh a ha), hs.sublist (List.drop_sublist _ _)⟩, ?_⟩
  intro a ha b hb
  rcases List.mem_cons.1 hb with rfl | hb
  · have := hlow a ha
    have h2 := hi a (List.mem_of_mem_take ha)
    unfold dueLt
    omega
  · have h1 := hlow a ha
    have h2 := hhigh b hb
    unfold dueLt
    omega
theorem dueTo_sorted (key : Nat → Int) (n : Nat) : (dueTo key n).Pairwise (dueLt key) := by
  induction n with
  | zero => exact List.Pairwise.nil
  | succ n ih => exact dueIns_sorted key _ n ih (fun j hj => (dueTo_mem key n j).1 hj)
theorem due_unique (key : Nat → Int) (n : Nat) (l : List Nat) (hp : l.Perm (List.range n)) (hs : l.Pairwise (dueLt key)) : l = dueTo key n := by
  refine List.Perm.eq_of_pairwise (le := dueLt key) ?_ hs (dueTo_sorted key n) (hp.trans (dueTo_perm key n).symm)
  intro a b _ _ h1 h2
  unfold dueLt at h1 h2
  omega

/-! ### The same as a test, for the sort -/
def keyB (key : Nat → Int) (x y : Nat) : Bool := decide (key x < key y)
def dueB (key : Nat → Int) (x y : Nat) : Bool := decide (key x < key y ∨ key x = key y ∧ x < y)
theorem dueB_iff {key : Nat → Int} {x y : Nat} : dueB key x y = true ↔ dueLt key x y := by unfold dueB dueLt; exact decide_eq_true_iff
theorem dueB_no {key : Nat → Int} {x y : Nat} : dueB key x y = false ↔ ¬ dueLt key x y := by unfold dueB dueLt; exact decide_eq_false_iff_not
end Go.Proofs.YtdjdillppgijmaaDoor
