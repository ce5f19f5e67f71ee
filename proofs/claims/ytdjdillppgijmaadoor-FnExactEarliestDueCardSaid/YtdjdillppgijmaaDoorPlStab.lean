/- The blocks of a stable sort of at most 40 elements: sorted each by itself, then merged. Plain Lean. -/
import Derived.Test.YtdjdillppgijmaaDoorPlSym
namespace Go.Proofs.YtdjdillppgijmaaDoor
open Go.Sort
variable {α : Type} [Inhabited α] {lt T : α → α → Bool}

/-! ### An insertion asks only a later element against earlier ones -/
theorem insInner_same (lt T : α → α → Bool) (a : Nat) : ∀ (j : Nat) (d : Array α), j < d.size → (∀ k, a ≤ k → k < j → lt d[j]! d[k]! = T d[j]! d[k]!) → insInner lt a j d = insInner T a j d
  | 0, d, _, _ => rfl
  | j + 1, d, hj, h => by
    unfold insInner
    by_cases ha : j + 1 > a
    · rw [h j (by omega) (by omega)]
      by_cases ht : T d[j + 1]! d[j]! = true
      · rw [if_pos (by simp [ha, ht]), if_pos (by simp [ha, ht])]
        refine insInner_same lt T a j _ (by rw [size_swp]; omega) (fun k hk hkj => ?_)
        rw [swp_right d (j + 1) j (by omega), swp_other d (j + 1) j k (by omega) (by omega)]
        exact h k hk (by omega)
      · rw [if_neg (by simp [ht]), if_neg (by simp [ht])]
    · rw [if_neg (by simp [ha]), if_neg (by simp [ha])]
theorem insInner_perm (T : α → α → Bool) (a b : Nat) : ∀ (j : Nat) (d : Array α), j < b → b ≤ d.size → PermIn a b d (insInner T a j d)
  | 0, d, _, _ => permIn_refl _ _ _
  | j + 1, d, hj, hb => by
    unfold insInner
    split
    · next h =>
      have ha : a < j + 1 := by simp at h; exact h.1
      exact permIn_trans _ _ _ _ _ (swp_permIn d a b (j + 1) j (by omega) hj (by omega) (by omega) hb) (insInner_perm T a b j _ (by omega) (by rw [size_swp]; exact hb))
    · exact permIn_refl _ _ _
theorem insInner_other (T : α → α → Bool) (a i : Nat) (d : Array α) (hi : i < d.size) (k : Nat) (hk : i < k) : (insInner T a i d)[k]! = d[k]! :=
  (insInner_perm T a (i + 1) i d (by omega) (by omega)).2.1 k (by omega)
theorem insOuter_same (a b : Nat) (n : Nat) : ∀ (i : Nat) (d : Array α), b - i ≤ n → a ≤ i → b ≤ d.size → (∀ j k, i ≤ j → j < b → a ≤ k → k < j → lt d[j]! d[k]! = T d[j]! d[k]!) → insOuter lt a b i d = insOuter T a b i d := by
  induction n with
  | zero =>
    intro i d hn _ _ _
    unfold insOuter
    rw [if_neg (by omega), if_neg (by omega)]
  | succ n ih =>
    intro i d hn hai hb h
    unfold insOuter
    by_cases hi : i < b
    · rw [if_pos hi, if_pos hi, insInner_same lt T a i d (by omega) (fun k hk hki => h i k (Nat.le_refl _) hi hk hki)]
      have hp := insInner_perm T a (i + 1) i d (by omega) (by omega)
      refine ih (i + 1) _ (by omega) (by omega) (by rw [hp.1]; exact hb) (fun j k hj hjb hk hkj => ?_)
      rw [insInner_other T a i d (by omega) j (by omega)]
      by_cases e : k < i + 1
      · exact permIn_all d _ a (i + 1) (fun z => lt d[j]! z = T d[j]! z) (by omega) hp (fun x hx1 hx2 => h j x (by omega) hjb hx1 (by omega)) k hk e
      · rw [insInner_other T a i d (by omega) k (by omega)]
        exact h j k (by omega) hjb hk hkj
    · rw [if_neg hi, if_neg hi]
theorem insertion_same (a b : Nat) (d : Array α) (hb : b ≤ d.size) (h : ∀ j k, a ≤ k → k < j → j < b → lt d[j]! d[k]! = T d[j]! d[k]!) : insertionSort lt d a b = insertionSort T d a b := by
  unfold insertionSort
  exact insOuter_same a b (b - (a + 1)) (a + 1) d (Nat.le_refl _) (by omega) hb (fun j k hj hjb hk hkj => h j k hk hkj hjb)

/-! ### The blocks -/
/-- A later element against an earlier one: the program's test answers as T. -/
def Rising (lt T : α → α → Bool) (d : Array α) : Prop := ∀ i j, i < j → j < d.size → lt d[j]! d[i]! = T d[j]! d[i]!
/-- q blocks of 20 are sorted; what lies behind them is as it was. -/
structure StInv (lt T : α → α → Bool) (q : Nat) (d dk : Array α) : Prop where
  size : dk.size = d.size
  perm : PermIn 0 d.size d dk
  rest : ∀ j, 20 * q ≤ j → dk[j]! = d[j]!
  blocks : ∀ p, p < q → SortedIn T (20 * p) (20 * p + 20) dk
  cross : ∀ i j, i < 20 → 20 ≤ j → j < d.size → lt dk[j]! dk[i]! = T dk[j]! dk[i]!

theorem StInv.start {d : Array α} (h : Rising lt T d) : StInv lt T 0 d d :=
  ⟨rfl, permIn_refl _ _ _, fun _ _ => rfl, fun p hp => by omega, fun i j hi hj hjd => h i j (by omega) hjd⟩

/-- A block is sorted, wherever it ends. -/
theorem StInv.block (hT : SWO T) {q e : Nat} {d dk : Array α} (hR : Rising lt T d) (h : StInv lt T q d dk) (h1 : 20 * q ≤ e) (h2 : e ≤ d.size) :
    PermIn (20 * q) e dk (insertionSort lt dk (20 * q) e) ∧ SortedIn T (20 * q) e (insertionSort lt dk (20 * q) e) := by
  rw [insertion_same (T := T) (20 * q) e dk (by rw [h.size]; exact h2) (fun j k hk hkj hje => by rw [h.rest j (by omega), h.rest k hk]; exact hR k j hkj (by omega))]
  exact insertionSort_holds hT dk (20 * q) e h1 (by rw [h.size]; exact h2)
theorem cross_perm {dk d2 : Array α} {lo hi n : Nat} (hp : PermIn lo hi dk d2) (hn : hi ≤ n) (hs : n ≤ dk.size) (hb : hi ≤ 20 ∨ 20 ≤ lo) (hc : ∀ i j, i < 20 → 20 ≤ j → j < n → lt dk[j]! dk[i]! = T dk[j]! dk[i]!) :
    ∀ i j, i < 20 → 20 ≤ j → j < n → lt d2[j]! d2[i]! = T d2[j]! d2[i]! := by
  intro i j hi2 hj hjn
  rcases hb with hb | hb
  · rw [hp.2.1 j (by omega)]
    by_cases e : lo ≤ i ∧ i < hi
    · exact permIn_all dk d2 lo hi (fun z => lt dk[j]! z = T dk[j]! z) (by omega) hp (fun x hx1 hx2 => hc x j (by omega) hj hjn) i e.1 e.2
    · rw [hp.2.1 i (by omega)]; exact hc i j hi2 hj hjn
  · rw [hp.2.1 i (by omega)]
    by_cases e : lo ≤ j ∧ j < hi
    · exact permIn_all dk d2 lo hi (fun z => lt z dk[i]! = T z dk[i]!) (by omega) hp (fun x hx1 hx2 => hc i x hi2 (by omega) (by omega)) j e.1 e.2
    · rw [hp.2.1 j (by omega)]; exact hc i j hi2 hj hjn

theorem StInv.step (hT : SWO T) {q : Nat} {d dk : Array α} (hR : Rising lt T d) (h : StInv lt T q d dk) (h2 : 20 * q + 20 ≤ d.size) : StInv lt T (q + 1) d (insertionSort lt dk (20 * q) (20 * q + 20)) := by
  obtain ⟨p1, p2⟩ := h.block hT hR (e := 20 * q + 20) (by omega) h2
  refine ⟨p1.1.trans h.size, permIn_trans _ _ _ _ _ h.perm (permIn_mono _ _ _ _ _ _ (Nat.zero_le _) h2 (by rw [h.size]; exact Nat.le_refl _) p1), fun j hj => by rw [p1.2.1 j (by omega)]; exact h.rest j (by omega), fun p hp => ?_, ?_⟩
  · by_cases e : p = q
    · subst e; exact p2
    · intro i j hi hij hj
      rw [p1.2.1 i (by omega), p1.2.1 j (by omega)]
      exact h.blocks p (by omega) i j hi hij hj
  · exact cross_perm p1 h2 (by rw [h.size]; exact Nat.le_refl _) (by omega) h.cross

/-- All blocks are sorted. -/
structure StEnd (lt T : α → α → Bool) (d dk : Array α) : Prop where
  size : dk.size = d.size
  perm : PermIn 0 d.size d dk
  first : ∀ i j, i < j → j < d.size → j < 20 → T dk[j]! dk[i]! = false
  second : SortedIn T 20 d.size dk
  cross : ∀ i j, i < 20 → 20 ≤ j → j < d.size → lt dk[j]! dk[i]! = T dk[j]! dk[i]!
theorem StInv.last (hT : SWO T) {q : Nat} {d dk : Array α} (hR : Rising lt T d) (h : StInv lt T q d dk) (h1 : 20 * q ≤ d.size) (h2 : d.size < 20 * q + 20) (h40 : d.size ≤ 40) : StEnd lt T d (insertionSort lt dk (20 * q) d.size) := by
  obtain ⟨p1, p2⟩ := h.block hT hR (e := d.size) h1 (Nat.le_refl _)
  refine ⟨p1.1.trans h.size, permIn_trans _ _ _ _ _ h.perm (permIn_mono _ _ _ _ _ _ (Nat.zero_le _) (Nat.le_refl _) (by rw [h.size]; exact Nat.le_refl _) p1), ?_, ?_, cross_perm p1 (Nat.le_refl _) (by rw [h.size]; exact Nat.le_refl _) (by omega) h.cross⟩
  · intro i j hij hj hj2
    by_cases e : q = 0
    · subst e; exact p2 i j (by omega) hij hj
    · rw [p1.2.1 i (by omega), p1.2.1 j (by omega)]
      exact h.blocks 0 (by omega) i j (by omega) hij (by omega)
  · intro i j hi hij hj
    by_cases e : q = 2
    · rw [p1.2.1 i (by omega), p1.2.1 j (by omega)]
      exact h.blocks 1 (by omega) i j (by omega) hij (by omega)
    · by_cases e2 : q = 1
      · subst e2; exact p2 i j (by omega) hij hj
      · omega
theorem StEnd.small {d dk : Array α} (h : StEnd lt T d dk) (hn : d.size ≤ 20) : PermIn 0 d.size d dk ∧ SortedIn T 0 d.size dk := ⟨h.perm, fun i j _ hij hj => h.first i j hij hj (by omega)⟩
theorem StEnd.mix {d dk : Array α} (h : StEnd lt T d dk) (hn : 20 ≤ d.size) : Mix lt T 0 20 d.size dk :=
  ⟨fun i j _ hij hj => h.first i j hij (by omega) hj, h.second, fun i j _ hi hj hjd => h.cross i j hi hj hjd⟩
end Go.Proofs.YtdjdillppgijmaaDoor
