/- A stable sort of at most 40 elements by blocks and symmetric merges, and the order of numbers by a key. Plain Lean. -/
import Derived.Sort.LotA
namespace Go.Proofs.YtdjdillppgijmaaDoor
open Go.Sort
section
variable {α : Type} [Inhabited α]

/-- The parts from a and from m on, up to b, change places. -/
def rotF (f : Nat → α) (a m b k : Nat) : α :=
  if a ≤ k ∧ k < a + (b - m) then f (k + (m - a)) else if a + (b - m) ≤ k ∧ k < b then f (k - (b - m)) else f k
/-- The n places from a on and those from b on change places. -/
def swrF (f : Nat → α) (a b n k : Nat) : α :=
  if a ≤ k ∧ k < a + n then f (k + (b - a)) else if b ≤ k ∧ k < b + n then f (k - (b - a)) else f k

omit [Inhabited α] in
theorem rot_gt (f : Nat → α) (m i j : Nat) (hm : i ≤ m) (h : j < i) : rotF (swrF f (m - i) m j) (m - i + j) m (m + j) = rotF f (m - i) m (m + j) := by
  funext k
  unfold rotF swrF
  repeat' split
  all_goals first | (exfalso; omega) | (congr 1 <;> omega)
omit [Inhabited α] in
theorem rot_lt (f : Nat → α) (m i j : Nat) (hm : i ≤ m) (h : i < j) : rotF (swrF f (m - i) (m + j - i) i) (m - i) m (m + (j - i)) = rotF f (m - i) m (m + j) := by
  funext k
  unfold rotF swrF
  repeat' split
  all_goals first | (exfalso; omega) | (congr 1 <;> omega)
omit [Inhabited α] in
theorem rot_eq (f : Nat → α) (m i : Nat) (hm : i ≤ m) : swrF f (m - i) m i = rotF f (m - i) m (m + i) := by
  funext k
  unfold rotF swrF
  repeat' split
  all_goals first | (exfalso; omega) | (congr 1 <;> omega)
omit [Inhabited α] in
theorem rot_left (f : Nat → α) (a b : Nat) (h : a ≤ b) : rotF f a a b = f := by
  funext k
  unfold rotF
  repeat' split
  all_goals first | (exfalso; omega) | rfl | (congr 1 <;> omega)
omit [Inhabited α] in
theorem rot_right (f : Nat → α) (a b : Nat) : rotF f a b b = f := by
  funext k
  unfold rotF
  repeat' split
  all_goals first | (exfalso; omega) | rfl | (congr 1 <;> omega)

omit [Inhabited α] in
theorem swr_zero (f : Nat → α) (a b : Nat) : swrF f a b 0 = f := by
  funext k
  unfold swrF
  repeat' split
  all_goals first | (exfalso; omega) | rfl
/-- One exchange more. -/
theorem swr_step (d : Array α) (f : Nat → α) (a b i : Nat) (hab : a + i < b) (hd : ∀ k, d[k]! = swrF f a b i k) (hs : b + i < d.size) : ∀ k, (swp d (a + i) (b + i))[k]! = swrF f a b (i + 1) k := by
  intro k
  rw [swp_get d (by omega) (by omega)]
  repeat' split
  all_goals (rw [hd]; unfold swrF; repeat' split)
  all_goals first | (exfalso; omega) | (congr 1 <;> omega)
/-- One place upwards. -/
theorem up_step (d : Array α) (f : Nat → α) (a k : Nat) (hak : a ≤ k) (hd : ∀ x, d[x]! = rotF f a (a + 1) (k + 1) x) (hs : k + 1 < d.size) : ∀ x, (swp d k (k + 1))[x]! = rotF f a (a + 1) (k + 1 + 1) x := by
  intro x
  rw [swp_get d (by omega) (by omega)]
  repeat' split
  all_goals (rw [hd]; unfold rotF; repeat' split)
  all_goals first | (exfalso; omega) | (congr 1 <;> omega)
/-- One place downwards. -/
theorem down_step (d : Array α) (f : Nat → α) (m k : Nat) (hk0 : 0 < k) (hk : k ≤ m) (hd : ∀ x, d[x]! = rotF f k m (m + 1) x) (hs : m < d.size) : ∀ x, (swp d k (k - 1))[x]! = rotF f (k - 1) m (m + 1) x := by
  intro x
  rw [swp_get d (by omega) (by omega)]
  repeat' split
  all_goals (rw [hd]; unfold rotF; repeat' split)
  all_goals first | (exfalso; omega) | (congr 1 <;> omega)

/-! ### what is merged -/
variable {lt T : α → α → Bool}
/-- Both parts are sorted by T, and between them the program's test answers as T. -/
structure Mix (lt T : α → α → Bool) (a m b : Nat) (d : Array α) : Prop where
  left : SortedIn T a m d
  right : SortedIn T m b d
  same : ∀ i j, a ≤ i → i < m → m ≤ j → j < b → lt d[j]! d[i]! = T d[j]! d[i]!

omit [Inhabited α] in
theorem asym (hT : SWO T) {x y : α} (h : T x y = true) : T y x = false := by
  cases h2 : T y x with
  | false => rfl
  | true => have := hT.trans _ _ _ h h2; rw [hT.irrefl] at this; cases this
theorem sorted_le (hT : SWO T) {a b : Nat} {d : Array α} (h : SortedIn T a b d) (i j : Nat) (ha : a ≤ i) (hij : i ≤ j) (hb : j < b) : T d[j]! d[i]! = false := by
  by_cases e : i = j
  · subst e; exact hT.irrefl _
  · exact h i j ha (by omega) hb

theorem sorted_split {a c b : Nat} {d : Array α} (h1 : SortedIn T a c d) (h2 : SortedIn T c b d) (hx : ∀ i j, a ≤ i → i < c → c ≤ j → j < b → T d[j]! d[i]! = false) : SortedIn T a b d := by
  intro i j hi hij hj
  by_cases e1 : j < c
  · exact h1 i j hi hij e1
  · by_cases e2 : i < c
    · exact hx i j hi e2 (by omega) hj
    · exact h2 i j (by omega) hij hj

/-- The first place at which the test is met: what a binary search finds. -/
theorem mono_false (hT : SWO T) {a m b p : Nat} {d : Array α} (h : Mix lt T a m b d) {c1 c2 : Nat} (h1 : a ≤ c1) (h12 : c1 ≤ c2) (h2 : c2 < m) (h3 : m ≤ p - c2) (h4 : p - c1 < b) (h5 : c2 ≤ p) (hf : T d[p - c2]! d[c2]! = false) : T d[p - c1]! d[c1]! = false :=
  hT.ntrans _ _ _ (sorted_le hT h.right (p - c2) (p - c1) h3 (by omega) h4) (hT.ntrans _ _ _ hf (sorted_le hT h.left c1 c2 h1 h12 h2))

/-- What the search found at c, for the whole range. -/
structure CutAt (lt T : α → α → Bool) (a m b mid s : Nat) (d : Array α) : Prop where
  as : a ≤ s
  sm : s ≤ m
  mid_s : s ≤ mid
  eb : mid + m - s ≤ b
  me : m ≤ mid + m - s
  low : ∀ x y, a ≤ x → x < s → mid + m - s ≤ y → y < b → T d[y]! d[x]! = false
  high : ∀ x y, s ≤ x → x < m → m ≤ y → y < mid + m - s → T d[x]! d[y]! = false

theorem cut_of (hT : SWO T) {a m b mid lo hi s : Nat} {d : Array α} (h : Mix lt T a m b d) (ham : a < m) (hmb : m < b) (hmid : mid = (a + b) / 2)
    (hlh : (m ≤ mid ∧ lo = a ∧ hi = m) ∨ (mid < m ∧ lo = mid + m - b ∧ hi = mid)) (hs1 : lo ≤ s) (hs2 : s ≤ hi)
    (hf : lo < s → lt d[mid + m - 1 - (s - 1)]! d[s - 1]! = false) (ht : s < hi → lt d[mid + m - 1 - s]! d[s]! = true) : CutAt lt T a m b mid s d := by
  have hal : a ≤ lo := by omega
  have hhm : hi ≤ m := by omega
  refine ⟨by omega, by omega, by omega, by omega, by omega, ?_, ?_⟩
  · intro x y hx hxs hy hyb
    have hlo : lo < s := by omega
    have hf2 := hf hlo
    rw [h.same (s - 1) (mid + m - 1 - (s - 1)) (by omega) (by omega) (by omega) (by omega), show mid + m - 1 - (s - 1) = mid + m - s by omega] at hf2
    exact hT.ntrans _ _ _ (sorted_le hT h.right (mid + m - s) y (by omega) hy hyb) (hT.ntrans _ _ _ hf2 (sorted_le hT h.left x (s - 1) hx (by omega) (by omega)))
  · intro x y hx hxm hy hye
    have hhi : s < hi := by omega
    have ht2 := ht hhi
    rw [h.same s (mid + m - 1 - s) (by omega) (by omega) (by omega) (by omega), show mid + m - 1 - s = mid + m - s - 1 by omega] at ht2
    exact hT.ntrans _ _ _ (sorted_le hT h.left s x (by omega) hx hxm) (hT.ntrans _ _ _ (asym hT ht2) (sorted_le hT h.right y (mid + m - s - 1) hy (by omega) (by omega)))

/-- Behind the rotation: both halves, and what lies across. -/
theorem cut_rot {a m b mid s : Nat} {d d' : Array α} (h : Mix lt T a m b d) (c : CutAt lt T a m b mid s d) (hd : ∀ x, d'[x]! = rotF (d[·]!) s m (mid + m - s) x) :
    Mix lt T a s mid d' ∧ Mix lt T mid (mid + m - s) b d' ∧ ∀ i j, a ≤ i → i < mid → mid ≤ j → j < b → T d'[j]! d'[i]! = false := by
  have c1 := c.as; have c2 := c.sm; have c3 := c.mid_s; have c4 := c.eb; have c5 := c.me
  have g1 : ∀ x, x < s → d'[x]! = d[x]! := fun x hx => by rw [hd]; unfold rotF; rw [if_neg (by omega), if_neg (by omega)]
  have g2 : ∀ x, s ≤ x → x < mid → d'[x]! = d[x + (m - s)]! := fun x hx hx2 => by rw [hd]; unfold rotF; rw [if_pos (by omega)]
  have g3 : ∀ x, mid ≤ x → x < mid + m - s → d'[x]! = d[x - (mid - s)]! := fun x hx hx2 => by rw [hd]; unfold rotF; rw [if_neg (by omega), if_pos (by omega), show mid + m - s - m = mid - s by omega]
  have g4 : ∀ x, mid + m - s ≤ x → d'[x]! = d[x]! := fun x hx => by rw [hd]; unfold rotF; rw [if_neg (by omega), if_neg (by omega)]
  refine ⟨⟨?_, ?_, ?_⟩, ⟨?_, ?_, ?_⟩, ?_⟩
  · intro i j hi hij hj
    rw [g1 i (by omega), g1 j (by omega)]
    exact h.left i j hi hij (by omega)
  · intro i j hi hij hj
    rw [g2 i (by omega) (by omega), g2 j (by omega) (by omega)]
    exact h.right _ _ (by omega) (by omega) (by omega)
  · intro i j hi hi2 hj hj2
    rw [g1 i (by omega), g2 j (by omega) (by omega)]
    exact h.same _ _ (by omega) (by omega) (by omega) (by omega)
  · intro i j hi hij hj
    rw [g3 i (by omega) (by omega), g3 j (by omega) (by omega)]
    exact h.left _ _ (by omega) (by omega) (by omega)
  · intro i j hi hij hj
    rw [g4 i (by omega), g4 j (by omega)]
    exact h.right _ _ (by omega) (by omega) (by omega)
  · intro i j hi hi2 hj hj2
    rw [g3 i (by omega) (by omega), g4 j (by omega)]
    exact h.same _ _ (by omega) (by omega) (by omega) (by omega)
  · intro i j hi hi2 hj hj2
    by_cases e1 : i < s
    · rw [g1 i e1]
      by_cases e2 : j < mid + m - s
      · rw [g3 j hj e2]
        exact h.left _ _ (by omega) (by omega) (by omega)
      · rw [g4 j (by omega)]
        exact c.low _ _ hi e1 (by omega) hj2
    · rw [g2 i (by omega) hi2]
      by_cases e2 : j < mid + m - s
      · rw [g3 j hj e2]
        exact c.high _ _ (by omega) (by omega) (by omega) (by omega)
      · rw [g4 j (by omega)]
        exact h.right _ _ (by omega) (by omega) (by omega)

/-- A part of a merge that holds nothing of one side is sorted. -/
theorem mix_trivial {a m b : Nat} {d : Array α} (h : Mix lt T a m b d) (hm : ¬ (a < m ∧ m < b)) (ham : a ≤ m) (hmb : m ≤ b) : SortedIn T a b d := by
  by_cases e : a < m
  · have : m = b := by omega
    subst this; exact h.left
  · have : m = a := by omega
    subst this; exact h.right

/-- A merge does not hang on what lies outside. -/
theorem mix_congr {a m b : Nat} {d d' : Array α} (h : Mix lt T a m b d) (hs : ∀ i, a ≤ i → i < b → d'[i]! = d[i]!) (ham : a ≤ m) (hmb : m ≤ b) : Mix lt T a m b d' :=
  ⟨fun i j hi hij hj => by rw [hs i hi (by omega), hs j (by omega) (by omega)]; exact h.left i j hi hij hj,
   fun i j hi hij hj => by rw [hs i (by omega) (by omega), hs j (by omega) hj]; exact h.right i j hi hij hj,
   fun i j hi hi2 hj hj2 => by rw [hs i hi (by omega), hs j (by omega) hj2]; exact h.same i j hi hi2 hj hj2⟩

/-- Both halves merged: all is sorted. -/
theorem halves_join {a mid b : Nat} {d d1 d2 : Array α} (ham : a ≤ mid) (hmb : mid ≤ b) (hb : b ≤ d.size) (p1 : PermIn a mid d d1) (s1 : SortedIn T a mid d1) (p2 : PermIn mid b d1 d2) (s2 : SortedIn T mid b d2)
    (hx : ∀ i j, a ≤ i → i < mid → mid ≤ j → j < b → T d[j]! d[i]! = false) : PermIn a b d d2 ∧ SortedIn T a b d2 := by
  have q1 : d1.size = d.size := p1.1
  refine ⟨permIn_trans _ _ _ _ _ (permIn_mono _ _ _ _ _ _ (Nat.le_refl _) hmb hb p1) (permIn_mono _ _ _ _ _ _ ham (Nat.le_refl _) (by omega) p2), ?_⟩
  refine sorted_split (c := mid) ?_ s2 ?_
  · intro i j hi hij hj
    rw [p2.2.1 i (by omega), p2.2.1 j (by omega)]
    exact s1 i j hi hij hj
  · intro i j hi hi2 hj hj2
    rw [p2.2.1 i (by omega)]
    have hy : ∀ y, mid ≤ y → y < b → ∀ x, a ≤ x → x < mid → T d1[y]! d1[x]! = false := by
      intro y hy hyb
      rw [p1.2.1 y (by omega)]
      exact permIn_all d d1 a mid (fun z => T d[y]! z = false) (by omega) p1 (fun x hx1 hx2 => hx x y hx1 hx2 hy hyb)
    exact permIn_all d1 d2 mid b (fun z => T z d1[i]! = false) (by omega) p2 (fun y hy1 hy2 => hy y hy1 hy2 i hi hi2) j hj hj2

/-- One element from the left is put among those on the right. -/
theorem sorted_up (hT : SWO T) {a b i : Nat} {d d' : Array α} (h : Mix lt T a (a + 1) b d) (hi1 : a + 1 ≤ i) (hi2 : i ≤ b) (ht : a + 1 < i → lt d[i - 1]! d[a]! = true) (hf : i < b → lt d[i]! d[a]! = false) (hd : ∀ x, d'[x]! = rotF (d[·]!) a (a + 1) i x) : SortedIn T a b d' := by
  have g1 : ∀ x, a ≤ x → x < i - 1 → d'[x]! = d[x + 1]! := fun x hx hx2 => by rw [hd]; unfold rotF; rw [if_pos (by omega)]; congr 1; omega
  have g2 : d'[i - 1]! = d[a]! := by rw [hd]; unfold rotF; rw [if_neg (by omega), if_pos (by omega)]; congr 1; omega
  have g3 : ∀ x, i ≤ x → d'[x]! = d[x]! := fun x hx => by rw [hd]; unfold rotF; rw [if_neg (by omega), if_neg (by omega)]
  intro x y hx hxy hy
  by_cases e1 : y < i - 1
  · rw [g1 x hx (by omega), g1 y (by omega) e1]
    exact h.right _ _ (by omega) (by omega) (by omega)
  · by_cases e2 : y = i - 1
    · subst e2
      rw [g2, g1 x hx (by omega)]
      have := ht (by omega)
      rw [h.same a (i - 1) (by omega) (by omega) (by omega) (by omega)] at this
      exact hT.ntrans _ _ _ (asym hT this) (sorted_le hT h.right (x + 1) (i - 1) (by omega) (by omega) (by omega))
    · rw [g3 y (by omega)]
      have hy2 : T d[y]! d[a]! = false := by
        have := hf (by omega)
        rw [h.same a i (by omega) (by omega) (by omega) (by omega)] at this
        exact hT.ntrans _ _ _ (sorted_le hT h.right i y (by omega) (by omega) hy) this
      by_cases e3 : x < i - 1
      · rw [g1 x hx e3]
        exact h.right _ _ (by omega) (by omega) hy
      · by_cases e4 : x = i - 1
        · rw [e4, g2]; exact hy2
        · rw [g3 x (by omega)]
          exact h.right _ _ (by omega) hxy hy

/-- One element from the right is put among those on the left. -/
theorem sorted_down (hT : SWO T) {a m i : Nat} {d d' : Array α} (h : Mix lt T a m (m + 1) d) (hi1 : a ≤ i) (hi2 : i ≤ m) (hf : a < i → lt d[m]! d[i - 1]! = false) (ht : i < m → lt d[m]! d[i]! = true) (hd : ∀ x, d'[x]! = rotF (d[·]!) i m (m + 1) x) : SortedIn T a (m + 1) d' := by
  have g1 : ∀ x, x < i → d'[x]! = d[x]! := fun x hx => by rw [hd]; unfold rotF; rw [if_neg (by omega), if_neg (by omega)]
  have g2 : d'[i]! = d[m]! := by rw [hd]; unfold rotF; rw [if_pos (by omega)]; congr 1; omega
  have g3 : ∀ x, i < x → x < m + 1 → d'[x]! = d[x - 1]! := fun x hx hx2 => by rw [hd]; unfold rotF; rw [if_neg (by omega), if_pos (by omega)]; congr 1; omega
  intro x y hx hxy hy
  have hlow : ∀ z, a ≤ z → z < i → T d[m]! d[z]! = false := fun z hz hz2 => by
    have := hf (by omega)
    rw [h.same (i - 1) m (by omega) (by omega) (by omega) (by omega)] at this
    exact hT.ntrans _ _ _ this (sorted_le hT h.left z (i - 1) hz (by omega) (by omega))
  have hhigh : ∀ z, i ≤ z → z < m → T d[z]! d[m]! = false := fun z hz hz2 => by
    have := ht (by omega)
    rw [h.same i m (by omega) (by omega) (by omega) (by omega)] at this
    exact hT.ntrans _ _ _ (sorted_le hT h.left i z (by omega) hz hz2) (asym hT this)
  by_cases e1 : y < i
  · rw [g1 x (by omega), g1 y e1]
    exact h.left _ _ hx hxy (by omega)
  · by_cases e2 : y = i
    · subst e2
      rw [g2, g1 x hxy]
      exact hlow x hx hxy
    · rw [g3 y (by omega) hy]
      by_cases e3 : x < i
      · rw [g1 x e3]
        exact h.left _ _ hx (by omega) (by omega)
      · by_cases e4 : x = i
        · rw [e4, g2]; exact hhigh _ (by omega) (by omega)
        · rw [g3 x (by omega) (by omega)]
          exact h.left _ _ (by omega) (by omega) (by omega)
end
section
variable {α : Type} [Inhabited α] {lt T : α → α → Bool}

/-! ### An insertion asks only a later element against earlier ones -/
theorem insInner_same (lt T : α → α → Bool) (a : Nat) : ∀ (j : Nat) (d : Array α), j < d.size → (∀ k, a ≤ k → k < j → lt d[j]! d[k]! = T d[j]! d[k]!) → insInner lt a j d = insInner T a j d
  | 0, d, _, _ => rfl
  | j + 1, d, hj, h => by
    unfold insInner
    by_cases ha : j + 1 > a
    · rw [h j (by omega) (by omega)]
      by_cases ht : T d[j + 1]! d[j]! = true
      · rw [if_pos (by simp [ha, ht]), if_pos (by simp [ha, ht])]
        refine insInner_same lt T a j _ (by rw [size_swp]; omega) (fun k hk hkj => ?_)
        rw [swp_right d (j + 1) j (by omega), swp_other d (j + 1) j k (by omega) (by omega)]
        exact h k hk (by omega)
      · rw [if_neg (by simp [ht]), if_neg (by simp [ht])]
    · rw [if_neg (by simp [ha]), if_neg (by simp [ha])]
theorem insInner_perm (T : α → α → Bool) (a b : Nat) : ∀ (j : Nat) (d : Array α), j < b → b ≤ d.size → PermIn a b d (insInner T a j d)
  | 0, d, _, _ => permIn_refl _ _ _
  | j + 1, d, hj, hb => by
    unfold insInner
    split
    · next h =>
      have ha : a < j + 1 := by simp at h; exact h.1
      exact permIn_trans _ _ _ _ _ (swp_permIn d a b (j + 1) j (by omega) hj (by omega) (by omega) hb) (insInner_perm T a b j _ (by omega) (by rw [size_swp]; exact hb))
    · exact permIn_refl _ _ _
theorem insInner_other (T : α → α → Bool) (a i : Nat) (d : Array α) (hi : i < d.size) (k : Nat) (hk : i < k) : (insInner T a i d)[k]! = d[k]! :=
  (insInner_perm T a (i + 1) i d (by omega) (by omega)).2.1 k (by omega)
theorem insOuter_same (a b : Nat) (n : Nat) : ∀ (i : Nat) (d : Array α), b - i ≤ n → a ≤ i → b ≤ d.size → (∀ j k, i ≤ j → j < b → a ≤ k → k < j → lt d[j]! d[k]! = T d[j]! d[k]!) → insOuter lt a b i d = insOuter T a b i d := by
  induction n with
  | zero =>
    intro i d hn _ _ _
    unfold insOuter
    rw [if_neg (by omega), if_neg (by omega)]
  | succ n ih =>
    intro i d hn hai hb h
    unfold insOuter
    by_cases hi : i < b
    · rw [if_pos hi, if_pos hi, insInner_same lt T a i d (by omega) (fun k hk hki => h i k (Nat.le_refl _) hi hk hki)]
      have hp := insInner_perm T a (i + 1) i d (by omega) (by omega)
      refine ih (i + 1) _ (by omega) (by omega) (by rw [hp.1]; exact hb) (fun j k hj hjb hk hkj => ?_)
      rw [insInner_other T a i d (by omega) j (by omega)]
      by_cases e : k < i + 1
      · exact permIn_all d _ a (i + 1) (fun z => lt d[j]! z = T d[j]! z) (by omega) hp (fun x hx1 hx2 => h j x (by omega) hjb hx1 (by omega)) k hk e
      · rw [insInner_other T a i d (by omega) k (by omega)]
        exact h j k (by omega) hjb hk hkj
    · rw [if_neg hi, if_neg hi]
theorem insertion_same (a b : Nat) (d : Array α) (hb : b ≤ d.size) (h : ∀ j k, a ≤ k → k < j → j < b → lt d[j]! d[k]! = T d[j]! d[k]!) : insertionSort lt d a b = insertionSort T d a b := by
  unfold insertionSort
  exact insOuter_same a b (b - (a + 1)) (a + 1) d (Nat.le_refl _) (by omega) hb (fun j k hj hjb hk hkj => h j k hk hkj hjb)

/-! ### The blocks -/
/-- A later element against an earlier one: the program's test answers as T. -/
def Rising (lt T : α → α → Bool) (d : Array α) : Prop := ∀ i j, i < j → j < d.size → lt d[j]! d[i]! = T d[j]! d[i]!
/-- q blocks of 20 are sorted; what lies behind them is as it was. -/
structure StInv (lt T : α → α → Bool) (q : Nat) (d dk : Array α) : Prop where
  size : dk.size = d.size
  perm : PermIn 0 d.size d dk
  rest : ∀ j, 20 * q ≤ j → dk[j]! = d[j]!
  blocks : ∀ p, p < q → SortedIn T (20 * p) (20 * p + 20) dk
  cross : ∀ i j, i < 20 → 20 ≤ j → j < d.size → lt dk[j]! dk[i]! = T dk[j]! dk[i]!

theorem StInv.start {d : Array α} (h : Rising lt T d) : StInv lt T 0 d d :=
  ⟨rfl, permIn_refl _ _ _, fun _ _ => rfl, fun p hp => by omega, fun i j hi hj hjd => h i j (by omega) hjd⟩

/-- A block is sorted, wherever it ends. -/
theorem StInv.block (hT : SWO T) {q e : Nat} {d dk : Array α} (hR : Rising lt T d) (h : StInv lt T q d dk) (h1 : 20 * q ≤ e) (h2 : e ≤ d.size) :
    PermIn (20 * q) e dk (insertionSort lt dk (20 * q) e) ∧ SortedIn T (20 * q) e (insertionSort lt dk (20 * q) e) := by
  rw [insertion_same (T := T) (20 * q) e dk (by rw [h.size]; exact h2) (fun j k hk hkj hje => by rw [h.rest j (by omega), h.rest k hk]; exact hR k j hkj (by omega))]
  exact insertionSort_holds hT dk (20 * q) e h1 (by rw [h.size]; exact h2)
theorem cross_perm {dk d2 : Array α} {lo hi n : Nat} (hp : PermIn lo hi dk d2) (hn : hi ≤ n) (hs : n ≤ dk.size) (hb : hi ≤ 20 ∨ 20 ≤ lo) (hc : ∀ i j, i < 20 → 20 ≤ j → j < n → lt dk[j]! dk[i]! = T dk[j]! dk[i]!) :
    ∀ i j, i < 20 → 20 ≤ j → j < n → lt d2[j]! d2[i]! = T d2[j]! d2[i]! := by
  intro i j hi2 hj hjn
  rcases hb with hb | hb
  · rw [hp.2.1 j (by omega)]
    by_cases e : lo ≤ i ∧ i < hi
    · exact permIn_all dk d2 lo hi (fun z => lt dk[j]! z = T dk[j]! z) (by omega) hp (fun x hx1 hx2 => hc x j (by omega) hj hjn) i e.1 e.2
    · rw [hp.2.1 i (by omega)]; exact hc i j hi2 hj hjn
  · rw [hp.2.1 i (by omega)]
    by_cases e : lo ≤ j ∧ j < hi
    · exact permIn_all dk d2 lo hi (fun z => lt z dk[i]! = T z dk[i]!) (by omega) hp (fun x hx1 hx2 => hc i x hi2 (by omega) (by omega)) j e.1 e.2
    · rw [hp.2.1 j (by omega)]; exact hc i j hi2 hj hjn

theorem StInv.step (hT : SWO T) {q : Nat} {d dk : Array α} (hR : Rising lt T d) (h : StInv lt T q d dk) (h2 : 20 * q + 20 ≤ d.size) : StInv lt T (q + 1) d (insertionSort lt dk (20 * q) (20 * q + 20)) := by
  obtain ⟨p1, p2⟩ := h.block hT hR (e := 20 * q + 20) (by omega) h2
  refine ⟨p1.1.trans h.size, permIn_trans _ _ _ _ _ h.perm (permIn_mono _ _ _ _ _ _ (Nat.zero_le _) h2 (by rw [h.size]; exact Nat.le_refl _) p1), fun j hj => by rw [p1.2.1 j (by omega)]; exact h.rest j (by omega), fun p hp => ?_, ?_⟩
  · by_cases e : p = q
    · subst e; exact p2
    · intro i j hi hij hj
      rw [p1.2.1 i (by omega), p1.2.1 j (by omega)]
      exact h.blocks p (by omega) i j hi hij hj
  · exact cross_perm p1 h2 (by rw [h.size]; exact Nat.le_refl _) (by omega) h.cross

/-- All blocks are sorted. -/
structure StEnd (lt T : α → α → Bool) (d dk : Array α) : Prop where
  size : dk.size = d.size
  perm : PermIn 0 d.size d dk
  first : ∀ i j, i < j → j < d.size → j < 20 → T dk[j]! dk[i]! = false
  second : SortedIn T 20 d.size dk
  cross : ∀ i j, i < 20 → 20 ≤ j → j < d.size → lt dk[j]! dk[i]! = T dk[j]! dk[i]!
theorem StInv.last (hT : SWO T) {q : Nat} {d dk : Array α} (hR : Rising lt T d) (h : StInv lt T q d dk) (h1 : 20 * q ≤ d.size) (h2 : d.size < 20 * q + 20) (h40 : d.size ≤ 40) : StEnd lt T d (insertionSort lt dk (20 * q) d.size) := by
  obtain ⟨p1, p2⟩ := h.block hT hR (e := d.size) h1 (Nat.le_refl _)
  refine ⟨p1.1.trans h.size, permIn_trans _ _ _ _ _ h.perm (permIn_mono _ _ _ _ _ _ (Nat.zero_le _) (Nat.le_refl _) (by rw [h.size]; exact Nat.le_refl _) p1), ?_, ?_, cross_perm p1 (Nat.le_refl _) (by rw [h.size]; exact Nat.le_refl _) (by omega) h.cross⟩
  · intro i j hij hj hj2
    by_cases e : q = 0
    · subst e; exact p2 i j (by omega) hij hj
    · rw [p1.2.1 i (by omega), p1.2.1 j (by omega)]
      exact h.blocks 0 (by omega) i j (by omega) hij (by omega)
  · intro i j hi hij hj
    by_cases e : q = 2
    · rw [p1.2.1 i (by omega), p1.2.1 j (by omega)]
      exact h.blocks 1 (by omega) i j (by omega) hij (by omega)
    · by_cases e2 : q = 1
      · subst e2; exact p2 i j (by omega) hij hj
      · omega
theorem StEnd.small {d dk : Array α} (h : StEnd lt T d dk) (hn : d.size ≤ 20) : PermIn 0 d.size d dk ∧ SortedIn T 0 d.size dk := ⟨h.perm, fun i j _ hij hj => h.first i j hij hj (by omega)⟩
theorem StEnd.mix {d dk : Array α} (h : StEnd lt T d dk) (hn : 20 ≤ d.size) : Mix lt T 0 20 d.size dk :=
  ⟨fun i j _ hij hj => h.first i j hij (by omega) hj, h.second, fun i j _ hi hj hjd => h.cross i j hi hj hjd⟩
end
/-- Where a key x is put into a list that is sorted by keys: the search from the end. -/
def cutK (key : Nat → Int) (out : List Nat) (x : Int) : Nat → Nat
  | 0 => 0
  | k + 1 => if x < key (out.getD k 0) then cutK key out x k else k + 1
def dueIns (key : Nat → Int) (out : List Nat) (i : Nat) : List Nat := out.take (cutK key out (key i) out.length) ++ i :: out.drop (cutK key out (key i) out.length)
/-- The numbers below n by their keys. -/
def dueTo (key : Nat → Int) : Nat → List Nat
  | 0 => []
  | i + 1 => dueIns key (dueTo key i) i
def dueLt (key : Nat → Int) (i j : Nat) : Prop := key i < key j ∨ key i = key j ∧ i < j

theorem getD_at {l : List Nat} {j : Nat} (h : j < l.length) : l.getD j 0 = l[j] := by rw [List.getD_eq_getElem?_getD, List.getElem?_eq_getElem h, Option.getD_some]
theorem cutK_le (key : Nat → Int) (out : List Nat) (x : Int) (k : Nat) : cutK key out x k ≤ k := by
  induction k with
  | zero => exact Nat.le_refl _
  | succ k ih =>
    unfold cutK
    split
    · omega
    · exact Nat.le_refl _
theorem cutK_high (key : Nat → Int) (out : List Nat) (x : Int) (k : Nat) : ∀ j, cutK key out x k ≤ j → j < k → x < key (out.getD j 0) := by
  induction k with
  | zero => intro j _ h; omega
  | succ k ih =>
    intro j h1 h2
    unfold cutK at h1
    split at h1
    · by_cases e : j = k
      · subst e; assumption
      · exact ih j h1 (by omega)
    · omega
theorem cutK_low (key : Nat → Int) (out : List Nat) (x : Int) (k : Nat) : 0 < cutK key out x k → key (out.getD (cutK key out x k - 1) 0) ≤ x := by
  induction k with
  | zero => intro h; exact absurd h (by simp [cutK])
  | succ k ih =>
    intro h
    unfold cutK at h ⊢
    by_cases hx : x < key (out.getD k 0)
    · rw [if_pos hx] at h ⊢
      exact ih h
    · rw [if_neg hx]
      show key (out.getD (k + 1 - 1) 0) ≤ x
      rw [Nat.add_sub_cancel]; omega

theorem dueIns_perm (key : Nat → Int) (out : List Nat) (i : Nat) : (dueIns key out i).Perm (i :: out) := by
  unfold dueIns
  have := List.perm_middle (a := i) (l₁ := out.take (cutK key out (key i) out.length)) (l₂ := out.drop (cutK key out (key i) out.length))
  rwa [List.take_append_drop] at this
theorem dueTo_perm (key : Nat → Int) (n : Nat) : (dueTo key n).Perm (List.range n) := by
  induction n with
  | zero => exact List.Perm.refl _
  | succ n ih =>
    rw [List.range_succ]
    exact ((dueIns_perm key _ n).trans (ih.cons n)).trans (List.perm_append_singleton n _).symm
theorem dueTo_length (key : Nat → Int) (n : Nat) : (dueTo key n).length = n := by rw [(dueTo_perm key n).length_eq, List.length_range]
theorem dueTo_mem (key : Nat → Int) (n j : Nat) : j ∈ dueTo key n ↔ j < n := by rw [(dueTo_perm key n).mem_iff, List.mem_range]

theorem dueIns_sorted (key : Nat → Int) (out : List Nat) (i : Nat) (hs : out.Pairwise (dueLt key)) (hi : ∀ j ∈ out, j < i) : (dueIns key out i).Pairwise (dueLt key) := by
  have hle := cutK_le key out (key i) out.length
  have hlow : ∀ a ∈ out.take (cutK key out (key i) out.length), key a ≤ key i := by
    intro a ha
    obtain ⟨j, hj, rfl⟩ := List.getElem_of_mem ha
    rw [List.length_take] at hj
    rw [List.getElem_take]
    have h0 := cutK_low key out (key i) out.length (by omega)
    rw [getD_at (by omega)] at h0
    by_cases e : j = cutK key out (key i) out.length - 1
    · simp only [e]; exact h0
    · have := (List.pairwise_iff_getElem.1 hs) j (cutK key out (key i) out.length - 1) (by omega) (by omega) (by omega)
      unfold dueLt at this
      omega
  have hhigh : ∀ a ∈ out.drop (cutK key out (key i) out.length), key i < key a := by
    intro a ha
    obtain ⟨j, hj, rfl⟩ := List.getElem_of_mem ha
    rw [List.length_drop] at hj
    rw [List.getElem_drop]
    have := cutK_high key out (key i) out.length (cutK key out (key i) out.length + j) (by omega) (by omega)
    rwa [getD_at (by omega)] at this
  unfold dueIns
  rw [List.pairwise_append, List.pairwise_cons]
  refine ⟨hs.sublist (List.take_sublist _ _), ⟨fun a ha => Or.inl (hhigh a ha), hs.sublist (List.drop_sublist _ _)⟩, ?_⟩
  intro a ha b hb
  rcases List.mem_cons.1 hb with rfl | hb
  · have := hlow a ha
    have h2 := hi a (List.mem_of_mem_take ha)
    unfold dueLt
    omega
  · have h1 := hlow a ha
    have h2 := hhigh b hb
    unfold dueLt
    omega
theorem dueTo_sorted (key : Nat → Int) (n : Nat) : (dueTo key n).Pairwise (dueLt key) := by
  induction n with
  | zero => exact List.Pairwise.nil
  | succ n ih => exact dueIns_sorted key _ n ih (fun j hj => (dueTo_mem key n j).1 hj)
theorem due_unique (key : Nat → Int) (n : Nat) (l : List Nat) (hp : l.Perm (List.range n)) (hs : l.Pairwise (dueLt key)) : l = dueTo key n := by
  refine List.Perm.eq_of_pairwise (le := dueLt key) ?_ hs (dueTo_sorted key n) (hp.trans (dueTo_perm key n).symm)
  intro a b _ _ h1 h2
  unfold dueLt at h1 h2
  omega

/-! ### The same as a test, for the sort -/
def keyB (key : Nat → Int) (x y : Nat) : Bool := decide (key x < key y)
def dueB (key : Nat → Int) (x y : Nat) : Bool := decide (key x < key y ∨ key x = key y ∧ x < y)
theorem dueB_iff {key : Nat → Int} {x y : Nat} : dueB key x y = true ↔ dueLt key x y := by unfold dueB dueLt; exact decide_eq_true_iff
theorem dueB_no {key : Nat → Int} {x y : Nat} : dueB key x y = false ↔ ¬ dueLt key x y := by unfold dueB dueLt; exact decide_eq_false_iff_not
end Go.Proofs.YtdjdillppgijmaaDoor
