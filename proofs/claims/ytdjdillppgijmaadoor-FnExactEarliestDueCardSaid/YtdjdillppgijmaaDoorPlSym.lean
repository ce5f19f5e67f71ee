/- A symmetric merge of two sorted parts of a row: what the rotations do, and why both halves may be merged by themselves. Plain Lean. -/
import Derived.Sort.LotA
namespace Go.Proofs.YtdjdillppgijmaaDoor
open Go.Sort
variable {α : Type} [Inhabited α]

/-- The parts from a and from m on, up to b, change places. -/
def rotF (f : Nat → α) (a m b k : Nat) : α :=
  if a ≤ k ∧ k < a + (b - m) then f (k + (m - a)) else if a + (b - m) ≤ k ∧ k < b then f (k - (b - m)) else f k
/-- The n places from a on and those from b on change places. -/
def swrF (f : Nat → α) (a b n k : Nat) : α :=
  if a ≤ k ∧ k < a + n then f (k + (b - a)) else if b ≤ k ∧ k < b + n then f (k - (b - a)) else f k

omit [Inhabited α] in
theorem rot_gt (f : Nat → α) (m i j : Nat) (hm : i ≤ m) (h : j < i) : rotF (swrF f (m - i) m j) (m - i + j) m (m + j) = rotF f (m - i) m (m + j) := by
  funext k
  unfold rotF swrF
  repeat' split
  all_goals first | (exfalso; omega) | (congr 1 <;> omega)
omit [Inhabited α] in
theorem rot_lt (f : Nat → α) (m i j : Nat) (hm : i ≤ m) (h : i < j) : rotF (swrF f (m - i) (m + j - i) i) (m - i) m (m + (j - i)) = rotF f (m - i) m (m + j) := by
  funext k
  unfold rotF swrF
  repeat' split
  all_goals first | (exfalso; omega) | (congr 1 <;> omega)
omit [Inhabited α] in
theorem rot_eq (f : Nat → α) (m i : Nat) (hm : i ≤ m) : swrF f (m - i) m i = rotF f (m - i) m (m + i) := by
  funext k
  unfold rotF swrF
  repeat' split
  all_goals first | (exfalso; omega) | (congr 1 <;> omega)
omit [Inhabited α] in
theorem rot_left (f : Nat → α) (a b : Nat) (h : a ≤ b) : rotF f a a b = f := by
  funext k
  unfold rotF
  repeat' split
  all_goals first | (exfalso; omega) | rfl | (congr 1 <;> omega)
omit [Inhabited α] in
theorem rot_right (f : Nat → α) (a b : Nat) : rotF f a b b = f := by
  funext k
  unfold rotF
  repeat' split
  all_goals first | (exfalso; omega) | rfl | (congr 1 <;> omega)

omit [Inhabited α] in
theorem swr_zero (f : Nat → α) (a b : Nat) : swrF f a b 0 = f := by
  funext k
  unfold swrF
  repeat' split
  all_goals first | (exfalso; omega) | rfl
/-- One exchange more. -/
theorem swr_step (d : Array α) (f : Nat → α) (a b i : Nat) (hab : a + i < b) (hd : ∀ k, d[k]! = swrF f a b i k) (hs : b + i < d.size) : ∀ k, (swp d (a + i) (b + i))[k]! = swrF f a b (i + 1) k := by
  intro k
  rw [swp_get d (by omega) (by omega)]
  repeat' split
  all_goals (rw [hd]; unfold swrF; repeat' split)
  all_goals first | (exfalso; omega) | (congr 1 <;> omega)
/-- One place upwards. -/
theorem up_step (d : Array α) (f : Nat → α) (a k : Nat) (hak : a ≤ k) (hd : ∀ x, d[x]! = rotF f a (a + 1) (k + 1) x) (hs : k + 1 < d.size) : ∀ x, (swp d k (k + 1))[x]! = rotF f a (a + 1) (k + 1 + 1) x := by
  intro x
  rw [swp_get d (by omega) (by omega)]
  repeat' split
  all_goals (rw [hd]; unfold rotF; repeat' split)
  all_goals first | (exfalso; omega) | (congr 1 <;> omega)
/-- One place downwards. -/
theorem down_step (d : Array α) (f : Nat → α) (m k : Nat) (hk0 : 0 < k) (hk : k ≤ m) (hd : ∀ x, d[x]! = rotF f k m (m + 1) x) (hs : m < d.size) : ∀ x, (swp d k (k - 1))[x]! = rotF f (k - 1) m (m + 1) x := by
  intro x
  rw [swp_get d (by omega) (by omega)]
  repeat' split
  all_goals (rw [hd]; unfold rotF; repeat' split)
  all_goals first | (exfalso; omega) | (congr 1 <;> omega)

/-! ### what is merged -/
variable {lt T : α → α → Bool}
/-- Both parts are sorted by T, and between them the program's test answers as T. -/
structure Mix (lt T : α → α → Bool) (a m b : Nat) (d : Array α) : Prop where
  left : SortedIn T a m d
  right : SortedIn T m b d
  same : ∀ i j, a ≤ i → i < m → m ≤ j → j < b → lt d[j]! d[i]! = T d[j]! d[i]!

omit [Inhabited α] in
theorem asym (hT : SWO T) {x y : α} (h : T x y = true) : T y x = false := by
  cases h2 : T y x with
  | false => rfl
  | true => have := hT.trans _ _ _ h h2; rw [hT.irrefl] at this; cases this
theorem sorted_le (hT : SWO T) {a b : Nat} {d : Array α} (h : SortedIn T a b d) (i j : Nat) (ha : a ≤ i) (hij : i ≤ j) (hb : j < b) : T d[j]! d[i]! = false := by
  by_cases e : i = j
  · subst e; exact hT.irrefl _
  · exact h i j ha (by omega) hb

theorem sorted_split {a c b : Nat} {d : Array α} (h1 : SortedIn T a c d) (h2 : SortedIn T c b d) (hx : ∀ i j, a ≤ i → i < c → c ≤ j → j < b → T d[j]! d[i]! = false) : SortedIn T a b d := by
  intro i j hi hij hj
  by_cases e1 : j < c
  · exact h1 i j hi hij e1
  · by_cases e2 : i < c
    · exact hx i j hi e2 (by omega) hj
    · exact h2 i j (by omega) hij hj

/-- The first place at which the test is met: what a binary search finds. -/
theorem mono_false (hT : SWO T) {a m b p : Nat} {d : Array α} (h : Mix lt T a m b d) {c1 c2 : Nat} (h1 : a ≤ c1) (h12 : c1 ≤ c2) (h2 : c2 < m) (h3 : m ≤ p - c2) (h4 : p - c1 < b) (h5 : c2 ≤ p) (hf : T d[p - c2]! d[c2]! = false) : T d[p - c1]! d[c1]! = false :=
  hT.ntrans _ _ _ (sorted_le hT h.right (p - c2) (p - c1) h3 (by omega) h4) (hT.ntrans _ _ _ hf (sorted_le hT h.left c1 c2 h1 h12 h2))

/-- What the search found at c, for the whole range. -/
structure CutAt (lt T : α → α → Bool) (a m b mid s : Nat) (d : Array α) : Prop where
  as : a ≤ s
  sm : s ≤ m
  mid_s : s ≤ mid
  eb : mid + m - s ≤ b
  me : m ≤ mid + m - s
  low : ∀ x y, a ≤ x → x < s → mid + m - s ≤ y → y < b → T d[y]! d[x]! = false
  high : ∀ x y, s ≤ x → x < m → m ≤ y → y < mid + m - s → T d[x]! d[y]! = false

theorem cut_of (hT : SWO T) {a m b mid lo hi s : Nat} {d : Array α} (h : Mix lt T a m b d) (ham : a < m) (hmb : m < b) (hmid : mid = (a + b) / 2)
    (hlh : (m ≤ mid ∧ lo = a ∧ hi = m) ∨ (mid < m ∧ lo = mid + m - b ∧ hi = mid)) (hs1 : lo ≤ s) (hs2 : s ≤ hi)
    (hf : lo < s → lt d[mid + m - 1 - (s - 1)]! d[s - 1]! = false) (ht : s < hi → lt d[mid + m - 1 - s]! d[s]! = true) : CutAt lt T a m b mid s d := by
  have hal : a ≤ lo := by omega
  have hhm : hi ≤ m := by omega
  refine ⟨by omega, by omega, by omega, by omega, by omega, ?_, ?_⟩
  · intro x y hx hxs hy hyb
    have hlo : lo < s := by omega
    have hf2 := hf hlo
    rw [h.same (s - 1) (mid + m - 1 - (s - 1)) (by omega) (by omega) (by omega) (by omega), show mid + m - 1 - (s - 1) = mid + m - s by omega] at hf2
    exact hT.ntrans _ _ _ (sorted_le hT h.right (mid + m - s) y (by omega) hy hyb) (hT.ntrans _ _ _ hf2 (sorted_le hT h.left x (s - 1) hx (by omega) (by omega)))
  · intro x y hx hxm hy hye
    have hhi : s < hi := by omega
    have ht2 := ht hhi
    rw [h.same s (mid + m - 1 - s) (by omega) (by omega) (by omega) (by omega), show mid + m - 1 - s = mid + m - s - 1 by omega] at ht2
    exact hT.ntrans _ _ _ (sorted_le hT h.left s x (by omega) hx hxm) (hT.ntrans _ _ _ (asym hT ht2) (sorted_le hT h.right y (mid + m - s - 1) hy (by omega) (by omega)))

/-- Behind the rotation: both halves, and what lies across. -/
theorem cut_rot {a m b mid s : Nat} {d d' : Array α} (h : Mix lt T a m b d) (c : CutAt lt T a m b mid s d) (hd : ∀ x, d'[x]! = rotF (d[·]!) s m (mid + m - s) x) :
    Mix lt T a s mid d' ∧ Mix lt T mid (mid + m - s) b d' ∧ ∀ i j, a ≤ i → i < mid → mid ≤ j → j < b → T d'[j]! d'[i]! = false := by
  have c1 := c.as; have c2 := c.sm; have c3 := c.mid_s; have c4 := c.eb; have c5 := c.me
  have g1 : ∀ x, x < s → d'[x]! = d[x]! := fun x hx => by rw [hd]; unfold rotF; rw [if_neg (by omega), if_neg (by omega)]
  have g2 : ∀ x, s ≤ x → x < mid → d'[x]! = d[x + (m - s)]! := fun x hx hx2 => by rw [hd]; unfold rotF; rw [if_pos (by omega)]
  have g3 : ∀ x, mid ≤ x → x < mid + m - s → d'[x]! = d[x - (mid - s)]! := fun x hx hx2 => by rw [hd]; unfold rotF; rw [if_neg (by omega), if_pos (by omega), show mid + m - s - m = mid - s by omega]
  have g4 : ∀ x, mid + m - s ≤ x → d'[x]! = d[x]! := fun x hx => by rw [hd]; unfold rotF; rw [if_neg (by omega), if_neg (by omega)]
  refine ⟨⟨?_, ?_, ?_⟩, ⟨?_, ?_, ?_⟩, ?_⟩
  · intro i j hi hij hj
    rw [g1 i (by omega), g1 j (by omega)]
    exact h.left i j hi hij (by omega)
  · intro i j hi hij hj
    rw [g2 i (by omega) (by omega), g2 j (by omega) (by omega)]
    exact h.right _ _ (by omega) (by omega) (by omega)
  · intro i j hi hi2 hj hj2
    rw [g1 i (by omega), g2 j (by omega) (by omega)]
    exact h.same _ _ (by omega) (by omega) (by omega) (by omega)
  · intro i j hi hij hj
    rw [g3 i (by omega) (by omega), g3 j (by omega) (by omega)]
    exact h.left _ _ (by omega) (by omega) (by omega)
  · intro i j hi hij hj
    rw [g4 i (by omega), g4 j (by omega)]
    exact h.right _ _ (by omega) (by omega) (by omega)
  · intro i j hi hi2 hj hj2
    rw [g3 i (by omega) (by omega), g4 j (by omega)]
    exact h.same _ _ (by omega) (by omega) (by omega) (by omega)
  · intro i j hi hi2 hj hj2
    by_cases e1 : i < s
    · rw [g1 i e1]
      by_cases e2 : j < mid + m - s
      · rw [g3 j hj e2]
        exact h.left _ _ (by omega) (by omega) (by omega)
      · rw [g4 j (by omega)]
        exact c.low _ _ hi e1 (by omega) hj2
    · rw [g2 i (by omega) hi2]
      by_cases e2 : j < mid + m - s
      · rw [g3 j hj e2]
        exact c.high _ _ (by omega) (by omega) (by omega) (by omega)
      · rw [g4 j (by omega)]
        exact h.right _ _ (by omega) (by omega) (by omega)

/-- A part of a merge that holds nothing of one side is sorted. -/
theorem mix_trivial {a m b : Nat} {d : Array α} (h : Mix lt T a m b d) (hm : ¬ (a < m ∧ m < b)) (ham : a ≤ m) (hmb : m ≤ b) : SortedIn T a b d := by
  by_cases e : a < m
  · have : m = b := by omega
    subst this; exact h.left
  · have : m = a := by omega
    subst this; exact h.right

/-- A merge does not hang on what lies outside. -/
theorem mix_congr {a m b : Nat} {d d' : Array α} (h : Mix lt T a m b d) (hs : ∀ i, a ≤ i → i < b → d'[i]! = d[i]!) (ham : a ≤ m) (hmb : m ≤ b) : Mix lt T a m b d' :=
  ⟨fun i j hi hij hj => by rw [hs i hi (by omega), hs j (by omega) (by omega)]; exact h.left i j hi hij hj,
   fun i j hi hij hj => by rw [hs i (by omega) (by omega), hs j (by omega) hj]; exact h.right i j hi hij hj,
   fun i j hi hi2 hj hj2 => by rw [hs i hi (by omega), hs j (by omega) hj2]; exact h.same i j hi hi2 hj hj2⟩

/-- Both halves merged: all is sorted. -/
theorem halves_join {a mid b : Nat} {d d1 d2 : Array α} (ham : a ≤ mid) (hmb : mid ≤ b) (hb : b ≤ d.size) (p1 : PermIn a mid d d1) (s1 : SortedIn T a mid d1) (p2 : PermIn mid b d1 d2) (s2 : SortedIn T mid b d2)
    (hx : ∀ i j, a ≤ i → i < mid → mid ≤ j → j < b → T d[j]! d[i]! = false) : PermIn a b d d2 ∧ SortedIn T a b d2 := by
  have q1 : d1.size = d.size := p1.1
  refine ⟨permIn_trans _ _ _ _ _ (permIn_mono _ _ _ _ _ _ (Nat.le_refl _) hmb hb p1) (permIn_mono _ _ _ _ _ _ ham (Nat.le_refl _) (by omega) p2), ?_⟩
  refine sorted_split (c := mid) ?_ s2 ?_
  · intro i j hi hij hj
    rw [p2.2.1 i (by omega), p2.2.1 j (by omega)]
    exact s1 i j hi hij hj
  · intro i j hi hi2 hj hj2
    rw [p2.2.1 i (by omega)]
    have hy : ∀ y, mid ≤ y → y < b → ∀ x, a ≤ x → x < mid → T d1[y]! d1[x]! = false := by
      intro y hy hyb
      rw [p1.2.1 y (by omega)]
      exact permIn_all d d1 a mid (fun z => T d[y]! z = false) (by omega) p1 (fun x hx1 hx2 => hx x y hx1 hx2 hy hyb)
    exact permIn_all d1 d2 mid b (fun z => T z d1[i]! = false) (by omega) p2 (fun y hy1 hy2 => hy y hy1 hy2 i hi hi2) j hj hj2

/-- One element from the left is put among those on the right. -/
theorem sorted_up (hT : SWO T) {a b i : Nat} {d d' : Array α} (h : Mix lt T a (a + 1) b d) (hi1 : a + 1 ≤ i) (hi2 : i ≤ b) (ht : a + 1 < i → lt d[i - 1]! d[a]! = true) (hf : i < b → lt d[i]! d[a]! = false) (hd : ∀ x, d'[x]! = rotF (d[·]!) a (a + 1) i x) : SortedIn T a b d' := by
  have g1 : ∀ x, a ≤ x → x < i - 1 → d'[x]! = d[x + 1]! := fun x hx hx2 => by rw [hd]; unfold rotF; rw [if_pos (by omega)]; congr 1; omega
  have g2 : d'[i - 1]! = d[a]! := by rw [hd]; unfold rotF; rw [if_neg (by omega), if_pos (by omega)]; congr 1; omega
  have g3 : ∀ x, i ≤ x → d'[x]! = d[x]! := fun x hx => by rw [hd]; unfold rotF; rw [if_neg (by omega), if_neg (by omega)]
  intro x y hx hxy hy
  by_cases e1 : y < i - 1
  · rw [g1 x hx (by omega), g1 y (by omega) e1]
    exact h.right _ _ (by omega) (by omega) (by omega)
  · by_cases e2 : y = i - 1
    · subst e2
      rw [g2, g1 x hx (by omega)]
      have := ht (by omega)
      rw [h.same a (i - 1) (by omega) (by omega) (by omega) (by omega)] at this
      exact hT.ntrans _ _ _ (asym hT this) (sorted_le hT h.right (x + 1) (i - 1) (by omega) (by omega) (by omega))
    · rw [g3 y (by omega)]
      have hy2 : T d[y]! d[a]! = false := by
        have := hf (by omega)
        rw [h.same a i (by omega) (by omega) (by omega) (by omega)] at this
        exact hT.ntrans _ _ _ (sorted_le hT h.right i y (by omega) (by omega) hy) this
      by_cases e3 : x < i - 1
      · rw [g1 x hx e3]
        exact h.right _ _ (by omega) (by omega) hy
      · by_cases e4 : x = i - 1
        · rw [e4, g2]; exact hy2
        · rw [g3 x (by omega)]
          exact h.right _ _ (by omega) hxy hy

/-- One element from the right is put among those on the left. -/
theorem sorted_down (hT : SWO T) {a m i : Nat} {d d' : Array α} (h : Mix lt T a m (m + 1) d) (hi1 : a ≤ i) (hi2 : i ≤ m) (hf : a < i → lt d[m]! d[i - 1]! = false) (ht : i < m → lt d[m]! d[i]! = true) (hd : ∀ x, d'[x]! = rotF (d[·]!) i m (m + 1) x) : SortedIn T a (m + 1) d' := by
  have g1 : ∀ x, x < i → d'[x]! = d[x]! := fun x hx => by rw [hd]; unfold rotF; rw [if_neg (by omega), if_neg (by omega)]
  have g2 : d'[i]! = d[m]! := by rw [hd]; unfold rotF; rw [if_pos (by omega)]; congr 1; omega
  have g3 : ∀ x, i < x → x < m + 1 → d'[x]! = d[x - 1]! := fun x hx hx2 => by rw [hd]; unfold rotF; rw [if_neg (by omega), if_pos (by omega)]; congr 1; omega
  intro x y hx hxy hy
  have hlow : ∀ z, a ≤ z → z < i → T d[m]! d[z]! = false := fun z hz hz2 => by
    have := hf (by omega)
    rw [h.same (i - 1) m (by omega) (by omega) (by omega) (by omega)] at this
    exact hT.ntrans _ _ _ this (sorted_le hT h.left z (i - 1) hz (by omega) (by omega))
  have hhigh : ∀ z, i ≤ z → z < m → T d[z]! d[m]! = false := fun z hz hz2 => by
    have := ht (by omega)
    rw [h.same i m (by omega) (by omega) (by omega) (by omega)] at this
    exact hT.ntrans _ _ _ (sorted_le hT h.left i z (by omega) hz hz2) (asym hT this)
  by_cases e1 : y < i
  · rw [g1 x (by omega), g1 y e1]
    exact h.left _ _ hx hxy (by omega)
  · by_cases e2 : y = i
    · subst e2
      rw [g2, g1 x hxy]
      exact hlow x hx hxy
    · rw [g3 y (by omega) hy]
      by_cases e3 : x < i
      · rw [g1 x e3]
        exact h.left _ _ hx (by omega) (by omega)
      · by_cases e4 : x = i
        · rw [e4, g2]; exact hhigh _ (by omega) (by omega)
        · rw [g3 x (by omega) (by omega)]
          exact h.left _ _ (by omega) (by omega) (by omega)
end Go.Proofs.YtdjdillppgijmaaDoor
