/- A walk over all sets, each ahead of those that it begins: it finds the best set of a list. Plain Lean. -/
import Derived.Test.YtdjdillppgijmaaDoorPlSet
set_option linter.unusedVariables false
set_option linter.unusedSimpArgs false
namespace Go.Proofs.YtdjdillppgijmaaDoor.Pl

/-- A set that is found is kept if it has more items, or as many for less. -/
def keepB (st : List Int × Int) (S : List Int) (c : Int) : List Int × Int := if S.length > st.1.length ∨ (S.length = st.1.length ∧ c < st.2) then (S, c) else st
/-- All sets that begin with one, by the items that are left. -/
def subs (f : Int → Int) (budget : Int) : List Int → List Int → Int → List Int × Int → List Int × Int
  | [], _, _, st => st
  | x :: xs, S, c, st => subs f budget xs S c (if budget < c + f x then st else subs f budget xs (S ++ [x]) (c + f x) (keepB st (S ++ [x]) (c + f x)))
/-- A set, and all that begin with it. -/
def visit (f : Int → Int) (budget : Int) (rest S : List Int) (c : Int) (st : List Int × Int) : List Int × Int := if budget < c then st else subs f budget rest S c (keepB st S c)

theorem cmpL_prefix : ∀ (a s : List Int), s ≠ [] → cmpL a (a ++ s) < 0
  | [], [], h => absurd rfl h
  | [], _ :: _, _ => by simp [cmpL]
  | x :: a, s, h => by
    show cmpL (x :: a) (x :: (a ++ s)) < 0
    unfold cmpL
    rw [if_neg (by omega), if_neg (by omega)]
    exact cmpL_prefix a s h
theorem cmpL_fork : ∀ (a : List Int) (x y : Int) (s t : List Int), x < y → cmpL (a ++ x :: s) (a ++ y :: t) < 0
  | [], x, y, s, t, h => by
    show cmpL (x :: s) (y :: t) < 0
    unfold cmpL
    rw [if_pos h]; decide
  | z :: a, x, y, s, t, h => by
    show cmpL (z :: (a ++ x :: s)) (z :: (a ++ y :: t)) < 0
    unfold cmpL
    rw [if_neg (by omega), if_neg (by omega)]
    exact cmpL_fork a x y s t h
theorem costL_snoc (f : Int → Int) (S : List Int) (x : Int) : costL f (S ++ [x]) = costL f S + f x := by unfold costL; simp
theorem costL_app (f : Int → Int) (S T : List Int) : costL f (S ++ T) = costL f S + costL f T := by unfold costL; simp
theorem costL_nonneg (f : Int → Int) (S : List Int) (h : ∀ x ∈ S, 0 ≤ f x) : 0 ≤ costL f S := by
  induction S with
  | nil => exact Int.le_refl _
  | cons x S ih =>
    have h1 := h x List.mem_cons_self
    have h2 := ih (fun y hy => h y (List.mem_cons_of_mem _ hy))
    have : costL f (x :: S) = f x + costL f S := by unfold costL; simp
    omega

/-- One set after another: the later is not less. -/
def ge (st st' : List Int × Int) : Prop := st' = st ∨ better st'.1 st'.2 st.1 st.2
theorem ge_refl (st : List Int × Int) : ge st st := .inl rfl
theorem ge_trans {a b c : List Int × Int} (h : ge a b) (k : ge b c) : ge a c := by
  rcases h with rfl | h
  · exact k
  · rcases k with rfl | k
    · exact .inr h
    · exact .inr (better_trans k h)
theorem ge_keeps {a b : List Int × Int} (h : ge a b) {S : List Int} {c : Int} (k : ¬ better S c a.1 a.2) : ¬ better S c b.1 b.2 := by
  rcases h with rfl | h
  · exact k
  · exact fun e => k (better_trans e h)
/-- What is ahead of all that begin with S by the rest. -/
def Ahead (B S rest : List Int) : Prop := ∀ T, T.Sublist rest → T ≠ [] → cmpL B (S ++ T) < 0

theorem keepB_spec (st : List Int × Int) (S : List Int) (c : Int) (h : cmpL st.1 S ≤ 0) : ge st (keepB st S c) ∧ ¬ better S c (keepB st S c).1 (keepB st S c).2 ∧ (keepB st S c = st ∨ keepB st S c = (S, c)) := by
  unfold keepB
  split
  · next hc =>
    refine ⟨.inr ?_, better_irrefl S c, .inr rfl⟩
    unfold better
    rcases hc with hc | ⟨h1, h2⟩
    · exact .inl hc
    · exact .inr ⟨h1, .inl h2⟩
  · next hc =>
    refine ⟨.inl rfl, fun hb => ?_, .inl rfl⟩
    unfold better at hb
    rcases hb with hb | ⟨h1, h2⟩
    · exact hc (.inl hb)
    · rcases h2 with h2 | ⟨h2, h3⟩
      · exact hc (.inr ⟨h1, h2⟩)
      · rw [cmpL_anti] at h3; omega

/-- What the walk comes to. -/
structure Walked (f : Int → Int) (budget : Int) (rest S : List Int) (st st' : List Int × Int) : Prop where
  ge : ge st st'
  top : ∀ T, T.Sublist rest → T ≠ [] → costL f (S ++ T) ≤ budget → ¬ better (S ++ T) (costL f (S ++ T)) st'.1 st'.2
  fromS : st' = st ∨ ∃ T, T.Sublist rest ∧ T ≠ [] ∧ st' = (S ++ T, costL f (S ++ T)) ∧ costL f (S ++ T) ≤ budget

theorem subs_walked (f : Int → Int) (budget : Int) : ∀ (rest S : List Int) (c : Int) (st : List Int × Int), c = costL f S → (∀ x ∈ rest, 0 ≤ f x) → rest.Pairwise (· < ·) → Ahead st.1 S rest → Walked f budget rest S st (subs f budget rest S c st)
  | [], S, c, st, _, _, _, _ => ⟨ge_refl _, fun T hT hne => absurd (List.sublist_nil.1 hT) hne, .inl rfl⟩
  | x :: xs, S, c, st, hc, hf, hs, ha => by
    have hfx := hf x List.mem_cons_self
    have hfs : ∀ y ∈ xs, 0 ≤ f y := fun y hy => hf y (List.mem_cons_of_mem _ hy)
    obtain ⟨hx, hs2⟩ := List.pairwise_cons.1 hs
    have hcx : c + f x = costL f (S ++ [x]) := by rw [costL_snoc, hc]
    -- the sets that begin with S and x
    have hmid : ∃ m, m = (if budget < c + f x then st else subs f budget xs (S ++ [x]) (c + f x) (keepB st (S ++ [x]) (c + f x))) := ⟨_, rfl⟩
    obtain ⟨m, hm⟩ := hmid
    have key : ge st m ∧ (∀ T, T.Sublist xs → costL f (S ++ x :: T) ≤ budget → ¬ better (S ++ x :: T) (costL f (S ++ x :: T)) m.1 m.2) ∧ (m = st ∨ ∃ T, T.Sublist xs ∧ m = (S ++ x :: T, costL f (S ++ x :: T)) ∧ costL f (S ++ x :: T) ≤ budget) := by
      by_cases hb : budget < c + f x
      · rw [if_pos hb] at hm
        subst hm
        refine ⟨ge_refl _, fun T hT hcost => ?_, .inl rfl⟩
        exfalso
        have h1 : costL f (S ++ x :: T) = costL f (S ++ [x]) + costL f T := by rw [show S ++ x :: T = (S ++ [x]) ++ T by simp, costL_app]
        have h2 := costL_nonneg f T (fun y hy => hfs y (hT.subset hy))
        omega
      · rw [if_neg hb] at hm
        have hsx : cmpL st.1 (S ++ [x]) ≤ 0 := by
          have := ha [x] (List.singleton_sublist.2 List.mem_cons_self) (by simp)
          omega
        obtain ⟨k1, k2, k3⟩ := keepB_spec st (S ++ [x]) (c + f x) hsx
        have ha2 : Ahead (keepB st (S ++ [x]) (c + f x)).1 (S ++ [x]) xs := by
          intro T hT hne
          rcases k3 with e | e
          · rw [e, show S ++ [x] ++ T = S ++ x :: T by simp]
            exact ha (x :: T) (hT.cons_cons x) (by simp)
          · rw [e]
            exact cmpL_prefix _ _ hne
        have w := subs_walked f budget xs (S ++ [x]) (c + f x) (keepB st (S ++ [x]) (c + f x)) hcx hfs hs2 ha2
        rw [← hm] at w
        refine ⟨ge_trans k1 w.ge, fun T hT hcost => ?_, ?_⟩
        · by_cases hT0 : T = []
          · subst hT0
            rw [← hcx]
            exact ge_keeps w.ge k2
          · have := w.top T hT hT0 (by rw [show S ++ [x] ++ T = S ++ x :: T by simp]; exact hcost)
            rwa [show S ++ [x] ++ T = S ++ x :: T by simp] at this
        · rcases w.fromS with e | ⟨T, hT, hne, e, hcost⟩
          · rcases k3 with e2 | e2
            · exact .inl (e.trans e2)
            · exact .inr ⟨[], List.nil_sublist _, by rw [e, e2, hcx], by rw [← hcx]; omega⟩
          · rw [show S ++ [x] ++ T = S ++ x :: T by simp] at e hcost
            exact .inr ⟨T, hT, e, hcost⟩
    obtain ⟨g1, g2, g3⟩ := key
    have ha3 : Ahead m.1 S xs := by
      intro T hT hne
      rcases g3 with e | ⟨U, _, e, _⟩
      · rw [e]
        exact ha T (hT.cons x) hne
      · rw [e]
        cases T with
        | nil => exact absurd rfl hne
        | cons y T => exact cmpL_fork S x y U T (hx y (hT.subset List.mem_cons_self))
    have w := subs_walked f budget xs S c m hc hfs hs2 ha3
    have hres : subs f budget (x :: xs) S c st = subs f budget xs S c m := by rw [hm]; rfl
    rw [hres]
    refine ⟨ge_trans g1 w.ge, fun T hT hne hcost => ?_, ?_⟩
    · cases hT with
      | cons _ hT => exact w.top T hT hne hcost
      | cons_cons _ hT => exact ge_keeps w.ge (g2 _ hT hcost)
    · rcases w.fromS with e | ⟨T, hT, hne, e, hcost⟩
      · rcases g3 with e2 | ⟨T, hT, e2, hcost⟩
        · exact .inl (e.trans e2)
        · exact .inr ⟨x :: T, hT.cons_cons x, by simp, e.trans e2, hcost⟩
      · exact .inr ⟨T, hT.cons x, hne, e, hcost⟩

/-- THE WALK FINDS THE BEST SET. -/
theorem visit_best (f : Int → Int) (budget : Int) (l : List Int) (h0 : 0 ≤ budget) (hf : ∀ x ∈ l, 0 ≤ f x) (hs : l.Pairwise (· < ·)) : Best f l budget (visit f budget l [] 0 ([], 0)).1 (visit f budget l [] 0 ([], 0)).2 := by
  have e1 : visit f budget l [] 0 ([], 0) = subs f budget l [] 0 ([], 0) := by
    unfold visit keepB
    rw [if_neg (by omega)]
    simp
  rw [e1]
  have w := subs_walked f budget l [] 0 ([], 0) rfl hf hs (fun T _ hne => by
    cases T with
    | nil => exact absurd rfl hne
    | cons y T => show cmpL [] (y :: T) < 0; simp [cmpL])
  have hnil : costL f [] = 0 := rfl
  refine ⟨?_, ?_, ?_, fun S hS hcost => ?_⟩
  · rcases w.fromS with e | ⟨T, hT, _, e, _⟩
    · rw [e]; exact List.nil_sublist _
    · rw [e]; exact hT
  · rcases w.fromS with e | ⟨T, hT, _, e, _⟩
    · rw [e]; exact hnil
    · rw [e]
  · rcases w.fromS with e | ⟨T, hT, _, e, hc⟩
    · rw [e]; exact h0
    · rw [e]; exact hc
  · by_cases hS0 : S = []
    · subst hS0
      rw [hnil]
      exact ge_keeps w.ge (better_irrefl [] 0)
    · exact w.top S hS hS0 hcost
end Go.Proofs.YtdjdillppgijmaaDoor.Pl
