/- PlBase, PlOrd, in one text. -/
import Derived.Test.YtdjdillppgijmaaDoorQsx7
import Derived.Test.YtdjdillppgijmaaDoorQsx14
import Derived.Test.YtdjdillppgijmaaDoorSValid
import Derived.Test.YtdjdillppgijmaaDoorPlName
set_option linter.unusedVariables false
set_option linter.unusedSimpArgs false
namespace Go.Proofs.YtdjdillppgijmaaDoor.Qs
open Go.RowKit Go.Proofs.YtdjdillppgijmaaDoorW.PrintWords Go.Proofs.YtdjdillppgijmaaDoorW.PrintLast Go.Proofs.YtdjdillppgijmaaDoorW.PrintMore

theorem nx (i : Nat) (h : i ≤ 1000000000000) : wrap64 ((i : Int) + 1) = ((i + 1 : Nat) : Int) := by rw [w64 (by omega) (by omega)]; omega
theorem rd34 (l : List S34) (i : Nat) (h : i < l.length) : rd_T34 l (i : Int) = l[i] := by
  unfold rd_T34
  rw [Int.toNat_natCast, List.getD_eq_getElem?_getD, List.getElem?_eq_getElem h]; rfl
theorem rd_set (l : List S34) (i : Nat) (h : i < l.length) (x : S34) : rd_T34 (l.set i x) (i : Int) = x := by
  rw [rd34 _ i (by simpa using h)]; simp
def lessAt (l : List S34) (name : ByteArray) (j : Nat) : Bool := Op.bytesLess (rd_T34 l (j : Int)).f0.toList name.toList
theorem valid_le {l : List S34} (h : validB l = true) : l.length ≤ 20 := by
  unfold validB at h
  have := (Bool.and_eq_true_iff.1 h).2
  simpa using this
theorem valid_eq (l : List S34) (hl : l.length ≤ 1000000000) : impl_ValidStock.f l = some (validB l) := by unfold impl_ValidStock.f; rw [if_pos hl]
theorem less_total : ∀ x y : List UInt8, Op.bytesLess x y = false → (x == y) = false → Op.bytesLess y x = true
  | [], [], _, h => by simp at h
  | _ :: _, [], _, _ => rfl
  | [], _ :: _, h, _ => by simp [Op.bytesLess] at h
  | a :: x, b :: y, h, he => by
    simp only [Op.bytesLess, Bool.or_eq_false_iff, decide_eq_false_iff_not, Bool.and_eq_false_iff] at h
    simp only [Op.bytesLess, Bool.or_eq_true, decide_eq_true_eq, Bool.and_eq_true]
    obtain ⟨h1, h2⟩ := h
    by_cases hab : a = b
    · subst hab
      right
      refine ⟨by simp, less_total x y ?_ ?_⟩
      · rcases h2 with h2 | h2
        · simp at h2
        · exact h2
      · simpa using he
    · left
      rw [UInt8.lt_iff_toNat_lt] at h1 ⊢
      have : a.toNat ≠ b.toNat := fun e => hab (UInt8.toNat_inj.1 e)
      omega
/-- What makes a stock valid. -/
def Good (l : List S34) : Prop := (∀ i : Nat, i < l.length → itemB (rd_T34 l (i : Int)) = true) ∧ (∀ i : Nat, i + 1 < l.length → Op.bytesLess (rd_T34 l (i : Int)).f0.toList (rd_T34 l ((i + 1 : Nat) : Int)).f0.toList = true) ∧ l.length ≤ 20
theorem valid_good (l : List S34) : validB l = true ↔ Good l := by
  unfold validB
  rw [Bool.and_eq_true_iff, List.all_eq_true, decide_eq_true_iff]
  constructor
  · rintro ⟨h, h20⟩
    refine ⟨fun i hi => ?_, fun i hi => ?_, h20⟩
    · have := h i (List.mem_range.2 hi)
      unfold okAt at this
      exact (Bool.and_eq_true_iff.1 this).1
    · have := h (i + 1) (List.mem_range.2 hi)
      unfold okAt at this
      have := (Bool.and_eq_true_iff.1 this).2
      rw [decide_eq_false (by omega), Bool.false_or, show ((i + 1 : Nat) : Int) - 1 = (i : Int) by omega] at this
      exact this
  · rintro ⟨h1, h2, h20⟩
    refine ⟨fun i hi => ?_, h20⟩
    have hi := List.mem_range.1 hi
    unfold okAt
    rw [h1 i hi, Bool.true_and]
    cases i with
    | zero => simp
    | succ j =>
      rw [decide_eq_false (by omega), Bool.false_or, show ((j + 1 : Nat) : Int) - 1 = (j : Int) by omega]
      exact h2 j hi
def ins (l : List S34) (p : Nat) (x : S34) : List S34 := l.take p ++ [x] ++ l.drop p
theorem at_loop (l : List S34) (hl : l.length ≤ 1000000000) (name : ByteArray) (d : Nat) : ∀ i : Nat, i + d = l.length → (∀ j, j < i → lessAt l name j = true) →
    ∃ p : Nat, p ≤ l.length ∧ (∀ j, j < p → lessAt l name j = true) ∧ (p < l.length → lessAt l name p = false) ∧
      Ev (fun k => impl_itemAt.l0 k l name (i : Int)) ((p : Int), decide (p < l.length) && ((rd_T34 l (p : Int)).f0.toList == name.toList)) := by
  induction d with
  | zero =>
    intro i hi hless
    refine ⟨i, by omega, hless, fun h => by omega, ?_⟩
    rw [decide_eq_false (by omega), Bool.false_and]
    refine Ev.step (f := fun _ => some ((i : Int), false)) (fun k => ?_) (Ev.now _)
    simp only [impl_itemAt.l0]
    rw [if_neg (by omega)]
  | succ d ih =>
    intro i hi hless
    by_cases hc : Op.bytesLess (rd_T34 l (i : Int)).f0.toList name.toList = true
    · obtain ⟨p, h1, h2, h3, h4⟩ := ih (i + 1) (by omega) (fun j hj => by
        by_cases e : j = i
        · rw [e]; exact hc
        · exact hless j (by omega))
      refine ⟨p, h1, h2, h3, Ev.step (fun k => ?_) h4⟩
      simp only [impl_itemAt.l0]
      rw [if_pos (by omega), if_pos (by omega), if_pos hc, nx i (by omega)]
    · refine ⟨i, by omega, hless, fun _ => by unfold lessAt; simpa using hc, ?_⟩
      rw [decide_eq_true (by omega), Bool.true_and]
      refine Ev.step (f := fun _ => some ((i : Int), ((rd_T34 l (i : Int)).f0.toList == name.toList))) (fun k => ?_) (Ev.now _)
      simp only [impl_itemAt.l0]
      rw [if_pos (by omega), if_pos (by omega), if_neg hc]
def foundAt (l : List S34) (name : ByteArray) (p : Nat) : Bool := decide (p < l.length) && ((rd_T34 l (p : Int)).f0.toList == name.toList)
theorem at_ev (l : List S34) (hl : l.length ≤ 1000000000) (name : ByteArray) :
    ∃ p : Nat, p ≤ l.length ∧ (∀ j, j < p → lessAt l name j = true) ∧ (p < l.length → lessAt l name p = false) ∧ Ev (fun k => impl_itemAt.f k l name) ((p : Int), foundAt l name p) := by
  obtain ⟨p, h1, h2, h3, h4⟩ := at_loop l hl name l.length 0 (by omega) (fun j hj => by omega)
  exact ⟨p, h1, h2, h3, h4⟩
end Go.Proofs.YtdjdillppgijmaaDoor.Qs

/- Stocks as sorted lists: putting an item in, looking a name up. No program in sight. -/
set_option linter.unusedVariables false
set_option linter.unusedSimpArgs false
namespace Go.Proofs.YtdjdillppgijmaaDoor.Qs
open Go.RowKit Go.Proofs.YtdjdillppgijmaaDoorW.PrintWords Go.Proofs.YtdjdillppgijmaaDoorW.PrintLast Go.Proofs.YtdjdillppgijmaaDoorW.PrintMore

abbrev Less (x y : List UInt8) : Prop := Op.bytesLess x y = true
theorem less_irr : ∀ x : List UInt8, ¬ Less x x
  | [], h => by simp [Less, Op.bytesLess] at h
  | a :: x, h => by
    simp only [Less, Op.bytesLess, Bool.or_eq_true, decide_eq_true_eq, Bool.and_eq_true] at h
    rcases h with h | ⟨_, h⟩
    · rw [UInt8.lt_iff_toNat_lt] at h; omega
    · exact less_irr x h
theorem less_trans : ∀ x y z : List UInt8, Less x y → Less y z → Less x z
  | _, [], _, h, _ => by cases ‹List UInt8› <;> simp [Less, Op.bytesLess] at h
  | _, _ :: _, [], _, h => by simp [Less, Op.bytesLess] at h
  | [], _ :: _, _ :: _, _, _ => rfl
  | a :: x, b :: y, c :: z, h1, h2 => by
    simp only [Less, Op.bytesLess, Bool.or_eq_true, decide_eq_true_eq, Bool.and_eq_true, beq_iff_eq] at h1 h2 ⊢
    rcases h1 with h1 | ⟨rfl, h1⟩
    · rcases h2 with h2 | ⟨rfl, h2⟩
      · left; rw [UInt8.lt_iff_toNat_lt] at h1 h2 ⊢; omega
      · exact .inl h1
    · rcases h2 with h2 | ⟨rfl, h2⟩
      · exact .inl h2
      · exact .inr ⟨rfl, less_trans x y z h1 h2⟩
theorem less_asym {x y : List UInt8} (h : Less x y) (k : Less y x) : False := less_irr x (less_trans x y x h k)
theorem bytes_ext {a b : ByteArray} (h : a.toList = b.toList) : a = b := by
  rw [Lib.toList_data, Lib.toList_data] at h
  cases a; cases b
  simp only at h
  congr 1
  exact Array.toList_inj.1 h

def nm (x : S34) : List UInt8 := x.f0.toList
abbrev Srt (l : List S34) : Prop := l.Pairwise (fun x y => Less (nm x) (nm y))
/-- What an item with the same name brings. -/
def comb (y x : S34) : S34 := ⟨y.f0, wrap64 (y.f1 + x.f1), wrap64 (y.f2 + x.f2), mn y.f3 x.f3⟩
def insL (x : S34) : List S34 → List S34
  | [] => [x]
  | y :: l => if Op.bytesLess (nm y) (nm x) = true then y :: insL x l else if nm y = nm x then comb y x :: l else x :: y :: l
theorem insL_mem {x z : S34} : ∀ {l : List S34}, z ∈ insL x l → z = x ∨ z ∈ l ∨ ∃ y ∈ l, nm y = nm x ∧ z = comb y x
  | [], h => by simp [insL] at h; exact .inl h
  | y :: l, h => by
    unfold insL at h
    split at h
    · rcases List.mem_cons.1 h with h | h
      · exact .inr (.inl (by rw [h]; exact List.mem_cons_self))
      · rcases insL_mem h with h | h | ⟨w, hw, hn, he⟩
        · exact .inl h
        · exact .inr (.inl (List.mem_cons_of_mem _ h))
        · exact .inr (.inr ⟨w, List.mem_cons_of_mem _ hw, hn, he⟩)
    · split at h
      · rename_i hn
        rcases List.mem_cons.1 h with h | h
        · exact .inr (.inr ⟨y, List.mem_cons_self, hn, h⟩)
        · exact .inr (.inl (List.mem_cons_of_mem _ h))
      · rcases List.mem_cons.1 h with h | h
        · exact .inl h
        · exact .inr (.inl h)
theorem insL_nm {x z : S34} {l : List S34} (h : z ∈ insL x l) : nm z = nm x ∨ ∃ y ∈ l, nm z = nm y := by
  rcases insL_mem h with h | h | ⟨y, hy, hn, h⟩
  · exact .inl (by rw [h])
  · exact .inr ⟨z, h, rfl⟩
  · exact .inr ⟨y, hy, by rw [h]; rfl⟩
theorem insL_srt (x : S34) : ∀ {l : List S34}, Srt l → Srt (insL x l)
  | [], _ => by simp [insL, Srt]
  | y :: l, h => by
    obtain ⟨h1, h2⟩ := List.pairwise_cons.1 h
    unfold insL
    split
    · rename_i hl
      refine List.pairwise_cons.2 ⟨fun z hz => ?_, insL_srt x h2⟩
      rcases insL_nm hz with e | ⟨w, hw, e⟩
      · rw [e]; exact hl
      · rw [e]; exact h1 w hw
    · rename_i hl
      split
      · exact List.pairwise_cons.2 ⟨fun z hz => h1 z hz, h2⟩
      · rename_i hn
        have hxy : Less (nm x) (nm y) := less_total _ _ (by simpa using hl) (by simpa using hn)
        refine List.pairwise_cons.2 ⟨fun z hz => ?_, h⟩
        rcases List.mem_cons.1 hz with e | e
        · rw [e]; exact hxy
        · exact less_trans _ _ _ hxy (h1 z e)
theorem insL_length (x : S34) : ∀ l : List S34, l.length ≤ (insL x l).length ∧ (insL x l).length ≤ l.length + 1
  | [] => by simp [insL]
  | y :: l => by
    unfold insL
    have := insL_length x l
    split
    · simp; omega
    · split <;> simp

abbrev Tri := Int × Int × Int
def look (n : List UInt8) : List S34 → Option Tri
  | [] => none
  | y :: l => if nm y = n then some (y.f1, y.f2, y.f3) else look n l
def both : Option Tri → Option Tri → Option Tri
  | none, b => b
  | a, none => a
  | some a, some b => some (wrap64 (a.1 + b.1), wrap64 (a.2.1 + b.2.1), mn a.2.2 b.2.2)
theorem both_none (a : Option Tri) : both a none = a := by cases a <;> rfl
theorem mn_comm (a b : Int) : mn a b = mn b a := by unfold mn; split <;> split <;> omega
theorem both_comm (a b : Option Tri) : both a b = both b a := by
  cases a <;> cases b <;> try rfl
  simp only [both]
  rw [Int.add_comm, Int.add_comm _ (_ : Tri).2.1, mn_comm]
theorem look_none {n : List UInt8} : ∀ {l : List S34}, (∀ z ∈ l, Less n (nm z)) → look n l = none
  | [], _ => rfl
  | y :: l, h => by
    unfold look
    rw [if_neg (fun e => less_irr n (by have := h y List.mem_cons_self; rwa [e] at this)), look_none (fun z hz => h z (List.mem_cons_of_mem _ hz))]
theorem look_ins (x : S34) (n : List UInt8) : ∀ {l : List S34}, Srt l → look n (insL x l) = both (look n l) (if nm x = n then some (x.f1, x.f2, x.f3) else none)
  | [], _ => by simp [insL, look, both]
  | y :: l, h => by
    obtain ⟨h1, h2⟩ := List.pairwise_cons.1 h
    have ih := look_ins x n h2
    unfold insL
    split
    · rename_i hl
      by_cases hy : nm y = n
      · have hx : nm x ≠ n := fun e => less_irr n (by have : Less (nm y) (nm x) := hl; rwa [hy, e] at this)
        simp only [look, if_pos hy, if_neg hx, both_none]
      · simp only [look, if_neg hy]; exact ih
    · rename_i hl
      split
      · rename_i hn
        by_cases hy : nm y = n
        · have hx : nm x = n := by rw [← hn]; exact hy
          have hc : nm (comb y x) = n := hy
          simp only [look, if_pos hy, if_pos hx, if_pos hc, both]
          rfl
        · have hx : nm x ≠ n := by rw [← hn]; exact hy
          have hc : nm (comb y x) ≠ n := hy
          simp only [look, if_neg hy, if_neg hx, if_neg hc, both_none]
      · rename_i hn
        have hxy : Less (nm x) (nm y) := less_total _ _ (by simpa using hl) (by simpa using hn)
        by_cases hx : nm x = n
        · have hno : look n (y :: l) = none := look_none (fun z hz => by
            rcases List.mem_cons.1 hz with e | e
            · rw [e, ← hx]; exact hxy
            · rw [← hx]; exact less_trans _ _ _ hxy (h1 z e))
          rw [hno]
          simp only [look, if_pos hx, both]
        · rw [if_neg hx, both_none]
          conv => lhs; unfold look
          rw [if_neg hx]
def joinL (a b : List S34) : List S34 := b.foldl (fun acc x => insL x acc) a
theorem joinL_srt : ∀ (b : List S34) {a : List S34}, Srt a → Srt (joinL a b)
  | [], _, h => h
  | x :: b, a, h => joinL_srt b (insL_srt x h)
theorem joinL_length : ∀ (b a : List S34), a.length ≤ (joinL a b).length ∧ (joinL a b).length ≤ a.length + b.length
  | [], a => ⟨Nat.le_refl _, Nat.le_refl _⟩
  | x :: b, a => by
    have h1 := joinL_length b (insL x a)
    have h2 := insL_length x a
    show a.length ≤ (joinL (insL x a) b).length ∧ (joinL (insL x a) b).length ≤ a.length + (b.length + 1)
    omega
theorem look_join (n : List UInt8) : ∀ (b : List S34) {a : List S34}, Srt a → Srt b → look n (joinL a b) = both (look n a) (look n b)
  | [], a, _, _ => (both_none _).symm
  | x :: b, a, ha, hb => by
    obtain ⟨h1, h2⟩ := List.pairwise_cons.1 hb
    have ih := look_join n b (insL_srt x ha) h2
    show look n (joinL (insL x a) b) = both (look n a) (look n (x :: b))
    rw [ih, look_ins x n ha]
    by_cases hx : nm x = n
    · have hno : look n b = none := look_none (fun z hz => by rw [← hx]; exact h1 z hz)
      rw [hno, both_none]
      simp only [look, if_pos hx]
    · have e : look n (x :: b) = look n b := by simp only [look, if_neg hx]
      rw [if_neg hx, both_none, e]
theorem look_ext : ∀ (a b : List S34), Srt a → Srt b → (∀ n, look n a = look n b) → a = b
  | [], [], _, _, _ => rfl
  | [], y :: b, _, _, h => by have := h (nm y); simp [look] at this
  | x :: a, [], _, _, h => by have := h (nm x); simp [look] at this
  | x :: a, y :: b, ha, hb, h => by
    obtain ⟨a1, a2⟩ := List.pairwise_cons.1 ha
    obtain ⟨b1, b2⟩ := List.pairwise_cons.1 hb
    have hnm : nm x = nm y := by
      by_cases e : nm x = nm y
      · exact e
      · by_cases hl : Op.bytesLess (nm x) (nm y) = true
        · have := h (nm x)
          rw [look_none (l := y :: b) (fun z hz => by
            rcases List.mem_cons.1 hz with e | e
            · rw [e]; exact hl
            · exact less_trans _ _ _ hl (b1 z e))] at this
          simp [look] at this
        · have hl2 : Less (nm y) (nm x) := less_total _ _ (by simpa using hl) (by simpa using e)
          have := h (nm y)
          rw [look_none (l := x :: a) (fun z hz => by
            rcases List.mem_cons.1 hz with e | e
            · rw [e]; exact hl2
            · exact less_trans _ _ _ hl2 (a1 z e))] at this
          simp [look] at this
    have hxy : x = y := by
      have := h (nm x)
      simp only [look, if_true, if_pos hnm.symm, Option.some.injEq, Prod.mk.injEq] at this
      obtain ⟨e1, e2, e3⟩ := this
      have e0 := bytes_ext (show x.f0.toList = y.f0.toList from hnm)
      cases x; cases y
      simp only at e0 e1 e2 e3
      rw [e0, e1, e2, e3]
    subst hxy
    congr 1
    refine look_ext a b a2 b2 fun n => ?_
    by_cases e : nm x = n
    · rw [look_none (fun z hz => by rw [← e]; exact a1 z hz), look_none (fun z hz => by rw [← e]; exact b1 z hz)]
    · have := h n
      simp only [look, if_neg e] at this
      exact this
/-- Joined stocks do not hang on the order. -/
theorem join_comm (a b : List S34) (ha : Srt a) (hb : Srt b) : joinL a b = joinL b a :=
  look_ext _ _ (joinL_srt b ha) (joinL_srt a hb) fun n => by rw [look_join n b ha hb, look_join n a hb ha, both_comm]
end Go.Proofs.YtdjdillppgijmaaDoor.Qs
