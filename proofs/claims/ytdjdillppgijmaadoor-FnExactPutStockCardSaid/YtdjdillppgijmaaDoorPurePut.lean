/- The law FnExactPutStock in plain Lean. -/
import Derived.Test.YtdjdillppgijmaaDoorPlAt
import Derived.Test.YtdjdillppgijmaaDoorQsx14
import Derived.Test.YtdjdillppgijmaaDoorQsx21
import Derived.Test.YtdjdillppgijmaaDoorQsx22
set_option linter.unusedVariables false
set_option linter.unusedSimpArgs false
namespace Go.Proofs.YtdjdillppgijmaaDoor.Qs
open Go.RowKit Go.Proofs.YtdjdillppgijmaaDoorW.PrintWords Go.Proofs.YtdjdillppgijmaaDoorW.PrintLast Go.Proofs.YtdjdillppgijmaaDoorW.PrintMore

theorem less_total : ∀ x y : List UInt8, Op.bytesLess x y = false → (x == y) = false → Op.bytesLess y x = true
  | [], [], _, h => by simp at h
  | _ :: _, [], _, _ => rfl
  | [], _ :: _, h, _ => by simp [Op.bytesLess] at h
  | a :: x, b :: y, h, he => by
    simp only [Op.bytesLess, Bool.or_eq_false_iff, decide_eq_false_iff_not, Bool.and_eq_false_iff] at h
    simp only [Op.bytesLess, Bool.or_eq_true, decide_eq_true_eq, Bool.and_eq_true]
    obtain ⟨h1, h2⟩ := h
    by_cases hab : a = b
    · subst hab
      right
      refine ⟨by simp, less_total x y ?_ ?_⟩
      · rcases h2 with h2 | h2
        · simp at h2
        · exact h2
      · simpa using he
    · left
      rw [UInt8.lt_iff_toNat_lt] at h1 ⊢
      have : a.toNat ≠ b.toNat := fun e => hab (UInt8.toNat_inj.1 e)
      omega

/-- What makes a stock valid. -/
def Good (l : List S34) : Prop := (∀ i : Nat, i < l.length → itemB (rd_T34 l (i : Int)) = true) ∧ (∀ i : Nat, i + 1 < l.length → Op.bytesLess (rd_T34 l (i : Int)).f0.toList (rd_T34 l ((i + 1 : Nat) : Int)).f0.toList = true) ∧ l.length ≤ 20
theorem valid_good (l : List S34) : validB l = true ↔ Good l := by
  unfold validB
  rw [Bool.and_eq_true_iff, List.all_eq_true, decide_eq_true_iff]
  constructor
  · rintro ⟨h, h20⟩
    refine ⟨fun i hi => ?_, fun i hi => ?_, h20⟩
    · have := h i (List.mem_range.2 hi)
      unfold okAt at this
      exact (Bool.and_eq_true_iff.1 this).1
    · have := h (i + 1) (List.mem_range.2 hi)
      unfold okAt at this
      have := (Bool.and_eq_true_iff.1 this).2
      rw [decide_eq_false (by omega), Bool.false_or, show ((i + 1 : Nat) : Int) - 1 = (i : Int) by omega] at this
      exact this
  · rintro ⟨h1, h2, h20⟩
    refine ⟨fun i hi => ?_, h20⟩
    have hi := List.mem_range.1 hi
    unfold okAt
    rw [h1 i hi, Bool.true_and]
    cases i with
    | zero => simp
    | succ j =>
      rw [decide_eq_false (by omega), Bool.false_or, show ((j + 1 : Nat) : Int) - 1 = (j : Int) by omega]
      exact h2 j hi
theorem rd_set_ne (l : List S34) (p i : Nat) (x : S34) (h : i ≠ p) : rd_T34 (l.set p x) (i : Int) = rd_T34 l (i : Int) := by
  unfold rd_T34
  rw [Int.toNat_natCast, List.getD_eq_getElem?_getD, List.getD_eq_getElem?_getD, List.getElem?_set_ne (Ne.symm h)]
theorem valid_set (l : List S34) (p : Nat) (hp : p < l.length) (x : S34) (hv : validB l = true) (h0 : x.f0 = (rd_T34 l (p : Int)).f0) (h2 : x.f2 = (rd_T34 l (p : Int)).f2) (h3 : centsB x.f3 = true) : validB (l.set p x) = haveB x.f1 := by
  have hg := (valid_good l).1 hv
  obtain ⟨g1, g2, g3⟩ := hg
  have hi := g1 p hp
  unfold itemB at hi
  simp only [Bool.and_eq_true] at hi
  have hname : ∀ i : Nat, (rd_T34 (l.set p x) (i : Int)).f0 = (rd_T34 l (i : Int)).f0 := fun i => by
    by_cases e : i = p
    · rw [e, rd_set l p hp, h0]
    · rw [rd_set_ne l p i x e]
  have hx : itemB x = haveB x.f1 := by
    unfold itemB
    rw [h0, h2, hi.1, hi.2.2.1, h3]; simp
  cases hh : haveB x.f1 with
  | true =>
    rw [valid_good]
    refine ⟨fun i hil => ?_, fun i hil => ?_, by rw [List.length_set]; exact g3⟩
    · rw [List.length_set] at hil
      by_cases e : i = p
      · rw [e, rd_set l p hp, hx, hh]
      · rw [rd_set_ne l p i x e]; exact g1 i hil
    · rw [List.length_set] at hil
      rw [hname, hname]; exact g2 i hil
  | false =>
    cases hq : validB (l.set p x) with
    | false => rfl
    | true =>
      have := ((valid_good _).1 hq).1 p (by rw [List.length_set]; exact hp)
      rw [rd_set l p hp, hx, hh] at this
      exact this.symm
theorem rd_lt (a b : List S34) (i : Nat) (h : i < a.length) : rd_T34 (a ++ b) (i : Int) = rd_T34 a (i : Int) := by
  unfold rd_T34
  rw [Int.toNat_natCast, List.getD_eq_getElem?_getD, List.getD_eq_getElem?_getD, List.getElem?_append_left h]
theorem rd_ge (a b : List S34) (i : Nat) : rd_T34 (a ++ b) ((a.length + i : Nat) : Int) = rd_T34 b (i : Int) := by
  unfold rd_T34
  rw [Int.toNat_natCast, Int.toNat_natCast, List.getD_eq_getElem?_getD, List.getD_eq_getElem?_getD, List.getElem?_append_right (by omega)]
  congr 2; omega
theorem rd_take (l : List S34) (p i : Nat) (h : i < p) : rd_T34 (l.take p) (i : Int) = rd_T34 l (i : Int) := by
  unfold rd_T34
  rw [Int.toNat_natCast, List.getD_eq_getElem?_getD, List.getD_eq_getElem?_getD, List.getElem?_take_of_lt h]
theorem rd_drop (l : List S34) (p i : Nat) : rd_T34 (l.drop p) (i : Int) = rd_T34 l ((p + i : Nat) : Int) := by
  unfold rd_T34
  rw [Int.toNat_natCast, Int.toNat_natCast, List.getD_eq_getElem?_getD, List.getD_eq_getElem?_getD, List.getElem?_drop]
def ins (l : List S34) (p : Nat) (x : S34) : List S34 := l.take p ++ [x] ++ l.drop p
theorem ins_length (l : List S34) (p : Nat) (x : S34) (hp : p ≤ l.length) : (ins l p x).length = l.length + 1 := by unfold ins; simp; omega
theorem rd_ins_lt (l : List S34) (p i : Nat) (x : S34) (hp : p ≤ l.length) (h : i < p) : rd_T34 (ins l p x) (i : Int) = rd_T34 l (i : Int) := by
  unfold ins
  rw [List.append_assoc, rd_lt _ _ i (by rw [List.length_take]; omega), rd_take l p i h]
theorem rd_ins_at (l : List S34) (p : Nat) (x : S34) (hp : p ≤ l.length) : rd_T34 (ins l p x) (p : Int) = x := by
  unfold ins
  have e : (l.take p).length = p := by rw [List.length_take]; omega
  have := rd_ge (l.take p) ([x] ++ l.drop p) 0
  rw [e] at this
  rw [List.append_assoc]
  exact this.trans rfl
theorem rd_ins_gt (l : List S34) (p i : Nat) (x : S34) (hp : p ≤ l.length) (h : p ≤ i) : rd_T34 (ins l p x) ((i + 1 : Nat) : Int) = rd_T34 l (i : Int) := by
  unfold ins
  have e : (l.take p ++ [x]).length = p + 1 := by rw [List.length_append, List.length_take]; simp; omega
  have := rd_ge (l.take p ++ [x]) (l.drop p) (i - p)
  rw [e, rd_drop, show p + 1 + (i - p) = i + 1 by omega, show p + (i - p) = i by omega] at this
  exact this
theorem valid_ins (l : List S34) (p : Nat) (hp : p ≤ l.length) (x : S34) (hv : validB l = true) (hx : itemB x = true) (h1 : ∀ j, j < p → lessAt l x.f0 j = true) (h2 : p < l.length → lessAt l x.f0 p = false) (h3 : foundAt l x.f0 p = false) :
    validB (ins l p x) = decide (l.length + 1 ≤ 20) := by
  obtain ⟨g1, g2, g3⟩ := (valid_good l).1 hv
  have hl := ins_length l p x hp
  have key : (∀ i : Nat, i < (ins l p x).length → itemB (rd_T34 (ins l p x) (i : Int)) = true) ∧ (∀ i : Nat, i + 1 < (ins l p x).length → Op.bytesLess (rd_T34 (ins l p x) (i : Int)).f0.toList (rd_T34 (ins l p x) ((i + 1 : Nat) : Int)).f0.toList = true) := by
    refine ⟨fun i hi => ?_, fun i hi => ?_⟩
    · rw [hl] at hi
      rcases Nat.lt_trichotomy i p with h | h | h
      · rw [rd_ins_lt l p i x hp h]; exact g1 i (by omega)
      · rw [h, rd_ins_at l p x hp]; exact hx
      · obtain ⟨j, rfl⟩ : ∃ j, i = j + 1 := ⟨i - 1, by omega⟩
        rw [rd_ins_gt l p j x hp (by omega)]; exact g1 j (by omega)
    · rw [hl] at hi
      rcases Nat.lt_trichotomy (i + 1) p with h | h | h
      · rw [rd_ins_lt l p i x hp (by omega), rd_ins_lt l p (i + 1) x hp h]; exact g2 i (by omega)
      · rw [rd_ins_lt l p i x hp (by omega), h, rd_ins_at l p x hp]; exact h1 i (by omega)
      · rw [rd_ins_gt l p i x hp (by omega)]
        by_cases e : i = p
        · subst e
          rw [rd_ins_at l i x hp]
          have hlt : i < l.length := by omega
          refine less_total _ _ (h2 hlt) ?_
          unfold foundAt at h3
          rw [decide_eq_true hlt, Bool.true_and] at h3
          exact h3
        · obtain ⟨j, rfl⟩ : ∃ j, i = j + 1 := ⟨i - 1, by omega⟩
          rw [rd_ins_gt l p j x hp (by omega)]
          exact g2 j (by omega)
  by_cases h20 : l.length + 1 ≤ 20
  · rw [decide_eq_true h20, valid_good]
    exact ⟨key.1, key.2, by rw [hl]; exact h20⟩
  · rw [decide_eq_false h20]
    cases hq : validB (ins l p x) with
    | false => rfl
    | true => have := valid_len hq; rw [hl] at this; omega

theorem put_main (l : List S34) (hv : validB l = true) (a1 : ByteArray) (a2 a3 : Int) (hn : isName a1 = true) (hm : 1 ≤ a2 ∧ a2 ≤ 100000) (hc : centsB a3 = true) :
    ∃ r, Ev (fun k => impl_PutStock.j0 k l a1 a2 a3 0) r ∧ Ev (fun k => spec_PutStock.j0 k l a1 a2 a3 false) r ∧ r.1.length ≤ 1000 := by
  have hl20 := valid_len hv
  obtain ⟨p, p1, p2, p3, e1, e2, e3⟩ := at_ev l (by omega) a1
  have hcl : impl_Item_126.f l = some l := by unfold impl_Item_126.f; rw [if_pos (by omega)]
  by_cases hf : foundAt l a1 p = true
  · have hp := found_lt hf
    have hvs := valid_set l p hp ⟨(rd_T34 l (p : Int)).f0, wrap64 ((rd_T34 l (p : Int)).f1 + a2), (rd_T34 l (p : Int)).f2, a3⟩ hv rfl rfl hc
    have hve := valid_eq (l.set p ⟨(rd_T34 l (p : Int)).f0, wrap64 ((rd_T34 l (p : Int)).f1 + a2), (rd_T34 l (p : Int)).f2, a3⟩) (by rw [List.length_set]; omega)
    refine ⟨if haveB (wrap64 ((rd_T34 l (p : Int)).f1 + a2)) = true then (l.set p ⟨(rd_T34 l (p : Int)).f0, wrap64 ((rd_T34 l (p : Int)).f1 + a2), (rd_T34 l (p : Int)).f2, a3⟩, 0) else ([], 5), ?_, ?_, ?_⟩
    · refine Ev.step (f := fun k => impl_PutStock.j0 (k + 1) l a1 a2 a3 0) (fun k => rfl) ?_
      simp only [impl_PutStock.j0, if_true]
      refine Ev.bind e1 ?_
      simp only [hcl, Option.bind_some, hf, if_true, if_pos (show (p : Int) < (l.length : Int) by omega), if_pos (show (0 : Int) ≤ (p : Int) by omega), Int.toNat_natCast, List.set_set, rd_set l p hp, hve, hvs]
      cases haveB (wrap64 ((rd_T34 l (p : Int)).f1 + a2)) <;> exact Ev.now _
    · refine Ev.step (f := fun k => spec_PutStock.j0 (k + 1) l a1 a2 a3 false) (fun k => rfl) ?_
      simp only [spec_PutStock.j0, Bool.false_eq_true, if_false]
      refine Ev.bind e2 ?_
      have hq : ([] : List S34).length + l.length < 3518437208883 := by simp; omega
      simp only [e3, Option.bind_some, hf, if_true, if_pos (show (p : Int) < (l.length : Int) by omega), if_pos (show (0 : Int) ≤ (p : Int) by omega), l23Have_eq, if_pos hq, List.nil_append, Int.toNat_natCast, List.set_set, rd_set l p hp]
      cases haveB (wrap64 ((rd_T34 l (p : Int)).f1 + a2)) <;> exact Ev.now _
    · split
      · show (l.set p _).length ≤ 1000; rw [List.length_set]; omega
      · exact Nat.zero_le _
  · have hf' : foundAt l a1 p = false := by simpa using hf
    have hin : impl_Item_128.f l (p : Int) [(⟨a1, 0, 0, 0⟩ : S34)] = some (ins l p ⟨a1, 0, 0, 0⟩) := by
      unfold impl_Item_128.f
      rw [if_pos ⟨by omega, by omega, rfl, by omega⟩, Int.toNat_natCast]; rfl
    have hil := ins_length l p ⟨a1, 0, 0, 0⟩ p1
    have hw : wrap64 (0 + a2) = a2 := by rw [w64 (by omega) (by omega)]; omega
    have hset : (ins l p ⟨a1, 0, 0, 0⟩).set p ⟨a1, a2, 0, a3⟩ = ins l p ⟨a1, a2, 0, a3⟩ := by
      unfold ins
      have e : (l.take p).length = p := by rw [List.length_take]; omega
      rw [List.append_assoc, List.set_append_right _ _ (by omega), e, Nat.sub_self, List.append_assoc]
      rfl
    have hx : itemB ⟨a1, a2, 0, a3⟩ = true := by
      unfold itemB
      show (isName a1 && (haveB a2 && (haveB 0 && centsB a3))) = true
      rw [hn, hc, show haveB a2 = true by unfold haveB; simp; omega]
      decide
    have hvi := valid_ins l p p1 ⟨a1, a2, 0, a3⟩ hv hx p2 p3 hf'
    have hve := valid_eq (ins l p ⟨a1, a2, 0, a3⟩) (by rw [ins_length l p _ p1]; omega)
    have hra := rd_ins_at l p ⟨a1, 0, 0, 0⟩ p1
    refine ⟨if l.length + 1 ≤ 20 then (ins l p ⟨a1, a2, 0, a3⟩, 0) else ([], 5), ?_, ?_, ?_⟩
    · refine Ev.step (f := fun k => impl_PutStock.j0 (k + 1) l a1 a2 a3 0) (fun k => rfl) ?_
      simp only [impl_PutStock.j0, if_true]
      refine Ev.bind e1 ?_
      simp only [hcl, Option.bind_some, hf', Bool.false_eq_true, if_false, hin, if_pos (show (p : Int) < ((ins l p ⟨a1, 0, 0, 0⟩).length : Int) by omega), if_pos (show (0 : Int) ≤ (p : Int) by omega), Int.toNat_natCast, List.set_set, rd_set (ins l p ⟨a1, 0, 0, 0⟩) p (by omega), hra, hw, hset, hve, hvi]
      by_cases h20 : l.length + 1 ≤ 20
      · simp only [decide_eq_true h20, if_true, if_pos h20]; exact Ev.now _
      · simp only [decide_eq_false h20, Bool.false_eq_true, if_false, if_neg h20]; exact Ev.now _
    · refine Ev.step (f := fun k => spec_PutStock.j0 (k + 1) l a1 a2 a3 false) (fun k => rfl) ?_
      simp only [spec_PutStock.j0, Bool.false_eq_true, if_false]
      refine Ev.bind e2 ?_
      have l1 : ([] : List S34).length + (l.take p).length < 3518437208883 := by simp; omega
      have l2 : (l.take p).length < 3518437208883 := by simp; omega
      have l3 : (l.take p ++ [(⟨a1, a2, 0, a3⟩ : S34)]).length + (l.drop p).length < 3518437208883 := by simp; omega
      by_cases h20 : l.length + 1 ≤ 20
      · simp only [e3, Option.bind_some, hf', Bool.false_eq_true, if_false, if_neg (show ¬ ((l.length : Int) ≥ 20) by omega), if_pos (show (p : Int) ≤ (l.length : Int) by omega), if_pos (show (0 : Int) ≤ (p : Int) by omega), Int.toNat_natCast, List.nil_append, if_pos l1, if_pos l2, if_pos l3, if_pos h20]
        exact Ev.now _
      · simp only [e3, Option.bind_some, hf', Bool.false_eq_true, if_false, if_pos (show (l.length : Int) ≥ 20 by omega), if_neg h20]
        exact Ev.now _
    · split
      · show (ins l p _).length ≤ 1000; rw [ins_length l p _ p1]; omega
      · exact Nat.zero_le _

theorem put_ev (l : List S34) (hl : l.length ≤ 1000000000) (a1 : ByteArray) (a2 a3 : Int) : ∃ r, Ev (fun k => impl_PutStock.f k l a1 a2 a3) r ∧ Ev (fun k => spec_PutStock.f k l a1 a2 a3) r ∧ r.1.length ≤ 1000 := by
  have hbad : ∀ c : Int, c ≠ 0 → Ev (fun k => impl_PutStock.j0 k l a1 a2 a3 c) ([], c) := fun c hc => by
    refine Ev.step (f := fun _ => some ([], c)) (fun k => ?_) (Ev.now _)
    simp only [impl_PutStock.j0]
    rw [if_neg hc]
  have hbad2 : Ev (fun k => spec_PutStock.j0 k l a1 a2 a3 true) ([], 2) := by
    refine Ev.step (f := fun _ => some ([], 2)) (fun k => ?_) (Ev.now _)
    simp only [spec_PutStock.j0, if_true]
  unfold impl_PutStock.f spec_PutStock.f
  simp only [spec_l23Ok.f, valid_eq l hl, Option.bind_some, impl_IsName.f, within_eq, isCents_eq, in_eq, l23Cents_eq]
  cases hv : validB l with
  | false =>
    refine ⟨([], 1), ?_, ?_, Nat.zero_le _⟩
    · cases isName a1
      · simp only [Bool.false_eq_true, if_false, impl_check.f, Option.bind_some]; exact hbad 1 (by decide)
      · by_cases hm : 1 ≤ a2 ∧ a2 ≤ 100000
        · simp only [if_true, decide_eq_true hm, Bool.false_eq_true, if_false, impl_check.f, Option.bind_some]; exact hbad 1 (by decide)
        · simp only [if_true, decide_eq_false hm, Bool.false_eq_true, if_false, impl_check.f, Option.bind_some]; exact hbad 1 (by decide)
    · simp only [Bool.false_eq_true, if_false]; exact Ev.now _
  | true =>
    cases hn : isName a1 with
    | false =>
      refine ⟨([], 2), ?_, ?_, Nat.zero_le _⟩
      · simp only [Bool.false_eq_true, if_false, if_true, impl_check.f, Option.bind_some]; exact hbad 2 (by decide)
      · simp only [if_true]
        refine Ev.bind (isName_ev a1) ?_
        simp only [hn, Bool.false_eq_true, if_false]
        exact hbad2
    | true =>
      by_cases hm : 1 ≤ a2 ∧ a2 ≤ 100000
      · cases hc : centsB a3 with
        | false =>
          refine ⟨([], 2), ?_, ?_, Nat.zero_le _⟩
          · simp only [if_true, decide_eq_true hm, Bool.false_eq_true, if_false, impl_check.f, Option.bind_some]; exact hbad 2 (by decide)
          · simp only [if_true]
            refine Ev.bind (isName_ev a1) ?_
            simp only [hn, if_true, decide_eq_true hm, Option.bind_some, Bool.not_false]
            exact hbad2
        | true =>
          obtain ⟨r, r1, r2, r3⟩ := put_main l hv a1 a2 a3 hn hm hc
          refine ⟨r, ?_, ?_, r3⟩
          · simp only [if_true, decide_eq_true hm, impl_check.f, Option.bind_some]; exact r1
          · simp only [if_true]
            refine Ev.bind (isName_ev a1) ?_
            simp only [hn, if_true, decide_eq_true hm, Option.bind_some, Bool.not_true]
            exact r2
      · refine ⟨([], 2), ?_, ?_, Nat.zero_le _⟩
        · simp only [if_true, decide_eq_false hm, Bool.false_eq_true, if_false, impl_check.f, Option.bind_some]; exact hbad 2 (by decide)
        · simp only [if_true]
          refine Ev.bind (isName_ev a1) ?_
          simp only [hn, if_true, decide_eq_false hm, Option.bind_some, Bool.false_eq_true, if_false]
          exact hbad2

/-- THE LAW. -/
theorem put_law (l : List S122) (hl : l.length ≤ 9223372036854775807) (hs : ∀ x ∈ l, x.f0.size ≤ 9223372036854775807) (a1 : ByteArray) (a2 a3 : Int) : ∃ k, laws_FnExactPutStock.f k l a1 a2 a3 = some true := by
  apply Ev.rounds
  unfold laws_FnExactPutStock.f
  by_cases hbig : (a1.size : Int) > 1048576
  · simp only [if_pos hbig]; exact Ev.now _
  simp only [if_neg hbig]
  obtain ⟨t, ht, ht1, ht2⟩ := sz_ev l hl hs 1048576 (by omega) (by omega)
  refine Ev.bind ht ?_
  by_cases hn : t < 0
  · simp only [if_pos hn]; exact Ev.now _
  simp only [if_neg hn]
  have la := ht2 (by omega)
  have hca : (l.map conv).length ≤ 1000000000 := by simp; omega
  obtain ⟨r, r1, r2, r3⟩ := put_ev (l.map conv) hca a1 a2 a3
  have ta := to_ev l (by omega)
  refine Ev.bind ta (Ev.bind r2 (Ev.bind ta (Ev.bind r1 (Ev.bind (eq_ev r.1 (by omega)) ?_))))
  simp only [if_true, bne_self_eq_false]
  refine Ev.step (f := fun k => laws_FnExactPutStock.j0 (k + 1) l a1 a2 a3 r.1 r.2 (l.map conv) r.1 r.2 false) (fun k => rfl) ?_
  simp only [laws_FnExactPutStock.j0, Bool.false_eq_true, if_false]
  refine Ev.bind ta (Ev.bind (eq_ev _ hca) ?_)
  simp only [if_true]
  refine Ev.bind (mark_ev (l.map conv) 1 hca (by omega)) ?_
  simp only [if_neg (show ¬ (((1 + 4 * (l.map conv).length : Nat) : Int) < 0) by omega)]
  refine Ev.bind (eq_ev r.1 (by omega)) ?_
  simp only [if_true, bne_self_eq_false]
  refine Ev.step (f := fun k => laws_FnExactPutStock.j1 (k + 1) l a1 a2 a3 r.1 r.2 r.1 false) (fun k => rfl) ?_
  simp only [laws_FnExactPutStock.j1, Bool.false_eq_true, if_false]
  refine Ev.bind (mark_ev r.1 1 (by omega) (by omega)) (Ev.bind (held_ev 1 r.1.length (by omega) (by omega)) ?_)
  simp only [if_neg (show ¬ (((1 + 4 * r.1.length : Nat) : Int) < 0) by omega), if_true]
  refine Ev.bind ta (Ev.bind r1 (Ev.bind (eq_ev r.1 (by omega)) ?_))
  simp only [if_true, bne_self_eq_false]
  refine Ev.step (f := fun k => laws_FnExactPutStock.j2 (k + 1) (marks 1 r.1.length) ((1 + 4 * r.1.length : Nat) : Int) false) (fun k => rfl) ?_
  simp only [laws_FnExactPutStock.j2, Bool.false_eq_true, if_false]
  refine Ev.bind (held_ev 1 r.1.length (by omega) (by omega)) ?_
  simp only [if_neg (show ¬ (((1 + 4 * r.1.length : Nat) : Int) < 0) by omega), if_true]
  exact Ev.now _
end Go.Proofs.YtdjdillppgijmaaDoor.Qs
