/- PlPut2, PlJoin2, in one text. -/
import Derived.Test.YtdjdillppgijmaaDoorStkDraw
import Derived.Test.YtdjdillppgijmaaDoorQsx23
import Derived.Test.YtdjdillppgijmaaDoorQsx24
import Derived.Test.YtdjdillppgijmaaDoorQsx13
set_option linter.unusedVariables false
set_option linter.unusedSimpArgs false
namespace Go.Proofs.YtdjdillppgijmaaDoor.Qs
open Go.RowKit Go.Proofs.YtdjdillppgijmaaDoorW.PrintWords Go.Proofs.YtdjdillppgijmaaDoorW.PrintLast Go.Proofs.YtdjdillppgijmaaDoorW.PrintMore

/-- A stock around one name: what comes ahead, (what has the name), what comes behind. -/
structure Cut (l : List S34) (name : ByteArray) where
  A : List S34
  y : Option S34
  B : List S34
  eq : l = A ++ (y.toList ++ B)
  hA : ∀ x ∈ A, Less (nm x) name.toList
  hy : ∀ z, y = some z → nm z = name.toList
  hB : ∀ x ∈ B, Less name.toList (nm x)
theorem cut_of {l : List S34} (hs : Srt l) (name : ByteArray) : Nonempty (Cut l name) := by
  induction l with
  | nil => exact ⟨⟨[], none, [], rfl, (fun x h => by cases h), (fun z h => by cases h), (fun x h => by cases h)⟩⟩
  | cons x l ih =>
    obtain ⟨h1, h2⟩ := List.pairwise_cons.1 hs
    by_cases hl : Op.bytesLess (nm x) name.toList = true
    · obtain ⟨c⟩ := ih h2
      refine ⟨⟨x :: c.A, c.y, c.B, by rw [List.cons_append, ← c.eq], fun z hz => ?_, c.hy, c.hB⟩⟩
      rcases List.mem_cons.1 hz with e | e
      · rw [e]; exact hl
      · exact c.hA z e
    · by_cases hn : nm x = name.toList
      · exact ⟨⟨[], some x, l, rfl, (fun x h => by cases h), (fun z h => by cases h; exact hn), fun z hz => by rw [← hn]; exact h1 z hz⟩⟩
      · have hx : Less name.toList (nm x) := less_total _ _ (by simpa using hl) (by simpa using hn)
        refine ⟨⟨[], none, x :: l, rfl, (fun x h => by cases h), (fun z h => by cases h), fun z hz => ?_⟩⟩
        rcases List.mem_cons.1 hz with e | e
        · rw [e]; exact hx
        · exact less_trans _ _ _ hx (h1 z e)

theorem rd_mid (A B : List S34) (z : S34) : rd_T34 (A ++ z :: B) ((A.length : Nat) : Int) = z := by
  rw [rd34 _ A.length (by simp)]; simp
theorem at_found (A B : List S34) (z : S34) (name : ByteArray) (hA : ∀ x ∈ A, Less (nm x) name.toList) (hz : nm z = name.toList) (hl : (A ++ z :: B).length ≤ 1000000000) :
    Ev (fun k => impl_itemAt.f k (A ++ z :: B) name) ((A.length : Int), true) := by
  obtain ⟨p, p1, p2, p3, e1⟩ := at_ev (A ++ z :: B) hl name
  have hp : p = A.length := by
    rcases Nat.lt_trichotomy p A.length with h | h | h
    · have := p3 (by simp; omega)
      unfold lessAt at this
      rw [rd34 _ p (by simp; omega), List.getElem_append_left h] at this
      have h2 : Less (nm A[p]) name.toList := hA _ (List.getElem_mem h)
      have h3 : Op.bytesLess (A[p]).f0.toList name.toList = true := h2
      rw [h3] at this
      cases this
    · exact h
    · have := p2 A.length h
      unfold lessAt at this
      rw [rd_mid] at this
      have h3 : Less (nm z) name.toList := this
      rw [hz] at h3
      exact absurd h3 (less_irr _)
  subst hp
  have hf : foundAt (A ++ z :: B) name A.length = true := by
    unfold foundAt
    rw [decide_eq_true (by simp), Bool.true_and, rd_mid]
    show (nm z == name.toList) = true
    rw [hz]; simp
  rw [hf] at e1
  exact e1
theorem at_missing (A B : List S34) (name : ByteArray) (hA : ∀ x ∈ A, Less (nm x) name.toList) (hB : ∀ x ∈ B, Less name.toList (nm x)) (hl : (A ++ B).length ≤ 1000000000) :
    Ev (fun k => impl_itemAt.f k (A ++ B) name) ((A.length : Int), false) := by
  obtain ⟨p, p1, p2, p3, e1⟩ := at_ev (A ++ B) hl name
  have hp : p = A.length := by
    rcases Nat.lt_trichotomy p A.length with h | h | h
    · have := p3 (by simp; omega)
      unfold lessAt at this
      rw [rd34 _ p (by simp; omega), List.getElem_append_left h] at this
      have h2 : Less (nm A[p]) name.toList := hA _ (List.getElem_mem h)
      have h3 : Op.bytesLess (A[p]).f0.toList name.toList = true := h2
      rw [h3] at this
      cases this
    · exact h
    · have := p2 A.length h
      unfold lessAt at this
      have hlt : A.length < (A ++ B).length := by omega
      have hb : 0 < B.length := by rw [List.length_append] at hlt; omega
      rw [rd34 _ A.length hlt, List.getElem_append_right (Nat.le_refl _)] at this
      have h2 : Less name.toList (nm B[A.length - A.length]) := hB _ (List.getElem_mem _)
      exact (less_asym this h2).elim
  subst hp
  have hf : foundAt (A ++ B) name A.length = false := by
    unfold foundAt
    by_cases hb : A.length < (A ++ B).length
    · rw [decide_eq_true hb, Bool.true_and, rd34 _ A.length hb, List.getElem_append_right (Nat.le_refl _)]
      have hb' : 0 < B.length := by rw [List.length_append] at hb; omega
      have h2 : Less name.toList (nm B[A.length - A.length]) := hB _ (List.getElem_mem _)
      rw [beq_eq_false_iff_ne]
      intro e
      have e' : nm B[A.length - A.length] = name.toList := e
      rw [e'] at h2
      exact less_irr _ h2
    · rw [decide_eq_false hb, Bool.false_and]
  rw [hf] at e1
  exact e1

/-- What is put in: around the name. -/
def putIn (name : ByteArray) (many cents : Int) : Option S34 → S34
  | some y => ⟨y.f0, y.f1 + many, y.f2, cents⟩
  | none => ⟨name, many, 0, cents⟩
def wasIn : Option S34 → Int
  | some y => y.f1
  | none => 0
theorem put_cut {l : List S34} (hs : Srt l) (hl : l.length ≤ 6) (ht : ∀ x ∈ l, Tiny x) (name : ByteArray) (hn : isName name = true) (c : Cut l name) (many cents : Int) (hm : 1 ≤ many ∧ many ≤ 20) (hc : 0 ≤ cents ∧ cents < 60) :
    validB (c.A ++ putIn name many cents c.y :: c.B) = true ∧ Ev (fun k => impl_PutStock.f k l name many cents) (c.A ++ putIn name many cents c.y :: c.B, 0) := by
  obtain ⟨A, y, B, he, hA, hy, hB⟩ := c
  simp only
  have hcents : centsB cents = true := by unfold centsB; simp; omega
  have hvl : validB l = true := srt_valid hs (by omega) (fun x hx => (ht x hx).item)
  have hcl : impl_Item_126.f l = some l := by unfold impl_Item_126.f; rw [if_pos (by omega)]
  have hput : Srt (A ++ putIn name many cents y :: B) ∧ (A ++ putIn name many cents y :: B).length ≤ 7 ∧ ∀ x ∈ A ++ putIn name many cents y :: B, itemB x = true := by
    have hnm : nm (putIn name many cents y) = name.toList := by
      cases y with
      | none => rfl
      | some z => exact hy z rfl
    rw [he] at hs hl ht
    have hsA : Srt A := (List.pairwise_append.1 hs).1
    have hsB : Srt B := (List.pairwise_append.1 (List.pairwise_append.1 hs).2.1).2.1
    refine ⟨?_, ?_, fun x hx => ?_⟩
    · refine List.pairwise_append.2 ⟨hsA, List.pairwise_cons.2 ⟨fun z hz => by rw [hnm]; exact hB z hz, hsB⟩, fun a ha b hb => ?_⟩
      rcases List.mem_cons.1 hb with e | e
      · rw [e, hnm]; exact hA a ha
      · exact less_trans _ _ _ (hA a ha) (hB b e)
    · simp at hl ⊢; omega
    · rcases List.mem_append.1 hx with e | e
      · exact (ht x (List.mem_append_left _ e)).item
      · rcases List.mem_cons.1 e with e | e
        · rw [e]
          cases y with
          | none =>
            unfold itemB putIn haveB centsB
            simp [hn]; omega
          | some z =>
            obtain ⟨t0, t1, t2, t3⟩ := ht z (List.mem_append_right _ (List.mem_append_left _ (by simp)))
            unfold itemB putIn haveB centsB
            simp [t0]; omega
        · exact (ht x (List.mem_append_right _ (List.mem_append_right _ e))).item
  have hvp := srt_valid hput.1 (by omega) hput.2.2
  refine ⟨hvp, ?_⟩
  have hve := valid_eq (A ++ putIn name many cents y :: B) (by omega)
  unfold impl_PutStock.f
  simp only [valid_eq l (by omega), hvl, Option.bind_some, impl_IsName.f, hn, within_eq, isCents_eq, hcents, if_true, decide_eq_true (show 1 ≤ many ∧ many ≤ 100000 by omega), impl_check.f]
  refine Ev.step (f := fun k => impl_PutStock.j0 (k + 1) l name many cents 0) (fun k => rfl) ?_
  simp only [impl_PutStock.j0, if_true]
  cases y with
  | some z =>
    have he' : l = A ++ z :: B := he
    have hz := hy z rfl
    obtain ⟨t0, t1, t2, t3⟩ := ht z (by rw [he']; simp)
    have e1 := at_found A B z name hA hz (by rw [← he']; omega)
    rw [← he'] at e1
    refine Ev.bind e1 ?_
    have hp : A.length < l.length := by rw [he']; simp
    have hr : rd_T34 l ((A.length : Nat) : Int) = z := by rw [he']; exact rd_mid A B z
    have hset : l.set A.length ⟨z.f0, z.f1 + many, z.f2, cents⟩ = A ++ putIn name many cents (some z) :: B := by
      rw [he', List.set_append_right _ _ (Nat.le_refl _), Nat.sub_self]; rfl
    simp only [hcl, Option.bind_some, if_true, if_pos (show (0 : Int) ≤ (A.length : Int) by omega), if_pos (show (A.length : Int) < (l.length : Int) by omega), Int.toNat_natCast, List.set_set, rd_set l A.length hp, hr, w64 (show -9223372036854775808 ≤ z.f1 + many by omega) (by omega), hset, hve, hvp]
    exact Ev.now _
  | none =>
    have he' : l = A ++ B := he
    have e1 := at_missing A B name hA hB (by rw [← he']; omega)
    rw [← he'] at e1
    refine Ev.bind e1 ?_
    have hpl : A.length ≤ l.length := by rw [he']; simp
    have hins : ins l A.length ⟨name, 0, 0, 0⟩ = A ++ ⟨name, 0, 0, 0⟩ :: B := by
      unfold ins; rw [he', List.take_left' rfl, List.drop_left' rfl, List.append_assoc]; rfl
    have hin : impl_Item_128.f l (A.length : Int) [(⟨name, 0, 0, 0⟩ : S34)] = some (A ++ ⟨name, 0, 0, 0⟩ :: B) := by
      unfold impl_Item_128.f
      rw [if_pos ⟨by omega, by omega, rfl, by omega⟩, Int.toNat_natCast]
      rw [← hins]; rfl
    have hp : A.length < (A ++ (⟨name, 0, 0, 0⟩ : S34) :: B).length := by simp
    have hr := rd_mid A B ⟨name, 0, 0, 0⟩
    have hset : (A ++ (⟨name, 0, 0, 0⟩ : S34) :: B).set A.length ⟨name, many, 0, cents⟩ = A ++ putIn name many cents none :: B := by
      rw [List.set_append_right _ _ (Nat.le_refl _), Nat.sub_self]; rfl
    have hw : wrap64 (0 + many) = many := by rw [w64 (by omega) (by omega)]; omega
    simp only [hcl, Option.bind_some, Bool.false_eq_true, if_false, hin, if_pos (show (0 : Int) ≤ (A.length : Int) by omega), if_pos (show (A.length : Int) < ((A ++ (⟨name, 0, 0, 0⟩ : S34) :: B).length : Int) by omega), Int.toNat_natCast, List.set_set, rd_set _ A.length hp, hr, hw, hset, hve, hvp, if_true]
    exact Ev.now _
/-- What is taken again. -/
def takenOut (name : ByteArray) (cents : Int) : Option S34 → S34
  | some y => ⟨y.f0, y.f1, y.f2, cents⟩
  | none => ⟨name, 0, 0, cents⟩
theorem take_cut {l : List S34} (hs : Srt l) (hl : l.length ≤ 6) (ht : ∀ x ∈ l, Tiny x) (name : ByteArray) (hn : isName name = true) (c : Cut l name) (many cents : Int) (hm : 1 ≤ many ∧ many ≤ 20) (hc : 0 ≤ cents ∧ cents < 60) :
    Ev (fun k => impl_TakeStock.f k (c.A ++ putIn name many cents c.y :: c.B) name many) (c.A ++ takenOut name cents c.y :: c.B, 0) := by
  have hvp := (put_cut hs hl ht name hn c many cents hm hc).1
  have hl20 := valid_le hvp
  obtain ⟨A, y, B, he, hA, hy, hB⟩ := c
  simp only at hvp hl20 ⊢
  have hnm : nm (putIn name many cents y) = name.toList := by
    cases y with
    | none => rfl
    | some z => exact hy z rfl
  have hcl : impl_Item_126.f (A ++ putIn name many cents y :: B) = some (A ++ putIn name many cents y :: B) := by unfold impl_Item_126.f; rw [if_pos (by omega)]
  unfold impl_TakeStock.f
  simp only [valid_eq _ (show (A ++ putIn name many cents y :: B).length ≤ 1000000000 by omega), hvp, Option.bind_some, impl_IsName.f, hn, within_eq, if_true, decide_eq_true (show 1 ≤ many ∧ many ≤ 100000 by omega), impl_check.f]
  refine Ev.step (f := fun k => impl_TakeStock.j0 (k + 1) (A ++ putIn name many cents y :: B) name many 0) (fun k => rfl) ?_
  simp only [impl_TakeStock.j0, if_true]
  refine Ev.bind (at_found A B (putIn name many cents y) name hA hnm (by omega)) ?_
  have hp : A.length < (A ++ putIn name many cents y :: B).length := by simp
  have hr := rd_mid A B (putIn name many cents y)
  have hge : ¬ ((putIn name many cents y).f1 < many) ∧ wrap64 ((putIn name many cents y).f1 - many) = (takenOut name cents y).f1 := by
    cases y with
    | none => unfold putIn takenOut; simp only; rw [w64 (by omega) (by omega)]; omega
    | some z =>
      obtain ⟨t0, t1, t2, t3⟩ := ht z (by rw [he]; simp)
      unfold putIn takenOut; simp only; rw [w64 (by omega) (by omega)]; omega
  have hset : (A ++ putIn name many cents y :: B).set A.length ⟨(putIn name many cents y).f0, (takenOut name cents y).f1, (putIn name many cents y).f2, (putIn name many cents y).f3⟩ = A ++ takenOut name cents y :: B := by
    rw [List.set_append_right _ _ (Nat.le_refl _), Nat.sub_self]
    cases y <;> rfl
  simp only [if_true, if_pos (show (0 : Int) ≤ (A.length : Int) by omega), if_pos (show (A.length : Int) < ((A ++ putIn name many cents y :: B).length : Int) by omega), hr, if_neg hge.1, hcl, Option.bind_some, Int.toNat_natCast, hge.2, hset]
  exact Ev.now _
end Go.Proofs.YtdjdillppgijmaaDoor.Qs

/- Joined drawn stocks; all items but one are kept. -/
set_option linter.unusedVariables false
set_option linter.unusedSimpArgs false
namespace Go.Proofs.YtdjdillppgijmaaDoor.Qs
open Go.RowKit Go.Proofs.YtdjdillppgijmaaDoorW.PrintWords Go.Proofs.YtdjdillppgijmaaDoorW.PrintLast Go.Proofs.YtdjdillppgijmaaDoorW.PrintMore

def midOf (z : S34) : Option S34 → S34
  | some y => comb y z
  | none => z
theorem insL_cut (z : S34) (y : Option S34) (B : List S34) (hy : ∀ w, y = some w → nm w = nm z) (hB : ∀ x ∈ B, Less (nm z) (nm x)) : ∀ A : List S34, (∀ x ∈ A, Less (nm x) (nm z)) →
    insL z (A ++ (y.toList ++ B)) = A ++ midOf z y :: B
  | a :: A, hA => by
    show insL z (a :: (A ++ (y.toList ++ B))) = a :: (A ++ midOf z y :: B)
    unfold insL
    rw [if_pos (hA a List.mem_cons_self), insL_cut z y B hy hB A (fun x hx => hA x (List.mem_cons_of_mem _ hx))]
  | [], _ => by
    cases y with
    | some w =>
      have hw := hy w rfl
      show insL z (w :: B) = comb w z :: B
      unfold insL
      rw [if_neg (by rw [hw]; exact less_irr _), if_pos hw]
    | none =>
      show insL z B = z :: B
      cases B with
      | nil => rfl
      | cons b B =>
        have hb := hB b List.mem_cons_self
        unfold insL
        rw [if_neg (fun h => less_asym h hb), if_neg (fun e => by rw [e] at hb; exact less_irr _ hb)]
theorem join2_loop (b : List S34) (hb : b.length ≤ 20) (d : Nat) : ∀ (i : Nat) (x : List S34), i + d = b.length → x.length ≤ 20 + i → Srt x → validB (joinL x (b.drop i)) = true →
    Ev (fun k => impl_JoinStock.l0 k x b (b.length : Int) (i : Int)) (joinL x (b.drop i), 0) := by
  induction d with
  | zero =>
    intro i x hi hx hs hv
    rw [List.drop_of_length_le (by omega)] at hv ⊢
    have hve := valid_eq x (by omega)
    refine Ev.step (f := fun _ => some (x, 0)) (fun k => ?_) (Ev.now _)
    simp only [impl_JoinStock.l0]
    rw [if_neg (by omega), hve, Option.bind_some, show validB x = true from hv, if_pos rfl]
  | succ d ih =>
    intro i x hi hx hs hv
    have hil : i < b.length := by omega
    have hr := rd34 b i hil
    have hbx : (⟨b[i].f0, b[i].f1, b[i].f2, b[i].f3⟩ : S34) = b[i] := rfl
    rw [List.drop_eq_getElem_cons hil] at hv ⊢
    obtain ⟨⟨A, y, B, he, hA, hy, hB⟩⟩ := cut_of hs b[i].f0
    have hic : insL b[i] x = A ++ midOf b[i] y :: B := by rw [he]; exact insL_cut b[i] y B hy hB A hA
    have hlen := insL_length b[i] x
    have h2 := ih (i + 1) (insL b[i] x) (by omega) (by omega) (insL_srt _ hs) hv
    refine Ev.step (f := fun k => impl_JoinStock.l0 (k + 1) x b (b.length : Int) (i : Int)) (fun k => rfl) ?_
    simp only [impl_JoinStock.l0]
    simp only [if_pos (show (i : Int) < (b.length : Int) by omega), if_pos (show (0 : Int) ≤ (i : Int) by omega), hr]
    cases y with
    | some w =>
      have he' : x = A ++ w :: B := he
      have hw := hy w rfl
      have e1 := at_found A B w b[i].f0 hA hw (by rw [← he']; omega)
      rw [← he'] at e1
      refine Ev.bind e1 ?_
      have hp : A.length < x.length := by rw [he']; simp
      have hrx : rd_T34 x ((A.length : Nat) : Int) = w := by rw [he']; exact rd_mid A B w
      have hset : x.set A.length ⟨w.f0, wrap64 (w.f1 + b[i].f1), wrap64 (w.f2 + b[i].f2), mn w.f3 b[i].f3⟩ = insL b[i] x := by
        rw [hic, he', List.set_append_right _ _ (Nat.le_refl _), Nat.sub_self]; rfl
      simp only [if_true, if_pos (show (0 : Int) ≤ (A.length : Int) by omega), if_pos (show (A.length : Int) < (x.length : Int) by omega), Option.bind_some, Int.toNat_natCast, List.set_set, rd_set x A.length hp, hrx, hset, nx i (by omega)]
      exact h2
    | none =>
      have he' : x = A ++ B := he
      have e1 := at_missing A B b[i].f0 hA hB (by rw [← he']; omega)
      rw [← he'] at e1
      refine Ev.bind e1 ?_
      have hpl : A.length ≤ x.length := by rw [he']; simp
      have hin : impl_Item_128.f x (A.length : Int) [b[i]] = some (insL b[i] x) := by
        unfold impl_Item_128.f
        rw [if_pos ⟨by omega, by omega, rfl, by omega⟩, Int.toNat_natCast, hic]
        conv => lhs; rw [he']
        rw [List.take_left' rfl, List.drop_left' rfl, List.append_assoc]; rfl
      simp only [Bool.false_eq_true, if_false, hbx, hin, Option.bind_some, nx i (by omega)]
      exact h2
def Bd (c : Int) (x : S34) : Prop := isName x.f0 = true ∧ (0 ≤ x.f1 ∧ x.f1 < c) ∧ (0 ≤ x.f2 ∧ x.f2 < c) ∧ (0 ≤ x.f3 ∧ x.f3 < 60)
theorem insL_bd {c : Int} (hc : 0 ≤ c ∧ c ≤ 1000) {x : S34} (hx : Tiny x) {l : List S34} (h : ∀ z ∈ l, Bd c z) : ∀ z ∈ insL x l, Bd (c + 40) z := fun z hz => by
  obtain ⟨x0, x1, x2, x3⟩ := hx
  rcases insL_mem hz with e | e | ⟨y, hy, _, e⟩
  · rw [e]; exact ⟨x0, by omega, by omega, x3⟩
  · obtain ⟨z0, z1, z2, z3⟩ := h z e
    exact ⟨z0, by omega, by omega, z3⟩
  · obtain ⟨y0, y1, y2, y3⟩ := h y hy
    rw [e]
    unfold comb Bd
    simp only
    rw [w64 (by omega) (by omega), w64 (by omega) (by omega)]
    refine ⟨y0, by omega, by omega, ?_⟩
    unfold mn; split <;> omega
theorem joinL_bd : ∀ (b : List S34) {a : List S34} {c : Int}, 0 ≤ c → c + 40 * b.length ≤ 1000 → (∀ z ∈ b, Tiny z) → (∀ z ∈ a, Bd c z) → ∀ z ∈ joinL a b, Bd (c + 40 * b.length) z
  | [], a, c, _, _, _, h => fun z hz => by simpa using h z hz
  | x :: b, a, c, h0, h1, hb, h => fun z hz => by
    have hl : ((x :: b).length : Int) = (b.length : Int) + 1 := by simp
    rw [hl] at h1 ⊢
    have := joinL_bd b (a := insL x a) (c := c + 40) (by omega) (by omega) (fun w hw => hb w (List.mem_cons_of_mem _ hw)) (insL_bd ⟨h0, by omega⟩ (hb x List.mem_cons_self) h) z hz
    rwa [show c + 40 * ((b.length : Int) + 1) = c + 40 + 40 * (b.length : Int) by omega]
theorem join_good {a b : List S34} (ha : Srt a) (la : a.length ≤ 6) (ta : ∀ x ∈ a, Tiny x) (hb : Srt b) (lb : b.length ≤ 6) (tb : ∀ x ∈ b, Tiny x) :
    validB (joinL a b) = true ∧ Ev (fun k => impl_JoinStock.f k a b) (joinL a b, 0) := by
  have hl := joinL_length b a
  have hbd := joinL_bd b (a := a) (c := 40) (by omega) (by omega) tb (fun z hz => by
    obtain ⟨z0, z1, z2, z3⟩ := ta z hz
    exact ⟨z0, by omega, by omega, z3⟩)
  have hv : validB (joinL a b) = true := srt_valid (joinL_srt b ha) (by omega) (fun x hx => by
    obtain ⟨z0, z1, z2, z3⟩ := hbd x hx
    unfold itemB haveB centsB
    rw [z0]; simp; omega)
  refine ⟨hv, ?_⟩
  have va : validB a = true := srt_valid ha (by omega) (fun x hx => (ta x hx).item)
  have vb : validB b = true := srt_valid hb (by omega) (fun x hx => (tb x hx).item)
  unfold impl_JoinStock.f
  simp only [valid_eq a (by omega), valid_eq b (by omega), va, vb, Option.bind_some, if_true, Bool.not_true]
  refine Ev.step (f := fun k => impl_JoinStock.l0 k a b (b.length : Int) ((0 : Nat) : Int)) (fun k => ?_) (join2_loop b (by omega) b.length 0 a (by omega) (by omega) ha (by simpa using hv))
  simp only [impl_JoinStock.j0, Bool.false_eq_true, if_false, impl_Item_126.f, if_pos (show a.length ≤ 1000000000 by omega), Option.bind_some]
  rfl

/-! ### what is kept -/
theorem same_loop (l : List S34) (hl : l.length ≤ 1000000000) (d : Nat) : ∀ i : Nat, i + d = l.length → Ev (fun k => spec_SameStock.l0 k l l (i : Int)) true := by
  induction d with
  | zero =>
    intro i hi
    refine Ev.step (f := fun _ => some true) (fun k => ?_) (Ev.now _)
    simp only [spec_SameStock.l0]
    rw [if_neg (by omega)]
  | succ d ih =>
    intro i hi
    refine Ev.step (f := fun k => spec_SameStock.l0 k l l ((i + 1 : Nat) : Int)) (fun k => ?_) (ih (i + 1) (by omega))
    simp only [spec_SameStock.l0]
    rw [if_pos (by omega), if_pos (by omega), if_pos (by omega), nx i (by omega)]
    simp
theorem same_ev (l : List S34) (hl : l.length ≤ 1000000000) : Ev (fun k => spec_SameStock.f k l l) true := by
  unfold spec_SameStock.f
  simp only [if_true]
  exact same_loop l hl l.length 0 (by omega)
def keep (n : List UInt8) (l : List S34) : List S34 := l.filter (fun x => !(nm x == n))
def haveOf (n : List UInt8) (h : Int) (l : List S34) : Int := l.foldl (fun h x => if nm x = n then x.f1 else h) h
theorem kept0 (l put taken : List S34) (name : ByteArray) (R : Bool) (hl : l.length ≤ 1000) (d : Nat) : ∀ (i : Nat) (h : Int) (acc : List S34), i + d = l.length → acc.length ≤ i →
    Ev (fun k => laws_a2Kept.l1 k put taken name (haveOf name.toList h (l.drop i)) (acc ++ keep name.toList (l.drop i)) [] 0) R → Ev (fun k => laws_a2Kept.l0 k l put taken name h acc (i : Int)) R := by
  induction d with
  | zero =>
    intro i h acc hi ha hE
    rw [List.drop_of_length_le (by omega)] at hE
    refine Ev.step (fun k => ?_) hE
    simp only [laws_a2Kept.l0]
    rw [if_neg (by omega)]
    simp [keep, haveOf]
  | succ d ih =>
    intro i h acc hi ha hE
    have hil : i < l.length := by omega
    rw [List.drop_eq_getElem_cons hil] at hE
    by_cases hn : nm l[i] = name.toList
    · have e1 : haveOf name.toList h (l[i] :: l.drop (i + 1)) = haveOf name.toList l[i].f1 (l.drop (i + 1)) := by unfold haveOf; rw [List.foldl_cons, if_pos hn]
      have e2 : keep name.toList (l[i] :: l.drop (i + 1)) = keep name.toList (l.drop (i + 1)) := by unfold keep; rw [List.filter_cons_of_neg (by simp [hn])]
      rw [e1, e2] at hE
      refine Ev.step (fun k => ?_) (ih (i + 1) l[i].f1 acc (by omega) (by omega) hE)
      simp only [laws_a2Kept.l0]
      rw [if_pos (by omega), if_pos (by omega), rd34 l i hil, if_pos (show l[i].f0.toList = name.toList from hn), nx i (by omega)]
    · have e1 : haveOf name.toList h (l[i] :: l.drop (i + 1)) = haveOf name.toList h (l.drop (i + 1)) := by unfold haveOf; rw [List.foldl_cons, if_neg hn]
      have e2 : acc ++ keep name.toList (l[i] :: l.drop (i + 1)) = (acc ++ [l[i]]) ++ keep name.toList (l.drop (i + 1)) := by
        unfold keep
        rw [List.filter_cons_of_pos (by simp [hn]), List.append_assoc]; rfl
      rw [e1, e2] at hE
      refine Ev.step (fun k => ?_) (ih (i + 1) h (acc ++ [l[i]]) (by omega) (by simp; omega) hE)
      simp only [laws_a2Kept.l0]
      rw [if_pos (by omega), if_pos (by omega), rd34 l i hil, if_neg (show ¬ l[i].f0.toList = name.toList from hn), if_pos (by omega), nx i (by omega)]
theorem kept1 (put taken : List S34) (name : ByteArray) (h : Int) (rest : List S34) (hl : taken.length ≤ 1000) (hpl : put.length = taken.length) (hnm : ∀ j : Nat, j < taken.length → nm (rd_T34 taken (j : Int)) = nm (rd_T34 put (j : Int)))
    (hh : ∀ x ∈ taken, nm x = name.toList → x.f1 = h) (d : Nat) : ∀ (i : Nat) (acc : List S34), i + d = taken.length → acc.length ≤ i → rest = acc ++ keep name.toList (taken.drop i) →
    Ev (fun k => laws_a2Kept.l1 k put taken name h rest acc (i : Int)) true := by
  induction d with
  | zero =>
    intro i acc hi ha hr
    rw [List.drop_of_length_le (by omega)] at hr
    have hr' : rest = acc := by simpa [keep] using hr
    refine Ev.step (f := fun k => (spec_SameStock.f k rest acc).bind fun t => some t) (fun k => ?_) ?_
    · simp only [laws_a2Kept.l1]
      rw [if_neg (by omega)]
    · rw [hr']
      exact Ev.bind (f := fun _ t => some t) (same_ev acc (by omega)) (Ev.now true)
  | succ d ih =>
    intro i acc hi ha hr
    have hil : i < taken.length := by omega
    have hni := hnm i hil
    have hni' : (rd_T34 taken (i : Int)).f0.toList = (rd_T34 put (i : Int)).f0.toList := hni
    rw [List.drop_eq_getElem_cons hil] at hr
    have hrt := rd34 taken i hil
    by_cases hn : nm taken[i] = name.toList
    · have hf := hh _ (List.getElem_mem hil) hn
      have e2 : keep name.toList (taken[i] :: taken.drop (i + 1)) = keep name.toList (taken.drop (i + 1)) := by unfold keep; rw [List.filter_cons_of_neg (by simp [hn])]
      rw [e2] at hr
      refine Ev.step (fun k => ?_) (ih (i + 1) acc (by omega) (by omega) hr)
      simp only [laws_a2Kept.l1]
      rw [if_pos (by omega), if_pos (by omega), if_pos (by omega), if_pos hni', hrt, if_pos (show taken[i].f0.toList = name.toList from hn), if_pos hf, nx i (by omega)]
    · have e2 : acc ++ keep name.toList (taken[i] :: taken.drop (i + 1)) = (acc ++ [taken[i]]) ++ keep name.toList (taken.drop (i + 1)) := by
        unfold keep
        rw [List.filter_cons_of_pos (by simp [hn]), List.append_assoc]; rfl
      rw [e2] at hr
      refine Ev.step (fun k => ?_) (ih (i + 1) (acc ++ [taken[i]]) (by omega) (by simp; omega) hr)
      simp only [laws_a2Kept.l1]
      rw [if_pos (by omega), if_pos (by omega), if_pos (by omega), if_pos hni', hrt, if_neg (show ¬ taken[i].f0.toList = name.toList from hn), if_pos (by omega), nx i (by omega)]
theorem keep_all {n : List UInt8} : ∀ {l : List S34}, (∀ x ∈ l, nm x ≠ n) → keep n l = l
  | [], _ => rfl
  | x :: l, h => by
    have ih := keep_all (fun z hz => h z (List.mem_cons_of_mem _ hz))
    unfold keep at ih ⊢
    rw [List.filter_cons_of_pos (by simpa using h x List.mem_cons_self), ih]
theorem have_none {n : List UInt8} : ∀ {l : List S34} (h : Int), (∀ x ∈ l, nm x ≠ n) → haveOf n h l = h
  | [], _, _ => rfl
  | x :: l, h, hx => by
    unfold haveOf
    rw [List.foldl_cons, if_neg (hx x List.mem_cons_self)]
    exact have_none h (fun z hz => hx z (List.mem_cons_of_mem _ hz))
theorem kept_ev {l : List S34} (hl : l.length ≤ 6) (name : ByteArray) (c : Cut l name) (many cents : Int) :
    Ev (fun k => laws_a2Kept.f k l (c.A ++ putIn name many cents c.y :: c.B) (c.A ++ takenOut name cents c.y :: c.B) name) true := by
  obtain ⟨A, y, B, he, hA, hy, hB⟩ := c
  simp only
  have nA : ∀ x ∈ A, nm x ≠ name.toList := fun x hx e => by have := hA x hx; rw [e] at this; exact less_irr _ this
  have nB : ∀ x ∈ B, nm x ≠ name.toList := fun x hx e => by have := hB x hx; rw [e] at this; exact less_irr _ this
  have np : nm (putIn name many cents y) = name.toList := by cases y with
    | none => rfl
    | some z => exact hy z rfl
  have nt : nm (takenOut name cents y) = name.toList := by cases y with
    | none => rfl
    | some z => exact hy z rfl
  have hAB : A.length + B.length ≤ 6 := by rw [he] at hl; simp at hl; omega
  have hk : keep name.toList l = A ++ B := by
    rw [he]
    unfold keep
    rw [List.filter_append, List.filter_append]
    have k1 := keep_all nA
    have k2 := keep_all nB
    unfold keep at k1 k2
    rw [k1, k2]
    cases y with
    | none => rfl
    | some z =>
      have hz := hy z rfl
      rw [show (some z : Option S34).toList = [z] from rfl, List.filter_cons_of_neg (by simp [hz])]; rfl
  have hh : haveOf name.toList 0 l = wasIn y := by
    rw [he]
    unfold haveOf
    rw [List.foldl_append, List.foldl_append]
    have h1 := have_none (0 : Int) nA
    unfold haveOf at h1
    rw [h1]
    cases y with
    | none => exact have_none 0 nB
    | some z =>
      have hz := hy z rfl
      rw [show (some z : Option S34).toList = [z] from rfl, List.foldl_cons, if_pos hz, List.foldl_nil]
      exact have_none z.f1 nB
  unfold laws_a2Kept.f
  have hlen : (A ++ takenOut name cents y :: B).length ≤ 7 := by simp; omega
  refine kept0 l _ _ name true (by omega) l.length 0 0 [] (by omega) (by simp) ?_
  rw [List.drop_zero, hk, hh, List.nil_append]
  refine kept1 _ _ name (wasIn y) (A ++ B) (by omega) (by simp) (fun j hj => ?_) (fun x hx hxn => ?_) _ 0 [] (Nat.zero_add _) (by simp) ?_
  · have hj2 : j < (A ++ putIn name many cents y :: B).length := by simpa using hj
    rw [rd34 _ j hj, rd34 _ j hj2]
    rcases Nat.lt_trichotomy j A.length with h | h | h
    · rw [List.getElem_append_left h, List.getElem_append_left h]
    · subst h
      simp [nt, np]
    · rw [List.getElem_append_right (by omega), List.getElem_append_right (by omega)]
      obtain ⟨m, hm⟩ : ∃ m, j - A.length = m + 1 := ⟨j - A.length - 1, by omega⟩
      simp only [hm, List.getElem_cons_succ]
  · rcases List.mem_append.1 hx with e | e
    · exact absurd hxn (nA x e)
    · rcases List.mem_cons.1 e with e | e
      · rw [e]; cases y <;> rfl
      · exact absurd hxn (nB x e)
  · rw [List.drop_zero, List.nil_append]
    unfold keep
    rw [List.filter_append, List.filter_cons_of_neg (by simp [nt])]
    have k1 := keep_all nA
    have k2 := keep_all nB
    unfold keep at k1 k2
    rw [k1, k2]
end Go.Proofs.YtdjdillppgijmaaDoor.Qs
