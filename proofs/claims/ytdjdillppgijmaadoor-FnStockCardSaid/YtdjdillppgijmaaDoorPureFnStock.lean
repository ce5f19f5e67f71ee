/- FnStock answers true: for all bytes. -/
import Derived.Test.YtdjdillppgijmaaDoorQsx25
import Derived.Test.YtdjdillppgijmaaDoorStkJoin
import Derived.Test.YtdjdillppgijmaaDoorPlBytes
import Derived.Test.YtdjdillppgijmaaDoorPlShort
set_option linter.unusedVariables false
set_option linter.unusedSimpArgs false
namespace Go.Proofs.YtdjdillppgijmaaDoor.Pure
open Go.RowKit Go.Proofs.YtdjdillppgijmaaDoor.Qs Go.Proofs.YtdjdillppgijmaaDoor.Pl Go.Proofs.YtdjdillppgijmaaDoorW.PrintWords Go.Proofs.YtdjdillppgijmaaDoorW.PrintLast Go.Proofs.YtdjdillppgijmaaDoorW.PrintMore

theorem a2_at {l : List Int} (h : isCode l) (a n : Int) (ha : 0 ≤ a) (hn : 1 ≤ n ∧ n ≤ 200) : ∃ v, laws_a2At.f l a n = some v ∧ 0 ≤ v ∧ v < n := by
  unfold laws_a2At.f
  by_cases c : a ≥ (l.length : Int)
  · rw [if_pos c]; exact ⟨0, rfl, by omega, by omega⟩
  · have hr := rd_code h a
    rw [if_neg c, if_neg (by omega), if_pos (by omega), if_pos (by omega), if_neg (by omega), w64 (by omega) (by omega)]
    refine ⟨_, rfl, ?_, ?_⟩
    · rw [Int.tmod_eq_emod_of_nonneg hr.1]; exact Int.emod_nonneg _ (by omega)
    · rw [Int.tmod_eq_emod_of_nonneg hr.1]; exact Int.emod_lt_of_pos _ (by omega)
def names7 : List ByteArray := [(⟨#[98, 114, 97, 115, 115]⟩ : ByteArray), (⟨#[103, 108, 117, 101]⟩ : ByteArray), (⟨#[105, 110, 107]⟩ : ByteArray), (⟨#[112, 97, 112, 101, 114]⟩ : ByteArray), (⟨#[112, 108, 97, 116, 101, 45, 50]⟩ : ByteArray), (⟨#[118, 97, 114, 110, 105, 115, 104]⟩ : ByteArray), (⟨#[119, 97, 120]⟩ : ByteArray)]
theorem names7_ok : ∀ s ∈ names7, isName s = true := by decide +kernel
theorem names7_len : names7.length = 7 := by decide
/-- Worth and need so far. -/
def worthTo (l : List S34) : Nat → Int
  | 0 => 0
  | i + 1 => worthTo l i + (rd_T34 l (i : Int)).f1 * (rd_T34 l (i : Int)).f3
def needTo (l : List S34) : Nat → Int
  | 0 => 0
  | i + 1 => needTo l i + (if isShort l i = true then need l (i : Int) else 0)
theorem worthTo_succ (l : List S34) (i : Nat) : worthTo l i + (rd_T34 l (i : Int)).f1 * (rd_T34 l (i : Int)).f3 = worthTo l (i + 1) := rfl
theorem need_to (l : List S34) (d : Nat) : ∀ i : Nat, costL (need l) (shortFrom l i d) + needTo l i = needTo l (i + d) := by
  induction d with
  | zero => intro i; simp [shortFrom, costL]
  | succ d ih =>
    intro i
    have := ih (i + 1)
    rw [shortFrom_succ, show i + (d + 1) = i + 1 + d by omega, ← this]
    simp only [needTo]
    by_cases h : isShort l i = true
    · rw [if_pos h, if_pos h, costL_cons]; omega
    · rw [if_neg h, if_neg h]; omega
theorem prod_bd {a b : Int} (ha : 0 ≤ a ∧ a ≤ 60) (hb : 0 ≤ b ∧ b ≤ 60) : 0 ≤ a * b ∧ a * b ≤ 3600 :=
  ⟨Int.mul_nonneg ha.1 hb.1, by
    have h1 : a * b ≤ 60 * b := Int.mul_le_mul_of_nonneg_right ha.2 hb.1
    omega⟩
theorem tiny_rd {l : List S34} (ht : ∀ x ∈ l, Tiny x) (i : Nat) (h : i < l.length) : Tiny (rd_T34 l (i : Int)) := by rw [rd34 l i h]; exact ht _ (List.getElem_mem h)
theorem worth_bd {l : List S34} (ht : ∀ x ∈ l, Tiny x) : ∀ i : Nat, i ≤ l.length → 0 ≤ worthTo l i ∧ worthTo l i ≤ 3600 * i
  | 0, _ => ⟨Int.le_refl _, Int.le_refl _⟩
  | i + 1, h => by
    obtain ⟨t0, t1, t2, t3⟩ := tiny_rd ht i (by omega)
    have h1 := worth_bd ht i (by omega)
    have h2 := prod_bd (show 0 ≤ (rd_T34 l (i : Int)).f1 ∧ (rd_T34 l (i : Int)).f1 ≤ 60 by omega) (show 0 ≤ (rd_T34 l (i : Int)).f3 ∧ (rd_T34 l (i : Int)).f3 ≤ 60 by omega)
    simp only [worthTo]
    omega
theorem needTo_bd {l : List S34} (ht : ∀ x ∈ l, Tiny x) : ∀ i : Nat, i ≤ l.length → 0 ≤ needTo l i ∧ needTo l i ≤ 3600 * i
  | 0, _ => ⟨Int.le_refl _, Int.le_refl _⟩
  | i + 1, h => by
    obtain ⟨t0, t1, t2, t3⟩ := tiny_rd ht i (by omega)
    have h1 := needTo_bd ht i (by omega)
    simp only [needTo]
    split
    · rename_i hs
      have hs' : (rd_T34 l (i : Int)).f1 < (rd_T34 l (i : Int)).f2 := of_decide_eq_true hs
      have h2 := prod_bd (show 0 ≤ (rd_T34 l (i : Int)).f2 - (rd_T34 l (i : Int)).f1 ∧ (rd_T34 l (i : Int)).f2 - (rd_T34 l (i : Int)).f1 ≤ 60 by omega) (show 0 ≤ (rd_T34 l (i : Int)).f3 ∧ (rd_T34 l (i : Int)).f3 ≤ 60 by omega)
      unfold need
      omega
    · omega
theorem worth_loop (l : List S34) (hl : l.length ≤ 6) (ht : ∀ x ∈ l, Tiny x) (d : Nat) : ∀ i : Nat, i + d = l.length → Ev (fun k => impl_WorthOfStock.l0 k (worthTo l i) l (l.length : Int) (i : Int)) (worthTo l l.length, 0) := by
  induction d with
  | zero =>
    intro i hi
    obtain rfl : i = l.length := by omega
    refine Ev.step (f := fun _ => some (worthTo l l.length, 0)) (fun k => ?_) (Ev.now _)
    simp only [impl_WorthOfStock.l0]
    rw [if_neg (by omega)]
  | succ d ih =>
    intro i hi
    obtain ⟨t0, t1, t2, t3⟩ := tiny_rd ht i (by omega)
    have h1 := worth_bd ht i (by omega)
    have h2 := prod_bd (show 0 ≤ (rd_T34 l (i : Int)).f1 ∧ (rd_T34 l (i : Int)).f1 ≤ 60 by omega) (show 0 ≤ (rd_T34 l (i : Int)).f3 ∧ (rd_T34 l (i : Int)).f3 ≤ 60 by omega)
    refine Ev.step (fun k => ?_) (ih (i + 1) (by omega))
    simp only [impl_WorthOfStock.l0]
    rw [if_pos (by omega), if_pos (by omega), if_pos (by omega), nx i (by omega), w64 (show -9223372036854775808 ≤ (rd_T34 l (i : Int)).f1 * (rd_T34 l (i : Int)).f3 by omega) (by omega), w64 (by omega) (by omega), worthTo_succ]
theorem need_step (l : List S34) (ht : ∀ x ∈ l, Tiny x) (i : Nat) (hi : i < l.length) (hl6 : l.length ≤ 6 := by omega) :
    wrap64 (needTo l i + (wrap64 ((mx 0 (wrap64 (((rd_T34 l (i : Int)).f2) - ((rd_T34 l (i : Int)).f1)))) * ((rd_T34 l (i : Int)).f3)))) = needTo l (i + 1) := by
    obtain ⟨t0, t1, t2, t3⟩ := tiny_rd ht i hi
    have h3 := needTo_bd ht i (by omega)
    rw [w64 (show -9223372036854775808 ≤ (rd_T34 l (i : Int)).f2 - (rd_T34 l (i : Int)).f1 by omega) (by omega)]
    simp only [needTo]
    by_cases hsh : (rd_T34 l (i : Int)).f1 < (rd_T34 l (i : Int)).f2
    · have hm : mx 0 ((rd_T34 l (i : Int)).f2 - (rd_T34 l (i : Int)).f1) = (rd_T34 l (i : Int)).f2 - (rd_T34 l (i : Int)).f1 := by unfold mx; split <;> omega
      have h4 := prod_bd (show 0 ≤ (rd_T34 l (i : Int)).f2 - (rd_T34 l (i : Int)).f1 ∧ (rd_T34 l (i : Int)).f2 - (rd_T34 l (i : Int)).f1 ≤ 60 by omega) (show 0 ≤ (rd_T34 l (i : Int)).f3 ∧ (rd_T34 l (i : Int)).f3 ≤ 60 by omega)
      rw [hm, if_pos (show isShort l i = true from decide_eq_true hsh), w64 (show -9223372036854775808 ≤ ((rd_T34 l (i : Int)).f2 - (rd_T34 l (i : Int)).f1) * (rd_T34 l (i : Int)).f3 by omega) (by omega), w64 (by omega) (by omega)]
      rfl
    · have hm : mx 0 ((rd_T34 l (i : Int)).f2 - (rd_T34 l (i : Int)).f1) = 0 := by unfold mx; split <;> omega
      have hns : ¬ isShort l i = true := by unfold isShort; simpa using hsh
      rw [hm, if_neg hns, Int.zero_mul, w64 (show -9223372036854775808 ≤ (0 : Int) by omega) (by omega), Int.add_zero, w64 (by omega) (by omega)]
theorem stock_end (l1 : List Int) (l other : List S34) (name : ByteArray) (put taken : List S34) (hst : Ev (fun k => spec_A2Stock.f k l1) other)
    (hs : Srt l) (hl : l.length ≤ 6) (ht : ∀ x ∈ l, Tiny x) (os : Srt other) (ol : other.length ≤ 6) (ot : ∀ x ∈ other, Tiny x)
    (hk : Ev (fun k => laws_a2Kept.f k l put taken name) true) :
    Ev (fun k => laws_FnStock.l0 k l1 l name put taken (worthTo l l.length) (needTo l l.length) (shortL l) (worthTo l l.length) (needTo l l.length) (l.length : Int)) true := by
  obtain ⟨v1, e1⟩ := join_good hs hl ht os ol ot
  obtain ⟨v2, e2⟩ := join_good os ol ot hs hl ht
  have hcm := join_comm l other hs os
  have hlen := joinL_length other l
  have hlen2 := joinL_length l other
  rw [← hcm] at hlen2 e2
  refine Ev.step (f := fun k => laws_FnStock.l0 (k + 1) l1 l name put taken (worthTo l l.length) (needTo l l.length) (shortL l) (worthTo l l.length) (needTo l l.length) (l.length : Int)) (fun k => rfl) ?_
  simp only [laws_FnStock.l0]
  simp only [if_neg (show ¬ ((l.length : Int) < (l.length : Int)) by omega)]
  refine Ev.bind hst (Ev.bind e1 (Ev.bind e2 ?_))
  have hw : wrap64 ((l.length : Int) + (other.length : Int)) = (l.length : Int) + (other.length : Int) := w64 (by omega) (by omega)
  have hmx : (joinL l other).length ≥ mx (l.length : Int) (other.length : Int) := by unfold mx; split <;> omega
  have hve : impl_ValidStock.f (joinL l other) = some true := by rw [valid_eq (joinL l other) (Nat.le_trans hlen.2 (by omega)), v1]
  simp only [if_true]
  have hvs : spec_ValidStock.f (joinL l other) = some true := by unfold spec_ValidStock.f spec_l23Ok.f; rw [hve]; rfl
  refine Ev.bind (g := fun _ => spec_ValidStock.f (joinL l other)) (a := true) (by rw [hvs]; exact Ev.now true) ?_
  simp only [if_true]
  refine Ev.bind (same_ev (joinL l other) (by omega)) ?_
  simp only [if_true, hw, if_pos (show ((joinL l other).length : Int) ≤ (l.length : Int) + (other.length : Int) by omega), if_pos hmx]
  exact Ev.bind (f := fun _ t => some t) hk (Ev.now true)
theorem stock_loop (l1 : List Int) (l other : List S34) (name : ByteArray) (put taken : List S34) (hst : Ev (fun k => spec_A2Stock.f k l1) other)
    (hs : Srt l) (hl : l.length ≤ 6) (ht : ∀ x ∈ l, Tiny x) (os : Srt other) (ol : other.length ≤ 6) (ot : ∀ x ∈ other, Tiny x)
    (hk : Ev (fun k => laws_a2Kept.f k l put taken name) true) (d : Nat) : ∀ i : Nat, i + d = l.length →
    Ev (fun k => laws_FnStock.l0 k l1 l name put taken (worthTo l l.length) (needTo l l.length) (shortL l) (worthTo l i) (needTo l i) (i : Int)) true := by
  have hsl := short_length l
  induction d with
  | zero =>
    intro i hi
    obtain rfl : i = l.length := by omega
    exact stock_end l1 l other name put taken hst hs hl ht os ol ot hk
  | succ d ih =>
    intro i hi
    obtain ⟨t0, t1, t2, t3⟩ := tiny_rd ht i (by omega)
    have h1 := worth_bd ht i (by omega)
    have h2 := prod_bd (show 0 ≤ (rd_T34 l (i : Int)).f1 ∧ (rd_T34 l (i : Int)).f1 ≤ 60 by omega) (show 0 ≤ (rd_T34 l (i : Int)).f3 ∧ (rd_T34 l (i : Int)).f3 ≤ 60 by omega)
    have h3 := needTo_bd ht i (by omega)
    have hmem : decide ((i : Int) ∈ shortL l) = decide ((rd_T34 l (i : Int)).f1 < (rd_T34 l (i : Int)).f2) := by
      rw [Bool.eq_iff_iff]; simp only [decide_eq_true_eq]
      exact ⟨fun h => (short_mem h).2.2, fun h => mem_short (by omega) (by omega) h⟩
    have hneed := need_step l ht i (by omega) hl
    have hws : wrap64 (worthTo l (i + 1)) = worthTo l (i + 1) := by have := worth_bd ht (i + 1) (by omega); exact w64 (by omega) (by omega)
    refine Ev.step (f := fun k => laws_FnStock.l0 (k + 1) l1 l name put taken (worthTo l l.length) (needTo l l.length) (shortL l) (worthTo l i) (needTo l i) (i : Int)) (fun k => rfl) ?_
    simp only [laws_FnStock.l0]
    simp only [if_pos (show (i : Int) < (l.length : Int) by omega), if_pos (show (0 : Int) ≤ (i : Int) by omega)]
    refine Ev.bind (has_ev (shortL l) (i : Int) (by omega)) ?_
    simp only [hmem, bne_self_eq_false, Bool.false_eq_true, if_false, hneed, nx i (by omega), w64 (show -9223372036854775808 ≤ (rd_T34 l (i : Int)).f1 * (rd_T34 l (i : Int)).f3 by omega) (show (rd_T34 l (i : Int)).f1 * (rd_T34 l (i : Int)).f3 ≤ 9223372036854775807 by omega), w64 (show -9223372036854775808 ≤ worthTo l i + (rd_T34 l (i : Int)).f1 * (rd_T34 l (i : Int)).f3 by omega) (show worthTo l i + (rd_T34 l (i : Int)).f1 * (rd_T34 l (i : Int)).f3 ≤ 9223372036854775807 by omega), worthTo_succ, hws]
    exact ih (i + 1) (by omega)

theorem FnStock : laws_FnStock.Pure := by
  intro l0 l1 hm0 _ hw0 hm1 _ hw1
  have hc0 := code_of hw0
  have hc1 := code_of hw1
  refine Ev.rounds ?_
  unfold laws_FnStock.f
  have hlong : ∃ t, laws_a2Long.f l0 l1 = some t := by unfold laws_a2Long.f; split <;> exact ⟨_, rfl⟩
  obtain ⟨t, ht⟩ := hlong
  rw [ht]; simp only [Option.bind_some]
  cases t with
  | true => simpa using Ev.now true
  | false =>
    simp only [Bool.false_eq_true, if_false]
    obtain ⟨l, hs, hl6, htl, hst⟩ := stock2_ok hc0
    obtain ⟨other, os, ol6, otl, ost⟩ := stock2_ok hc1
    obtain ⟨v, hat, v0, v1⟩ := a2_at hc1 0 7 (by omega) (by omega)
    obtain ⟨m, hmt, m0, m1⟩ := a2_at hc1 1 20 (by omega) (by omega)
    obtain ⟨c, hct, c0, c1⟩ := a2_at hc1 2 60 (by omega) (by omega)
    refine Ev.bind hst ?_
    have hname : rdOf ByteArray.empty names7 v ∈ names7 := by
      unfold rdOf
      have : v.toNat < names7.length := by rw [names7_len]; omega
      rw [List.getD_eq_getElem?_getD, List.getElem?_eq_getElem this]
      exact List.getElem_mem this
    have hn := names7_ok _ hname
    have hn7 : v < (names7.length : Int) := by rw [names7_len]; omega
    have hw : wrap64 (1 + m) = 1 + m := w64 (by omega) (by omega)
    simp only [Option.bind_some, show ([(⟨#[98, 114, 97, 115, 115]⟩ : ByteArray), (⟨#[103, 108, 117, 101]⟩ : ByteArray), (⟨#[105, 110, 107]⟩ : ByteArray), (⟨#[112, 97, 112, 101, 114]⟩ : ByteArray), (⟨#[112, 108, 97, 116, 101, 45, 50]⟩ : ByteArray), (⟨#[118, 97, 114, 110, 105, 115, 104]⟩ : ByteArray), (⟨#[119, 97, 120]⟩ : ByteArray)] : List ByteArray) = names7 from rfl, hat, if_pos v0, if_pos hn7, hmt, hct, hw]
    generalize rdOf ByteArray.empty names7 v = name at hn
    obtain ⟨cut⟩ := cut_of hs name
    have hmany : (1 : Int) ≤ 1 + m ∧ 1 + m ≤ 20 := by omega
    have hcents : (0 : Int) ≤ c ∧ c < 60 := by omega
    obtain ⟨vp, ep⟩ := put_cut hs hl6 htl name hn cut (1 + m) c hmany hcents
    have et := take_cut hs hl6 htl name hn cut (1 + m) c hmany hcents
    have hk := kept_ev hl6 name cut (1 + m) c
    have hvl : validB l = true := srt_valid hs (by omega) (fun x hx => (htl x hx).item)
    have hlp := valid_le vp
    refine Ev.bind ep (Ev.bind et ?_)
    have hworth : Ev (fun k => impl_WorthOfStock.f k l) (worthTo l l.length, 0) := by
      unfold impl_WorthOfStock.f
      simp only [valid_eq l (by omega), hvl, Option.bind_some, if_true]
      exact worth_loop l hl6 htl l.length 0 (by omega)
    have hsl := short_length l
    have hshort : Ev (fun k => impl_ShortItems.f k l) (shortL l, 0) := by
      unfold impl_ShortItems.f
      simp only [valid_eq l (by omega), hvl, Option.bind_some, if_true]
      exact Ev.bind (f := fun _ t => some (t, 0)) (short_ev l (by omega)) (Ev.now _)
    have hcost : Ev (fun k => impl_RefillCost.f k l) (needTo l l.length, 0) := by
      unfold impl_RefillCost.f
      simp only [valid_eq l (by omega), hvl, Option.bind_some, if_true]
      have hn0 := need_to l l.length 0
      simp only [needTo, Int.add_zero, Nat.zero_add] at hn0
      refine Ev.bind (f := fun k t => (impl_refillCost.f k l t).bind fun u => some (u, 0)) (short_ev l (by omega)) ?_
      refine Ev.bind (f := fun _ u => some (u, 0)) (cost_ev l hvl (shortL l) (fun x hx => hx) (by omega)) ?_
      rw [show costL (need l) (shortL l) = needTo l l.length from hn0]
      exact Ev.now _
    have hris := rises_ev (shortL l) (l.length : Int) (by omega) (fun x hx => by have := short_mem hx; omega) (short_sorted l)
    refine Ev.bind hworth (Ev.bind hcost (Ev.bind hshort ?_))
    have hlen : ((cut.A ++ takenOut name c cut.y :: cut.B).length : Int) = ((cut.A ++ putIn name (1 + m) c cut.y :: cut.B).length : Int) := by simp
    simp only [if_true, spec_ValidStock.f, spec_l23Ok.f, valid_eq _ (show (cut.A ++ putIn name (1 + m) c cut.y :: cut.B).length ≤ 1000000000 by omega), vp, Option.bind_some, if_pos hlen]
    refine Ev.bind hris ?_
    simp only [Bool.not_true]
    refine Ev.step (f := fun k => laws_FnStock.l0 k l1 l name (cut.A ++ putIn name (1 + m) c cut.y :: cut.B) (cut.A ++ takenOut name c cut.y :: cut.B) (worthTo l l.length) (needTo l l.length) (shortL l) 0 0 ((0 : Nat) : Int)) (fun k => ?_) ?_
    · simp only [laws_FnStock.j0, Bool.false_eq_true, if_false]; rfl
    · exact stock_loop l1 l other name _ _ ost hs hl6 htl os ol6 otl hk l.length 0 (by omega)
end Go.Proofs.YtdjdillppgijmaaDoor.Pure
