/- FnRefills answers true: for all bytes. -/
import Derived.Test.YtdjdillppgijmaaDoorQsx15
import Derived.Test.YtdjdillppgijmaaDoorPlDraw
set_option linter.unusedVariables false
set_option linter.unusedSimpArgs false
namespace Go.Proofs.YtdjdillppgijmaaDoor.Pure
open Go.RowKit Go.Proofs.YtdjdillppgijmaaDoor.Qs Go.Proofs.YtdjdillppgijmaaDoor.Pl Go.Proofs.YtdjdillppgijmaaDoorW.PrintWords Go.Proofs.YtdjdillppgijmaaDoorW.PrintLast

theorem code_of {l : List Int} (h : ∀ x ∈ l, (Lit.int .u8 x).wf = true) : isCode l := fun x hx => by
  have := h x hx
  simp only [Lit.wf, Bool.and_eq_true, decide_eq_true_eq] at this
  exact this
theorem has_loop (l : List Int) (x : Int) (hl : l.length ≤ 1000000) (d : Nat) : ∀ i : Nat, i + d = l.length → Ev (fun k => laws_a2Has.l0 k l x (i : Int)) (decide (x ∈ l.drop i)) := by
  induction d with
  | zero =>
    intro i hi
    rw [List.drop_eq_nil_of_le (by omega)]
    exact Ev.step (f := fun _ => some false) (fun k => by simp only [laws_a2Has.l0]; rw [if_neg (by omega)]) (by simpa using Ev.now false)
  | succ d ih =>
    intro i hi
    have hlt : i < l.length := by omega
    have e : rd l (i : Int) = l[i] := by rw [rdi_nat]; simp [List.getD, hlt]
    rw [List.drop_eq_getElem_cons hlt]
    by_cases h : l[i] = x
    · refine Ev.step (f := fun _ => some true) (fun k => by simp only [laws_a2Has.l0]; rw [if_pos (by omega), if_pos (by omega), e, if_pos h]) ?_
      rw [decide_eq_true (by simp [h])]; exact Ev.now true
    · refine Ev.step (f := fun k => laws_a2Has.l0 k l x ((i + 1 : Nat) : Int)) (fun k => by simp only [laws_a2Has.l0]; rw [if_pos (by omega), if_pos (by omega), e, if_neg h, succ_nat i (by omega)]) ?_
      have := ih (i + 1) (by omega)
      have e2 : decide (x ∈ l[i] :: l.drop (i + 1)) = decide (x ∈ l.drop (i + 1)) := by
        rw [Bool.eq_iff_iff]; simp only [decide_eq_true_eq, List.mem_cons]
        exact ⟨fun hh => hh.resolve_left (fun e => h e.symm), .inr⟩
      rw [e2]; exact this
theorem has_ev (l : List Int) (x : Int) (hl : l.length ≤ 1000000) : Ev (fun k => laws_a2Has.f k l x) (decide (x ∈ l)) := by
  unfold laws_a2Has.f
  have := has_loop l x hl l.length 0 (by omega)
  simpa using this
theorem rises_loop (l : List Int) (n : Int) (hl : l.length ≤ 1000000) (hb : ∀ x ∈ l, 0 ≤ x ∧ x < n) (hs : l.Pairwise (· < ·)) (d : Nat) : ∀ i : Nat, i + d = l.length → Ev (fun k => laws_a2Rises.l0 k l n (i : Int)) true := by
  induction d with
  | zero =>
    intro i hi
    exact Ev.step (f := fun _ => some true) (fun k => by simp only [laws_a2Rises.l0]; rw [if_neg (by omega)]) (Ev.now true)
  | succ d ih =>
    intro i hi
    have hlt : i < l.length := by omega
    have e : rd l (i : Int) = l[i] := by rw [rdi_nat]; simp [List.getD, hlt]
    have hx := hb _ (List.getElem_mem hlt)
    refine Ev.step (f := fun k => laws_a2Rises.l0 k l n ((i + 1 : Nat) : Int)) (fun k => ?_) (ih (i + 1) (by omega))
    simp only [laws_a2Rises.l0]
    rw [if_pos (by omega), if_pos (by omega), e, if_neg (by omega), if_neg (by omega), succ_nat i (by omega)]
    by_cases h0 : (i : Int) > 0
    · have e1 : wrap64 ((i : Int) - 1) = ((i - 1 : Nat) : Int) := by rw [w64 (by omega) (by omega)]; omega
      have e2 : rd l ((i - 1 : Nat) : Int) = l[i - 1] := by rw [rdi_nat]; simp [List.getD, show i - 1 < l.length by omega]
      have hp := List.pairwise_iff_getElem.1 hs (i - 1) i (by omega) hlt (by omega)
      rw [if_pos h0, e1, if_pos (by omega), if_pos (by omega), e2, if_neg (by omega)]
    · rw [if_neg h0]
theorem rises_ev (l : List Int) (n : Int) (hl : l.length ≤ 1000000) (hb : ∀ x ∈ l, 0 ≤ x ∧ x < n) (hs : l.Pairwise (· < ·)) : Ev (fun k => laws_a2Rises.f k l n) true := by
  unfold laws_a2Rises.f
  exact rises_loop l n hl hb hs l.length 0 (by omega)
theorem at_ok {l : List Int} (h : isCode l) : ∃ v, laws_a2At.f l 0 200 = some v ∧ 0 ≤ v ∧ v < 200 := by
  unfold laws_a2At.f
  by_cases c : (0 : Int) ≥ (l.length : Int)
  · rw [if_pos c]; exact ⟨0, rfl, by omega, by omega⟩
  · have hr := rd_code h 0
    rw [if_neg c, if_neg (by omega), if_pos (by omega), if_pos (by omega), if_neg (by omega), w64 (by omega) (by omega)]
    refine ⟨_, rfl, ?_, ?_⟩
    · rw [Int.tmod_eq_emod_of_nonneg hr.1]; exact Int.emod_nonneg _ (by omega)
    · rw [Int.tmod_eq_emod_of_nonneg hr.1]; exact Int.emod_lt_of_pos _ (by omega)

/-- one item more fits into a sublist -/
theorem one_more (f : Int → Int) {B l : List Int} (h : B.Sublist l) {x : Int} (hx : x ∈ l) (hn : x ∉ B) : ∃ S, S.Sublist l ∧ S.length = B.length + 1 ∧ costL f S = costL f B + f x := by
  induction h with
  | slnil => cases hx
  | @cons B l a h ih =>
    by_cases e : x = a
    · subst e
      exact ⟨x :: B, h.cons_cons x, by simp, by rw [costL_cons]; omega⟩
    · obtain ⟨S, h1, h2, h3⟩ := ih (by rcases List.mem_cons.1 hx with h | h; exact absurd h e; exact h) hn
      exact ⟨S, h1.cons a, h2, h3⟩
  | @cons_cons B l a h ih =>
    have hn' : ¬ (x = a ∨ x ∈ B) := fun e => hn (List.mem_cons.2 e)
    obtain ⟨S, h1, h2, h3⟩ := ih (by rcases List.mem_cons.1 hx with h | h; exact absurd (.inl h) hn'; exact h) (fun h => hn' (.inr h))
    exact ⟨a :: S, h1.cons_cons a, by simp [h2], by rw [costL_cons, costL_cons, h3]; omega⟩

theorem left_loop (l : List S34) (hv : validB l = true) (budget : Int) (hbud : budget ≤ 1000000000) (B : List Int) (b : Int) (hB : Best (need l) (shortL l) budget B b) (hb0 : 0 ≤ b) (d : Nat) :
    ∀ i : Nat, i + d = (shortL l).length → Ev (fun k => laws_FnRefills.l1 k l budget B b (shortL l) (i : Int)) true := by
  have hlen := valid_len hv
  have hsl := short_length l
  have hBl := hB.sub.length_le
  induction d with
  | zero =>
    intro i hi
    exact Ev.step (f := fun _ => some true) (fun k => by simp only [laws_FnRefills.l1]; rw [if_neg (by omega)]) (Ev.now true)
  | succ d ih =>
    intro i hi
    have hlt : i < (shortL l).length := by omega
    have e : rd (shortL l) (i : Int) = (shortL l)[i] := by rw [rdi_nat]; simp [List.getD, hlt]
    have hm := List.getElem_mem hlt
    obtain ⟨h0, h1, h2⟩ := short_mem hm
    obtain ⟨a1, a2, a3⟩ := valid_item hv _ h0 h1
    have hn := need_bd hv hm
    have e1 : wrap64 ((rd_T34 l (shortL l)[i]).f2 - (rd_T34 l (shortL l)[i]).f1) = (rd_T34 l (shortL l)[i]).f2 - (rd_T34 l (shortL l)[i]).f1 := w64 (by omega) (by omega)
    have e2 : wrap64 (((rd_T34 l (shortL l)[i]).f2 - (rd_T34 l (shortL l)[i]).f1) * (rd_T34 l (shortL l)[i]).f3) = need l (shortL l)[i] := w64 (by unfold need at hn; omega) (by unfold need at hn; omega)
    have hf := hB.fits
    have e3 : wrap64 (b + need l (shortL l)[i]) = b + need l (shortL l)[i] := w64 (by omega) (by omega)
    refine Ev.step (f := fun k => (laws_a2Has.f k B (shortL l)[i]).bind fun t => if t = true then laws_FnRefills.l1 k l budget B b (shortL l) ((i + 1 : Nat) : Int) else if b + need l (shortL l)[i] ≤ budget then some false else laws_FnRefills.l1 k l budget B b (shortL l) ((i + 1 : Nat) : Int)) (fun k => by
      simp only [laws_FnRefills.l1]
      rw [if_pos (by omega), if_pos (by omega), e, if_pos h0, if_pos h1, e1, e2, e3, succ_nat i (by omega)]) ?_
    refine Ev.bind (has_ev B _ (by omega)) ?_
    by_cases c : (shortL l)[i] ∈ B
    · simp only [decide_eq_true c, if_true]
      exact ih (i + 1) (by omega)
    · have : ¬ b + need l (shortL l)[i] ≤ budget := by
        intro hle
        obtain ⟨S, g1, g2, g3⟩ := one_more (need l) hB.sub hm c
        rw [hB.cost] at g3
        exact hB.top S g1 (by omega) (.inl (by omega))
      simp only [decide_eq_false c, Bool.false_eq_true, if_false, if_neg this]
      exact ih (i + 1) (by omega)
theorem sum_loop (l : List S34) (hv : validB l = true) (budget : Int) (hbud : budget ≤ 1000000000) (B : List Int) (b : Int) (hB : Best (need l) (shortL l) budget B b) (hb0 : 0 ≤ b) (d : Nat) :
    ∀ (i : Nat) (acc : Int), i + d = B.length → acc = costL (need l) (B.take i) → Ev (fun k => laws_FnRefills.l0 k l budget B b (shortL l) acc (i : Int)) true := by
  have hlen := valid_len hv
  have hsl := short_length l
  have hBl := hB.sub.length_le
  induction d with
  | zero =>
    intro i acc hi ha
    rw [List.take_of_length_le (by omega), hB.cost] at ha
    refine Ev.step (f := fun k => laws_FnRefills.l1 k l budget B b (shortL l) ((0 : Nat) : Int)) (fun k => by simp only [laws_FnRefills.l0]; rw [if_neg (by omega), if_pos ha]; rfl) ?_
    exact left_loop l hv budget hbud B b hB hb0 (shortL l).length 0 (by omega)
  | succ d ih =>
    intro i acc hi ha
    have hlt : i < B.length := by omega
    have e : rd B (i : Int) = B[i] := by rw [rdi_nat]; simp [List.getD, hlt]
    have hm : B[i] ∈ shortL l := hB.sub.subset (List.getElem_mem hlt)
    obtain ⟨h0, h1, h2⟩ := short_mem hm
    obtain ⟨a1, a2, a3⟩ := valid_item hv _ h0 h1
    have hn := need_bd hv hm
    have hc := costL_bd hv (B.take i) (fun y hy => hB.sub.subset (List.mem_of_mem_take hy))
    rw [List.length_take] at hc
    have e1 : wrap64 ((rd_T34 l B[i]).f2 - (rd_T34 l B[i]).f1) = (rd_T34 l B[i]).f2 - (rd_T34 l B[i]).f1 := w64 (by omega) (by omega)
    have e2 : wrap64 (((rd_T34 l B[i]).f2 - (rd_T34 l B[i]).f1) * (rd_T34 l B[i]).f3) = need l B[i] := w64 (by unfold need at hn; omega) (by unfold need at hn; omega)
    have e3 : wrap64 (acc + need l B[i]) = acc + need l B[i] := w64 (by omega) (by omega)
    refine Ev.step (f := fun k => (laws_a2Has.f k (shortL l) B[i]).bind fun t => if t = true then laws_FnRefills.l0 k l budget B b (shortL l) (acc + need l B[i]) ((i + 1 : Nat) : Int) else some false) (fun k => by
      simp only [laws_FnRefills.l0]
      rw [if_pos (by omega), if_pos (by omega), e, if_pos h0, if_pos h1, e1, e2, e3, succ_nat i (by omega)]) ?_
    refine Ev.bind (has_ev (shortL l) _ (by omega)) ?_
    simp only [decide_eq_true hm, if_true]
    refine ih (i + 1) _ (by omega) ?_
    rw [List.take_succ_eq_append_getElem hlt, costL_append, ha]
    simp [costL]

theorem FnRefills : laws_FnRefills.Pure := by
  intro l0 l1 hm0 _ hw0 hm1 _ hw1
  have hc0 := code_of hw0
  have hc1 := code_of hw1
  refine Ev.rounds ?_
  unfold laws_FnRefills.f
  have hlong : ∃ t, laws_a2Long.f l0 l1 = some t := by unfold laws_a2Long.f; split <;> exact ⟨_, rfl⟩
  obtain ⟨t, ht⟩ := hlong
  rw [ht]; simp only [Option.bind_some]
  cases t with
  | true => simpa using Ev.now true
  | false =>
    simp only [Bool.false_eq_true, if_false]
    obtain ⟨l, hv, hl6, hst⟩ := stock_ok hc0
    obtain ⟨v, hat, v0, v1⟩ := at_ok hc1
    have e1 : wrap64 (10 * v) = 10 * v := w64 (by omega) (by omega)
    have e2 : wrap64 (10 * v + 100) = 10 * v + 100 := w64 (by omega) (by omega)
    have hsl := short_length l
    obtain ⟨B, b, hB, hBe⟩ := refill_ok l hv (10 * v) (by omega) (by omega) (by omega)
    obtain ⟨W, c, hW, hWe⟩ := refill_ok l hv (10 * v + 100) (by omega) (by omega) (by omega)
    have hBl := hB.sub.length_le
    have hb0 : 0 ≤ b := by rw [← hB.cost]; exact (costL_bd hv B (fun y hy => hB.sub.subset hy)).1
    have hf := hB.fits
    have hlenW : ¬ (W.length : Int) < (B.length : Int) := by
      intro hlt
      have := hW.top B hB.sub (by rw [hB.cost]; omega)
      exact this (.inl (by omega))
    have hris := rises_ev B (l.length : Int) (by omega) (fun x hx => by have := short_mem (hB.sub.subset hx); omega) ((short_sorted l).sublist hB.sub)
    refine Ev.bind hst ?_
    simp only [hat, Option.bind_some, e1, e2]
    refine Ev.bind hBe ?_
    refine Ev.bind hWe ?_
    have hshort : Ev (fun k => spec_ShortItems.f k l) (shortL l, 0) := by
      unfold spec_ShortItems.f spec_l23Ok.f impl_ValidStock.f
      simp only [if_pos (show l.length ≤ 1000000000 by omega), Option.bind_some, hv, if_true]
      exact Ev.bind (f := fun _ t => some (t, 0)) (short2_ev l (by omega)) (Ev.now _)
    refine Ev.bind hshort ?_
    simp only [if_true]
    refine Ev.bind hris ?_
    simp only [if_true, if_neg (show ¬ b < 0 by omega), if_neg (show ¬ b > 10 * v by omega), if_neg hlenW]
    refine Ev.step (f := fun k => laws_FnRefills.l0 k l (10 * v) B b (shortL l) 0 ((0 : Nat) : Int)) (fun k => by simp only [laws_FnRefills.j0]; rfl) ?_
    exact sum_loop l hv (10 * v) (by omega) B b hB hb0 B.length 0 0 (by omega) (by simp [costL])
end Go.Proofs.YtdjdillppgijmaaDoor.Pure
