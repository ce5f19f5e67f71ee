/- RefillWithin, for a stock in order with at most ten short items: the best set within the budget, and its cost. -/
import Derived.Test.YtdjdillppgijmaaDoorPlRefill
set_option linter.unusedVariables false
set_option linter.unusedSimpArgs false
namespace Go.Proofs.YtdjdillppgijmaaDoor.Qs
open Go.RowKit Go.Proofs.YtdjdillppgijmaaDoorW.PrintWords Go.Proofs.YtdjdillppgijmaaDoorW.PrintLast Go.Proofs.YtdjdillppgijmaaDoorW.PrintMore Go.Proofs.YtdjdillppgijmaaDoor.Pl

/-- what the loop over the sets has so far: the best of the sets of smaller numbers -/
structure Sofar (f : Int → Int) (short : List Int) (budget : Int) (m : Nat) (B : List Int) (b : Int) : Prop where
  sub : B.Sublist short
  cost : costL f B = b
  fits : b ≤ budget
  top : ∀ j, j < m → costL f (setOf j short) ≤ budget → ¬ better (setOf j short) (costL f (setOf j short)) B b
theorem Sofar.best {f : Int → Int} {short : List Int} {budget : Int} {m : Nat} {B : List Int} {b : Int} (h : Sofar f short budget m B b) (hm : 2 ^ short.length ≤ m) : Best f short budget B b :=
  ⟨h.sub, h.cost, h.fits, fun S hS hc => by
    obtain ⟨j, hj, rfl⟩ := setOf_all hS
    exact h.top j (by omega) hc⟩
theorem Sofar.skip {f : Int → Int} {short : List Int} {budget : Int} {m : Nat} {B : List Int} {b : Int} (h : Sofar f short budget m B b)
    (hn : costL f (setOf m short) ≤ budget → ¬ better (setOf m short) (costL f (setOf m short)) B b) : Sofar f short budget (m + 1) B b :=
  ⟨h.sub, h.cost, h.fits, fun j hj hc => by
    by_cases e : j = m
    · subst e; exact hn hc
    · exact h.top j (by omega) hc⟩
theorem Sofar.take {f : Int → Int} {short : List Int} {budget : Int} {m : Nat} {B : List Int} {b : Int} (h : Sofar f short budget m B b)
    (hc : costL f (setOf m short) ≤ budget) (hb : better (setOf m short) (costL f (setOf m short)) B b) : Sofar f short budget (m + 1) (setOf m short) (costL f (setOf m short)) :=
  ⟨setOf_sublist _ _, rfl, hc, fun j hj hj2 => by
    by_cases e : j = m
    · subst e; exact better_irrefl _ _
    · exact fun hx => h.top j (by omega) hj2 (better_trans hx hb)⟩

theorem map_loop (l : List S34) (budget : Int) (short best : List Int) (least : Int) (n m : Int) (t : List Int) (ht : ∀ x ∈ t, 0 ≤ x ∧ x < short.length) (hlen : t.length ≤ 1000000) (r : List Int × Int × Int) (d : Nat) :
    ∀ (i : Nat) (acc : List Int), i + d = t.length → acc.length ≤ i →
    Ev (fun k => (impl_refillCost.f k l (acc ++ (t.drop i).map (rd short))).bind fun t207 => (if t207 > budget then (impl_RefillWithin.j2 k l budget short best least (acc ++ (t.drop i).map (rd short)) t207 n m true) else (impl_RefillWithin.j2 k l budget short best least (acc ++ (t.drop i).map (rd short)) t207 n m (decide (((acc ++ (t.drop i).map (rd short)).length : Int) < (best.length : Int)))))) r →
    Ev (fun k => impl_RefillWithin.l1 k l budget short best least acc n m t (t.length : Int) (i : Int)) r := by
  induction d with
  | zero =>
    intro i acc hi ha h
    rw [List.drop_eq_nil_of_le (show t.length ≤ i by omega)] at h
    simp only [List.map_nil, List.append_nil] at h
    exact Ev.step (fun k => by simp only [impl_RefillWithin.l1]; rw [if_neg (by omega)]) h
  | succ d ih =>
    intro i acc hi ha h
    have hlt : i < t.length := by omega
    have e : rd t (i : Int) = t[i] := by rw [rdi_nat]; simp [List.getD, hlt]
    have hx := ht _ (List.getElem_mem hlt)
    refine Ev.step (f := fun k => impl_RefillWithin.l1 k l budget short best least (acc ++ [rd short t[i]]) n m t (t.length : Int) ((i + 1 : Nat) : Int)) (fun k => by
      simp only [impl_RefillWithin.l1]
      rw [if_pos (by omega), if_pos (by omega), if_pos (by omega), e, if_pos hx.1, if_pos hx.2, if_pos (by omega), succ_nat i (by omega)]) ?_
    refine ih (i + 1) _ (by omega) (by simp; omega) ?_
    rw [List.drop_eq_getElem_cons hlt, List.map_cons] at h
    simpa only [List.append_assoc, List.singleton_append] using h

theorem sets_loop (l : List S34) (hv : validB l = true) (budget : Int) (hn : (shortL l).length ≤ 10) (d : Nat) :
    ∀ (m : Nat) (B : List Int) (b : Int), m + d = 2 ^ (shortL l).length → Sofar (need l) (shortL l) budget m B b →
    ∃ B' b', Best (need l) (shortL l) budget B' b' ∧ Ev (fun k => impl_RefillWithin.l0 k l budget (shortL l) B b ((2 ^ (shortL l).length : Nat) : Int) (m : Int)) (B', b', 0) := by
  have hp : 2 ^ (shortL l).length ≤ 1024 := by
    calc 2 ^ (shortL l).length ≤ 2 ^ 10 := Nat.pow_le_pow_right (by omega) hn
      _ = 1024 := by decide
  induction d with
  | zero =>
    intro m B b hm h
    exact ⟨B, b, h.best (by omega), Ev.step (f := fun _ => some (B, b, 0)) (fun k => by simp only [impl_RefillWithin.l0]; rw [if_neg (by omega)]) (Ev.now _)⟩
  | succ d ih =>
    intro m B b hm h
    have hmem : ∀ x ∈ setOf m (shortL l), x ∈ shortL l := fun x hx => (setOf_sublist _ _).subset hx
    have hsl : (setOf m (shortL l)).length ≤ (shortL l).length := (setOf_sublist _ _).length_le
    have hBl : B.length ≤ (shortL l).length := h.sub.length_le
    have hmap : (posI m 0).map (rd (shortL l)) = setOf m (shortL l) := by
      have := posOf_map (shortL l) m 0 (by rw [Nat.sub_zero]; omega)
      rw [List.drop_zero] at this
      rw [← this]
      unfold posI
      rw [List.map_map]
      exact List.map_congr_left fun q _ => rdi_nat _ q
    have hbd : ∀ x ∈ posI m 0, 0 ≤ x ∧ x < ((shortL l).length : Int) := by
      intro x hx
      obtain ⟨q, hq, rfl⟩ := List.mem_map.1 hx
      have := posOf_bound m 0 (shortL l).length (by rw [Nat.sub_zero]; omega) q hq
      omega
    have hpl : (posI m 0).length ≤ 1000000 := by
      unfold posI; rw [List.length_map]; have := posOf_length m 0; omega
    have hcost := cost_ev l hv (setOf m (shortL l)) hmem (by omega)
    -- what follows behind the sum
    have key : ∀ r, Ev (fun k => if costL (need l) (setOf m (shortL l)) > budget then (impl_RefillWithin.j2 k l budget (shortL l) B b (setOf m (shortL l)) (costL (need l) (setOf m (shortL l))) ((2 ^ (shortL l).length : Nat) : Int) (m : Int) true) else (impl_RefillWithin.j2 k l budget (shortL l) B b (setOf m (shortL l)) (costL (need l) (setOf m (shortL l))) ((2 ^ (shortL l).length : Nat) : Int) (m : Int) (decide (((setOf m (shortL l)).length : Int) < (B.length : Int))))) r →
        Ev (fun k => impl_RefillWithin.l0 k l budget (shortL l) B b ((2 ^ (shortL l).length : Nat) : Int) (m : Int)) r := by
      intro r hr
      refine Ev.step (f := fun k => (impl_members.f k (m : Int)).bind fun t199 => impl_RefillWithin.l1 k l budget (shortL l) B b [] ((2 ^ (shortL l).length : Nat) : Int) (m : Int) t199 (t199.length : Int) 0) (fun k => by simp only [impl_RefillWithin.l0]; rw [if_pos (by omega)]) ?_
      refine Ev.bind (members_ev m (by omega)) ?_
      refine map_loop l budget (shortL l) B b _ _ (posI m 0) hbd hpl r (posI m 0).length 0 [] (by omega) (by simp) ?_
      simp only [List.drop_zero, List.nil_append, hmap]
      exact Ev.bind hcost hr
    have again : ∀ (B2 : List Int) (b2 : Int), Sofar (need l) (shortL l) budget (m + 1) B2 b2 → (∀ r, Ev (fun k => impl_RefillWithin.l0 k l budget (shortL l) B2 b2 ((2 ^ (shortL l).length : Nat) : Int) ((m + 1 : Nat) : Int)) r →
        Ev (fun k => impl_RefillWithin.l0 k l budget (shortL l) B b ((2 ^ (shortL l).length : Nat) : Int) (m : Int)) r) →
        ∃ B' b', Best (need l) (shortL l) budget B' b' ∧ Ev (fun k => impl_RefillWithin.l0 k l budget (shortL l) B b ((2 ^ (shortL l).length : Nat) : Int) (m : Int)) (B', b', 0) := by
      intro B2 b2 h2 hr
      obtain ⟨B', b', hbest, hev⟩ := ih (m + 1) B2 b2 (by omega) h2
      exact ⟨B', b', hbest, hr _ hev⟩
    have hs := succ_nat m (by omega)
    by_cases c1 : costL (need l) (setOf m (shortL l)) > budget
    · refine again B b (h.skip fun hc => absurd hc (by omega)) fun r hr => key r ?_
      simp only [if_pos c1]
      refine Ev.step (f := fun k => impl_RefillWithin.l0 k l budget (shortL l) B b ((2 ^ (shortL l).length : Nat) : Int) ((m + 1 : Nat) : Int)) (fun k => by simp only [impl_RefillWithin.j2, if_true]; rw [hs]) hr
    · by_cases c2 : ((setOf m (shortL l)).length : Int) < (B.length : Int)
      · refine again B b (h.skip fun hc => by unfold better; omega) fun r hr => key r ?_
        simp only [if_neg c1, decide_eq_true c2]
        refine Ev.step (f := fun k => impl_RefillWithin.l0 k l budget (shortL l) B b ((2 ^ (shortL l).length : Nat) : Int) ((m + 1 : Nat) : Int)) (fun k => by simp only [impl_RefillWithin.j2, if_true]; rw [hs]) hr
      · have fork : ∀ r, Ev (fun k => if ((setOf m (shortL l)).length : Int) > (B.length : Int) then (impl_RefillWithin.l0 k l budget (shortL l) (setOf m (shortL l)) (costL (need l) (setOf m (shortL l))) ((2 ^ (shortL l).length : Nat) : Int) ((m + 1 : Nat) : Int)) else (if costL (need l) (setOf m (shortL l)) < b then (impl_RefillWithin.l0 k l budget (shortL l) (setOf m (shortL l)) (costL (need l) (setOf m (shortL l))) ((2 ^ (shortL l).length : Nat) : Int) ((m + 1 : Nat) : Int)) else (if costL (need l) (setOf m (shortL l)) = b then ((slices_Compare_int64_int64.f k (setOf m (shortL l)) B).bind fun t208 => (if t208 < 0 then (impl_RefillWithin.l0 k l budget (shortL l) (setOf m (shortL l)) (costL (need l) (setOf m (shortL l))) ((2 ^ (shortL l).length : Nat) : Int) ((m + 1 : Nat) : Int)) else (impl_RefillWithin.l0 k l budget (shortL l) B b ((2 ^ (shortL l).length : Nat) : Int) ((m + 1 : Nat) : Int)))) else (impl_RefillWithin.l0 k l budget (shortL l) B b ((2 ^ (shortL l).length : Nat) : Int) ((m + 1 : Nat) : Int))))) r →
            Ev (fun k => impl_RefillWithin.l0 k l budget (shortL l) B b ((2 ^ (shortL l).length : Nat) : Int) (m : Int)) r := by
          intro r hr
          refine key r ?_
          simp only [if_neg c1, decide_eq_false c2]
          exact Ev.step (fun k => by simp only [impl_RefillWithin.j2]; rw [if_neg (by simp), hs]) hr
        by_cases c3 : ((setOf m (shortL l)).length : Int) > (B.length : Int)
        · refine again _ _ (h.take (by omega) (.inl (by omega))) fun r hr => fork r ?_
          simp only [if_pos c3]; exact hr
        · by_cases c4 : costL (need l) (setOf m (shortL l)) < b
          · refine again _ _ (h.take (by omega) (.inr ⟨by omega, .inl c4⟩)) fun r hr => fork r ?_
            simp only [if_neg c3, if_pos c4]; exact hr
          · by_cases c5 : costL (need l) (setOf m (shortL l)) = b
            · have hcmp := cmp_ev (setOf m (shortL l)) B (by omega)
              by_cases c6 : cmpL (setOf m (shortL l)) B < 0
              · refine again _ _ (h.take (by omega) (.inr ⟨by omega, .inr ⟨c5, c6⟩⟩)) fun r hr => fork r ?_
                simp only [if_neg c3, if_neg c4, if_pos c5]
                refine Ev.bind hcmp ?_
                simp only [if_pos c6]; exact hr
              · refine again B b (h.skip fun _ => by unfold better; omega) fun r hr => fork r ?_
                simp only [if_neg c3, if_neg c4, if_pos c5]
                refine Ev.bind hcmp ?_
                simp only [if_neg c6]; exact hr
            · refine again B b (h.skip fun _ => by unfold better; omega) fun r hr => fork r ?_
              simp only [if_neg c3, if_neg c4, if_neg c5]; exact hr

theorem check_eq (a b : Bool) : impl_check.f a b = some (if a = true then if b = true then 0 else 2 else 1) := by
  unfold impl_check.f
  cases a <;> cases b <;> rfl
theorem shl_one (n : Nat) (h : n ≤ 10) : shl .i64 1 (n : Int) = ((2 ^ n : Nat) : Int) := by
  have : ∀ m : Fin 11, shl .i64 1 ((m.1 : Nat) : Int) = ((2 ^ m.1 : Nat) : Int) := by decide +kernel
  exact this ⟨n, by omega⟩
theorem refill_ok (l : List S34) (hv : validB l = true) (budget : Int) (h0 : 0 ≤ budget) (h1 : budget ≤ 100000000) (hn : (shortL l).length ≤ 10) :
    ∃ B b, Best (need l) (shortL l) budget B b ∧ Ev (fun k => impl_RefillWithin.f k l budget) (B, b, 0) := by
  have hlen := valid_len hv
  obtain ⟨B, b, hbest, hev⟩ := sets_loop l hv budget hn (2 ^ (shortL l).length) 0 [] 0 (by omega) ⟨List.nil_sublist _, by simp [costL], h0, fun j hj => by omega⟩
  refine ⟨B, b, hbest, ?_⟩
  unfold impl_RefillWithin.f impl_ValidStock.f
  simp only [if_pos (show l.length ≤ 1000000000 by omega), Option.bind_some, within_eq, check_eq, hv, decide_eq_true (show 0 ≤ budget ∧ budget ≤ 100000000 from ⟨h0, h1⟩), if_true]
  refine Ev.bind (short_ev l (by omega)) ?_
  simp only [if_neg (show ¬ ((shortL l).length : Int) > 10 by omega)]
  rw [shl_one _ hn]
  exact hev
end Go.Proofs.YtdjdillppgijmaaDoor.Qs
