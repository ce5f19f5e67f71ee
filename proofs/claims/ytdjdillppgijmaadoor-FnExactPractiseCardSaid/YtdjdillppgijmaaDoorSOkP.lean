/- The reference's check of apprentices: what it answers. No condition but lengths below a milliard. -/
import Derived.Test.YtdjdillppgijmaaDoorQpx1
import Derived.Test.YtdjdillppgijmaaDoorPlNameP
import Derived.Lib.Hide
set_option linter.unusedVariables false
set_option linter.unusedSimpArgs false
namespace Go.Proofs.YtdjdillppgijmaaDoor.Qp
open Go.RowKit Go.Proofs.YtdjdillppgijmaaDoorW.PrintWords Go.Proofs.YtdjdillppgijmaaDoorW.PrintLast Go.Proofs.YtdjdillppgijmaaDoorW.PrintMore

/-! ### What makes apprentices valid -/
def needB (needs : List Int) : Bool := needs.all (fun x => decide (1 ≤ x ∧ x ≤ 5000)) && decide (1 ≤ needs.length ∧ needs.length ≤ 10)
def daysB (days : List Int) : Bool := days.all (fun x => decide (0 ≤ x ∧ x ≤ 5000))
def freshB (l : List S116) (i : Nat) : Bool := (List.range i).all (fun j : Nat => !((rd_T116 l (j : Int)).f0.toList == (rd_T116 l (i : Int)).f0.toList))
def pupAt (needs : List Int) (l : List S116) (i : Nat) : Bool :=
  isName (rd_T116 l (i : Int)).f0 && (decide (0 ≤ (rd_T116 l (i : Int)).f1 ∧ (rd_T116 l (i : Int)).f1 ≤ 5000) && (decide ((rd_T116 l (i : Int)).f2.length = needs.length) && (daysB (rd_T116 l (i : Int)).f2 && freshB l i)))
def pupsB (needs : List Int) (l : List S116) : Bool := (List.range l.length).all (pupAt needs l) && (needB needs && decide (l.length ≤ 20))
theorem pups_no {needs : List Int} {l : List S116} (i : Nat) (hi : i < l.length) (h : pupAt needs l i = false) : pupsB needs l = false := by
  unfold pupsB
  rw [List.all_eq_false.2 ⟨i, List.mem_range.2 hi, by simp [h]⟩, Bool.false_and]
theorem pups_yes {needs : List Int} {l : List S116} (h : ∀ i : Nat, i < l.length → pupAt needs l i = true) : pupsB needs l = (needB needs && decide (l.length ≤ 20)) := by
  unfold pupsB
  rw [List.all_eq_true.2 fun i hi => h i (List.mem_range.1 hi), Bool.true_and]

theorem rd_nat {l : List Int} {i : Nat} (h : i < l.length) : rd l (i : Int) = l[i] := by unfold rd; rw [Int.toNat_natCast, List.getD_eq_getElem?_getD, List.getElem?_eq_getElem h]; rfl
theorem sw (i : Nat) (h : i ≤ 1000000000000) : wrap64 ((i : Int) + 1) = ((i + 1 : Nat) : Int) := by rw [w64 (by omega) (by omega)]; omega

/-! ### The calls -/
theorem needs_loop (l : List Int) (hl : l.length ≤ 1000000000) (d : Nat) : ∀ (i : Nat), i + d = l.length → (∀ x ∈ l.take i, 1 ≤ x ∧ x ≤ 5000) → Ev (fun k => spec_l25Needs.l0 k l (i : Int)) (needB l) := by
  induction d with
  | zero =>
    intro i hi h
    rw [List.take_of_length_le (by omega)] at h
    refine Ev.step (f := fun _ => some (needB l)) (fun k => ?_) (Ev.now _)
    simp only [spec_l25Needs.l0]
    rw [if_neg (by omega), in_eq, Option.bind_some]
    unfold needB
    rw [List.all_eq_true.2 fun x hx => decide_eq_true (h x hx), Bool.true_and]
    congr 1
    simp only [decide_eq_decide]
    omega
  | succ d ih =>
    intro i hi h
    have hlt : i < l.length := by omega
    have e : rd l (i : Int) = l[i] := by unfold rd; rw [Int.toNat_natCast, List.getD_eq_getElem?_getD, List.getElem?_eq_getElem hlt]; rfl
    have w1 : wrap64 ((i : Int) + 1) = ((i + 1 : Nat) : Int) := by rw [w64 (by omega) (by omega)]; omega
    by_cases hx : 1 ≤ l[i] ∧ l[i] ≤ 5000
    · refine Ev.step (f := fun k => spec_l25Needs.l0 k l ((i + 1 : Nat) : Int)) (fun k => ?_) (ih (i + 1) (by omega) ?_)
      · simp only [spec_l25Needs.l0]
        rw [if_pos (by omega), if_pos (by omega), e, in_eq, Option.bind_some, decide_eq_true hx, if_pos rfl, w1]
      · intro x hx2
        rw [List.take_succ_eq_append_getElem hlt] at hx2
        rcases List.mem_append.1 hx2 with h2 | h2
        · exact h x h2
        · rw [List.mem_singleton.1 h2]; exact hx
    · refine Ev.step (f := fun _ => some (needB l)) (fun k => ?_) (Ev.now _)
      simp only [spec_l25Needs.l0]
      rw [if_pos (by omega), if_pos (by omega), e, in_eq, Option.bind_some, decide_eq_false hx, if_neg (by decide)]
      unfold needB
      rw [List.all_eq_false.2 ⟨l[i], List.getElem_mem hlt, by rw [decide_eq_false hx]; decide⟩, Bool.false_and]
theorem needs_call (l : List Int) (hl : l.length ≤ 1000000000) (b : Bool) (hb : needB l = b) (A0 : Option Addr) (c0 : Nat) (W : World) (hr0 : Kd.C (Kd.int .i64) W A0 l.length l) (hc0 : l.length ≤ c0) :
    Calls Tryd.prog 183 #[.slice A0 l.length c0] W fun e w' => e = .returned (.bool b) ∧ Below W.heap.size W w' := by
  obtain ⟨k, hk⟩ := (needs_loop l hl l.length 0 (by omega) (by simp)).rounds
  exact (spec_l25Needs.calls k A0 c0 l b W hr0 hc0 (by rw [← hb]; exact hk)).mono fun e w' ⟨h1, h2⟩ => ⟨h1, h2.below⟩
theorem pname_call (s : ByteArray) (b : Bool) (hb : isName s = b) (w : World) : Calls Tryd.prog 140 #[.string s] w fun e w' => e = .returned (.bool b) ∧ Below w.heap.size w w' := by
  obtain ⟨k, hk⟩ := (isName_ev s).rounds
  exact (spec_IsName.calls k s b w (by rw [← hb]; exact hk)).mono fun e w' ⟨h1, h2⟩ => ⟨h1, h2.below⟩
theorem pin_call (a b c : Int) (q : Bool) (h : decide (b ≤ a ∧ a ≤ c) = q) (w : World) : Calls Tryd.prog 104 #[.int .i64 a, .int .i64 b, .int .i64 c] w fun e w' => e = .returned (.bool q) ∧ Below w.heap.size w w' :=
  (spec_l00In.calls a b c q w (by rw [in_eq, h])).mono fun e w' ⟨h1, h2⟩ => ⟨h1, h2.below⟩

set_option maxHeartbeats 4000000 in
set_option maxRecDepth 100000 in
theorem okp_loop (A0 A1 : Option Addr) (c0 c1 : Nat) (l0 : List Int) (l1 : List S116) (w : World) (hr0 : Kd.C (Kd.int .i64) w A0 l0.length l0) (hc0 : l0.length ≤ c0) (hr1 : Kd.C k116 w A1 l1.length l1) (hc1 : l1.length ≤ c1) (hl0 : l0.length ≤ 1000000000) (hl1 : l1.length ≤ 1000000000) :
    Calls Tryd.prog 116 #[.slice A0 l0.length c0, .slice A1 l1.length c1] w fun e w' => e = .returned (.bool (pupsB l0 l1)) ∧ Below w.heap.size w w' := by
  have hu37 := Tryd.underlying37
  have hu27 := Tryd.underlying27
  have hu116 := Tryd.underlying116
  go_enter Tryd.func116, Tryd.ntmps116
  go_wp2
  go_loopw [5] (fun v wr => ∃ i : Nat, v = .int .i64 i ∧ i ≤ l1.length ∧ Hid (∀ j : Nat, j < i → pupAt l0 l1 j = true) ∧ Hid (Below w.heap.size w wr)) (fun v _ => l1.length - (intOf v).toNat)
  case atStart => exact ⟨0, rfl, by omega, Lib.hid (fun j hj => by omega), Lib.hid (Below.refl _ _)⟩
  case round =>
    obtain ⟨i, rfl, hle, HOK, HB⟩ := hrel
    by_cases hlt : i < l1.length
    · have hltz : (i : Int) < (l1.length : Int) := by omega
      obtain ⟨ad, A2, c2, e, z0, z1, z2, hc2, hr2⟩ := at_T116 hr1 (i : Int) (by omega) hltz
      cases e
      rw [Int.toNat_natCast] at z0 z1 z2
      have Z0 := Lib.hid z0
      have Z1 := Lib.hid z1
      have Z2 := Lib.hid z2
      clear z0 z1 z2
      have hx0 := (HB.out.cell (World.block_lt_of_cell? w _ Z0.out)).trans Z0.out
      cases q1 : isName (rd_T116 l1 (i : Int)).f0 with
      | false =>
        have hr : pupAt l0 l1 i = false := by unfold pupAt; rw [q1, Bool.false_and]
        have hno := Lib.hid (pups_no i hlt hr)
        clear hr
        go_wp2_with (first | (go_at_call 140; refine (pname_call _ _ q1 _).mono ?_; rintro e w1 ⟨rfl, hB1⟩))
        go_ret
        exact ⟨by rw [hno.out]; rfl, HB.out.trans (hB1.mono HB.out.size)⟩
      | true =>
      cases q2 : decide (0 ≤ (rd_T116 l1 (i : Int)).f1 ∧ (rd_T116 l1 (i : Int)).f1 ≤ 5000) with
      | false =>
        have hr : pupAt l0 l1 i = false := by unfold pupAt; rw [q1, q2]; rfl
        have hno := Lib.hid (pups_no i hlt hr)
        clear hr
        go_wp2_with (first
          | (go_at_call 140; refine (pname_call _ _ q1 _).mono ?_; rintro e w1 ⟨rfl, hB1⟩; have HB1 := Lib.hid (HB.out.trans (hB1.mono HB.out.size)); clear hB1; have hx1 := (HB1.out.cell (World.block_lt_of_cell? w _ Z1.out)).trans Z1.out)
          | (go_at_call 104; refine (pin_call _ 0 5000 _ q2 _).mono ?_; rintro e w2 ⟨rfl, hB2⟩))
        go_ret
        exact ⟨by rw [hno.out]; rfl, HB1.out.trans (hB2.mono HB1.out.size)⟩
      | true =>
      by_cases q3 : (rd_T116 l1 (i : Int)).f2.length = l0.length
      · have c3z : ((((rd_T116 l1 (i : Int)).f2.length : Nat) : Int) == ((l0.length : Nat) : Int)) = true := beq_iff_eq.2 (by rw [q3])
        go_wp2_with (first
          | (go_at_call 140; refine (pname_call _ _ q1 _).mono ?_; rintro e w1 ⟨rfl, hB1⟩; have HB1 := Lib.hid (HB.out.trans (hB1.mono HB.out.size)); clear hB1; have hx1 := (HB1.out.cell (World.block_lt_of_cell? w _ Z1.out)).trans Z1.out)
          | (go_at_call 104; refine (pin_call _ 0 5000 _ q2 _).mono ?_; rintro e w2 ⟨rfl, hB2⟩; have HB2 := Lib.hid (HB1.out.trans (hB2.mono HB1.out.size)); clear hB2; have hx2 := (HB2.out.cell (World.block_lt_of_cell? w _ Z2.out)).trans Z2.out))
        have Q1 := Lib.hid q1
        have Q2 := Lib.hid q2
        have Q3 := Lib.hid q3
        clear q1 q2 q3 c3z hx0 hx1 hx2
        go_loopw [7] (fun v wr => ∃ k : Nat, v = .int .i64 k ∧ k ≤ (rd_T116 l1 (i : Int)).f2.length ∧ Hid (∀ j : Nat, j < k → 0 ≤ rd (rd_T116 l1 (i : Int)).f2 (j : Int) ∧ rd (rd_T116 l1 (i : Int)).f2 (j : Int) ≤ 5000) ∧ Hid (Below w.heap.size w wr)) (fun v _ => (rd_T116 l1 (i : Int)).f2.length - (intOf v).toNat)
        case atStart => exact ⟨0, rfl, by omega, Lib.hid (fun j hj => by omega), HB2⟩
        case round =>
          obtain ⟨k, rfl, hkle, HD, HB3⟩ := hrel
          have hx2 := (HB3.out.cell (World.block_lt_of_cell? w _ Z2.out)).trans Z2.out
          by_cases hk : k < (rd_T116 l1 (i : Int)).f2.length
          · have hkz : (k : Int) < ((rd_T116 l1 (i : Int)).f2.length : Int) := by omega
            obtain ⟨ad2, e, d0⟩ := Kd.at_int hr2 (k : Int) (by omega) hkz
            cases e
            rw [Int.toNat_natCast] at d0
            replace d0 := (HB3.out.cell (World.block_lt_of_cell? w _ d0)).trans d0
            cases q4 : decide (0 ≤ rd (rd_T116 l1 (i : Int)).f2 (k : Int) ∧ rd (rd_T116 l1 (i : Int)).f2 (k : Int) ≤ 5000) with
            | false =>
              go_wp2_with (first | (go_at_call 104; refine (pin_call _ 0 5000 _ q4 _).mono ?_; rintro e w3 ⟨rfl, hB3⟩))
              go_ret
              refine ⟨?_, HB3.out.trans (hB3.mono HB3.out.size)⟩
              have hno := pups_no (needs := l0) (l := l1) i hlt (by
                unfold pupAt daysB
                rw [List.all_eq_false.2 ⟨(rd_T116 l1 (i : Int)).f2[k], List.getElem_mem hk, by rw [← rd_nat hk, q4]; decide⟩]
                simp)
              rw [hno]; rfl
            | true =>
              go_wp2_with (first | (go_at_call 104; refine (pin_call _ 0 5000 _ q4 _).mono ?_; rintro e w3 ⟨rfl, hB3⟩))
              have HB4 := Lib.hid (HB3.out.trans (hB3.mono HB3.out.size))
              clear hB3
              have HQ4 := Lib.hid (of_decide_eq_true q4)
              have hkb : k ≤ 1000000000 := by have := Q3.out; omega
              go_roundw
              case rel => exact ⟨k + 1, by rw [sw k (by omega)], by omega, Lib.hid (fun j hj => (by by_cases e : j = k; (rw [e]; exact HQ4.out); exact HD.out j (by omega))), HB4⟩
              case measure => rw [sw k (by omega)]; simp only [intOf]; omega
          · have hkz : ¬ (k : Int) < ((rd_T116 l1 (i : Int)).f2.length : Int) := by omega
            have hdays : daysB (rd_T116 l1 (i : Int)).f2 = true := by
              unfold daysB
              refine List.all_eq_true.2 fun x hx => decide_eq_true ?_
              obtain ⟨j, hj, rfl⟩ := List.getElem_of_mem hx
              rw [← rd_nat hj]
              exact HD.out j (by omega)
            have HDAYS := Lib.hid hdays
            clear hdays
            go_wp2
            go_loopw [8] (fun v wr => ∃ m : Nat, v = .int .i64 m ∧ m ≤ i ∧ Hid (∀ j : Nat, j < m → ((rd_T116 l1 (j : Int)).f0.toList == (rd_T116 l1 (i : Int)).f0.toList) = false) ∧ Hid (Below w.heap.size w wr)) (fun v _ => i - (intOf v).toNat)
            case atStart => exact ⟨0, rfl, by omega, Lib.hid (fun j hj => by omega), HB3⟩
            case round =>
              obtain ⟨m, rfl, hmle, HE, HB5⟩ := hrel
              have hx0 := (HB5.out.cell (World.block_lt_of_cell? w _ Z0.out)).trans Z0.out
              by_cases hm : m < i
              · have hmz : (m : Int) < (i : Int) := by omega
                have hmz2 : (m : Int) < (l1.length : Int) := by omega
                obtain ⟨ad3, A3, c3, e, y0, _, _, _, _⟩ := at_T116 hr1 (m : Int) (by omega) hmz2
                cases e
                rw [Int.toNat_natCast] at y0
                replace y0 := (HB5.out.cell (World.block_lt_of_cell? w _ y0)).trans y0
                cases q5 : ((rd_T116 l1 (m : Int)).f0.toList == (rd_T116 l1 (i : Int)).f0.toList) with
                | true =>
                  go_wp2
                  go_region
                  go_wp2
                  go_ret
                  refine ⟨?_, HB5.out.drew⟩
                  have hno := pups_no (needs := l0) (l := l1) i hlt (by
                    unfold pupAt freshB
                    rw [List.all_eq_false.2 ⟨m, List.mem_range.2 hm, by rw [q5]; decide⟩]
                    simp)
                  rw [hno]; rfl
                | false =>
                  have HQ5 := Lib.hid q5
                  go_wp2
                  go_region
                  go_wp2
                  refine ⟨⟨m + 1, by simp, by omega, Lib.hid (fun j hj => ?_), Lib.hid HB5.out.drew⟩, by simp only [intOf]; omega⟩
                  by_cases e : j = m
                  · rw [e]; exact HQ5.out
                  · exact HE.out j (by omega)
              · have hmz : ¬ (m : Int) < (i : Int) := by omega
                go_wp2
                refine ⟨⟨i + 1, by simp, by omega, Lib.hid (fun j hj => ?_), HB5⟩, by simp only [intOf]; omega⟩
                by_cases e : j = i
                · rw [e]
                  unfold pupAt freshB
                  rw [Q1.out, Q2.out, decide_eq_true Q3.out, HDAYS.out]
                  simp only [Bool.true_and]
                  refine List.all_eq_true.2 fun q hq => ?_
                  rw [HE.out q (by have := List.mem_range.1 hq; omega)]
                  rfl
                · exact HOK.out j (by omega)
      · have c3z : ((((rd_T116 l1 (i : Int)).f2.length : Nat) : Int) == ((l0.length : Nat) : Int)) = false := beq_eq_false_iff_ne.2 (by omega)
        have hr : pupAt l0 l1 i = false := by unfold pupAt; rw [q1, q2, decide_eq_false q3]; rfl
        have hno := Lib.hid (pups_no i hlt hr)
        clear hr
        go_wp2_with (first
          | (go_at_call 140; refine (pname_call _ _ q1 _).mono ?_; rintro e w1 ⟨rfl, hB1⟩; have HB1 := Lib.hid (HB.out.trans (hB1.mono HB.out.size)); clear hB1; have hx1 := (HB1.out.cell (World.block_lt_of_cell? w _ Z1.out)).trans Z1.out)
          | (go_at_call 104; refine (pin_call _ 0 5000 _ q2 _).mono ?_; rintro e w2 ⟨rfl, hB2⟩; have HB2 := Lib.hid (HB1.out.trans (hB2.mono HB1.out.size)); clear hB2; have hx2 := (HB2.out.cell (World.block_lt_of_cell? w _ Z2.out)).trans Z2.out))
        go_ret
        exact ⟨by rw [hno.out]; rfl, HB2.out⟩
    · have hi : i = l1.length := by omega
      subst hi
      have hno : ¬ ((l1.length : Nat) : Int) < (l1.length : Int) := by omega
      have hyes := pups_yes HOK.out
      cases q1 : needB l0 with
      | false =>
        go_wp2_with (first | (go_at_call 183; refine (needs_call l0 hl0 _ q1 A0 c0 _ (Kd.C_below hr0 HB.out) hc0).mono ?_; rintro e w1 ⟨rfl, hB1⟩))
        go_ret
        exact ⟨by rw [hyes, q1]; rfl, HB.out.trans (hB1.mono HB.out.size)⟩
      | true =>
        go_wp2_with (first | (go_at_call 183; refine (needs_call l0 hl0 _ q1 A0 c0 _ (Kd.C_below hr0 HB.out) hc0).mono ?_; rintro e w1 ⟨rfl, hB1⟩))
        go_ret
        exact ⟨by rw [hyes, q1]; simp; omega, HB.out.trans (hB1.mono HB.out.size)⟩
def spec_l25Ok.f (l0 : List Int) (l1 : List S116) : Option Bool := if l0.length ≤ 1000000000 ∧ l1.length ≤ 1000000000 then some (pupsB l0 l1) else none
theorem spec_l25Ok.calls (A0 : Option Addr) (c0 : Nat) (l0 : List Int) (A1 : Option Addr) (c1 : Nat) (l1 : List S116) (r : Bool) (w : World) (hr0 : Kd.C (Kd.int .i64) w A0 l0.length l0) (hc0 : l0.length ≤ c0) (hr1 : Kd.C k116 w A1 l1.length l1) (hc1 : l1.length ≤ c1) (h : spec_l25Ok.f l0 l1 = some r) :
    Calls Tryd.prog 116 #[.slice A0 l0.length c0, .slice A1 l1.length c1] w fun e w' => e = .returned (.bool r) ∧ Below w.heap.size w w' := by
  unfold spec_l25Ok.f at h
  split at h
  · rename_i hl
    cases h
    exact okp_loop A0 A1 c0 c1 l0 l1 w hr0 hc0 hr1 hc1 hl.1 hl.2
  · cases h
end Go.Proofs.YtdjdillppgijmaaDoor.Qp
