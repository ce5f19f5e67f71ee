/- The reference's check of a stock answers as ValidStock does. No condition but a length below a milliard. -/
import Derived.Test.YtdjdillppgijmaaDoorSValid
set_option linter.unusedVariables false
set_option linter.unusedSimpArgs false
namespace Go.Proofs.YtdjdillppgijmaaDoor.Qs
open Go.RowKit Go.Proofs.YtdjdillppgijmaaDoorW.PrintWords Go.Proofs.YtdjdillppgijmaaDoorW.PrintLast Go.Proofs.YtdjdillppgijmaaDoorW.PrintMore
attribute [local go_sem] str_geq

def spec_l23Ok.f (l0 : List S34) : Option Bool := impl_ValidStock.f l0
theorem okname_call (s : ByteArray) (b : Bool) (hb : isName s = b) (w : World) : Calls Tryd.prog 140 #[.string s] w fun e w' => e = .returned (.bool b) ∧ Below w.heap.size w w' := by
  obtain ⟨k, hk⟩ := (isName_ev s).rounds
  exact (spec_IsName.calls k s b w (by rw [← hb]; exact hk)).mono fun e w' ⟨h1, h2⟩ => ⟨h1, h2.below⟩
theorem okhave_call (a : Int) (b : Bool) (hb : haveB a = b) (w : World) : Calls Tryd.prog 142 #[.int .i64 a] w fun e w' => e = .returned (.bool b) ∧ Below w.heap.size w w' :=
  (spec_l23Have.calls a b w (by rw [l23Have_eq, hb])).mono fun e w' ⟨h1, h2⟩ => ⟨h1, h2.below⟩
theorem okcents_call (a : Int) (b : Bool) (hb : centsB a = b) (w : World) : Calls Tryd.prog 141 #[.int .i64 a] w fun e w' => e = .returned (.bool b) ∧ Below w.heap.size w w' :=
  (spec_l23Cents.calls a b w (by rw [l23Cents_eq, hb])).mono fun e w' ⟨h1, h2⟩ => ⟨h1, h2.below⟩

set_option maxHeartbeats 4000000 in
set_option maxRecDepth 100000 in
theorem ok_loop (A0 : Option Addr) (c0 : Nat) (l0 : List S34) (w : World) (hr0 : Kd.C k34 w A0 l0.length l0) (hc0 : l0.length ≤ c0) (hl : l0.length ≤ 1000000000) :
    Calls Tryd.prog 100 #[.slice A0 l0.length c0] w fun e w' => e = .returned (.bool (validB l0)) ∧ Below w.heap.size w w' := by
  have hu34 := Tryd.underlying34
  go_enter Tryd.func100, Tryd.ntmps100
  go_wp2
  go_loopw [3] (fun v wr => ∃ i : Int, v = .int .i64 i ∧ 0 ≤ i ∧ i ≤ l0.length ∧ (∀ j : Nat, (j : Int) < i → okAt l0 j = true) ∧ Below w.heap.size w wr) (fun v _ => l0.length - (intOf v).toNat)
  case atStart => exact ⟨0, rfl, by omega, by omega, fun j hj => by omega, Below.refl _ _⟩
  case round =>
    obtain ⟨i, rfl, h0, hle, hok, hB⟩ := hrel
    have HOK := Lib.hid hok
    clear hok
    by_cases hlt : i < (l0.length : Int)
    · obtain ⟨ad, e, hx0, hx1, hx2, hx3⟩ := at_T34 hr0 i h0 hlt
      cases e
      replace hx0 := (hB.cell (World.block_lt_of_cell? w _ hx0)).trans hx0
      replace hx1 := (hB.cell (World.block_lt_of_cell? w _ hx1)).trans hx1
      replace hx2 := (hB.cell (World.block_lt_of_cell? w _ hx2)).trans hx2
      replace hx3 := (hB.cell (World.block_lt_of_cell? w _ hx3)).trans hx3
      have HP : Hid (0 < i → ∃ v1 v2 v3, w.cell? (ad.add ((i - 1).toNat * 4)) = some (.string (rd_T34 l0 (i - 1)).f0) ∧ v1 = v2 ∧ v2 = (v3 : Int)) := Lib.hid fun hp => by
        obtain ⟨ad2, e2, hy0, _⟩ := at_T34 hr0 (i - 1) (by omega) (by omega)
        cases e2
        exact ⟨0, 0, 0, hy0, rfl, rfl⟩
      go_wp2
      have z0 := cell_regrown hx0
      have z1 := cell_regrown hx1
      have z2 := cell_regrown hx2
      have z3 := cell_regrown hx3
      clear hx0 hx1 hx2 hx3
      cases c1 : isName (rd_T34 l0 i).f0 with
      | false =>
        refine wp_region_quiet_below (by kernel_rfl) (by kernel_rfl) ?_
        repeat (go_big_quiet_step ((first | exact Calls.regrown_of (okname_call _ _ c1 _))))
        refine wpQuiet_nil ?_
        intro _ hw'
        obtain ⟨⟨dq, osq⟩, hw''⟩ := hw'
        subst hw''
        have hB2 := hB.trans ((below_regrown wr dq osq).mono hB.size)
        go_wp2
        go_ret
        exact ⟨ret_false (valid_no l0 i h0 hlt (by unfold okAt itemB; rw [c1]; simp)), hB2⟩
      | true =>
      cases c2 : haveB (rd_T34 l0 i).f1 with
      | false =>
        refine wp_region_quiet_below (by kernel_rfl) (by kernel_rfl) ?_
        repeat (go_big_quiet_step ((first | exact Calls.regrown_of (okname_call _ _ c1 _) | exact Calls.regrown_of (okhave_call _ _ c2 _))))
        refine wpQuiet_nil ?_
        intro _ hw'
        obtain ⟨⟨dq, osq⟩, hw''⟩ := hw'
        subst hw''
        have hB2 := hB.trans ((below_regrown wr dq osq).mono hB.size)
        go_wp2
        go_ret
        exact ⟨ret_false (valid_no l0 i h0 hlt (by unfold okAt itemB; rw [c1, c2]; simp)), hB2⟩
      | true =>
      cases c3 : haveB (rd_T34 l0 i).f2 with
      | false =>
        refine wp_region_quiet_below (by kernel_rfl) (by kernel_rfl) ?_
        repeat (go_big_quiet_step ((first | exact Calls.regrown_of (okname_call _ _ c1 _) | exact Calls.regrown_of (okhave_call _ _ c2 _) | exact Calls.regrown_of (okhave_call _ _ c3 _))))
        refine wpQuiet_nil ?_
        intro _ hw'
        obtain ⟨⟨dq, osq⟩, hw''⟩ := hw'
        subst hw''
        have hB2 := hB.trans ((below_regrown wr dq osq).mono hB.size)
        go_wp2
        go_ret
        exact ⟨ret_false (valid_no l0 i h0 hlt (by unfold okAt itemB; rw [c1, c2, c3]; simp)), hB2⟩
      | true =>
      cases c4 : centsB (rd_T34 l0 i).f3 with
      | false =>
        refine wp_region_quiet_below (by kernel_rfl) (by kernel_rfl) ?_
        repeat (go_big_quiet_step ((first | exact Calls.regrown_of (okname_call _ _ c1 _) | exact Calls.regrown_of (okhave_call _ _ c2 _) | exact Calls.regrown_of (okhave_call _ _ c3 _) | exact Calls.regrown_of (okcents_call _ _ c4 _))))
        refine wpQuiet_nil ?_
        intro _ hw'
        obtain ⟨⟨dq, osq⟩, hw''⟩ := hw'
        subst hw''
        have hB2 := hB.trans ((below_regrown wr dq osq).mono hB.size)
        go_wp2
        go_ret
        exact ⟨ret_false (valid_no l0 i h0 hlt (by unfold okAt itemB; rw [c1, c2, c3, c4]; simp)), hB2⟩
      | true =>
      by_cases hp : 0 < i
      · obtain ⟨_, _, _, hy0, _, _⟩ := HP.out hp
        rw [show (i - 1).toNat = i.toNat - 1 by omega] at hy0
        have zp := cell_regrown ((hB.cell (World.block_lt_of_cell? w _ hy0)).trans hy0)
        clear hy0
        have p1 : IntKind.i64.wrap (i - 1) = i - 1 := IntWalk.i64_in _ (by omega)
        have p2 : (0 : Int) ≤ i - 1 := by omega
        have p3 : i - 1 < (l0.length : Int) := by omega
        cases c5 : Op.bytesLess (rd_T34 l0 (i - 1)).f0.toList (rd_T34 l0 i).f0.toList with
        | false =>
          refine wp_region_quiet_below (by kernel_rfl) (by kernel_rfl) ?_
          repeat (go_big_quiet_step ((first | exact Calls.regrown_of (okname_call _ _ c1 _) | exact Calls.regrown_of (okhave_call _ _ c2 _) | exact Calls.regrown_of (okhave_call _ _ c3 _) | exact Calls.regrown_of (okcents_call _ _ c4 _))))
          refine wpQuiet_nil ?_
          intro _ hw'
          obtain ⟨⟨dq, osq⟩, hw''⟩ := hw'
          subst hw''
          have hB2 := hB.trans ((below_regrown wr dq osq).mono hB.size)
          go_wp2
          go_ret
          exact ⟨ret_false (valid_no l0 i h0 hlt (by unfold okAt itemB; rw [c1, c2, c3, c4, c5, decide_eq_false (by omega)]; simp)), hB2⟩
        | true =>
          have HN := Lib.hid (show okAt l0 i = true by unfold okAt itemB; rw [c1, c2, c3, c4, c5]; simp)
          refine wp_region_quiet_below (by kernel_rfl) (by kernel_rfl) ?_
          repeat (go_big_quiet_step ((first | exact Calls.regrown_of (okname_call _ _ c1 _) | exact Calls.regrown_of (okhave_call _ _ c2 _) | exact Calls.regrown_of (okhave_call _ _ c3 _) | exact Calls.regrown_of (okcents_call _ _ c4 _))))
          refine wpQuiet_nil ?_
          intro _ hw'
          obtain ⟨⟨dq, osq⟩, hw''⟩ := hw'
          subst hw''
          have hB2 := hB.trans ((below_regrown wr dq osq).mono hB.size)
          go_wp2
          go_roundw
          case rel => exact ⟨i + 1, by first | rfl | go_num | simp, by omega, by omega, fun j hj => (by by_cases e : (j : Int) = i; (rw [e]; exact HN.out); exact HOK.out j (by omega)), hB2⟩
          case measure => simp [intOf]; omega
      · have HN := Lib.hid (show okAt l0 i = true by unfold okAt itemB; rw [c1, c2, c3, c4, decide_eq_true (by omega)]; simp)
        refine wp_region_quiet_below (by kernel_rfl) (by kernel_rfl) ?_
        repeat (go_big_quiet_step ((first | exact Calls.regrown_of (okname_call _ _ c1 _) | exact Calls.regrown_of (okhave_call _ _ c2 _) | exact Calls.regrown_of (okhave_call _ _ c3 _) | exact Calls.regrown_of (okcents_call _ _ c4 _))))
        refine wpQuiet_nil ?_
        intro _ hw'
        obtain ⟨⟨dq, osq⟩, hw''⟩ := hw'
        subst hw''
        have hB2 := hB.trans ((below_regrown wr dq osq).mono hB.size)
        go_wp2
        go_roundw
        case rel => exact ⟨i + 1, by first | rfl | go_num | simp, by omega, by omega, fun j hj => (by by_cases e : (j : Int) = i; (rw [e]; exact HN.out); exact HOK.out j (by omega)), hB2⟩
        case measure => simp [intOf]; omega
    · have hi : i = (l0.length : Int) := by omega
      subst hi
      go_wp2
      go_ret
      exact ⟨ret_false ((valid_yes l0 HOK.out).trans (by first | rfl | (simp; done) | (rw [Bool.eq_iff_iff]; simp only [decide_eq_true_eq]; omega))), hB⟩
theorem spec_l23Ok.calls (A0 : Option Addr) (c0 : Nat) (l0 : List S34) (r : Bool) (w : World) (hr0 : Kd.C k34 w A0 l0.length l0) (hc0 : l0.length ≤ c0) (h : spec_l23Ok.f l0 = some r) :
    Calls Tryd.prog 100 #[.slice A0 l0.length c0] w fun e w' => e = .returned (.bool r) ∧ Below w.heap.size w w' := by
  unfold spec_l23Ok.f impl_ValidStock.f at h
  by_cases hl : l0.length ≤ 1000000000
  · rw [if_pos hl] at h
    obtain rfl := Option.some.inj h
    exact ok_loop A0 c0 l0 w hr0 hc0 hl
  · rw [if_neg hl] at h; cases h
end Go.Proofs.YtdjdillppgijmaaDoor.Qs
