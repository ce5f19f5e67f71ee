/- ValidStock: every item has a name and numbers in their ranges, the names rise, and there are at most 20. -/
import Derived.Test.YtdjdillppgijmaaDoorQsx0
import Derived.Test.YtdjdillppgijmaaDoorQsx2
import Derived.Test.YtdjdillppgijmaaDoorPlName
import Derived.Lib.QuietBelow
import Derived.Lib.Hide
import Derived.IntWalk
set_option linter.unusedVariables false
set_option linter.unusedSimpArgs false
namespace Go.Proofs.YtdjdillppgijmaaDoor.Qs
open Go.RowKit Go.Proofs.YtdjdillppgijmaaDoorW.PrintWords Go.Proofs.YtdjdillppgijmaaDoorW.PrintLast Go.Proofs.YtdjdillppgijmaaDoorW.PrintMore

open Op in
theorem str_geq (t : TypeId) (a b : ByteArray) : binOp .geq t (.string a) (.string b) = pure (.bool !(Op.bytesLess a.toList b.toList)) := by simp [binOp, Op.stringOp]
attribute [local go_sem] str_geq

/-- The item at a place is in order. -/
def itemB (x : S34) : Bool := isName x.f0 && (haveB x.f1 && (haveB x.f2 && centsB x.f3))
def okAt (l : List S34) (i : Int) : Bool := itemB (rd_T34 l i) && (decide (i ≤ 0) || Op.bytesLess (rd_T34 l (i - 1)).f0.toList (rd_T34 l i).f0.toList)
def validB (l : List S34) : Bool := (List.range l.length).all (fun i => okAt l (i : Int)) && decide (l.length ≤ 20)
def impl_ValidStock.f (l0 : List S34) : Option Bool := if l0.length ≤ 1000000000 then some (validB l0) else none

theorem have_call (a : Int) (b : Bool) (hb : haveB a = b) (w : World) : Calls Tryd.prog 179 #[.int .i64 a] w fun e w' => e = .returned (.bool b) ∧ ∃ n, w' = w.drewN n :=
  (impl_isHave.calls a b w (by rw [isHave_eq, hb])).mono fun e w' ⟨h1, h2⟩ => ⟨h1, h2.out⟩
theorem cents_call (a : Int) (b : Bool) (hb : centsB a = b) (w : World) : Calls Tryd.prog 144 #[.int .i64 a] w fun e w' => e = .returned (.bool b) ∧ ∃ n, w' = w.drewN n :=
  (impl_isCents.calls a b w (by rw [isCents_eq, hb])).mono fun e w' ⟨h1, h2⟩ => ⟨h1, h2.out⟩
theorem name_call (s : ByteArray) (b : Bool) (hb : isName s = b) (w : World) : Calls Tryd.prog 143 #[.string s] w fun e w' => e = .returned (.bool b) ∧ Below w.heap.size w w' :=
  impl_IsName.calls s b w (by rw [impl_IsName.f, hb])

theorem have_call1 (a : Int) (b : Bool) (hb : haveB a = b) (w : World) : Calls Tryd.prog 179 #[.int .i64 a] w fun e w' => e = .returned (.bool b) ∧ Below w.heap.size w w' :=
  (impl_isHave.calls a b w (by rw [isHave_eq, hb])).mono fun e w' ⟨h1, h2⟩ => ⟨h1, h2.below⟩
theorem cents_call1 (a : Int) (b : Bool) (hb : centsB a = b) (w : World) : Calls Tryd.prog 144 #[.int .i64 a] w fun e w' => e = .returned (.bool b) ∧ Below w.heap.size w w' :=
  (impl_isCents.calls a b w (by rw [isCents_eq, hb])).mono fun e w' ⟨h1, h2⟩ => ⟨h1, h2.below⟩
theorem ret_false {a b : Bool} (h : a = b) : Ending.returned (.bool b) = .returned (.bool a) := by rw [h]
theorem valid_no (l : List S34) (i : Int) (h0 : 0 ≤ i) (hlt : i < l.length) (h : okAt l i = false) : validB l = false := by
  unfold validB
  have : (List.range l.length).all (fun i => okAt l (i : Int)) = false := by
    rw [List.all_eq_false]
    exact ⟨i.toNat, List.mem_range.2 (by omega), by rw [Int.toNat_of_nonneg h0, h]; simp⟩
  rw [this]; rfl
theorem valid_yes (l : List S34) (h : ∀ j : Nat, (j : Int) < l.length → okAt l j = true) : validB l = decide (l.length ≤ 20) := by
  unfold validB
  have : (List.range l.length).all (fun i => okAt l (i : Int)) = true := by
    rw [List.all_eq_true]
    exact fun j hj => h j (by have := List.mem_range.1 hj; omega)
  rw [this, Bool.true_and]

theorem first_only {l : List S34} (h : okAt l 0 = true) : ∀ j : Nat, (j : Int) < 1 → okAt l j = true := fun j hj => by
  have e : j = 0 := by omega
  subst e
  exact h
set_option maxHeartbeats 4000000 in
set_option maxRecDepth 100000 in
theorem valid_loop (A0 : Option Addr) (c0 : Nat) (l0 : List S34) (w : World) (hr0 : Kd.C k34 w A0 l0.length l0) (hc0 : l0.length ≤ c0) (hl : l0.length ≤ 1000000000) :
    Calls Tryd.prog 94 #[.slice A0 l0.length c0] w fun e w' => e = .returned (.bool (validB l0)) ∧ Below w.heap.size w w' := by
  have hu34 := Tryd.underlying34
  go_enter Tryd.func94, Tryd.ntmps94
  go_wp2
  go_loopw [7] (fun v wr => ∃ i : Int, v = .int .i64 i ∧ 0 ≤ i ∧ i ≤ l0.length ∧ (∀ j : Nat, (j : Int) < i → okAt l0 j = true) ∧ Below w.heap.size w wr) (fun v _ => l0.length - (intOf v).toNat)
  case atStart => exact ⟨0, rfl, by omega, by omega, fun j hj => by omega, Below.refl _ _⟩
  case round =>
    obtain ⟨i, rfl, h0, hle, hok, hB⟩ := hrel
    have HOK := Lib.hid hok
    clear hok
    by_cases hlt : i < (l0.length : Int)
    · obtain ⟨ad, e, hx0, hx1, hx2, hx3⟩ := at_T34 hr0 i h0 hlt
      cases e
      replace hx0 := (hB.cell (World.block_lt_of_cell? w _ hx0)).trans hx0
      replace hx1 := (hB.cell (World.block_lt_of_cell? w _ hx1)).trans hx1
      replace hx2 := (hB.cell (World.block_lt_of_cell? w _ hx2)).trans hx2
      replace hx3 := (hB.cell (World.block_lt_of_cell? w _ hx3)).trans hx3
      have HP : Hid (0 < i → ∃ v1 v2 v3, w.cell? (ad.add ((i - 1).toNat * 4)) = some (.string (rd_T34 l0 (i - 1)).f0) ∧ v1 = v2 ∧ v2 = (v3 : Int)) := Lib.hid fun hp => by
        obtain ⟨ad2, e2, hy0, _⟩ := at_T34 hr0 (i - 1) (by omega) (by omega)
        cases e2
        exact ⟨0, 0, 0, hy0, rfl, rfl⟩
      go_wp2
      have hb := blk_new wr (.cells #[.string (rd_T34 l0 i).f0, .int .i64 (rd_T34 l0 i).f1, .int .i64 (rd_T34 l0 i).f2, .int .i64 (rd_T34 l0 i).f3] 34)
      have hB1 := below_alloc hB (.cells #[.string (rd_T34 l0 i).f0, .int .i64 (rd_T34 l0 i).f1, .int .i64 (rd_T34 l0 i).f2, .int .i64 (rd_T34 l0 i).f3] 34)
      have hBx := World.block_lt_of_cell? wr _ hx0
      generalize wr.alloc (.cells #[.string (rd_T34 l0 i).f0, .int .i64 (rd_T34 l0 i).f1, .int .i64 (rd_T34 l0 i).f2, .int .i64 (rd_T34 l0 i).f3] 34) = W1 at hb hB1 ⊢
      generalize wr.heap.size = g at hb ⊢
      have z0 := cell_regrown (show W1.cell? ⟨g, 0, none⟩ = some (.string (rd_T34 l0 i).f0) from blk_cell hb 0)
      have z1 := cell_regrown (show W1.cell? ⟨g, 1, none⟩ = some (.int .i64 (rd_T34 l0 i).f1) from blk_cell hb 1)
      have z2 := cell_regrown (show W1.cell? ⟨g, 2, none⟩ = some (.int .i64 (rd_T34 l0 i).f2) from blk_cell hb 2)
      have z3 := cell_regrown (show W1.cell? ⟨g, 3, none⟩ = some (.int .i64 (rd_T34 l0 i).f3) from blk_cell hb 3)
      clear hb hx0 hx1 hx2 hx3 hBx
      cases c1 : isName (rd_T34 l0 i).f0 with
      | false =>
        refine wp_region_quiet_below (by kernel_rfl) (by kernel_rfl) ?_
        repeat (go_big_quiet_step ((first | exact Calls.regrown_of (name_call _ _ c1 _))))
        refine wpQuiet_nil ?_
        intro _ hw'
        obtain ⟨⟨dq, osq⟩, hw''⟩ := hw'
        subst hw''
        have hB2 := hB1.trans ((below_regrown W1 dq osq).mono hB1.size)
        go_wp2
        go_ret
        exact ⟨ret_false (valid_no l0 i h0 hlt (by unfold okAt itemB; rw [c1]; simp)), hB2⟩
      | true =>
      cases c2 : haveB (rd_T34 l0 i).f1 with
      | false =>
        refine wp_region_quiet_below (by kernel_rfl) (by kernel_rfl) ?_
        repeat (go_big_quiet_step ((first | exact Calls.regrown_of (name_call _ _ c1 _) | exact Calls.regrown_of (have_call1 _ _ c2 _))))
        refine wpQuiet_nil ?_
        intro _ hw'
        obtain ⟨⟨dq, osq⟩, hw''⟩ := hw'
        subst hw''
        have hB2 := hB1.trans ((below_regrown W1 dq osq).mono hB1.size)
        go_wp2
        go_ret
        exact ⟨ret_false (valid_no l0 i h0 hlt (by unfold okAt itemB; rw [c1, c2]; simp)), hB2⟩
      | true =>
      cases c3 : haveB (rd_T34 l0 i).f2 with
      | false =>
        refine wp_region_quiet_below (by kernel_rfl) (by kernel_rfl) ?_
        repeat (go_big_quiet_step ((first | exact Calls.regrown_of (name_call _ _ c1 _) | exact Calls.regrown_of (have_call1 _ _ c2 _) | exact Calls.regrown_of (have_call1 _ _ c3 _))))
        refine wpQuiet_nil ?_
        intro _ hw'
        obtain ⟨⟨dq, osq⟩, hw''⟩ := hw'
        subst hw''
        have hB2 := hB1.trans ((below_regrown W1 dq osq).mono hB1.size)
        go_wp2
        go_ret
        exact ⟨ret_false (valid_no l0 i h0 hlt (by unfold okAt itemB; rw [c1, c2, c3]; simp)), hB2⟩
      | true =>
      cases c4 : centsB (rd_T34 l0 i).f3 with
      | false =>
        refine wp_region_quiet_below (by kernel_rfl) (by kernel_rfl) ?_
        repeat (go_big_quiet_step ((first | exact Calls.regrown_of (name_call _ _ c1 _) | exact Calls.regrown_of (have_call1 _ _ c2 _) | exact Calls.regrown_of (have_call1 _ _ c3 _) | exact Calls.regrown_of (cents_call1 _ _ c4 _))))
        refine wpQuiet_nil ?_
        intro _ hw'
        obtain ⟨⟨dq, osq⟩, hw''⟩ := hw'
        subst hw''
        have hB2 := hB1.trans ((below_regrown W1 dq osq).mono hB1.size)
        go_wp2
        go_ret
        exact ⟨ret_false (valid_no l0 i h0 hlt (by unfold okAt itemB; rw [c1, c2, c3, c4]; simp)), hB2⟩
      | true =>
      by_cases hp : 0 < i
      · obtain ⟨_, _, _, hy0, _, _⟩ := HP.out hp
        rw [show (i - 1).toNat = i.toNat - 1 by omega] at hy0
        have zp := cell_regrown ((hB1.cell (World.block_lt_of_cell? w _ hy0)).trans hy0)
        clear hy0
        have p1 : IntKind.i64.wrap (i - 1) = i - 1 := IntWalk.i64_in _ (by omega)
        have p2 : (0 : Int) ≤ i - 1 := by omega
        have p3 : i - 1 < (l0.length : Int) := by omega
        cases c5 : Op.bytesLess (rd_T34 l0 (i - 1)).f0.toList (rd_T34 l0 i).f0.toList with
        | false =>
          refine wp_region_quiet_below (by kernel_rfl) (by kernel_rfl) ?_
          repeat (go_big_quiet_step ((first | exact Calls.regrown_of (name_call _ _ c1 _) | exact Calls.regrown_of (have_call1 _ _ c2 _) | exact Calls.regrown_of (have_call1 _ _ c3 _) | exact Calls.regrown_of (cents_call1 _ _ c4 _))))
          refine wpQuiet_nil ?_
          intro _ hw'
          obtain ⟨⟨dq, osq⟩, hw''⟩ := hw'
          subst hw''
          have hB2 := hB1.trans ((below_regrown W1 dq osq).mono hB1.size)
          go_wp2
          go_ret
          exact ⟨ret_false (valid_no l0 i h0 hlt (by unfold okAt itemB; rw [c1, c2, c3, c4, c5, decide_eq_false (by omega)]; simp)), hB2⟩
        | true =>
          have HN := Lib.hid (show okAt l0 i = true by unfold okAt itemB; rw [c1, c2, c3, c4, c5]; simp)
          refine wp_region_quiet_below (by kernel_rfl) (by kernel_rfl) ?_
          repeat (go_big_quiet_step ((first | exact Calls.regrown_of (name_call _ _ c1 _) | exact Calls.regrown_of (have_call1 _ _ c2 _) | exact Calls.regrown_of (have_call1 _ _ c3 _) | exact Calls.regrown_of (cents_call1 _ _ c4 _))))
          refine wpQuiet_nil ?_
          intro _ hw'
          obtain ⟨⟨dq, osq⟩, hw''⟩ := hw'
          subst hw''
          have hB2 := hB1.trans ((below_regrown W1 dq osq).mono hB1.size)
          go_wp2
          go_roundw
          case rel => exact ⟨i + 1, by first | rfl | go_num | simp, by omega, by omega, fun j hj => (by by_cases e : (j : Int) = i; (rw [e]; exact HN.out); exact HOK.out j (by omega)), hB2⟩
          case measure => simp [intOf]; omega
      · obtain rfl : i = 0 := by omega
        have HN := Lib.hid (show okAt l0 0 = true by unfold okAt itemB; rw [c1, c2, c3, c4]; simp)
        refine wp_region_quiet_below (by kernel_rfl) (by kernel_rfl) ?_
        repeat (go_big_quiet_step ((first | exact Calls.regrown_of (name_call _ _ c1 _) | exact Calls.regrown_of (have_call1 _ _ c2 _) | exact Calls.regrown_of (have_call1 _ _ c3 _) | exact Calls.regrown_of (cents_call1 _ _ c4 _))))
        refine wpQuiet_nil ?_
        intro _ hw'
        obtain ⟨⟨dq, osq⟩, hw''⟩ := hw'
        subst hw''
        have hB2 := hB1.trans ((below_regrown W1 dq osq).mono hB1.size)
        go_wp2
        go_roundw
        case rel => exact ⟨1, by first | rfl | go_num | simp, by omega, by omega, first_only HN.out, hB2⟩
        case measure => simp [intOf]; omega
    · have hi : i = (l0.length : Int) := by omega
      subst hi
      go_wp2
      go_ret
      exact ⟨ret_false ((valid_yes l0 HOK.out).trans (by first | rfl | (simp; done) | (rw [Bool.eq_iff_iff]; simp only [decide_eq_true_eq]; omega))), hB⟩
theorem impl_ValidStock.calls (A0 : Option Addr) (c0 : Nat) (l0 : List S34) (r : Bool) (w : World) (hr0 : Kd.C k34 w A0 l0.length l0) (hc0 : l0.length ≤ c0) (h : impl_ValidStock.f l0 = some r) :
    Calls Tryd.prog 94 #[.slice A0 l0.length c0] w fun e w' => e = .returned (.bool r) ∧ Below w.heap.size w w' := by
  unfold impl_ValidStock.f at h
  by_cases hl : l0.length ≤ 1000000000
  · rw [if_pos hl] at h
    obtain rfl := Option.some.inj h
    exact valid_loop A0 c0 l0 w hr0 hc0 hl
  · rw [if_neg hl] at h; cases h
end Go.Proofs.YtdjdillppgijmaaDoor.Qs
