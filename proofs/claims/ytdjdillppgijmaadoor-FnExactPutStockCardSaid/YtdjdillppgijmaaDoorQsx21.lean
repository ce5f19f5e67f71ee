-- Printed for this claim by this project's pp.py (a patched run of the kit's print). Lean checks it.
import Derived.Test.YtdjdillppgijmaaDoorQsx0
import Derived.Test.YtdjdillppgijmaaDoorQsx2
import Derived.Test.YtdjdillppgijmaaDoorQsx12
import Derived.Test.YtdjdillppgijmaaDoorSOk
namespace Go.Proofs.YtdjdillppgijmaaDoor.Qs
open Go.RowKit Go.Proofs.YtdjdillppgijmaaDoorW.PrintWords Go.Proofs.YtdjdillppgijmaaDoorW.PrintLast Go.Proofs.YtdjdillppgijmaaDoorW.PrintMore
attribute [local go_sem] max2_int min2_int max_two min_two max_three min_three max_four min_four   -- for this text's walks alone

set_option linter.unusedVariables false
set_option linter.unusedSimpArgs false

/-! ### spec_PutStock: function 48 -/
def spec_PutStock.j0 : Nat → List (S34) → ByteArray → Int → Int → Bool → Option ((List (S34)) × Int)
  | 0, _, _, _, _, _ => none
  | k + 1, x0, x1, x2, x3, x28 => if x28 = true then (some (([] : List (S34)), 2)) else ((spec_l23At.f k x0 x1).bind fun t461 => ((spec_l23Is.f x0 t461 x1).bind fun t462 => (if t462 = true then (if 0 ≤ t461 then (if t461 < (x0.length : Int) then ((spec_l23Have.f (wrap64 (((rd_T34 x0 t461).f1) + x2))).bind fun t464 => (if t464 = true then ((some (([] : List (S34)) : List (S34))).bind fun y465 => (if y465.length + x0.length < 3518437208883 then ((some (y465 ++ x0 : List (S34))).bind fun y468 => (if t461 < (y468.length : Int) then ((some (y468.set (t461 : Int).toNat (⟨(rd_T34 y468 t461).f0, wrap64 (((rd_T34 y468 t461).f1) + x2), (rd_T34 y468 t461).f2, (rd_T34 y468 t461).f3⟩ : S34) : List (S34))).bind fun y472 => (some ((y472.set (t461 : Int).toNat (⟨(rd_T34 y472 t461).f0, (rd_T34 y472 t461).f1, (rd_T34 y472 t461).f2, x3⟩ : S34)), 0))) else (none))) else (none))) else (some (([] : List (S34)), 5)))) else (none)) else (none)) else (if (x0.length : Int) ≥ 20 then (some (([] : List (S34)), 5)) else ((some (([] : List (S34)) : List (S34))).bind fun y474 => (if 0 ≤ t461 then (if t461 ≤ (x0.length : Int) then ((some (x0.take (t461 : Int).toNat : List (S34))).bind fun y477 => (if y474.length + y477.length < 3518437208883 then ((some (y474 ++ y477 : List (S34))).bind fun y481 => (if y481.length < 3518437208883 then ((some (y481 ++ [(⟨x1, x2, 0, x3⟩ : S34)] : List (S34))).bind fun y484 => ((some (x0.drop (t461 : Int).toNat : List (S34))).bind fun y487 => (if y484.length + y487.length < 3518437208883 then (some ((y484 ++ y487), 0)) else (none)))) else (none))) else (none))) else (none)) else (none)))))))
def spec_PutStock.f (k : Nat) (l0 : List (S34)) (a1 : ByteArray) (a2 : Int) (a3 : Int) : Option ((List (S34)) × Int) := (spec_l23Ok.f l0).bind fun t457 => (if t457 = true then ((spec_IsName.f k a1).bind fun t458 => (if t458 = true then ((spec_l00In.f a2 1 100000).bind fun t459 => (if t459 = true then ((spec_l23Cents.f a3).bind fun t460 => (spec_PutStock.j0 k l0 a1 a2 a3 (!t460))) else (spec_PutStock.j0 k l0 a1 a2 a3 true))) else (spec_PutStock.j0 k l0 a1 a2 a3 true))) else (some (([] : List (S34)), 1)))
theorem spec_PutStock.mono_l : ∀ k, (∀ y0 y1 y2 y3 y4, LeO (spec_PutStock.j0 k y0 y1 y2 y3 y4) (spec_PutStock.j0 (k + 1) y0 y1 y2 y3 y4))
  | 0 => fun _ _ _ _ _ r h => by simp [spec_PutStock.j0] at h
  | k + 1 => by
    have ih0 := spec_PutStock.mono_l k
    · intro y0 y1 y2 y3 y4
      unfold spec_PutStock.j0
      repeat' first
      | (with_reducible exact ih0 _ _ _ _ _)
      | (with_reducible exact spec_IsName.mono _ _)
      | (with_reducible exact spec_l23At.mono _ _ _)
      | (with_reducible exact LeO.refl _)
      | (with_reducible exact LeO.none _)
      | (with_reducible refine LeO.ite ?_ ?_)
      | (with_reducible refine LeO.bind ?_ (fun _ => ?_))
      | exact ih0 _ _ _ _ _
      | exact spec_IsName.mono _ _
      | exact spec_l23At.mono _ _ _
      | exact LeO.none _
      | refine LeO.ite ?_ ?_
      | refine LeO.bind ?_ (fun _ => ?_)
theorem spec_PutStock.mono : ∀ a0 a1 a2 a3 k, LeO (spec_PutStock.f k a0 a1 a2 a3) (spec_PutStock.f (k + 1) a0 a1 a2 a3) := by
  intro a0 a1 a2 a3 k
  have ih0 := spec_PutStock.mono_l k
  unfold spec_PutStock.f
  repeat' first
      | (with_reducible exact ih0 _ _ _ _ _)
      | (with_reducible exact spec_IsName.mono _ _)
      | (with_reducible exact spec_l23At.mono _ _ _)
      | (with_reducible exact LeO.refl _)
      | (with_reducible exact LeO.none _)
      | (with_reducible refine LeO.ite ?_ ?_)
      | (with_reducible refine LeO.bind ?_ (fun _ => ?_))
      | exact ih0 _ _ _ _ _
      | exact spec_IsName.mono _ _
      | exact spec_l23At.mono _ _ _
      | exact LeO.none _
      | refine LeO.ite ?_ ?_
      | refine LeO.bind ?_ (fun _ => ?_)
set_option maxHeartbeats 8000000 in
set_option maxRecDepth 100000 in
theorem spec_PutStock.calls (k : Nat) (A0 : Option Addr) (c0 : Nat) (l0 : List (S34)) (a1 : ByteArray) (a2 : Int) (a3 : Int) (r1 : List (S34)) (r2 : Int) (w : World) (hr0 : Kd.C k34 w A0 l0.length l0) (hc0 : l0.length ≤ c0) (h : spec_PutStock.f k l0 a1 a2 a3 = some (r1, r2)) :
    Calls Tryd.prog 48 #[.slice A0 l0.length c0, .string a1, .int .i64 a2, .int .i64 a3] w fun e w' => ∃ v0_ : Value, e = .returned (.tuple #[v0_, .int .i64 r2]) ∧ Kd.R k34 34 w' w.heap.size (fun _ => True) v0_ r1 ∧ Below w.heap.size w w' := by
  have hu34 := Tryd.underlying34
  have HR0 := Aside0.mk hr0
  have HC0 := Aside0.mk hc0
  clear hr0 hc0
  have HB := Aside0.mk (Below.refl w.heap.size w)
  have H : ((spec_l23Ok.f l0).bind fun t457 => (if t457 = true then ((spec_IsName.f k a1).bind fun t458 => (if t458 = true then ((spec_l00In.f a2 1 100000).bind fun t459 => (if t459 = true then ((spec_l23Cents.f a3).bind fun t460 => (spec_PutStock.j0 k l0 a1 a2 a3 (!t460))) else (spec_PutStock.j0 k l0 a1 a2 a3 true))) else (spec_PutStock.j0 k l0 a1 a2 a3 true))) else (some (([] : List (S34)), 1)))) = some (r1, r2) := h
  clear h
  replace H := Option.bind_eq_some_iff.mp H
  obtain ⟨t457, A50, H⟩ := H
  replace H : (if t457 = true then ((spec_IsName.f k a1).bind fun t458 => (if t458 = true then ((spec_l00In.f a2 1 100000).bind fun t459 => (if t459 = true then ((spec_l23Cents.f a3).bind fun t460 => (spec_PutStock.j0 k l0 a1 a2 a3 (!t460))) else (spec_PutStock.j0 k l0 a1 a2 a3 true))) else (spec_PutStock.j0 k l0 a1 a2 a3 true))) else (some (([] : List (S34)), 1))) = some (r1, r2) := H
  have A5 := Aside0.mk A50
  clear A50
  by_cases c6 : t457 = true
  · subst c6
    have H1 : ((spec_IsName.f k a1).bind fun t458 => (if t458 = true then ((spec_l00In.f a2 1 100000).bind fun t459 => (if t459 = true then ((spec_l23Cents.f a3).bind fun t460 => (spec_PutStock.j0 k l0 a1 a2 a3 (!t460))) else (spec_PutStock.j0 k l0 a1 a2 a3 true))) else (spec_PutStock.j0 k l0 a1 a2 a3 true))) = some (r1, r2) := by rw [if_pos rfl] at H; exact H
    clear H
    have H := H1
    clear H1
    have HC7 := Aside0.mk H
    clear H
    go_enter Tryd.func48, Tryd.ntmps48
    go_upto_region 3 with (first | ((with_reducible refine gate_callee (f := 100) rfl ?_); refine goesL_ (some 14) rfl rfl Tryd.func100 (by kernel_rfl) rfl #[.slice A0 l0.length c0] rfl (by (try simp only [List.map_toArray, List.map_cons, List.map_nil]); first | done | rfl | (simp only [List.length_drop, List.length_take]; rfl)) ?_; (with_reducible refine (spec_l23Ok.calls _ _ l0 true _ ?side1 ?side2 A5.out).mono ?_); (case side1 => repeat (first | exact HR0.out | (with_reducible refine Kd.C_alloc ?_ _) | (with_reducible refine Kd.C_drewN ?_ _) | (with_reducible refine Kd.C_drew ?_))); (case side2 => exact HC0.out); rintro e w8 ⟨rfl, hb⟩; refine ⟨_, rfl, ?_⟩; have n0_ := Aside0.mk (below_step (by repeat (first | (with_reducible first | exact HB.out | apply below_alloc | apply pw_below_drewN | apply below_drew1) | exact HB.out)) hb); clear HB; have HB := n0_; clear n0_; (try clear hb); (try clear hb2); (try clear hk); (try clear hi)))
    (try simp only [Act.put, List.setIfInBounds_toArray, List.set_cons_zero, List.set_cons_succ])
    go_cut [28] (fun v28 wc => ∃ (kq : Nat) (x28_6 : Bool), v28 = .bool x28_6 ∧ Aside0 (spec_PutStock.j0 kq l0 a1 a2 a3 x28_6 = some (r1, r2)) ∧ Aside0 (kq ≤ k) ∧ Aside0 (Below w.heap.size w wc))
    case first =>
      have H := HC7.out
      clear HC7
      replace H := Option.bind_eq_some_iff.mp H
      obtain ⟨t458, A90, H⟩ := H
      replace H : (if t458 = true then ((spec_l00In.f a2 1 100000).bind fun t459 => (if t459 = true then ((spec_l23Cents.f a3).bind fun t460 => (spec_PutStock.j0 k l0 a1 a2 a3 (!t460))) else (spec_PutStock.j0 k l0 a1 a2 a3 true))) else (spec_PutStock.j0 k l0 a1 a2 a3 true)) = some (r1, r2) := H
      have A9 := Aside0.mk A90
      clear A90
      by_cases c10 : t458 = true
      · subst c10
        have H1 : ((spec_l00In.f a2 1 100000).bind fun t459 => (if t459 = true then ((spec_l23Cents.f a3).bind fun t460 => (spec_PutStock.j0 k l0 a1 a2 a3 (!t460))) else (spec_PutStock.j0 k l0 a1 a2 a3 true))) = some (r1, r2) := by rw [if_pos rfl] at H; exact H
        clear H
        have H := H1
        clear H1
        replace H := Option.bind_eq_some_iff.mp H
        obtain ⟨t459, A110, H⟩ := H
        replace H : (if t459 = true then ((spec_l23Cents.f a3).bind fun t460 => (spec_PutStock.j0 k l0 a1 a2 a3 (!t460))) else (spec_PutStock.j0 k l0 a1 a2 a3 true)) = some (r1, r2) := H
        have A11 := Aside0.mk A110
        clear A110
        by_cases c12 : t459 = true
        · subst c12
          have H1 : ((spec_l23Cents.f a3).bind fun t460 => (spec_PutStock.j0 k l0 a1 a2 a3 (!t460))) = some (r1, r2) := by rw [if_pos rfl] at H; exact H
          clear H
          have H := H1
          clear H1
          replace H := Option.bind_eq_some_iff.mp H
          obtain ⟨t460, A130, H⟩ := H
          replace H : (spec_PutStock.j0 k l0 a1 a2 a3 (!t460)) = some (r1, r2) := H
          have A13 := Aside0.mk A130
          clear A130
          have H' := Aside0.mk H
          clear H
          go_wp2_with (first | ((with_reducible refine gate_callee (f := 140) rfl ?_); refine goesL_ (some 17) rfl rfl Tryd.func140 (by kernel_rfl) rfl #[.string a1] rfl (by (try simp only [List.map_toArray, List.map_cons, List.map_nil]); first | done | rfl | (simp only [List.length_drop, List.length_take]; rfl)) ?_; (with_reducible refine (spec_IsName.calls k a1 true _ A9.out).mono ?_); rintro e w' ⟨rfl, ⟨nd, rfl⟩⟩; refine ⟨_, rfl, ?_⟩) | (go_at_call 104; (with_reducible refine (spec_l00In.calls a2 1 100000 true _ A11.out).mono ?_); rintro e w' ⟨rfl, ⟨nd, rfl⟩⟩) | (go_at_call 141; (with_reducible refine (spec_l23Cents.calls a3 t460 _ A13.out).mono ?_); rintro e w' ⟨rfl, ⟨nd, rfl⟩⟩))
          go_meet
          case rel => exact ⟨_, (!t460), (by first | rfl | (simp; done) | (simp [*]; done)), H', ⟨by first | omega | exact Nat.le_refl _⟩, ⟨by repeat (first | (with_reducible first | exact HB.out | apply below_alloc | apply pw_below_drewN | apply below_drew1) | exact HB.out)⟩⟩
        · replace c12 := Bool.eq_false_iff.mpr c12
          subst c12
          have H1 : (spec_PutStock.j0 k l0 a1 a2 a3 true) = some (r1, r2) := by rw [if_neg (show ¬ (false = true) by decide)] at H; exact H
          clear H
          have H := H1
          clear H1
          have H' := Aside0.mk H
          clear H
          go_wp2_with (first | ((with_reducible refine gate_callee (f := 140) rfl ?_); refine goesL_ (some 17) rfl rfl Tryd.func140 (by kernel_rfl) rfl #[.string a1] rfl (by (try simp only [List.map_toArray, List.map_cons, List.map_nil]); first | done | rfl | (simp only [List.length_drop, List.length_take]; rfl)) ?_; (with_reducible refine (spec_IsName.calls k a1 true _ A9.out).mono ?_); rintro e w' ⟨rfl, ⟨nd, rfl⟩⟩; refine ⟨_, rfl, ?_⟩) | (go_at_call 104; (with_reducible refine (spec_l00In.calls a2 1 100000 false _ A11.out).mono ?_); rintro e w' ⟨rfl, ⟨nd, rfl⟩⟩))
          go_meet
          case rel => exact ⟨_, (true), (by first | rfl | (simp; done) | (simp [*]; done)), H', ⟨by first | omega | exact Nat.le_refl _⟩, ⟨by repeat (first | (with_reducible first | exact HB.out | apply below_alloc | apply pw_below_drewN | apply below_drew1) | exact HB.out)⟩⟩
      · replace c10 := Bool.eq_false_iff.mpr c10
        subst c10
        have H1 : (spec_PutStock.j0 k l0 a1 a2 a3 true) = some (r1, r2) := by rw [if_neg (show ¬ (false = true) by decide)] at H; exact H
        clear H
        have H := H1
        clear H1
        have H' := Aside0.mk H
        clear H
        go_wp2_with (first | ((with_reducible refine gate_callee (f := 140) rfl ?_); refine goesL_ (some 17) rfl rfl Tryd.func140 (by kernel_rfl) rfl #[.string a1] rfl (by (try simp only [List.map_toArray, List.map_cons, List.map_nil]); first | done | rfl | (simp only [List.length_drop, List.length_take]; rfl)) ?_; (with_reducible refine (spec_IsName.calls k a1 false _ A9.out).mono ?_); rintro e w' ⟨rfl, ⟨nd, rfl⟩⟩; refine ⟨_, rfl, ?_⟩))
        go_meet
        case rel => exact ⟨_, (true), (by first | rfl | (simp; done) | (simp [*]; done)), H', ⟨by first | omega | exact Nat.le_refl _⟩, ⟨by repeat (first | (with_reducible first | exact HB.out | apply below_alloc | apply pw_below_drewN | apply below_drew1) | exact HB.out)⟩⟩
    case rest =>
      clear HC7
      try clear c1
      try clear p2
      try clear c4
      try clear c6
      try clear c10
      try clear c12
      obtain ⟨kq, x28_6, rfl, HA, HJ6, HB⟩ := hcut
      cases kq with
      | zero => exact absurd HA.out (by simp [spec_PutStock.j0])
      | succ kj6 =>
        have H := HA.out
        clear HA
        simp only [spec_PutStock.j0] at H
        by_cases c14 : x28_6 = true
        · subst c14
          have H1 : (some (([] : List (S34)), 2)) = some (r1, r2) := by rw [if_pos rfl] at H; exact H
          clear H
          have H := H1
          clear H1
          simp only [Option.some.injEq, Prod.mk.injEq] at H
          obtain ⟨rfl, rfl⟩ := H
          go_wp2
          go_ret2
          exact ⟨_, by first | rfl | (simp [errW_none, errW_some] <;> rfl) | (simp [*, errW_none, errW_some] <;> rfl), by first | exact Kd.R_nil _ _ _ _ _ | exact Kd.N_nil _ _ _ _ _ | exact Kd.V_nil _ _ _ _ _ | exact Kd.Q_nil _ _ _ _ _ | exact Kd.S_nil _ _ _ _ _, by repeat (first | (with_reducible first | exact HB.out | apply below_alloc | apply pw_below_drewN | apply below_drew1) | exact HB.out)⟩
        · replace c14 := Bool.eq_false_iff.mpr c14
          subst c14
          have H1 : ((spec_l23At.f kj6 l0 a1).bind fun t461 => ((spec_l23Is.f l0 t461 a1).bind fun t462 => (if t462 = true then (if 0 ≤ t461 then (if t461 < (l0.length : Int) then ((spec_l23Have.f (wrap64 (((rd_T34 l0 t461).f1) + a2))).bind fun t464 => (if t464 = true then ((some (([] : List (S34)) : List (S34))).bind fun y465 => (if y465.length + l0.length < 3518437208883 then ((some (y465 ++ l0 : List (S34))).bind fun y468 => (if t461 < (y468.length : Int) then ((some (y468.set (t461 : Int).toNat (⟨(rd_T34 y468 t461).f0, wrap64 (((rd_T34 y468 t461).f1) + a2), (rd_T34 y468 t461).f2, (rd_T34 y468 t461).f3⟩ : S34) : List (S34))).bind fun y472 => (some ((y472.set (t461 : Int).toNat (⟨(rd_T34 y472 t461).f0, (rd_T34 y472 t461).f1, (rd_T34 y472 t461).f2, a3⟩ : S34)), 0))) else (none))) else (none))) else (some (([] : List (S34)), 5)))) else (none)) else (none)) else (if (l0.length : Int) ≥ 20 then (some (([] : List (S34)), 5)) else ((some (([] : List (S34)) : List (S34))).bind fun y474 => (if 0 ≤ t461 then (if t461 ≤ (l0.length : Int) then ((some (l0.take (t461 : Int).toNat : List (S34))).bind fun y477 => (if y474.length + y477.length < 3518437208883 then ((some (y474 ++ y477 : List (S34))).bind fun y481 => (if y481.length < 3518437208883 then ((some (y481 ++ [(⟨a1, a2, 0, a3⟩ : S34)] : List (S34))).bind fun y484 => ((some (l0.drop (t461 : Int).toNat : List (S34))).bind fun y487 => (if y484.length + y487.length < 3518437208883 then (some ((y484 ++ y487), 0)) else (none)))) else (none))) else (none))) else (none)) else (none))))))) = some (r1, r2) := by rw [if_neg (show ¬ (false = true) by decide)] at H; exact H
          clear H
          have H := H1
          clear H1
          replace H := Option.bind_eq_some_iff.mp H
          obtain ⟨t461, A150, H⟩ := H
          replace H : ((spec_l23Is.f l0 t461 a1).bind fun t462 => (if t462 = true then (if 0 ≤ t461 then (if t461 < (l0.length : Int) then ((spec_l23Have.f (wrap64 (((rd_T34 l0 t461).f1) + a2))).bind fun t464 => (if t464 = true then ((some (([] : List (S34)) : List (S34))).bind fun y465 => (if y465.length + l0.length < 3518437208883 then ((some (y465 ++ l0 : List (S34))).bind fun y468 => (if t461 < (y468.length : Int) then ((some (y468.set (t461 : Int).toNat (⟨(rd_T34 y468 t461).f0, wrap64 (((rd_T34 y468 t461).f1) + a2), (rd_T34 y468 t461).f2, (rd_T34 y468 t461).f3⟩ : S34) : List (S34))).bind fun y472 => (some ((y472.set (t461 : Int).toNat (⟨(rd_T34 y472 t461).f0, (rd_T34 y472 t461).f1, (rd_T34 y472 t461).f2, a3⟩ : S34)), 0))) else (none))) else (none))) else (some (([] : List (S34)), 5)))) else (none)) else (none)) else (if (l0.length : Int) ≥ 20 then (some (([] : List (S34)), 5)) else ((some (([] : List (S34)) : List (S34))).bind fun y474 => (if 0 ≤ t461 then (if t461 ≤ (l0.length : Int) then ((some (l0.take (t461 : Int).toNat : List (S34))).bind fun y477 => (if y474.length + y477.length < 3518437208883 then ((some (y474 ++ y477 : List (S34))).bind fun y481 => (if y481.length < 3518437208883 then ((some (y481 ++ [(⟨a1, a2, 0, a3⟩ : S34)] : List (S34))).bind fun y484 => ((some (l0.drop (t461 : Int).toNat : List (S34))).bind fun y487 => (if y484.length + y487.length < 3518437208883 then (some ((y484 ++ y487), 0)) else (none)))) else (none))) else (none))) else (none)) else (none)))))) = some (r1, r2) := H
          have A15 := Aside0.mk A150
          clear A150
          replace H := Option.bind_eq_some_iff.mp H
          obtain ⟨t462, A160, H⟩ := H
          replace H : (if t462 = true then (if 0 ≤ t461 then (if t461 < (l0.length : Int) then ((spec_l23Have.f (wrap64 (((rd_T34 l0 t461).f1) + a2))).bind fun t464 => (if t464 = true then ((some (([] : List (S34)) : List (S34))).bind fun y465 => (if y465.length + l0.length < 3518437208883 then ((some (y465 ++ l0 : List (S34))).bind fun y468 => (if t461 < (y468.length : Int) then ((some (y468.set (t461 : Int).toNat (⟨(rd_T34 y468 t461).f0, wrap64 (((rd_T34 y468 t461).f1) + a2), (rd_T34 y468 t461).f2, (rd_T34 y468 t461).f3⟩ : S34) : List (S34))).bind fun y472 => (some ((y472.set (t461 : Int).toNat (⟨(rd_T34 y472 t461).f0, (rd_T34 y472 t461).f1, (rd_T34 y472 t461).f2, a3⟩ : S34)), 0))) else (none))) else (none))) else (some (([] : List (S34)), 5)))) else (none)) else (none)) else (if (l0.length : Int) ≥ 20 then (some (([] : List (S34)), 5)) else ((some (([] : List (S34)) : List (S34))).bind fun y474 => (if 0 ≤ t461 then (if t461 ≤ (l0.length : Int) then ((some (l0.take (t461 : Int).toNat : List (S34))).bind fun y477 => (if y474.length + y477.length < 3518437208883 then ((some (y474 ++ y477 : List (S34))).bind fun y481 => (if y481.length < 3518437208883 then ((some (y481 ++ [(⟨a1, a2, 0, a3⟩ : S34)] : List (S34))).bind fun y484 => ((some (l0.drop (t461 : Int).toNat : List (S34))).bind fun y487 => (if y484.length + y487.length < 3518437208883 then (some ((y484 ++ y487), 0)) else (none)))) else (none))) else (none))) else (none)) else (none))))) = some (r1, r2) := H
          have A16 := Aside0.mk A160
          clear A160
          by_cases c17 : t462 = true
          · subst c17
            have H1 : (if 0 ≤ t461 then (if t461 < (l0.length : Int) then ((spec_l23Have.f (wrap64 (((rd_T34 l0 t461).f1) + a2))).bind fun t464 => (if t464 = true then ((some (([] : List (S34)) : List (S34))).bind fun y465 => (if y465.length + l0.length < 3518437208883 then ((some (y465 ++ l0 : List (S34))).bind fun y468 => (if t461 < (y468.length : Int) then ((some (y468.set (t461 : Int).toNat (⟨(rd_T34 y468 t461).f0, wrap64 (((rd_T34 y468 t461).f1) + a2), (rd_T34 y468 t461).f2, (rd_T34 y468 t461).f3⟩ : S34) : List (S34))).bind fun y472 => (some ((y472.set (t461 : Int).toNat (⟨(rd_T34 y472 t461).f0, (rd_T34 y472 t461).f1, (rd_T34 y472 t461).f2, a3⟩ : S34)), 0))) else (none))) else (none))) else (some (([] : List (S34)), 5)))) else (none)) else (none)) = some (r1, r2) := by rw [if_pos rfl] at H; exact H
            clear H
            have H := H1
            clear H1
            by_cases c18 : 0 ≤ t461
            · rw [if_pos c18] at H
              have c18b0 : decide (0 ≤ t461) = true := decide_eq_true c18
              clear c18
              by_cases c19 : t461 < (l0.length : Int)
              · rw [if_pos c19] at H
                have c19b0 : decide (t461 < (l0.length : Int)) = true := decide_eq_true c19
                clear c19
                replace H := Option.bind_eq_some_iff.mp H
                obtain ⟨t464, A200, H⟩ := H
                replace H : (if t464 = true then ((some (([] : List (S34)) : List (S34))).bind fun y465 => (if y465.length + l0.length < 3518437208883 then ((some (y465 ++ l0 : List (S34))).bind fun y468 => (if t461 < (y468.length : Int) then ((some (y468.set (t461 : Int).toNat (⟨(rd_T34 y468 t461).f0, wrap64 (((rd_T34 y468 t461).f1) + a2), (rd_T34 y468 t461).f2, (rd_T34 y468 t461).f3⟩ : S34) : List (S34))).bind fun y472 => (some ((y472.set (t461 : Int).toNat (⟨(rd_T34 y472 t461).f0, (rd_T34 y472 t461).f1, (rd_T34 y472 t461).f2, a3⟩ : S34)), 0))) else (none))) else (none))) else (some (([] : List (S34)), 5))) = some (r1, r2) := H
                have A20 := Aside0.mk A200
                clear A200
                by_cases c21 : t464 = true
                · subst c21
                  have H1 : ((some (([] : List (S34)) : List (S34))).bind fun y465 => (if y465.length + l0.length < 3518437208883 then ((some (y465 ++ l0 : List (S34))).bind fun y468 => (if t461 < (y468.length : Int) then ((some (y468.set (t461 : Int).toNat (⟨(rd_T34 y468 t461).f0, wrap64 (((rd_T34 y468 t461).f1) + a2), (rd_T34 y468 t461).f2, (rd_T34 y468 t461).f3⟩ : S34) : List (S34))).bind fun y472 => (some ((y472.set (t461 : Int).toNat (⟨(rd_T34 y472 t461).f0, (rd_T34 y472 t461).f1, (rd_T34 y472 t461).f2, a3⟩ : S34)), 0))) else (none))) else (none))) = some (r1, r2) := by rw [if_pos rfl] at H; exact H
                  clear H
                  have H := H1
                  clear H1
                  obtain ⟨y465, hy465⟩ : ∃ y_ : List (S34), y_ = (([] : List (S34))) := ⟨_, rfl⟩
                  replace H : (if y465.length + l0.length < 3518437208883 then ((some (y465 ++ l0 : List (S34))).bind fun y468 => (if t461 < (y468.length : Int) then ((some (y468.set (t461 : Int).toNat (⟨(rd_T34 y468 t461).f0, wrap64 (((rd_T34 y468 t461).f1) + a2), (rd_T34 y468 t461).f2, (rd_T34 y468 t461).f3⟩ : S34) : List (S34))).bind fun y472 => (some ((y472.set (t461 : Int).toNat (⟨(rd_T34 y472 t461).f0, (rd_T34 y472 t461).f1, (rd_T34 y472 t461).f2, a3⟩ : S34)), 0))) else (none))) else (none)) = some (r1, r2) := by first | (rw [hy465]; with_reducible exact H) | (have H2_ := (Option.bind_some _ _).symm.trans H; rw [hy465]; with_reducible exact H2_) | (have H2_ := (Option.bind_some _ _).symm.trans H; with_reducible exact H2_) | with_reducible exact H | (rw [hy465]; exact H) | exact H
                  have Ny465 := Aside0.mk hy465
                  clear hy465
                  by_cases c22 : y465.length + l0.length < 3518437208883
                  · rw [if_pos c22] at H
                    have LMc22 := Aside0.mk c22
                    clear c22
                    obtain ⟨y468, hy468⟩ : ∃ y_ : List (S34), y_ = (y465 ++ l0) := ⟨_, rfl⟩
                    replace H : (if t461 < (y468.length : Int) then ((some (y468.set (t461 : Int).toNat (⟨(rd_T34 y468 t461).f0, wrap64 (((rd_T34 y468 t461).f1) + a2), (rd_T34 y468 t461).f2, (rd_T34 y468 t461).f3⟩ : S34) : List (S34))).bind fun y472 => (some ((y472.set (t461 : Int).toNat (⟨(rd_T34 y472 t461).f0, (rd_T34 y472 t461).f1, (rd_T34 y472 t461).f2, a3⟩ : S34)), 0))) else (none)) = some (r1, r2) := by first | (rw [hy468]; with_reducible exact H) | (have H2_ := (Option.bind_some _ _).symm.trans H; rw [hy468]; with_reducible exact H2_) | (have H2_ := (Option.bind_some _ _).symm.trans H; with_reducible exact H2_) | with_reducible exact H | (rw [hy468]; exact H) | exact H
                    have Ny468 := Aside0.mk hy468
                    clear hy468
                    by_cases c23 : t461 < (y468.length : Int)
                    · rw [if_pos c23] at H
                      have c23b0 : decide (t461 < (y468.length : Int)) = true := decide_eq_true c23
                      clear c23
                      obtain ⟨y472, hy472⟩ : ∃ y_ : List (S34), y_ = (y468.set (t461 : Int).toNat (⟨(rd_T34 y468 t461).f0, wrap64 (((rd_T34 y468 t461).f1) + a2), (rd_T34 y468 t461).f2, (rd_T34 y468 t461).f3⟩ : S34)) := ⟨_, rfl⟩
                      replace H : (some ((y472.set (t461 : Int).toNat (⟨(rd_T34 y472 t461).f0, (rd_T34 y472 t461).f1, (rd_T34 y472 t461).f2, a3⟩ : S34)), 0)) = some (r1, r2) := by first | (rw [hy472]; with_reducible exact H) | (have H2_ := (Option.bind_some _ _).symm.trans H; rw [hy472]; with_reducible exact H2_) | (have H2_ := (Option.bind_some _ _).symm.trans H; with_reducible exact H2_) | with_reducible exact H | (rw [hy472]; exact H) | exact H
                      have Ny472 := Aside0.mk hy472
                      clear hy472
                      obtain ⟨y473, hy473⟩ : ∃ y_ : List (S34), y_ = (y472.set (t461 : Int).toNat (⟨(rd_T34 y472 t461).f0, (rd_T34 y472 t461).f1, (rd_T34 y472 t461).f2, a3⟩ : S34)) := ⟨_, rfl⟩
                      replace H : (some (y473, 0)) = some (r1, r2) := by first | (rw [hy473]; with_reducible exact H) | (have H2_ := (Option.bind_some _ _).symm.trans H; rw [hy473]; with_reducible exact H2_) | (have H2_ := (Option.bind_some _ _).symm.trans H; with_reducible exact H2_) | with_reducible exact H | (rw [hy473]; exact H) | exact H
                      have Ny473 := Aside0.mk hy473
                      clear hy473
                      simp only [Option.some.injEq, Prod.mk.injEq] at H
                      obtain ⟨rfl, rfl⟩ := H
                      go_wp2_with (first | ((with_reducible refine gate_callee (f := 123) rfl ?_); refine goesL_ (some 31) rfl rfl Tryd.func123 (by kernel_rfl) rfl #[.slice A0 l0.length c0, .string a1] rfl (by (try simp only [List.map_toArray, List.map_cons, List.map_nil]); first | done | rfl | (simp only [List.length_drop, List.length_take]; rfl)) ?_; (with_reducible refine (spec_l23At.calls kj6 _ _ l0 a1 t461 _ ?side1 ?side2 A15.out).mono ?_); (case side1 => repeat (first | exact (Kd.C_below HR0.out HB.out) | (with_reducible refine Kd.C_alloc ?_ _) | (with_reducible refine Kd.C_drewN ?_ _) | (with_reducible refine Kd.C_drew ?_))); (case side2 => exact HC0.out); rintro e w' ⟨rfl, ⟨nd, rfl⟩⟩; refine ⟨_, rfl, ?_⟩; (try (rw [drewN_self wc]; generalize hq_ : World.drewN wc _ = wc; have n0_ : Aside0 (Below w.heap.size w wc) := ⟨by rw [← hq_]; exact (by repeat (first | (with_reducible first | exact HB.out | apply below_alloc | apply pw_below_drewN | apply below_drew1) | exact HB.out))⟩; clear HB hq_; have HB := n0_; clear n0_))) | ((with_reducible refine gate_callee (f := 124) rfl ?_); refine goesL_ (some 35) rfl rfl Tryd.func124 (by kernel_rfl) rfl #[.slice A0 l0.length c0, .int .i64 t461, .string a1] rfl (by (try simp only [List.map_toArray, List.map_cons, List.map_nil]); first | done | rfl | (simp only [List.length_drop, List.length_take]; rfl)) ?_; (with_reducible refine (spec_l23Is.calls _ _ l0 t461 a1 true _ ?side1 ?side2 A16.out).mono ?_); (case side1 => repeat (first | exact (Kd.C_below HR0.out HB.out) | (with_reducible refine Kd.C_alloc ?_ _) | (with_reducible refine Kd.C_drewN ?_ _) | (with_reducible refine Kd.C_drew ?_))); (case side2 => exact HC0.out); rintro e w' ⟨rfl, ⟨nd, rfl⟩⟩; refine ⟨_, rfl, ?_⟩; (try (rw [drewN_self wc]; generalize hq_ : World.drewN wc _ = wc; have n0_ : Aside0 (Below w.heap.size w wc) := ⟨by rw [← hq_]; exact (by repeat (first | (with_reducible first | exact HB.out | apply below_alloc | apply pw_below_drewN | apply below_drew1) | exact HB.out))⟩; clear HB hq_; have HB := n0_; clear n0_)); have p463 : 0 ≤ (t461 : Int) := of_decide_eq_true (by first | (with_reducible assumption) | assumption); have q463 : t461 < (l0.length : Int) := of_decide_eq_true (by first | (with_reducible assumption) | assumption); obtain ⟨ad463, e463, hx463_0, hx463_1, hx463_2, hx463_3⟩ := at_T34 HR0.out t461 p463 q463; cases e463; replace hx463_0 := (HB.out.cell (World.block_lt_of_cell? w _ hx463_0)).trans hx463_0; replace hx463_1 := (HB.out.cell (World.block_lt_of_cell? w _ hx463_1)).trans hx463_1; replace hx463_2 := (HB.out.cell (World.block_lt_of_cell? w _ hx463_2)).trans hx463_2; replace hx463_3 := (HB.out.cell (World.block_lt_of_cell? w _ hx463_3)).trans hx463_3; replace p463 := eq_true p463; replace q463 := eq_true q463) | ((with_reducible refine gate_callee (f := 142) rfl ?_); refine goesL_ (some 64) rfl rfl Tryd.func142 (by kernel_rfl) rfl #[.int .i64 (wrap64 (((rd_T34 l0 t461).f1) + a2))] rfl (by (try simp only [List.map_toArray, List.map_cons, List.map_nil]); first | done | rfl | (simp only [List.length_drop, List.length_take]; rfl)) ?_; (with_reducible refine (spec_l23Have.calls (wrap64 (((rd_T34 l0 t461).f1) + a2)) true _ A20.out).mono ?_); rintro e w' ⟨rfl, ⟨nd, rfl⟩⟩; refine ⟨_, rfl, ?_⟩; (try (rw [drewN_self wc]; generalize hq_ : World.drewN wc _ = wc; have n0_ : Aside0 (Below w.heap.size w wc) := ⟨by rw [← hq_]; exact (by repeat (first | (with_reducible first | exact HB.out | apply below_alloc | apply pw_below_drewN | apply below_drew1) | exact HB.out))⟩; clear HB hq_; have HB := n0_; clear n0_))) | ((with_reducible refine gate_dst (N := 66) rfl ?_); refine Kd.R_lit k34 _ 34 ?hg (N := 66) ?hd (xs := ([] : List (S34))) (inner := []) (ok := fun _ => True) (okp := fun _ => True) ?hr ?hp (fun _ hk => hk) trivial (Below.refl _ _) (Nat.le_refl _) (by simp) ?_; (case hd => rfl); (case hg => rfl); (case hr => first | (go_simp; done) | (go_simp; rfl)); (case hp => exact (Reps.none _ _)); intro v466 w26 ho27 hb hg_ hnew_; clear hg_ hnew_; (first | rw [← Ny465.out] at ho27 | (simp only [Int.reduceToNat] at ho27; rw [← Ny465.out] at ho27)); have n0_ := Aside0.mk (Kd.R_lower ho27 (below_size (by repeat (first | (with_reducible first | exact HB.out | apply below_alloc | apply pw_below_drewN | apply below_drew1) | exact HB.out)))); have n1_ := Aside0.mk (below_step (by repeat (first | (with_reducible first | exact HB.out | apply below_alloc | apply pw_below_drewN | apply below_drew1) | exact HB.out)) hb); clear HB; have HO467 := n0_; have HB := n1_; clear n0_ n1_; clear hb ho27) | ((with_reducible refine gate_builtin (b := .append) (xs := #[.tmp 66, .tmp 67]) rfl ?_); at_builtin; refine Kd.R_append_rows k34 (w0 := w) w.heap.size rfl (.tmp 66) (.tmp 67) 24 34 (.agg #[(.string ⟨#[]⟩), (.int .i64 0), (.int .i64 0), (.int .i64 0)]) 40 rfl Tryd.underlying24 info34 rfl (by decide) (by omega) v466 y465 l0 _ _ _ (fun _ => True) (fun _ => False) rfl rfl ?aO ?aR (fun _ _ h => h) (fun _ h => h.elim) ?aF ?aB ?aS ?aL ?_; (case aR => repeat (first | exact (Kd.C_below HR0.out HB.out) | (with_reducible refine Kd.C_alloc ?_ _) | (with_reducible refine Kd.C_drewN ?_ _) | (with_reducible refine Kd.C_drew ?_))); (case aB => exact (by repeat (first | (with_reducible first | exact HB.out | apply below_alloc | apply pw_below_drewN | apply below_drew1) | exact HB.out))); (case aF => exact (fun _ _ => trivial)); (case aO => exact (by (with_reducible repeat (first | apply Kd.R_alloc | apply Kd.R_drewN | apply Kd.R_drew)); exact HO467.out)); (case aS => exact (below_size (by repeat (first | (with_reducible first | exact HB.out | apply below_alloc | apply pw_below_drewN | apply below_drew1) | exact HB.out)))); (case aL => have := LMc22.out; omega); intro v469 w28 ho hb hg hat; rw [← Ny468.out] at ho; have n0_ := Aside0.mk (hb); have n1_ := Aside0.mk (ho); clear HB; clear HO467; have HB := n0_; have HO470 := n1_; clear n0_ n1_; clear ho hb hg hat; obtain ⟨Ao29, co29, eo29⟩ := Kd.R_slice HO470.out; subst eo29; have p471 : 0 ≤ (t461 : Int) := of_decide_eq_true (by first | (with_reducible assumption) | assumption); have q471 : t461 < (y468.length : Int) := of_decide_eq_true (by first | (with_reducible assumption) | assumption); obtain ⟨ad471, e471, hx471_0, hx471_1, hx471_2, hx471_3⟩ := at_T34 (Kd.R_reads' HO470.out).2.2 t461 p471 q471; cases e471; replace p471 := eq_true p471; replace q471 := eq_true q471; have p24 : 0 ≤ (t461 : Int) := of_decide_eq_true (by first | (with_reducible assumption) | assumption); have q24 : (t461 : Int) < ((y468.length : Int) : Int) := of_decide_eq_true (by first | (with_reducible assumption) | assumption); obtain ⟨go24, co24, eo24, gb24, gl24, cl24, HG24⟩ := Kd.R_form HO470.out (by omega); (first | cases eo24 | (injection eo24 with ea_ en_ ec_; (first | subst ea_ | (injection ea_ with ea_; subst ea_)); subst ec_; clear en_)); have GB24 := Aside0.mk gb24; have GG24 := Aside0.mk HG24; clear gb24 gl24 HG24; (first | simp only [add_plain] at hx471_0 | skip); (first | simp only [add_plain] at hx471_1 | skip); (first | simp only [add_plain] at hx471_2 | skip); (first | simp only [add_plain] at hx471_3 | skip); obtain ⟨ce24, hcl24, hM24, hcc24, hfr24⟩ := Kd.R_elem HO470.out z34 (t461 : Int) p24 q24; obtain rfl := k34_openM hM24; have hx24_0 : w28.cell? ⟨go24, (t461 : Int).toNat * 4, none⟩ = some (.string ((rd_T34 y468 t461).f0)) := hcc24 0 _ rfl; have hx24_1 : w28.cell? ⟨go24, (t461 : Int).toNat * 4 + 1, none⟩ = some (.int .i64 ((rd_T34 y468 t461).f1)) := hcc24 1 _ rfl; have hx24_2 : w28.cell? ⟨go24, (t461 : Int).toNat * 4 + 2, none⟩ = some (.int .i64 ((rd_T34 y468 t461).f2)) := hcc24 2 _ rfl; have hx24_3 : w28.cell? ⟨go24, (t461 : Int).toNat * 4 + 3, none⟩ = some (.int .i64 ((rd_T34 y468 t461).f3)) := hcc24 3 _ rfl; have hf24_0 : w28.frozen? ⟨go24, (t461 : Int).toNat * 4, none⟩ = false := hfr24 0; have hf24_1 : w28.frozen? ⟨go24, (t461 : Int).toNat * 4 + 1, none⟩ = false := hfr24 1; have hf24_2 : w28.frozen? ⟨go24, (t461 : Int).toNat * 4 + 2, none⟩ = false := hfr24 2; have hf24_3 : w28.frozen? ⟨go24, (t461 : Int).toNat * 4 + 3, none⟩ = false := hfr24 3; clear hcl24 hcc24 hfr24 hM24; replace p24 := eq_true p24; replace q24 := eq_true q24; have HX30 := Aside0.mk (show Kd.R k34 34 w28 w.heap.size (fun _ => True) (.slice (some ⟨go24, 0, none⟩) y468.length co29) y468 from (by (with_reducible repeat (first | apply Kd.R_alloc | apply Kd.R_drewN | apply Kd.R_drew)); exact HO470.out)); obtain ⟨ce30, hcl30, hM30, hcc30, hfr30⟩ := Kd.R_elem HX30.out z34 (t461 : Int) (of_decide_eq_true (by first | (with_reducible assumption) | assumption)) (by have h_ : (t461 : Int) < ((y468.length : Int) : Int) := of_decide_eq_true (by first | (with_reducible assumption) | assumption); first | exact h_ | (have e_ := (Kd.R_reads' HO470.out).1; omega) | simpa using h_); obtain rfl := k34_openM hM30; have HP30 := Kd.R_seg HX30.out (t461 : Int) (of_decide_eq_true (by first | (with_reducible assumption) | assumption)) (by have h_ : (t461 : Int) < ((y468.length : Int) : Int) := of_decide_eq_true (by first | (with_reducible assumption) | assumption); first | exact h_ | (have e_ := (Kd.R_reads' HO470.out).1; omega) | simpa using h_) (seg := [.int .i64 (wrap64 (((rd_T34 y468 t461).f1) + a2))]) (j := 1) hcl30 hcc30 (show 2 ≤ 4 from by decide) (x' := (⟨(rd_T34 y468 t461).f0, wrap64 (((rd_T34 y468 t461).f1) + a2), (rd_T34 y468 t461).f2, (rd_T34 y468 t461).f3⟩ : S34)) (k34_mkM _ _ _ (⟨(rd_T34 y468 t461).f0, wrap64 (((rd_T34 y468 t461).f1) + a2), (rd_T34 y468 t461).f2, (rd_T34 y468 t461).f3⟩ : S34) ) (fun _ hk => hk); have hx30_1 := hcc30 1 _ rfl; (try simp only [show (k34).sz = 4 from rfl, Nat.mul_one, Nat.add_zero] at hx30_1); have hf30_1 := hfr30 1; (try simp only [show (k34).sz = 4 from rfl, Nat.mul_one, Nat.add_zero] at hf30_1); clear hcl30 hcc30 hfr30 hM30) | ((with_reducible refine gate_store (t := 2) (p := 77) rfl ?_); refine store_event (t := 2) (p := 77) (v := ?vo_w31) (w1 := (w28.setCell ⟨go24, (t461 : Int).toNat * 4 + 1, none⟩ (.int .i64 (wrap64 (((rd_T34 y468 t461).f1) + a2))))) ?hg ?ho ?hn ?hr ?_; (case ho => rfl); (case hg => rfl); (case hn => rfl); (case hr => first | (go_simp; done) | (go_simp; rfl)); intro w31 hw; have hg : w28.grownBy w31 (some go24) := (by rw [hw]; exact HP30.2); have hp_ : Kd.R k34 34 w31 w.heap.size (fun _ => True) (.slice (some ⟨go24, 0, none⟩) y468.length co29) y472 := (by rw [hw, Ny472.out]; exact HP30.1); clear HP30; have n0_ := Aside0.mk (hp_); have n1_ := Aside0.mk ((by rw [hw]; exact below_set (HB.out) GB24.out : Below w.heap.size w w31)); clear HO470; clear HB; have HO470 := n0_; have HB := n1_; clear n0_ n1_; clear hg hw hp_; have p25 : 0 ≤ (t461 : Int) := of_decide_eq_true (by first | (with_reducible assumption) | assumption); have q25 : (t461 : Int) < ((y468.length : Int) : Int) := of_decide_eq_true (by first | (with_reducible assumption) | assumption); obtain ⟨ce25, hcl25, hM25, hcc25, hfr25⟩ := Kd.R_elem HO470.out z34 (t461 : Int) p25 q25; obtain rfl := k34_openM hM25; have hx25_0 : w31.cell? ⟨go24, (t461 : Int).toNat * 4, none⟩ = some (.string ((rd_T34 y472 t461).f0)) := hcc25 0 _ rfl; have hx25_1 : w31.cell? ⟨go24, (t461 : Int).toNat * 4 + 1, none⟩ = some (.int .i64 ((rd_T34 y472 t461).f1)) := hcc25 1 _ rfl; have hx25_2 : w31.cell? ⟨go24, (t461 : Int).toNat * 4 + 2, none⟩ = some (.int .i64 ((rd_T34 y472 t461).f2)) := hcc25 2 _ rfl; have hx25_3 : w31.cell? ⟨go24, (t461 : Int).toNat * 4 + 3, none⟩ = some (.int .i64 ((rd_T34 y472 t461).f3)) := hcc25 3 _ rfl; have hf25_0 : w31.frozen? ⟨go24, (t461 : Int).toNat * 4, none⟩ = false := hfr25 0; have hf25_1 : w31.frozen? ⟨go24, (t461 : Int).toNat * 4 + 1, none⟩ = false := hfr25 1; have hf25_2 : w31.frozen? ⟨go24, (t461 : Int).toNat * 4 + 2, none⟩ = false := hfr25 2; have hf25_3 : w31.frozen? ⟨go24, (t461 : Int).toNat * 4 + 3, none⟩ = false := hfr25 3; clear hcl25 hcc25 hfr25 hM25; replace p25 := eq_true p25; replace q25 := eq_true q25; have HX32 := Aside0.mk (show Kd.R k34 34 w31 w.heap.size (fun _ => True) (.slice (some ⟨go24, 0, none⟩) y468.length co29) y472 from (by (with_reducible repeat (first | apply Kd.R_alloc | apply Kd.R_drewN | apply Kd.R_drew)); exact HO470.out)); obtain ⟨ce32, hcl32, hM32, hcc32, hfr32⟩ := Kd.R_elem HX32.out z34 (t461 : Int) (of_decide_eq_true (by first | (with_reducible assumption) | assumption)) (by have h_ : (t461 : Int) < ((y468.length : Int) : Int) := of_decide_eq_true (by first | (with_reducible assumption) | assumption); first | exact h_ | (have e_ := (Kd.R_reads' HO470.out).1; omega) | simpa using h_); obtain rfl := k34_openM hM32; have HP32 := Kd.R_seg HX32.out (t461 : Int) (of_decide_eq_true (by first | (with_reducible assumption) | assumption)) (by have h_ : (t461 : Int) < ((y468.length : Int) : Int) := of_decide_eq_true (by first | (with_reducible assumption) | assumption); first | exact h_ | (have e_ := (Kd.R_reads' HO470.out).1; omega) | simpa using h_) (seg := [.int .i64 a3]) (j := 3) hcl32 hcc32 (show 4 ≤ 4 from by decide) (x' := (⟨(rd_T34 y472 t461).f0, (rd_T34 y472 t461).f1, (rd_T34 y472 t461).f2, a3⟩ : S34)) (k34_mkM _ _ _ (⟨(rd_T34 y472 t461).f0, (rd_T34 y472 t461).f1, (rd_T34 y472 t461).f2, a3⟩ : S34) ) (fun _ hk => hk); have hx32_3 := hcc32 3 _ rfl; (try simp only [show (k34).sz = 4 from rfl, Nat.mul_one, Nat.add_zero] at hx32_3); have hf32_3 := hfr32 3; (try simp only [show (k34).sz = 4 from rfl, Nat.mul_one, Nat.add_zero] at hf32_3); clear hcl32 hcc32 hfr32 hM32) | ((with_reducible refine gate_store (t := 2) (p := 82) rfl ?_); refine store_event (t := 2) (p := 82) (v := ?vo_w33) (w1 := (w31.setCell ⟨go24, (t461 : Int).toNat * 4 + 3, none⟩ (.int .i64 a3))) ?hg ?ho ?hn ?hr ?_; (case ho => rfl); (case hg => rfl); (case hn => rfl); (case hr => first | (go_simp; done) | (go_simp; rfl)); intro w33 hw; have hg : w31.grownBy w33 (some go24) := (by rw [hw]; exact HP32.2); have hp_ : Kd.R k34 34 w33 w.heap.size (fun _ => True) (.slice (some ⟨go24, 0, none⟩) y468.length co29) y473 := (by rw [hw, Ny473.out]; exact HP32.1); clear HP32; have n0_ := Aside0.mk (hp_); have n1_ := Aside0.mk ((by rw [hw]; exact below_set (HB.out) GB24.out : Below w.heap.size w w33)); clear HO470; clear HB; have HO470 := n0_; have HB := n1_; clear n0_ n1_; clear hg hw hp_))
                      go_ret2
                      exact ⟨_, by first | rfl | (simp [errW_none, errW_some] <;> rfl) | (simp [*, errW_none, errW_some] <;> rfl), by (with_reducible repeat (first | apply Kd.R_alloc | apply Kd.R_drewN | apply Kd.R_drew)); exact HO470.out, by repeat (first | (with_reducible first | exact HB.out | apply below_alloc | apply pw_below_drewN | apply below_drew1) | exact HB.out)⟩
                    · rw [if_neg c23] at H
                      exact absurd H (by simp)
                  · rw [if_neg c22] at H
                    exact absurd H (by simp)
                · replace c21 := Bool.eq_false_iff.mpr c21
                  subst c21
                  have H1 : (some (([] : List (S34)), 5)) = some (r1, r2) := by rw [if_neg (show ¬ (false = true) by decide)] at H; exact H
                  clear H
                  have H := H1
                  clear H1
                  simp only [Option.some.injEq, Prod.mk.injEq] at H
                  obtain ⟨rfl, rfl⟩ := H
                  go_wp2_with (first | ((with_reducible refine gate_callee (f := 123) rfl ?_); refine goesL_ (some 31) rfl rfl Tryd.func123 (by kernel_rfl) rfl #[.slice A0 l0.length c0, .string a1] rfl (by (try simp only [List.map_toArray, List.map_cons, List.map_nil]); first | done | rfl | (simp only [List.length_drop, List.length_take]; rfl)) ?_; (with_reducible refine (spec_l23At.calls kj6 _ _ l0 a1 t461 _ ?side1 ?side2 A15.out).mono ?_); (case side1 => repeat (first | exact (Kd.C_below HR0.out HB.out) | (with_reducible refine Kd.C_alloc ?_ _) | (with_reducible refine Kd.C_drewN ?_ _) | (with_reducible refine Kd.C_drew ?_))); (case side2 => exact HC0.out); rintro e w' ⟨rfl, ⟨nd, rfl⟩⟩; refine ⟨_, rfl, ?_⟩) | ((with_reducible refine gate_callee (f := 124) rfl ?_); refine goesL_ (some 35) rfl rfl Tryd.func124 (by kernel_rfl) rfl #[.slice A0 l0.length c0, .int .i64 t461, .string a1] rfl (by (try simp only [List.map_toArray, List.map_cons, List.map_nil]); first | done | rfl | (simp only [List.length_drop, List.length_take]; rfl)) ?_; (with_reducible refine (spec_l23Is.calls _ _ l0 t461 a1 true _ ?side1 ?side2 A16.out).mono ?_); (case side1 => repeat (first | exact (Kd.C_below HR0.out (by repeat (first | (with_reducible first | exact HB.out | apply below_alloc | apply pw_below_drewN | apply below_drew1) | exact HB.out))) | (with_reducible refine Kd.C_alloc ?_ _) | (with_reducible refine Kd.C_drewN ?_ _) | (with_reducible refine Kd.C_drew ?_))); (case side2 => exact HC0.out); rintro e w' ⟨rfl, ⟨nd, rfl⟩⟩; refine ⟨_, rfl, ?_⟩; have p463 : 0 ≤ (t461 : Int) := of_decide_eq_true (by first | (with_reducible assumption) | assumption); have q463 : t461 < (l0.length : Int) := of_decide_eq_true (by first | (with_reducible assumption) | assumption); obtain ⟨ad463, e463, hx463_0, hx463_1, hx463_2, hx463_3⟩ := at_T34 HR0.out t461 p463 q463; cases e463; replace hx463_0 := (HB.out.cell (World.block_lt_of_cell? w _ hx463_0)).trans hx463_0; replace hx463_1 := (HB.out.cell (World.block_lt_of_cell? w _ hx463_1)).trans hx463_1; replace hx463_2 := (HB.out.cell (World.block_lt_of_cell? w _ hx463_2)).trans hx463_2; replace hx463_3 := (HB.out.cell (World.block_lt_of_cell? w _ hx463_3)).trans hx463_3; replace p463 := eq_true p463; replace q463 := eq_true q463) | ((with_reducible refine gate_callee (f := 142) rfl ?_); refine goesL_ (some 64) rfl rfl Tryd.func142 (by kernel_rfl) rfl #[.int .i64 (wrap64 (((rd_T34 l0 t461).f1) + a2))] rfl (by (try simp only [List.map_toArray, List.map_cons, List.map_nil]); first | done | rfl | (simp only [List.length_drop, List.length_take]; rfl)) ?_; (with_reducible refine (spec_l23Have.calls (wrap64 (((rd_T34 l0 t461).f1) + a2)) false _ A20.out).mono ?_); rintro e w' ⟨rfl, ⟨nd, rfl⟩⟩; refine ⟨_, rfl, ?_⟩))
                  go_ret2
                  exact ⟨_, by first | rfl | (simp [errW_none, errW_some] <;> rfl) | (simp [*, errW_none, errW_some] <;> rfl), by first | exact Kd.R_nil _ _ _ _ _ | exact Kd.N_nil _ _ _ _ _ | exact Kd.V_nil _ _ _ _ _ | exact Kd.Q_nil _ _ _ _ _ | exact Kd.S_nil _ _ _ _ _, by repeat (first | (with_reducible first | exact HB.out | apply below_alloc | apply pw_below_drewN | apply below_drew1) | exact HB.out)⟩
              · rw [if_neg c19] at H
                exact absurd H (by simp)
            · rw [if_neg c18] at H
              exact absurd H (by simp)
          · replace c17 := Bool.eq_false_iff.mpr c17
            subst c17
            have H1 : (if (l0.length : Int) ≥ 20 then (some (([] : List (S34)), 5)) else ((some (([] : List (S34)) : List (S34))).bind fun y474 => (if 0 ≤ t461 then (if t461 ≤ (l0.length : Int) then ((some (l0.take (t461 : Int).toNat : List (S34))).bind fun y477 => (if y474.length + y477.length < 3518437208883 then ((some (y474 ++ y477 : List (S34))).bind fun y481 => (if y481.length < 3518437208883 then ((some (y481 ++ [(⟨a1, a2, 0, a3⟩ : S34)] : List (S34))).bind fun y484 => ((some (l0.drop (t461 : Int).toNat : List (S34))).bind fun y487 => (if y484.length + y487.length < 3518437208883 then (some ((y484 ++ y487), 0)) else (none)))) else (none))) else (none))) else (none)) else (none)))) = some (r1, r2) := by rw [if_neg (show ¬ (false = true) by decide)] at H; exact H
            clear H
            have H := H1
            clear H1
            by_cases c34 : (l0.length : Int) ≥ 20
            · rw [if_pos c34] at H
              have c34b0 : decide (20 ≤ (l0.length : Int)) = true := decide_eq_true c34
              have c34b1 : decide (20 ≤ l0.length) = true := decide_eq_true (by omega)
              clear c34
              simp only [Option.some.injEq, Prod.mk.injEq] at H
              obtain ⟨rfl, rfl⟩ := H
              go_wp2_with (first | ((with_reducible refine gate_callee (f := 123) rfl ?_); refine goesL_ (some 31) rfl rfl Tryd.func123 (by kernel_rfl) rfl #[.slice A0 l0.length c0, .string a1] rfl (by (try simp only [List.map_toArray, List.map_cons, List.map_nil]); first | done | rfl | (simp only [List.length_drop, List.length_take]; rfl)) ?_; (with_reducible refine (spec_l23At.calls kj6 _ _ l0 a1 t461 _ ?side1 ?side2 A15.out).mono ?_); (case side1 => repeat (first | exact (Kd.C_below HR0.out HB.out) | (with_reducible refine Kd.C_alloc ?_ _) | (with_reducible refine Kd.C_drewN ?_ _) | (with_reducible refine Kd.C_drew ?_))); (case side2 => exact HC0.out); rintro e w' ⟨rfl, ⟨nd, rfl⟩⟩; refine ⟨_, rfl, ?_⟩) | ((with_reducible refine gate_callee (f := 124) rfl ?_); refine goesL_ (some 35) rfl rfl Tryd.func124 (by kernel_rfl) rfl #[.slice A0 l0.length c0, .int .i64 t461, .string a1] rfl (by (try simp only [List.map_toArray, List.map_cons, List.map_nil]); first | done | rfl | (simp only [List.length_drop, List.length_take]; rfl)) ?_; (with_reducible refine (spec_l23Is.calls _ _ l0 t461 a1 false _ ?side1 ?side2 A16.out).mono ?_); (case side1 => repeat (first | exact (Kd.C_below HR0.out (by repeat (first | (with_reducible first | exact HB.out | apply below_alloc | apply pw_below_drewN | apply below_drew1) | exact HB.out))) | (with_reducible refine Kd.C_alloc ?_ _) | (with_reducible refine Kd.C_drewN ?_ _) | (with_reducible refine Kd.C_drew ?_))); (case side2 => exact HC0.out); rintro e w' ⟨rfl, ⟨nd, rfl⟩⟩; refine ⟨_, rfl, ?_⟩))
              go_ret2
              exact ⟨_, by first | rfl | (simp [errW_none, errW_some] <;> rfl) | (simp [*, errW_none, errW_some] <;> rfl), by first | exact Kd.R_nil _ _ _ _ _ | exact Kd.N_nil _ _ _ _ _ | exact Kd.V_nil _ _ _ _ _ | exact Kd.Q_nil _ _ _ _ _ | exact Kd.S_nil _ _ _ _ _, by repeat (first | (with_reducible first | exact HB.out | apply below_alloc | apply pw_below_drewN | apply below_drew1) | exact HB.out)⟩
            · rw [if_neg c34] at H
              have c34b0 : decide (20 ≤ (l0.length : Int)) = false := decide_eq_false c34
              have c34b1 : decide (20 ≤ l0.length) = false := decide_eq_false (by omega)
              clear c34
              obtain ⟨y474, hy474⟩ : ∃ y_ : List (S34), y_ = (([] : List (S34))) := ⟨_, rfl⟩
              replace H : (if 0 ≤ t461 then (if t461 ≤ (l0.length : Int) then ((some (l0.take (t461 : Int).toNat : List (S34))).bind fun y477 => (if y474.length + y477.length < 3518437208883 then ((some (y474 ++ y477 : List (S34))).bind fun y481 => (if y481.length < 3518437208883 then ((some (y481 ++ [(⟨a1, a2, 0, a3⟩ : S34)] : List (S34))).bind fun y484 => ((some (l0.drop (t461 : Int).toNat : List (S34))).bind fun y487 => (if y484.length + y487.length < 3518437208883 then (some ((y484 ++ y487), 0)) else (none)))) else (none))) else (none))) else (none)) else (none)) = some (r1, r2) := by first | (rw [hy474]; with_reducible exact H) | (have H2_ := (Option.bind_some _ _).symm.trans H; rw [hy474]; with_reducible exact H2_) | (have H2_ := (Option.bind_some _ _).symm.trans H; with_reducible exact H2_) | with_reducible exact H | (rw [hy474]; exact H) | exact H
              have Ny474 := Aside0.mk hy474
              clear hy474
              by_cases c35 : 0 ≤ t461
              · rw [if_pos c35] at H
                have c35b0 := eq_true c35
                have c35b1 : decide (0 ≤ t461) = true := decide_eq_true c35
                clear c35
                by_cases c36 : t461 ≤ (l0.length : Int)
                · rw [if_pos c36] at H
                  have c36b0 := eq_true c36
                  have c36b1 : decide (t461 ≤ (l0.length : Int)) = true := decide_eq_true c36
                  clear c36
                  obtain ⟨y477, hy477⟩ : ∃ y_ : List (S34), y_ = (l0.take (t461 : Int).toNat) := ⟨_, rfl⟩
                  replace H : (if y474.length + y477.length < 3518437208883 then ((some (y474 ++ y477 : List (S34))).bind fun y481 => (if y481.length < 3518437208883 then ((some (y481 ++ [(⟨a1, a2, 0, a3⟩ : S34)] : List (S34))).bind fun y484 => ((some (l0.drop (t461 : Int).toNat : List (S34))).bind fun y487 => (if y484.length + y487.length < 3518437208883 then (some ((y484 ++ y487), 0)) else (none)))) else (none))) else (none)) = some (r1, r2) := by first | (rw [hy477]; with_reducible exact H) | (have H2_ := (Option.bind_some _ _).symm.trans H; rw [hy477]; with_reducible exact H2_) | (have H2_ := (Option.bind_some _ _).symm.trans H; with_reducible exact H2_) | with_reducible exact H | (rw [hy477]; exact H) | exact H
                  have Ny477 := Aside0.mk hy477
                  clear hy477
                  by_cases c37 : y474.length + y477.length < 3518437208883
                  · rw [if_pos c37] at H
                    have LMc37 := Aside0.mk c37
                    clear c37
                    obtain ⟨y481, hy481⟩ : ∃ y_ : List (S34), y_ = (y474 ++ y477) := ⟨_, rfl⟩
                    replace H : (if y481.length < 3518437208883 then ((some (y481 ++ [(⟨a1, a2, 0, a3⟩ : S34)] : List (S34))).bind fun y484 => ((some (l0.drop (t461 : Int).toNat : List (S34))).bind fun y487 => (if y484.length + y487.length < 3518437208883 then (some ((y484 ++ y487), 0)) else (none)))) else (none)) = some (r1, r2) := by first | (rw [hy481]; with_reducible exact H) | (have H2_ := (Option.bind_some _ _).symm.trans H; rw [hy481]; with_reducible exact H2_) | (have H2_ := (Option.bind_some _ _).symm.trans H; with_reducible exact H2_) | with_reducible exact H | (rw [hy481]; exact H) | exact H
                    have Ny481 := Aside0.mk hy481
                    clear hy481
                    by_cases c38 : y481.length < 3518437208883
                    · rw [if_pos c38] at H
                      have LMc38 := Aside0.mk c38
                      clear c38
                      obtain ⟨y484, hy484⟩ : ∃ y_ : List (S34), y_ = (y481 ++ [(⟨a1, a2, 0, a3⟩ : S34)]) := ⟨_, rfl⟩
                      replace H : ((some (l0.drop (t461 : Int).toNat : List (S34))).bind fun y487 => (if y484.length + y487.length < 3518437208883 then (some ((y484 ++ y487), 0)) else (none))) = some (r1, r2) := by first | (rw [hy484]; with_reducible exact H) | (have H2_ := (Option.bind_some _ _).symm.trans H; rw [hy484]; with_reducible exact H2_) | (have H2_ := (Option.bind_some _ _).symm.trans H; with_reducible exact H2_) | with_reducible exact H | (rw [hy484]; exact H) | exact H
                      have Ny484 := Aside0.mk hy484
                      clear hy484
                      have c39b0 := eq_true (of_decide_eq_true (by first | (with_reducible assumption) | assumption) : 0 ≤ t461)
                      have c40b0 := eq_true (of_decide_eq_true (by first | (with_reducible assumption) | assumption) : t461 ≤ (l0.length : Int))
                      obtain ⟨y487, hy487⟩ : ∃ y_ : List (S34), y_ = (l0.drop (t461 : Int).toNat) := ⟨_, rfl⟩
                      replace H : (if y484.length + y487.length < 3518437208883 then (some ((y484 ++ y487), 0)) else (none)) = some (r1, r2) := by first | (rw [hy487]; with_reducible exact H) | (have H2_ := (Option.bind_some _ _).symm.trans H; rw [hy487]; with_reducible exact H2_) | (have H2_ := (Option.bind_some _ _).symm.trans H; with_reducible exact H2_) | with_reducible exact H | (rw [hy487]; exact H) | exact H
                      have Ny487 := Aside0.mk hy487
                      clear hy487
                      by_cases c41 : y484.length + y487.length < 3518437208883
                      · rw [if_pos c41] at H
                        have LMc41 := Aside0.mk c41
                        clear c41
                        obtain ⟨y491, hy491⟩ : ∃ y_ : List (S34), y_ = (y484 ++ y487) := ⟨_, rfl⟩
                        replace H : (some (y491, 0)) = some (r1, r2) := by first | (rw [hy491]; with_reducible exact H) | (have H2_ := (Option.bind_some _ _).symm.trans H; rw [hy491]; with_reducible exact H2_) | (have H2_ := (Option.bind_some _ _).symm.trans H; with_reducible exact H2_) | with_reducible exact H | (rw [hy491]; exact H) | exact H
                        have Ny491 := Aside0.mk hy491
                        clear hy491
                        simp only [Option.some.injEq, Prod.mk.injEq] at H
                        obtain ⟨rfl, rfl⟩ := H
                        go_wp2_with (first | ((with_reducible refine gate_callee (f := 123) rfl ?_); refine goesL_ (some 31) rfl rfl Tryd.func123 (by kernel_rfl) rfl #[.slice A0 l0.length c0, .string a1] rfl (by (try simp only [List.map_toArray, List.map_cons, List.map_nil]); first | done | rfl | (simp only [List.length_drop, List.length_take]; rfl)) ?_; (with_reducible refine (spec_l23At.calls kj6 _ _ l0 a1 t461 _ ?side1 ?side2 A15.out).mono ?_); (case side1 => repeat (first | exact (Kd.C_below HR0.out HB.out) | (with_reducible refine Kd.C_alloc ?_ _) | (with_reducible refine Kd.C_drewN ?_ _) | (with_reducible refine Kd.C_drew ?_))); (case side2 => exact HC0.out); rintro e w' ⟨rfl, ⟨nd, rfl⟩⟩; refine ⟨_, rfl, ?_⟩) | ((with_reducible refine gate_callee (f := 124) rfl ?_); refine goesL_ (some 35) rfl rfl Tryd.func124 (by kernel_rfl) rfl #[.slice A0 l0.length c0, .int .i64 t461, .string a1] rfl (by (try simp only [List.map_toArray, List.map_cons, List.map_nil]); first | done | rfl | (simp only [List.length_drop, List.length_take]; rfl)) ?_; (with_reducible refine (spec_l23Is.calls _ _ l0 t461 a1 false _ ?side1 ?side2 A16.out).mono ?_); (case side1 => repeat (first | exact (Kd.C_below HR0.out (by repeat (first | (with_reducible first | exact HB.out | apply below_alloc | apply pw_below_drewN | apply below_drew1) | exact HB.out))) | (with_reducible refine Kd.C_alloc ?_ _) | (with_reducible refine Kd.C_drewN ?_ _) | (with_reducible refine Kd.C_drew ?_))); (case side2 => exact HC0.out); rintro e w' ⟨rfl, ⟨nd, rfl⟩⟩; refine ⟨_, rfl, ?_⟩) | ((with_reducible refine gate_dst (N := 40) rfl ?_); refine Kd.R_lit k34 _ 34 ?hg (N := 40) ?hd (xs := ([] : List (S34))) (inner := []) (ok := fun _ => True) (okp := fun _ => True) ?hr ?hp (fun _ hk => hk) trivial (Below.refl _ _) (Nat.le_refl _) (by simp) ?_; (case hd => rfl); (case hg => rfl); (case hr => first | (go_simp; done) | (go_simp; rfl)); (case hp => exact (Reps.none _ _)); intro v475 w42 ho43 hb hg_ hnew_; clear hg_ hnew_; (first | rw [← Ny474.out] at ho43 | (simp only [Int.reduceToNat] at ho43; rw [← Ny474.out] at ho43)); have n0_ := Aside0.mk (Kd.R_lower ho43 (below_size (by repeat (first | (with_reducible first | exact HB.out | apply below_alloc | apply pw_below_drewN | apply below_drew1) | exact HB.out)))); have n1_ := Aside0.mk (below_step (by repeat (first | (with_reducible first | exact HB.out | apply below_alloc | apply pw_below_drewN | apply below_drew1) | exact HB.out)) hb); clear HB; have HO476 := n0_; have HB := n1_; clear n0_ n1_; clear hb ho43; have q44 : (t461 : Int) ≤ ((l0.length : Int) : Int) := of_decide_eq_true (by first | (with_reducible assumption) | assumption); obtain ⟨i044, hi044, _, hsz44, _⟩ := info_parts info34; have hroom44 : l0.length ≤ c0 := HC0.out; have hC44 : Kd.C k34 _ A0 l0.length l0 := HR0.out; have hcut44 := cut_to (P := Tryd.prog) 24 34 .i64 Tryd.underlying24 hi044 A0 l0.length c0 t461 (of_decide_eq_true (by first | (with_reducible assumption) | assumption)) q44 hroom44; have hr44 := Kd.C_take (m := (t461 : Int).toNat) hC44 (by omega); have hy44 : y477.length = (t461 : Int).toNat := (by rw [Ny477.out, List.length_take]; omega); rw [← Ny477.out] at hr44; rw [← hy44] at hcut44; have HR480 := Aside0.mk hr44; have HC480 := Aside0.mk (show y477.length ≤ c0 from by omega); clear hr44 hC44 hroom44 hi044 hsz44; have KY44 := Aside0.mk hy44; clear hy44; replace q44 := eq_true q44) | ((with_reducible refine gate_builtin (b := .append) (xs := #[.tmp 40, .tmp 43]) rfl ?_); at_builtin; refine Kd.R_append_rows k34 (w0 := w) w.heap.size rfl (.tmp 40) (.tmp 43) 24 34 (.agg #[(.string ⟨#[]⟩), (.int .i64 0), (.int .i64 0), (.int .i64 0)]) 40 rfl Tryd.underlying24 info34 rfl (by decide) (by omega) v475 y474 y477 _ _ _ (fun _ => True) (fun _ => False) rfl rfl ?aO ?aR (fun _ _ h => h) (fun _ h => h.elim) ?aF ?aB ?aS ?aL ?_; (case aR => repeat (first | exact (Kd.C_below HR480.out HB.out) | (with_reducible refine Kd.C_alloc ?_ _) | (with_reducible refine Kd.C_drewN ?_ _) | (with_reducible refine Kd.C_drew ?_))); (case aB => exact (by repeat (first | (with_reducible first | exact HB.out | apply below_alloc | apply pw_below_drewN | apply below_drew1) | exact HB.out))); (case aF => exact (fun _ _ => trivial)); (case aO => exact (by (with_reducible repeat (first | apply Kd.R_alloc | apply Kd.R_drewN | apply Kd.R_drew)); exact HO476.out)); (case aS => exact (below_size (by repeat (first | (with_reducible first | exact HB.out | apply below_alloc | apply pw_below_drewN | apply below_drew1) | exact HB.out)))); (case aL => have := LMc37.out; omega); intro v482 w45 ho hb hg hat; rw [← Ny481.out] at ho; have n0_ := Aside0.mk (hb); have n1_ := Aside0.mk (ho); clear HB; clear HO476; have HB := n0_; have HO483 := n1_; clear n0_ n1_; clear ho hb hg hat) | ((with_reducible refine gate_builtin (b := .append) (xs := #[.tmp 45, .tmp 50]) rfl ?_); at_builtin; refine Kd.R_append k34 (w0 := w) w.heap.size rfl (.tmp 45) (.tmp 50) 24 34 (.agg #[(.string ⟨#[]⟩), (.int .i64 0), (.int .i64 0), (.int .i64 0)]) 40 rfl Tryd.underlying24 info34 rfl (by decide) (by omega) v482 y481 (⟨a1, a2, 0, a3⟩ : S34) [.string a1, .int .i64 a2, .int .i64 0, .int .i64 a3] (fun _ => True) (fun _ => False) rfl rfl ?aP (fun _ hk => hk.elim) ?aF ?aO ?aB ?aS ?aL ?_; (case aP => exact k34_mkM _ _ _ (⟨a1, a2, 0, a3⟩ : S34)); (case aB => exact (by repeat (first | (with_reducible first | exact HB.out | apply below_alloc | apply pw_below_drewN | apply below_drew1) | exact HB.out))); (case aF => exact (fun _ _ => trivial)); (case aO => exact (by (with_reducible repeat (first | apply Kd.R_alloc | apply Kd.R_drewN | apply Kd.R_drew)); exact HO483.out)); (case aS => exact (below_size (by repeat (first | (with_reducible first | exact HB.out | apply below_alloc | apply pw_below_drewN | apply below_drew1) | exact HB.out)))); (case aL => have := LMc38.out; omega); intro v485 w46 ho hb hg hat; rw [← Ny484.out] at ho; have n0_ := Aside0.mk (hb); have n1_ := Aside0.mk (ho); clear HB; clear HO483; have HB := n0_; have HO486 := n1_; clear n0_ n1_; clear ho hb hg hat; have q47 : (t461 : Int) ≤ ((l0.length : Int) : Int) := of_decide_eq_true (by first | (with_reducible assumption) | assumption); obtain ⟨i047, hi047, _, hsz47, _⟩ := info_parts info34; have hroom47 : l0.length ≤ c0 := HC0.out; have hC47 : Kd.C k34 _ A0 l0.length l0 := HR0.out; have q047 : (0 : Int) ≤ (t461 : Int) := of_decide_eq_true (by first | (with_reducible assumption) | assumption); have hcut47 := cut_from (P := Tryd.prog) 24 34 .i64 Tryd.underlying24 hi047 4 hsz47 A0 l0.length c0 t461 q047 q47; have hr47 := Kd.C_drop (m := (t461 : Int).toNat) (c := c0) hC47 (by omega) hroom47; obtain ⟨A47, hA47⟩ : ∃ A1, A1 = (if c0 = (t461 : Int).toNat then A0 else (A0 : Option Addr).map (·.add ((t461 : Int).toNat * 4))) := ⟨_, rfl⟩; obtain ⟨c47, hc47⟩ : ∃ c1, c1 = c0 - (t461 : Int).toNat := ⟨_, rfl⟩; have hy47 : y487.length = l0.length - (t461 : Int).toNat := (by rw [Ny487.out, List.length_drop] <;> omega); rw [show (l0).drop (t461 : Int).toNat = y487 from Ny487.out.symm] at hr47; replace hr47 : Kd.C k34 _ A47 y487.length y487 := (by rw [hA47]; exact hr47); rw [← hy47, ← hA47, ← hc47] at hcut47; have HR490 := Aside0.mk hr47; have HC490 := Aside0.mk (show y487.length ≤ c47 from by rw [hy47, hc47]; exact Nat.sub_le_sub_right hroom47 _); clear hr47 hC47 hroom47 hi047 hsz47 hc47; have KY47 := Aside0.mk hy47; have KA47 := Aside0.mk hA47; clear hy47 hA47; replace q47 := eq_true q47) | ((with_reducible refine gate_builtin (b := .append) (xs := #[.tmp 52, .tmp 55]) rfl ?_); at_builtin; refine Kd.R_append_rows k34 (w0 := w) w.heap.size rfl (.tmp 52) (.tmp 55) 24 34 (.agg #[(.string ⟨#[]⟩), (.int .i64 0), (.int .i64 0), (.int .i64 0)]) 40 rfl Tryd.underlying24 info34 rfl (by decide) (by omega) v485 y484 y487 _ _ _ (fun _ => True) (fun _ => False) rfl rfl ?aO ?aR (fun _ _ h => h) (fun _ h => h.elim) ?aF ?aB ?aS ?aL ?_; (case aR => repeat (first | exact (Kd.C_below HR490.out HB.out) | (with_reducible refine Kd.C_alloc ?_ _) | (with_reducible refine Kd.C_drewN ?_ _) | (with_reducible refine Kd.C_drew ?_))); (case aB => exact (by repeat (first | (with_reducible first | exact HB.out | apply below_alloc | apply pw_below_drewN | apply below_drew1) | exact HB.out))); (case aF => exact (fun _ _ => trivial)); (case aO => exact (by (with_reducible repeat (first | apply Kd.R_alloc | apply Kd.R_drewN | apply Kd.R_drew)); exact HO486.out)); (case aS => exact (below_size (by repeat (first | (with_reducible first | exact HB.out | apply below_alloc | apply pw_below_drewN | apply below_drew1) | exact HB.out)))); (case aL => have := LMc41.out; omega); intro v492 w48 ho hb hg hat; rw [← Ny491.out] at ho; have n0_ := Aside0.mk (hb); have n1_ := Aside0.mk (ho); clear HB; clear HO486; have HB := n0_; have HO493 := n1_; clear n0_ n1_; clear ho hb hg hat))
                        go_ret2
                        exact ⟨_, by first | rfl | (simp [errW_none, errW_some] <;> rfl) | (simp [*, errW_none, errW_some] <;> rfl), by (with_reducible repeat (first | apply Kd.R_alloc | apply Kd.R_drewN | apply Kd.R_drew)); exact HO493.out, by repeat (first | (with_reducible first | exact HB.out | apply below_alloc | apply pw_below_drewN | apply below_drew1) | exact HB.out)⟩
                      · rw [if_neg c41] at H
                        exact absurd H (by simp)
                    · rw [if_neg c38] at H
                      exact absurd H (by simp)
                  · rw [if_neg c37] at H
                    exact absurd H (by simp)
                · rw [if_neg c36] at H
                  exact absurd H (by simp)
              · rw [if_neg c35] at H
                exact absurd H (by simp)
  · replace c6 := Bool.eq_false_iff.mpr c6
    subst c6
    have H1 : (some (([] : List (S34)), 1)) = some (r1, r2) := by rw [if_neg (show ¬ (false = true) by decide)] at H; exact H
    clear H
    have H := H1
    clear H1
    simp only [Option.some.injEq, Prod.mk.injEq] at H
    obtain ⟨rfl, rfl⟩ := H
    go_enter Tryd.func48, Tryd.ntmps48
    go_wp2_with (first | ((with_reducible refine gate_callee (f := 100) rfl ?_); refine goesL_ (some 14) rfl rfl Tryd.func100 (by kernel_rfl) rfl #[.slice A0 l0.length c0] rfl (by (try simp only [List.map_toArray, List.map_cons, List.map_nil]); first | done | rfl | (simp only [List.length_drop, List.length_take]; rfl)) ?_; (with_reducible refine (spec_l23Ok.calls _ _ l0 false _ ?side1 ?side2 A5.out).mono ?_); (case side1 => repeat (first | exact HR0.out | (with_reducible refine Kd.C_alloc ?_ _) | (with_reducible refine Kd.C_drewN ?_ _) | (with_reducible refine Kd.C_drew ?_))); (case side2 => exact HC0.out); rintro e w49 ⟨rfl, hb⟩; refine ⟨_, rfl, ?_⟩; have n0_ := Aside0.mk (below_step (by repeat (first | (with_reducible first | exact HB.out | apply below_alloc | apply pw_below_drewN | apply below_drew1) | exact HB.out)) hb); clear HB; have HB := n0_; clear n0_; (try clear hb); (try clear hb2); (try clear hk); (try clear hi)))
    go_ret2
    exact ⟨_, by first | rfl | (simp [errW_none, errW_some] <;> rfl) | (simp [*, errW_none, errW_some] <;> rfl), by first | exact Kd.R_nil _ _ _ _ _ | exact Kd.N_nil _ _ _ _ _ | exact Kd.V_nil _ _ _ _ _ | exact Kd.Q_nil _ _ _ _ _ | exact Kd.S_nil _ _ _ _ _, by repeat (first | (with_reducible first | exact HB.out | apply below_alloc | apply pw_below_drewN | apply below_drew1) | exact HB.out)⟩

end Go.Proofs.YtdjdillppgijmaaDoor.Qs
