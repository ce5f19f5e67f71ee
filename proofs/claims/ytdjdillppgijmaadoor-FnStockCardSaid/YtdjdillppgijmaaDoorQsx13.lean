-- Printed for this claim by this project's pp.py (a patched run of the kit's print). Lean checks it.
import Derived.Test.YtdjdillppgijmaaDoorQsx0
import Derived.Test.YtdjdillppgijmaaDoorQsx7
import Derived.Test.YtdjdillppgijmaaDoorSClone
import Derived.Test.YtdjdillppgijmaaDoorSInsert
import Derived.Test.YtdjdillppgijmaaDoorSValid
namespace Go.Proofs.YtdjdillppgijmaaDoor.Qs
open Go.RowKit Go.Proofs.YtdjdillppgijmaaDoorW.PrintWords Go.Proofs.YtdjdillppgijmaaDoorW.PrintLast Go.Proofs.YtdjdillppgijmaaDoorW.PrintMore
attribute [local go_sem] max2_int min2_int max_two min_two max_three min_three max_four min_four   -- for this text's walks alone

set_option linter.unusedVariables false
set_option linter.unusedSimpArgs false

/-! ### impl_JoinStock: function 41 -/
mutual
def impl_JoinStock.j0 : Nat → List (S34) → List (S34) → Bool → Option ((List (S34)) × Int)
  | 0, _, _, _ => none
  | k + 1, x0, x1, x18 => if x18 = true then (some (([] : List (S34)), 1)) else ((impl_Item_126.f x0).bind fun t381 => (impl_JoinStock.l0 k t381 x1 (x1.length : Int) 0))
def impl_JoinStock.l0 : Nat → List (S34) → List (S34) → Int → Int → Option ((List (S34)) × Int)
  | 0, _, _, _, _ => none
  | k + 1, x6, x21, x22, x23 => if x23 < x22 then (if 0 ≤ x23 then (if x23 < (x21.length : Int) then ((impl_itemAt.f k x6 ((rd_T34 x21 x23).f0)).bind fun bt387 => (if bt387.2 = true then (if 0 ≤ bt387.1 then (if bt387.1 < (x6.length : Int) then ((some (x6.set (bt387.1 : Int).toNat (⟨(rd_T34 x6 bt387.1).f0, wrap64 (((rd_T34 x6 bt387.1).f1) + ((rd_T34 x21 x23).f1)), (rd_T34 x6 bt387.1).f2, (rd_T34 x6 bt387.1).f3⟩ : S34) : List (S34))).bind fun y390 => ((some (y390.set (bt387.1 : Int).toNat (⟨(rd_T34 y390 bt387.1).f0, (rd_T34 y390 bt387.1).f1, wrap64 (((rd_T34 y390 bt387.1).f2) + ((rd_T34 x21 x23).f2)), (rd_T34 y390 bt387.1).f3⟩ : S34) : List (S34))).bind fun y392 => (impl_JoinStock.l0 k (y392.set (bt387.1 : Int).toNat (⟨(rd_T34 y392 bt387.1).f0, (rd_T34 y392 bt387.1).f1, (rd_T34 y392 bt387.1).f2, mn ((rd_T34 y392 bt387.1).f3) ((rd_T34 x21 x23).f3)⟩ : S34)) x21 x22 (wrap64 (x23 + 1))))) else (none)) else (none)) else ((impl_Item_128.f x6 bt387.1 (([(⟨(rd_T34 x21 x23).f0, (rd_T34 x21 x23).f1, (rd_T34 x21 x23).f2, (rd_T34 x21 x23).f3⟩ : S34)] : List (S34)))).bind fun t398 => (impl_JoinStock.l0 k t398 x21 x22 (wrap64 (x23 + 1)))))) else (none)) else (none)) else ((impl_ValidStock.f x6).bind fun t384 => (if t384 = true then (some (x6, 0)) else (some (([] : List (S34)), 5))))
end
def impl_JoinStock.f (k : Nat) (l0 : List (S34)) (l1 : List (S34)) : Option ((List (S34)) × Int) := (impl_ValidStock.f l0).bind fun t379 => (if t379 = true then ((impl_ValidStock.f l1).bind fun t380 => (impl_JoinStock.j0 k l0 l1 (!t380))) else (impl_JoinStock.j0 k l0 l1 true))
theorem impl_JoinStock.mono_l : ∀ k, (∀ y0 y1 y2, LeO (impl_JoinStock.j0 k y0 y1 y2) (impl_JoinStock.j0 (k + 1) y0 y1 y2)) ∧ (∀ y0 y1 y2 y3, LeO (impl_JoinStock.l0 k y0 y1 y2 y3) (impl_JoinStock.l0 (k + 1) y0 y1 y2 y3))
  | 0 => ⟨fun _ _ _ r h => by simp [impl_JoinStock.j0] at h, fun _ _ _ _ r h => by simp [impl_JoinStock.l0] at h⟩
  | k + 1 => by
    obtain ⟨ih0, ih1⟩ := impl_JoinStock.mono_l k
    refine ⟨?_, ?_⟩
    · intro y0 y1 y2
      unfold impl_JoinStock.j0
      repeat' first
      | (with_reducible exact ih0 _ _ _)
      | (with_reducible exact ih1 _ _ _ _)
      | (with_reducible exact impl_itemAt.mono _ _ _)
      | (with_reducible exact LeO.refl _)
      | (with_reducible exact LeO.none _)
      | (with_reducible refine LeO.ite ?_ ?_)
      | (with_reducible refine LeO.bind ?_ (fun _ => ?_))
      | exact ih0 _ _ _
      | exact ih1 _ _ _ _
      | exact impl_itemAt.mono _ _ _
      | exact LeO.none _
      | refine LeO.ite ?_ ?_
      | refine LeO.bind ?_ (fun _ => ?_)
    · intro y0 y1 y2 y3
      unfold impl_JoinStock.l0
      repeat' first
      | (with_reducible exact ih0 _ _ _)
      | (with_reducible exact ih1 _ _ _ _)
      | (with_reducible exact impl_itemAt.mono _ _ _)
      | (with_reducible exact LeO.refl _)
      | (with_reducible exact LeO.none _)
      | (with_reducible refine LeO.ite ?_ ?_)
      | (with_reducible refine LeO.bind ?_ (fun _ => ?_))
      | exact ih0 _ _ _
      | exact ih1 _ _ _ _
      | exact impl_itemAt.mono _ _ _
      | exact LeO.none _
      | refine LeO.ite ?_ ?_
      | refine LeO.bind ?_ (fun _ => ?_)
theorem impl_JoinStock.mono : ∀ a0 a1 k, LeO (impl_JoinStock.f k a0 a1) (impl_JoinStock.f (k + 1) a0 a1) := by
  intro a0 a1 k
  obtain ⟨ih0, ih1⟩ := impl_JoinStock.mono_l k
  unfold impl_JoinStock.f
  repeat' first
      | (with_reducible exact ih0 _ _ _)
      | (with_reducible exact ih1 _ _ _ _)
      | (with_reducible exact impl_itemAt.mono _ _ _)
      | (with_reducible exact LeO.refl _)
      | (with_reducible exact LeO.none _)
      | (with_reducible refine LeO.ite ?_ ?_)
      | (with_reducible refine LeO.bind ?_ (fun _ => ?_))
      | exact ih0 _ _ _
      | exact ih1 _ _ _ _
      | exact impl_itemAt.mono _ _ _
      | exact LeO.none _
      | refine LeO.ite ?_ ?_
      | refine LeO.bind ?_ (fun _ => ?_)
def impl_JoinStock.T10 : Bool × List (List Nat × List Nat) := (true, [([], []), ([], []), ([0, 1], [0, 1]), ([2], [2]), ([3], [3]), ([], []), ([5], [5]), ([4, 6], [4, 6]), ([0, 1, 0, 1, 2, 3, 4, 5, 6, 7], [0, 1]), ([8, 0, 1, 2, 3, 4, 5, 6, 7], [8]), ([9, 7, 0, 1, 2, 3, 4, 5, 6, 7], [7, 9])])
def impl_JoinStock.B10 : List Nat := [0, 0, 3, 7, 15, 0, 32, 127, 255, 511, 1023]
theorem impl_JoinStock.tab10 : rtab .any (opsOf Tryd.f41 10) = impl_JoinStock.T10 := by kernel_rfl
theorem impl_JoinStock.bits10 : waitsOk impl_JoinStock.T10.2 impl_JoinStock.B10 = true := by kernel_rfl
def impl_JoinStock.T11 : Bool × List (List Nat × List Nat) := (true, [([], []), ([], []), ([0, 1], [0, 1]), ([2], [2]), ([3], [3]), ([], []), ([5], [5]), ([4, 6], [4, 6]), ([0, 1, 0, 1, 2, 3, 4, 5, 6, 7], [0, 1]), ([8, 0, 1, 2, 3, 4, 5, 6, 7], [8]), ([9, 7, 0, 1, 2, 3, 4, 5, 6, 7], [7, 9])])
def impl_JoinStock.B11 : List Nat := [0, 0, 3, 7, 15, 0, 32, 127, 255, 511, 1023]
theorem impl_JoinStock.tab11 : rtab .any (opsOf Tryd.f41 11) = impl_JoinStock.T11 := by kernel_rfl
theorem impl_JoinStock.bits11 : waitsOk impl_JoinStock.T11.2 impl_JoinStock.B11 = true := by kernel_rfl
def impl_JoinStock.T12 : Bool × List (List Nat × List Nat) := (true, [([], []), ([], []), ([], []), ([], []), ([2, 3], [2, 3]), ([4], [4]), ([5], [5]), ([], []), ([7], [7]), ([6, 8], [6, 8]), ([0, 1, 0, 1, 2, 3, 4, 5, 6, 7, 8, 9], [0, 1]), ([10, 0, 1, 2, 3, 4, 5, 6, 7, 8, 9], [10]), ([11, 9, 0, 1, 2, 3, 4, 5, 6, 7, 8, 9], [9, 11])])
def impl_JoinStock.B12 : List Nat := [0, 0, 0, 0, 12, 28, 60, 0, 128, 508, 1023, 2047, 4095]
theorem impl_JoinStock.tab12 : rtab .any (opsOf Tryd.f41 12) = impl_JoinStock.T12 := by kernel_rfl
theorem impl_JoinStock.bits12 : waitsOk impl_JoinStock.T12.2 impl_JoinStock.B12 = true := by kernel_rfl
set_option maxHeartbeats 8000000 in
set_option maxRecDepth 100000 in
theorem impl_JoinStock.calls (k : Nat) (A0 : Option Addr) (c0 : Nat) (l0 : List (S34)) (A1 : Option Addr) (c1 : Nat) (l1 : List (S34)) (r1 : List (S34)) (r2 : Int) (w : World) (hr0 : Kd.C k34 w A0 l0.length l0) (hc0 : l0.length ≤ c0) (hr1 : Kd.C k34 w A1 l1.length l1) (hc1 : l1.length ≤ c1) (h : impl_JoinStock.f k l0 l1 = some (r1, r2)) :
    Calls Tryd.prog 41 #[.slice A0 l0.length c0, .slice A1 l1.length c1] w fun e w' => ∃ v0_ : Value, e = .returned (.tuple #[v0_, .int .i64 r2]) ∧ Kd.R k34 34 w' w.heap.size (fun _ => True) v0_ r1 ∧ Below w.heap.size w w' := by
  have hu34 := Tryd.underlying34
  have HR0 := Aside0.mk hr0
  have HC0 := Aside0.mk hc0
  clear hr0 hc0
  have HR1 := Aside0.mk hr1
  have HC1 := Aside0.mk hc1
  clear hr1 hc1
  have HB := Aside0.mk (Below.refl w.heap.size w)
  have H : ((impl_ValidStock.f l0).bind fun t379 => (if t379 = true then ((impl_ValidStock.f l1).bind fun t380 => (impl_JoinStock.j0 k l0 l1 (!t380))) else (impl_JoinStock.j0 k l0 l1 true))) = some (r1, r2) := h
  clear h
  have HC3 := Aside0.mk H
  clear H
  go_enter Tryd.func41, Tryd.ntmps41
  go_upto_region 1 with (fail)
  go_cut [18] (fun v18 wc => ∃ (kq : Nat) (x18_2 : Bool), v18 = .bool x18_2 ∧ Aside0 (impl_JoinStock.j0 kq l0 l1 x18_2 = some (r1, r2)) ∧ Aside0 (kq ≤ k) ∧ Aside0 (Below w.heap.size w wc))
  case first =>
    have H := HC3.out
    clear HC3
    replace H := Option.bind_eq_some_iff.mp H
    obtain ⟨t379, A40, H⟩ := H
    replace H : (if t379 = true then ((impl_ValidStock.f l1).bind fun t380 => (impl_JoinStock.j0 k l0 l1 (!t380))) else (impl_JoinStock.j0 k l0 l1 true)) = some (r1, r2) := H
    have A4 := Aside0.mk A40
    clear A40
    by_cases c5 : t379 = true
    · subst c5
      have H1 : ((impl_ValidStock.f l1).bind fun t380 => (impl_JoinStock.j0 k l0 l1 (!t380))) = some (r1, r2) := by rw [if_pos rfl] at H; exact H
      clear H
      have H := H1
      clear H1
      replace H := Option.bind_eq_some_iff.mp H
      obtain ⟨t380, A60, H⟩ := H
      replace H : (impl_JoinStock.j0 k l0 l1 (!t380)) = some (r1, r2) := H
      have A6 := Aside0.mk A60
      clear A60
      have H' := Aside0.mk H
      clear H
      go_wp2_with (first | ((with_reducible refine gate_callee (f := 94) rfl ?_); refine goesL_ (some 12) rfl rfl Tryd.func94 (by kernel_rfl) rfl #[.slice A0 l0.length c0] rfl (by (try simp only [List.map_toArray, List.map_cons, List.map_nil]); first | done | rfl | (simp only [List.length_drop, List.length_take]; rfl)) ?_; (with_reducible refine (impl_ValidStock.calls _ _ l0 true _ ?side1 ?side2 A4.out).mono ?_); (case side1 => repeat (first | exact (Kd.C_below HR0.out HB.out) | (with_reducible refine Kd.C_alloc ?_ _) | (with_reducible refine Kd.C_drewN ?_ _) | (with_reducible refine Kd.C_drew ?_))); (case side2 => exact HC0.out); rintro e w7 ⟨rfl, hb⟩; refine ⟨_, rfl, ?_⟩; have n0_ := Aside0.mk (below_step (by repeat (first | (with_reducible first | exact HB.out | apply below_alloc | apply pw_below_drewN | apply below_drew1) | exact HB.out)) hb); clear HB; have HB := n0_; clear n0_; (try clear hb); (try clear hb2); (try clear hk); (try clear hi)) | (go_at_call 94; (with_reducible refine (impl_ValidStock.calls _ _ l1 t380 _ ?side1 ?side2 A6.out).mono ?_); (case side1 => repeat (first | exact (Kd.C_below HR1.out HB.out) | (with_reducible refine Kd.C_alloc ?_ _) | (with_reducible refine Kd.C_drewN ?_ _) | (with_reducible refine Kd.C_drew ?_))); (case side2 => exact HC1.out); rintro e w8 ⟨rfl, hb⟩; have n0_ := Aside0.mk (below_step (by repeat (first | (with_reducible first | exact HB.out | apply below_alloc | apply pw_below_drewN | apply below_drew1) | exact HB.out)) hb); clear HB; have HB := n0_; clear n0_; (try clear hb); (try clear hb2); (try clear hk); (try clear hi)))
      go_meet
      case rel => exact ⟨_, (!t380), (by first | rfl | (simp; done) | (simp [*]; done)), H', ⟨by first | omega | exact Nat.le_refl _⟩, ⟨by repeat (first | (with_reducible first | exact HB.out | apply below_alloc | apply pw_below_drewN | apply below_drew1) | exact HB.out)⟩⟩
    · replace c5 := Bool.eq_false_iff.mpr c5
      subst c5
      have H1 : (impl_JoinStock.j0 k l0 l1 true) = some (r1, r2) := by rw [if_neg (show ¬ (false = true) by decide)] at H; exact H
      clear H
      have H := H1
      clear H1
      have H' := Aside0.mk H
      clear H
      go_wp2_with (first | ((with_reducible refine gate_callee (f := 94) rfl ?_); refine goesL_ (some 12) rfl rfl Tryd.func94 (by kernel_rfl) rfl #[.slice A0 l0.length c0] rfl (by (try simp only [List.map_toArray, List.map_cons, List.map_nil]); first | done | rfl | (simp only [List.length_drop, List.length_take]; rfl)) ?_; (with_reducible refine (impl_ValidStock.calls _ _ l0 false _ ?side1 ?side2 A4.out).mono ?_); (case side1 => repeat (first | exact (Kd.C_below HR0.out HB.out) | (with_reducible refine Kd.C_alloc ?_ _) | (with_reducible refine Kd.C_drewN ?_ _) | (with_reducible refine Kd.C_drew ?_))); (case side2 => exact HC0.out); rintro e w9 ⟨rfl, hb⟩; refine ⟨_, rfl, ?_⟩; have n0_ := Aside0.mk (below_step (by repeat (first | (with_reducible first | exact HB.out | apply below_alloc | apply pw_below_drewN | apply below_drew1) | exact HB.out)) hb); clear HB; have HB := n0_; clear n0_; (try clear hb); (try clear hb2); (try clear hk); (try clear hi)))
      go_meet
      case rel => exact ⟨_, (true), (by first | rfl | (simp; done) | (simp [*]; done)), H', ⟨by first | omega | exact Nat.le_refl _⟩, ⟨by repeat (first | (with_reducible first | exact HB.out | apply below_alloc | apply pw_below_drewN | apply below_drew1) | exact HB.out)⟩⟩
  case rest =>
    clear HC3
    try clear c1
    try clear p2
    try clear c4
    try clear c5
    try clear c9
    obtain ⟨kq, x18_2, rfl, HA, HJ2, HB⟩ := hcut
    cases kq with
    | zero => exact absurd HA.out (by simp [impl_JoinStock.j0])
    | succ kj2 =>
      have H := HA.out
      clear HA
      simp only [impl_JoinStock.j0] at H
      by_cases c10 : x18_2 = true
      · subst c10
        have H1 : (some (([] : List (S34)), 1)) = some (r1, r2) := by rw [if_pos rfl] at H; exact H
        clear H
        have H := H1
        clear H1
        simp only [Option.some.injEq, Prod.mk.injEq] at H
        obtain ⟨rfl, rfl⟩ := H
        go_wp2
        go_ret2
        exact ⟨_, by first | rfl | (simp [errW_none, errW_some] <;> rfl) | (simp [*, errW_none, errW_some] <;> rfl), by first | exact Kd.R_nil _ _ _ _ _ | exact Kd.N_nil _ _ _ _ _ | exact Kd.V_nil _ _ _ _ _ | exact Kd.Q_nil _ _ _ _ _ | exact Kd.S_nil _ _ _ _ _, by repeat (first | (with_reducible first | exact HB.out | apply below_alloc | apply pw_below_drewN | apply below_drew1) | exact HB.out)⟩
      · replace c10 := Bool.eq_false_iff.mpr c10
        subst c10
        have H1 : ((impl_Item_126.f l0).bind fun t381 => (impl_JoinStock.l0 kj2 t381 l1 (l1.length : Int) 0)) = some (r1, r2) := by rw [if_neg (show ¬ (false = true) by decide)] at H; exact H
        clear H
        have H := H1
        clear H1
        replace H := Option.bind_eq_some_iff.mp H
        obtain ⟨t381, A110, H⟩ := H
        replace H : (impl_JoinStock.l0 kj2 t381 l1 (l1.length : Int) 0) = some (r1, r2) := H
        have A11 := Aside0.mk A110
        clear A110
        have H' := Aside0.mk H
        clear H
        go_wp2_with (first | ((with_reducible refine gate_callee (f := 126) rfl ?_); refine goesL_ (some 20) rfl rfl Tryd.func126 (by kernel_rfl) rfl #[.slice A0 l0.length c0] rfl (by (try simp only [List.map_toArray, List.map_cons, List.map_nil]); first | done | rfl | (simp only [List.length_drop, List.length_take]; rfl)) ?_; (with_reducible refine (impl_Item_126.calls _ _ l0 t381 _ ?side1 ?side2 A11.out).mono ?_); (case side1 => repeat (first | exact (Kd.C_below HR0.out HB.out) | (with_reducible refine Kd.C_alloc ?_ _) | (with_reducible refine Kd.C_drewN ?_ _) | (with_reducible refine Kd.C_drew ?_))); (case side2 => exact HC0.out); rintro e w12 ⟨v382, rfl, ho0, hb⟩; refine ⟨_, rfl, ?_⟩; have n0_ := Aside0.mk (Kd.R_lower ho0 (below_size (by repeat (first | (with_reducible first | exact HB.out | apply below_alloc | apply pw_below_drewN | apply below_drew1) | exact HB.out)))); have n1_ := Aside0.mk (below_step (by repeat (first | (with_reducible first | exact HB.out | apply below_alloc | apply pw_below_drewN | apply below_drew1) | exact HB.out)) hb); clear HB; have HO383 := n0_; have HB := n1_; clear n0_ n1_; (try clear hb); (try clear hb2); (try clear hk); (try clear hi); (try clear ho0)))
        go_loopg [6, 23] kj2 (fun kq v6 v23 w' => ∃ (x6_2 : List (S34)) (x23_2 : Int), v23 = .int .i64 x23_2 ∧ Aside0 (impl_JoinStock.l0 kq x6_2 l1 (l1.length : Int) x23_2 = some (r1, r2)) ∧ Aside0 (kq ≤ kj2) ∧ Aside0 (Kd.R k34 34 w' w.heap.size (fun _ => True) v6 x6_2) ∧ Aside0 (Below w.heap.size w w'))
        case atStart => exact ⟨(t381), (0), (by first | rfl | (simp; done) | (simp [*]; done)), H', ⟨Nat.le_refl _⟩, ⟨by (with_reducible repeat (first | apply Kd.R_alloc | apply Kd.R_drewN | apply Kd.R_drew)); exact HO383.out⟩, ⟨by repeat (first | (with_reducible first | exact HB.out | apply below_alloc | apply pw_below_drewN | apply below_drew1) | exact HB.out)⟩⟩
        case round =>
          clear H'
          try clear c1
          try clear p2
          try clear c4
          try clear c5
          try clear c9
          try clear c10
          try clear c12
          try clear p2
          obtain ⟨x6_2, x23_2, rfl, HA, HK2, HO_6, HB⟩ := hrel
          cases gk with
          | zero => exact absurd HA.out (by simp [impl_JoinStock.l0])
          | succ k2 =>
            have H := HA.out
            clear HA
            simp only [impl_JoinStock.l0] at H
            by_cases c13 : x23_2 < (l1.length : Int)
            · rw [if_pos c13] at H
              have c13b0 : decide (x23_2 < (l1.length : Int)) = true := decide_eq_true c13
              clear c13
              by_cases c14 : 0 ≤ x23_2
              · rw [if_pos c14] at H
                have c14b0 : decide (0 ≤ x23_2) = true := decide_eq_true c14
                clear c14
                by_cases c15 : x23_2 < (l1.length : Int)
                · rw [if_pos c15] at H
                  have c15b0 : decide (x23_2 < (l1.length : Int)) = true := decide_eq_true c15
                  clear c15
                  replace H := Option.bind_eq_some_iff.mp H
                  obtain ⟨⟨t387, t388⟩, A160, H⟩ := H
                  replace H : (if t388 = true then (if 0 ≤ t387 then (if t387 < (x6_2.length : Int) then ((some (x6_2.set (t387 : Int).toNat (⟨(rd_T34 x6_2 t387).f0, wrap64 (((rd_T34 x6_2 t387).f1) + ((rd_T34 l1 x23_2).f1)), (rd_T34 x6_2 t387).f2, (rd_T34 x6_2 t387).f3⟩ : S34) : List (S34))).bind fun y390 => ((some (y390.set (t387 : Int).toNat (⟨(rd_T34 y390 t387).f0, (rd_T34 y390 t387).f1, wrap64 (((rd_T34 y390 t387).f2) + ((rd_T34 l1 x23_2).f2)), (rd_T34 y390 t387).f3⟩ : S34) : List (S34))).bind fun y392 => (impl_JoinStock.l0 k2 (y392.set (t387 : Int).toNat (⟨(rd_T34 y392 t387).f0, (rd_T34 y392 t387).f1, (rd_T34 y392 t387).f2, mn ((rd_T34 y392 t387).f3) ((rd_T34 l1 x23_2).f3)⟩ : S34)) l1 (l1.length : Int) (wrap64 (x23_2 + 1))))) else (none)) else (none)) else ((impl_Item_128.f x6_2 t387 (([(⟨(rd_T34 l1 x23_2).f0, (rd_T34 l1 x23_2).f1, (rd_T34 l1 x23_2).f2, (rd_T34 l1 x23_2).f3⟩ : S34)] : List (S34)))).bind fun t398 => (impl_JoinStock.l0 k2 t398 l1 (l1.length : Int) (wrap64 (x23_2 + 1))))) = some (r1, r2) := H
                  have A16 := Aside0.mk A160
                  clear A160
                  by_cases c17 : t388 = true
                  · subst c17
                    have H1 : (if 0 ≤ t387 then (if t387 < (x6_2.length : Int) then ((some (x6_2.set (t387 : Int).toNat (⟨(rd_T34 x6_2 t387).f0, wrap64 (((rd_T34 x6_2 t387).f1) + ((rd_T34 l1 x23_2).f1)), (rd_T34 x6_2 t387).f2, (rd_T34 x6_2 t387).f3⟩ : S34) : List (S34))).bind fun y390 => ((some (y390.set (t387 : Int).toNat (⟨(rd_T34 y390 t387).f0, (rd_T34 y390 t387).f1, wrap64 (((rd_T34 y390 t387).f2) + ((rd_T34 l1 x23_2).f2)), (rd_T34 y390 t387).f3⟩ : S34) : List (S34))).bind fun y392 => (impl_JoinStock.l0 k2 (y392.set (t387 : Int).toNat (⟨(rd_T34 y392 t387).f0, (rd_T34 y392 t387).f1, (rd_T34 y392 t387).f2, mn ((rd_T34 y392 t387).f3) ((rd_T34 l1 x23_2).f3)⟩ : S34)) l1 (l1.length : Int) (wrap64 (x23_2 + 1))))) else (none)) else (none)) = some (r1, r2) := by rw [if_pos rfl] at H; exact H
                    clear H
                    have H := H1
                    clear H1
                    by_cases c18 : 0 ≤ t387
                    · rw [if_pos c18] at H
                      have c18b0 : decide (0 ≤ t387) = true := decide_eq_true c18
                      clear c18
                      by_cases c19 : t387 < (x6_2.length : Int)
                      · rw [if_pos c19] at H
                        have c19b0 : decide (t387 < (x6_2.length : Int)) = true := decide_eq_true c19
                        clear c19
                        obtain ⟨y390, hy390⟩ : ∃ y_ : List (S34), y_ = (x6_2.set (t387 : Int).toNat (⟨(rd_T34 x6_2 t387).f0, wrap64 (((rd_T34 x6_2 t387).f1) + ((rd_T34 l1 x23_2).f1)), (rd_T34 x6_2 t387).f2, (rd_T34 x6_2 t387).f3⟩ : S34)) := ⟨_, rfl⟩
                        replace H : ((some (y390.set (t387 : Int).toNat (⟨(rd_T34 y390 t387).f0, (rd_T34 y390 t387).f1, wrap64 (((rd_T34 y390 t387).f2) + ((rd_T34 l1 x23_2).f2)), (rd_T34 y390 t387).f3⟩ : S34) : List (S34))).bind fun y392 => (impl_JoinStock.l0 k2 (y392.set (t387 : Int).toNat (⟨(rd_T34 y392 t387).f0, (rd_T34 y392 t387).f1, (rd_T34 y392 t387).f2, mn ((rd_T34 y392 t387).f3) ((rd_T34 l1 x23_2).f3)⟩ : S34)) l1 (l1.length : Int) (wrap64 (x23_2 + 1)))) = some (r1, r2) := by first | (rw [hy390]; with_reducible exact H) | (have H2_ := (Option.bind_some _ _).symm.trans H; rw [hy390]; with_reducible exact H2_) | (have H2_ := (Option.bind_some _ _).symm.trans H; with_reducible exact H2_) | with_reducible exact H | (rw [hy390]; exact H) | exact H
                        have Ny390 := Aside0.mk hy390
                        clear hy390
                        obtain ⟨y392, hy392⟩ : ∃ y_ : List (S34), y_ = (y390.set (t387 : Int).toNat (⟨(rd_T34 y390 t387).f0, (rd_T34 y390 t387).f1, wrap64 (((rd_T34 y390 t387).f2) + ((rd_T34 l1 x23_2).f2)), (rd_T34 y390 t387).f3⟩ : S34)) := ⟨_, rfl⟩
                        replace H : (impl_JoinStock.l0 k2 (y392.set (t387 : Int).toNat (⟨(rd_T34 y392 t387).f0, (rd_T34 y392 t387).f1, (rd_T34 y392 t387).f2, mn ((rd_T34 y392 t387).f3) ((rd_T34 l1 x23_2).f3)⟩ : S34)) l1 (l1.length : Int) (wrap64 (x23_2 + 1))) = some (r1, r2) := by first | (rw [hy392]; with_reducible exact H) | (have H2_ := (Option.bind_some _ _).symm.trans H; rw [hy392]; with_reducible exact H2_) | (have H2_ := (Option.bind_some _ _).symm.trans H; with_reducible exact H2_) | with_reducible exact H | (rw [hy392]; exact H) | exact H
                        have Ny392 := Aside0.mk hy392
                        clear hy392
                        obtain ⟨ji22, hji22⟩ : ∃ j_ : Int, (mn ((rd_T34 y392 t387).f3) ((rd_T34 l1 x23_2).f3)) = j_ := ⟨_, rfl⟩
                        replace H : (impl_JoinStock.l0 k2 (y392.set (t387 : Int).toNat (⟨(rd_T34 y392 t387).f0, (rd_T34 y392 t387).f1, (rd_T34 y392 t387).f2, ji22⟩ : S34)) l1 (l1.length : Int) (wrap64 (x23_2 + 1))) = some (r1, r2) := by first | (rw [hji22] at H; exact H) | (simp only [hji22] at H ⊢; exact H)
                        (try rw [hji22] at A16)
                        have hji22_ : (if ((rd_T34 l1 x23_2).f3) < ((rd_T34 y392 t387).f3) then ((rd_T34 l1 x23_2).f3) else ((rd_T34 y392 t387).f3)) = ji22 := hji22
                        obtain ⟨y394, hy394⟩ : ∃ y_ : List (S34), y_ = (y392.set (t387 : Int).toNat (⟨(rd_T34 y392 t387).f0, (rd_T34 y392 t387).f1, (rd_T34 y392 t387).f2, ji22⟩ : S34)) := ⟨_, rfl⟩
                        replace H : (impl_JoinStock.l0 k2 y394 l1 (l1.length : Int) (wrap64 (x23_2 + 1))) = some (r1, r2) := by first | (rw [hy394]; with_reducible exact H) | (have H2_ := (Option.bind_some _ _).symm.trans H; rw [hy394]; with_reducible exact H2_) | (have H2_ := (Option.bind_some _ _).symm.trans H; with_reducible exact H2_) | with_reducible exact H | (rw [hy394]; exact H) | exact H
                        have Ny394 := Aside0.mk hy394
                        clear hy394
                        have H' := Aside0.mk H
                        clear H
                        have p385 : 0 ≤ (x23_2 : Int) := of_decide_eq_true (by first | (with_reducible assumption) | assumption)
                        have q385 : x23_2 < (l1.length : Int) := of_decide_eq_true (by first | (with_reducible assumption) | assumption)
                        obtain ⟨ad385, e385, hx385_0, hx385_1, hx385_2, hx385_3⟩ := at_T34 HR1.out x23_2 p385 q385
                        cases e385
                        replace hx385_0 := (HB.out.cell (World.block_lt_of_cell? w _ hx385_0)).trans hx385_0
                        replace hx385_1 := (HB.out.cell (World.block_lt_of_cell? w _ hx385_1)).trans hx385_1
                        replace hx385_2 := (HB.out.cell (World.block_lt_of_cell? w _ hx385_2)).trans hx385_2
                        replace hx385_3 := (HB.out.cell (World.block_lt_of_cell? w _ hx385_3)).trans hx385_3
                        replace p385 := eq_true p385
                        replace q385 := eq_true q385
                        try go_wp2_with (first | ((with_reducible refine gate_dst (N := 8) rfl ?_); refine box_event ?hg (N := 8) ?hd (cs := #[.string (⟨#[]⟩ : ByteArray), .int .i64 0, .int .i64 0, .int .i64 0]) (t := 34) ?hr ?_; (case hd => rfl); (case hg => rfl); (case hr => first | (go_simp; done) | (go_simp; rfl)); intro gb386 hg w24 hbox hb; have n0_ := Aside0.mk (Kd.R_below (Kd.R_elderB (by (with_reducible repeat (first | apply Kd.R_alloc | apply Kd.R_drewN | apply Kd.R_drew)); exact HO_6.out) gb386 (Nat.le_of_eq hg.symm)) hb); have n1_ := Aside0.mk (below_step (by repeat (first | (with_reducible first | exact HB.out | apply below_alloc | apply pw_below_drewN | apply below_drew1) | exact HB.out)) hb); have n2_ := Aside0.mk (hbox); have n3_ := Aside0.mk ((by rw [hg]; exact (below_size (by repeat (first | (with_reducible first | exact HB.out | apply below_alloc | apply pw_below_drewN | apply below_drew1) | exact HB.out))) : w.heap.size ≤ gb386)); have n4_ := Aside0.mk ((by rw [hg]; exact (below_size (by repeat (first | (with_reducible first | exact HB.out | apply below_alloc | apply pw_below_drewN | apply below_drew1) | exact HB.out))) : w.heap.size ≤ gb386)); clear HO_6; clear HB; have HO_6 := n0_; have HB := n1_; have BK386 := n2_; have GW386 := n3_; have GE386 := n4_; clear n0_ n1_ n2_ n3_ n4_; clear hb hbox hg; have hcz25_0 : w24.cell? ⟨gb386, 0, none⟩ = some (.string (⟨#[]⟩ : ByteArray)) := (blk_cell BK386.out 0).trans rfl; have hcz25_1 : w24.cell? ⟨gb386, 1, none⟩ = some (.int .i64 0) := (blk_cell BK386.out 1).trans rfl; have hcz25_2 : w24.cell? ⟨gb386, 2, none⟩ = some (.int .i64 0) := (blk_cell BK386.out 2).trans rfl; have hcz25_3 : w24.cell? ⟨gb386, 3, none⟩ = some (.int .i64 0) := (blk_cell BK386.out 3).trans rfl; have hfz25_0 := blk_frozen BK386.out 0; have hfz25_1 := blk_frozen BK386.out 1; have hfz25_2 := blk_frozen BK386.out 2; have hfz25_3 := blk_frozen BK386.out 3; obtain ⟨Ao26, co26, eo26⟩ := Kd.R_slice HO_6.out; subst eo26) | ((with_reducible refine gate_callee (f := 127) rfl ?_); refine goesL_ (some 31) rfl rfl Tryd.func127 (by kernel_rfl) rfl #[.slice Ao26 x6_2.length co26, .string ((rd_T34 l1 x23_2).f0)] rfl (by (try simp only [List.map_toArray, List.map_cons, List.map_nil]); first | done | rfl | (simp only [List.length_drop, List.length_take]; rfl)) ?_; (with_reducible refine (impl_itemAt.calls k2 _ _ x6_2 ((rd_T34 l1 x23_2).f0) t387 true _ ?side1 ?side2 A16.out).mono ?_); (case side1 => refine (Kd.R_reads' (e := 34) (base := w.heap.size) (ok := fun k_ => (True ∧ k_ ≠ gb386)) (n := x6_2.length) (c := co26) ?_).2.2; exact (by (with_reducible repeat (first | apply Kd.R_alloc | apply Kd.R_drewN | apply Kd.R_drew)); exact (Kd.R_mono (Kd.R_far (p := ⟨gb386, 3, none⟩) (Kd.R_far (p := ⟨gb386, 2, none⟩) (Kd.R_far (p := ⟨gb386, 1, none⟩) (Kd.R_far (p := ⟨gb386, 0, none⟩) (Kd.R_mono HO_6.out (fun k_ hk => (⟨hk, hk.2⟩ : _ ∧ k_ ≠ gb386))) (fun _ hk => hk.2) (.string ((rd_T34 l1 x23_2).f0))) (fun _ hk => hk.2) (.int .i64 ((rd_T34 l1 x23_2).f1))) (fun _ hk => hk.2) (.int .i64 ((rd_T34 l1 x23_2).f2))) (fun _ hk => hk.2) (.int .i64 ((rd_T34 l1 x23_2).f3))) (fun _ h_ => h_.1)))); (case side2 => exact (Kd.R_reads' HO_6.out).2.1); rintro e w' ⟨rfl, ⟨nd, rfl⟩⟩; refine ⟨_, rfl, ?_⟩))
                        have n0_ : Aside0 (Kd.R k34 34 ((((w24.setCell ⟨gb386, 0, none⟩ (.string ((rd_T34 l1 x23_2).f0))).setCell ⟨gb386, 1, none⟩ (.int .i64 ((rd_T34 l1 x23_2).f1))).setCell ⟨gb386, 2, none⟩ (.int .i64 ((rd_T34 l1 x23_2).f2))).setCell ⟨gb386, 3, none⟩ (.int .i64 ((rd_T34 l1 x23_2).f3))) w.heap.size (fun k_ => k_ ≠ gb386) (.slice Ao26 x6_2.length co26) x6_2) := ⟨by (with_reducible repeat (first | apply Kd.R_alloc | apply Kd.R_drewN | apply Kd.R_drew)); exact Kd.R_mono (Kd.R_far (p := ⟨gb386, 3, none⟩) (Kd.R_far (p := ⟨gb386, 2, none⟩) (Kd.R_far (p := ⟨gb386, 1, none⟩) (Kd.R_far (p := ⟨gb386, 0, none⟩) (Kd.R_mono HO_6.out (fun k_ hk => (⟨hk, hk.2⟩ : _ ∧ k_ ≠ gb386))) (fun _ hk => hk.2) (.string ((rd_T34 l1 x23_2).f0))) (fun _ hk => hk.2) (.int .i64 ((rd_T34 l1 x23_2).f1))) (fun _ hk => hk.2) (.int .i64 ((rd_T34 l1 x23_2).f2))) (fun _ hk => hk.2) (.int .i64 ((rd_T34 l1 x23_2).f3))) (fun _ hk => hk.1.2)⟩
                        have n1_ : Aside0 (((((w24.setCell ⟨gb386, 0, none⟩ (.string ((rd_T34 l1 x23_2).f0))).setCell ⟨gb386, 1, none⟩ (.int .i64 ((rd_T34 l1 x23_2).f1))).setCell ⟨gb386, 2, none⟩ (.int .i64 ((rd_T34 l1 x23_2).f2))).setCell ⟨gb386, 3, none⟩ (.int .i64 ((rd_T34 l1 x23_2).f3))).heap[gb386]? = some (.cells #[.string ((rd_T34 l1 x23_2).f0), .int .i64 ((rd_T34 l1 x23_2).f1), .int .i64 ((rd_T34 l1 x23_2).f2), .int .i64 ((rd_T34 l1 x23_2).f3)] 34 (0, 0))) := ⟨by (with_reducible repeat (first | refine blk_drewN ?_ _ | refine blk_drew ?_ | refine blk_alloc ?_ _)); refine blk_put (cs := #[.string ((rd_T34 l1 x23_2).f0), .int .i64 ((rd_T34 l1 x23_2).f1), .int .i64 ((rd_T34 l1 x23_2).f2), .int .i64 0]) ?_ 3 _ rfl; (with_reducible repeat (first | refine blk_drewN ?_ _ | refine blk_drew ?_ | refine blk_alloc ?_ _)); refine blk_put (cs := #[.string ((rd_T34 l1 x23_2).f0), .int .i64 ((rd_T34 l1 x23_2).f1), .int .i64 0, .int .i64 0]) ?_ 2 _ rfl; (with_reducible repeat (first | refine blk_drewN ?_ _ | refine blk_drew ?_ | refine blk_alloc ?_ _)); refine blk_put (cs := #[.string ((rd_T34 l1 x23_2).f0), .int .i64 0, .int .i64 0, .int .i64 0]) ?_ 1 _ rfl; (with_reducible repeat (first | refine blk_drewN ?_ _ | refine blk_drew ?_ | refine blk_alloc ?_ _)); refine blk_put (cs := #[.string (⟨#[]⟩ : ByteArray), .int .i64 0, .int .i64 0, .int .i64 0]) ?_ 0 _ rfl; (with_reducible repeat (first | refine blk_drewN ?_ _ | refine blk_drew ?_ | refine blk_alloc ?_ _)); exact BK386.out⟩
                        have n2_ : Aside0 (Below w.heap.size w ((((w24.setCell ⟨gb386, 0, none⟩ (.string ((rd_T34 l1 x23_2).f0))).setCell ⟨gb386, 1, none⟩ (.int .i64 ((rd_T34 l1 x23_2).f1))).setCell ⟨gb386, 2, none⟩ (.int .i64 ((rd_T34 l1 x23_2).f2))).setCell ⟨gb386, 3, none⟩ (.int .i64 ((rd_T34 l1 x23_2).f3)))) := ⟨by repeat (first | (with_reducible first | exact HB.out | apply below_alloc | apply pw_below_drewN | apply below_drew1 | refine below_set ?_ GE386.out) | exact HB.out)⟩
                        (try clear HO_6)
                        (try clear BK386)
                        (try clear HB)
                        generalize ((((w24.setCell ⟨gb386, 0, none⟩ (.string ((rd_T34 l1 x23_2).f0))).setCell ⟨gb386, 1, none⟩ (.int .i64 ((rd_T34 l1 x23_2).f1))).setCell ⟨gb386, 2, none⟩ (.int .i64 ((rd_T34 l1 x23_2).f2))).setCell ⟨gb386, 3, none⟩ (.int .i64 ((rd_T34 l1 x23_2).f3))) = w27 at n0_ n1_ n2_ ⊢
                        have HO_6 := n0_
                        have BK386 := n1_
                        have HB := n2_
                        clear n0_ n1_ n2_
                        (try (rw [drewN_self w27]; generalize hq_ : World.drewN w27 _ = w27; have n0_ : Aside0 (Kd.R k34 34 w27 w.heap.size (fun k_ => k_ ≠ gb386) (.slice Ao26 x6_2.length co26) x6_2) := ⟨by rw [← hq_]; exact (by (with_reducible repeat (first | apply Kd.R_alloc | apply Kd.R_drewN | apply Kd.R_drew)); exact HO_6.out)⟩; have n1_ : Aside0 (w27.heap[gb386]? = some (.cells #[.string ((rd_T34 l1 x23_2).f0), .int .i64 ((rd_T34 l1 x23_2).f1), .int .i64 ((rd_T34 l1 x23_2).f2), .int .i64 ((rd_T34 l1 x23_2).f3)] 34 (0, 0))) := ⟨by rw [← hq_]; exact (by (with_reducible repeat (first | refine blk_drewN ?_ _ | refine blk_drew ?_ | refine blk_alloc ?_ _)); exact BK386.out)⟩; have n2_ : Aside0 (Below w.heap.size w w27) := ⟨by rw [← hq_]; exact (by repeat (first | (with_reducible first | exact HB.out | apply below_alloc | apply pw_below_drewN | apply below_drew1 | refine below_set ?_ GE386.out) | exact HB.out))⟩; clear HO_6 BK386 HB hq_; have HO_6 := n0_; have BK386 := n1_; have HB := n2_; clear n0_ n1_ n2_))
                        have n0_ := Aside0.mk (Kd.R_drew HO_6.out)
                        have n1_ := Aside0.mk (blk_drew BK386.out)
                        have n2_ := Aside0.mk (below_drew1 HB.out)
                        clear HO_6
                        clear BK386
                        clear HB
                        have HO_6 := n0_
                        have BK386 := n1_
                        have HB := n2_
                        clear n0_ n1_ n2_
                        have p389 : 0 ≤ (t387 : Int) := of_decide_eq_true (by first | (with_reducible assumption) | assumption)
                        have q389 : t387 < (x6_2.length : Int) := of_decide_eq_true (by first | (with_reducible assumption) | assumption)
                        obtain ⟨ad389, e389, hx389_0, hx389_1, hx389_2, hx389_3⟩ := at_T34 (Kd.R_reads' HO_6.out).2.2 t387 p389 q389
                        cases e389
                        replace p389 := eq_true p389
                        replace q389 := eq_true q389
                        have p20 : 0 ≤ (t387 : Int) := of_decide_eq_true (by first | (with_reducible assumption) | assumption)
                        have q20 : (t387 : Int) < ((x6_2.length : Int) : Int) := of_decide_eq_true (by first | (with_reducible assumption) | assumption)
                        obtain ⟨go20, co20, eo20, gb20, gl20, cl20, HG20⟩ := Kd.R_form HO_6.out (by omega)
                        (first | cases eo20 | (injection eo20 with ea_ en_ ec_; (first | subst ea_ | (injection ea_ with ea_; subst ea_)); subst ec_; clear en_))
                        have GB20 := Aside0.mk gb20
                        have GG20 := Aside0.mk HG20
                        clear gb20 gl20 HG20
                        (first | simp only [add_plain] at hx389_0 | skip)
                        (first | simp only [add_plain] at hx389_1 | skip)
                        (first | simp only [add_plain] at hx389_2 | skip)
                        (first | simp only [add_plain] at hx389_3 | skip)
                        obtain ⟨ce20, hcl20, hM20, hcc20, hfr20⟩ := Kd.R_elem HO_6.out z34 (t387 : Int) p20 q20
                        obtain rfl := k34_openM hM20
                        have hx20_0 : World.cell? _ ⟨go20, (t387 : Int).toNat * 4, none⟩ = some (.string ((rd_T34 x6_2 t387).f0)) := hcc20 0 _ rfl
                        have hx20_1 : World.cell? _ ⟨go20, (t387 : Int).toNat * 4 + 1, none⟩ = some (.int .i64 ((rd_T34 x6_2 t387).f1)) := hcc20 1 _ rfl
                        have hx20_2 : World.cell? _ ⟨go20, (t387 : Int).toNat * 4 + 2, none⟩ = some (.int .i64 ((rd_T34 x6_2 t387).f2)) := hcc20 2 _ rfl
                        have hx20_3 : World.cell? _ ⟨go20, (t387 : Int).toNat * 4 + 3, none⟩ = some (.int .i64 ((rd_T34 x6_2 t387).f3)) := hcc20 3 _ rfl
                        have hf20_0 : World.frozen? _ ⟨go20, (t387 : Int).toNat * 4, none⟩ = false := hfr20 0
                        have hf20_1 : World.frozen? _ ⟨go20, (t387 : Int).toNat * 4 + 1, none⟩ = false := hfr20 1
                        have hf20_2 : World.frozen? _ ⟨go20, (t387 : Int).toNat * 4 + 2, none⟩ = false := hfr20 2
                        have hf20_3 : World.frozen? _ ⟨go20, (t387 : Int).toNat * 4 + 3, none⟩ = false := hfr20 3
                        clear hcl20 hcc20 hfr20 hM20
                        replace p20 := eq_true p20
                        replace q20 := eq_true q20
                        obtain ⟨ce29, hcl29, hM29, hcc29, hfr29⟩ := Kd.R_elem HO_6.out z34 (t387 : Int) (of_decide_eq_true (by first | (with_reducible assumption) | assumption)) (by have h_ : (t387 : Int) < ((x6_2.length : Int) : Int) := of_decide_eq_true (by first | (with_reducible assumption) | assumption); first | exact h_ | (have e_ := (Kd.R_reads' HO_6.out).1; omega) | simpa using h_)
                        obtain rfl := k34_openM hM29
                        have HP29 := (Kd.R_seg HO_6.out (t387 : Int) (of_decide_eq_true (by first | (with_reducible assumption) | assumption)) (by have h_ : (t387 : Int) < ((x6_2.length : Int) : Int) := of_decide_eq_true (by first | (with_reducible assumption) | assumption); first | exact h_ | (have e_ := (Kd.R_reads' HO_6.out).1; omega) | simpa using h_) (seg := [.int .i64 (wrap64 (((rd_T34 x6_2 t387).f1) + ((rd_T34 l1 x23_2).f1)))]) (j := 1) hcl29 hcc29 (show 2 ≤ 4 from by decide) (x' := (⟨(rd_T34 x6_2 t387).f0, wrap64 (((rd_T34 x6_2 t387).f1) + ((rd_T34 l1 x23_2).f1)), (rd_T34 x6_2 t387).f2, (rd_T34 x6_2 t387).f3⟩ : S34)) (k34_mkM _ _ _ (⟨(rd_T34 x6_2 t387).f0, wrap64 (((rd_T34 x6_2 t387).f1) + ((rd_T34 l1 x23_2).f1)), (rd_T34 x6_2 t387).f2, (rd_T34 x6_2 t387).f3⟩ : S34) ) (fun _ hk => hk)).1
                        rw [← Ny390.out] at HP29
                        have HQ29 := Aside0.mk HP29
                        clear hcl29 hcc29 hfr29 hM29 HP29
                        refine start_ (n := 11) (S := fun w' => w'.cell? ⟨gb386, 0, none⟩ = some (.string ((rd_T34 l1 x23_2).f0)) ∧ w'.cell? ⟨gb386, 1, none⟩ = some (.int .i64 ((rd_T34 l1 x23_2).f1)) ∧ w'.cell? ⟨gb386, 2, none⟩ = some (.int .i64 ((rd_T34 l1 x23_2).f2)) ∧ w'.cell? ⟨gb386, 3, none⟩ = some (.int .i64 ((rd_T34 l1 x23_2).f3)) ∧ w'.cell? ⟨go20, ((t387).toNat * 4), none⟩ = some (.string ((rd_T34 x6_2 t387).f0)) ∧ w'.cell? ⟨go20, ((t387).toNat * 4) + 1, none⟩ = some (.int .i64 ((rd_T34 x6_2 t387).f1)) ∧ w'.cell? ⟨go20, ((t387).toNat * 4) + 2, none⟩ = some (.int .i64 ((rd_T34 x6_2 t387).f2)) ∧ w'.cell? ⟨go20, ((t387).toNat * 4) + 3, none⟩ = some (.int .i64 ((rd_T34 x6_2 t387).f3))) (ds := [10]) #[false, false, false, false, false, false, false, false, false, false, false] (by kernel_rfl) rfl rfl ⟨(blk_cell BK386.out 0).trans rfl, (blk_cell BK386.out 1).trans rfl, (blk_cell BK386.out 2).trans rfl, (blk_cell BK386.out 3).trans rfl, hx389_0, hx389_1, hx389_2, hx389_3⟩ (fun hHeld => ?_); refine with_tabW impl_JoinStock.tab10 impl_JoinStock.bits10 (fun HT_ HW_ => ?_)
                        generalize w27.drew = w28 at HO_6 BK386 HB GG20 HQ29 hf20_0 hf20_1 hf20_2 hf20_3 hx20_0 hx20_1 hx20_2 hx20_3 hx389_0 hx389_1 hx389_2 hx389_3 hHeld ⊢
                        refine pure_ (i := 0) (N := some 41) (v := ?_) (a' := ?_) #[true, false, false, false, false, false, false, false, false, false, false] rfl rfl (any_of HT_.out (by kernel_rfl)) (fun _ _ _ h => h) (Or.inl ⟨by rfl, ?_⟩) ?_ ?_
                        rotate_left
                        · intro w'
                          go_simp
                          with_reducible rfl
                        rotate_left
                        · simp only [Act.put, List.setIfInBounds_toArray, List.set_cons_zero, List.set_cons_succ, i64_w, i32_w]
                          rfl
                        refine pure_ (i := 1) (N := some 42) (v := ?_) (a' := ?_) #[true, true, false, false, false, false, false, false, false, false, false] rfl rfl (any_of HT_.out (by kernel_rfl)) (fun _ _ _ h => h) (Or.inl ⟨by rfl, ?_⟩) ?_ ?_
                        rotate_left
                        · intro w'
                          go_simp
                          with_reducible rfl
                        rotate_left
                        · simp only [Act.put, List.setIfInBounds_toArray, List.set_cons_zero, List.set_cons_succ, i64_w, i32_w]
                          rfl
                        refine pure_ (i := 2) (N := some 43) (v := ?_) (a' := ?_) #[true, true, true, false, false, false, false, false, false, false, false] rfl rfl (any_of HT_.out (by kernel_rfl)) (fun _ _ _ h => h) (Or.inl ⟨by rfl, ?_⟩) ?_ ?_
                        rotate_left
                        · intro w'
                          go_simp
                          with_reducible rfl
                        rotate_left
                        · simp only [Act.put, List.setIfInBounds_toArray, List.set_cons_zero, List.set_cons_succ, i64_w, i32_w]
                          rfl
                        refine pure_ (i := 3) (N := some 44) (v := ?_) (a' := ?_) #[true, true, true, true, false, false, false, false, false, false, false] rfl rfl (any_of HT_.out (by kernel_rfl)) (fun _ _ _ h => h) (Or.inl ⟨by rfl, ?_⟩) ?_ ?_
                        rotate_left
                        · intro w'
                          go_simp
                          with_reducible rfl
                        rotate_left
                        · simp only [Act.put, List.setIfInBounds_toArray, List.set_cons_zero, List.set_cons_succ, i64_w, i32_w]
                          rfl
                        refine pure_ (i := 5) (N := some 46) (v := ?_) (a' := ?_) #[true, true, true, true, false, true, false, false, false, false, false] rfl rfl (any_of HT_.out (by kernel_rfl)) (fun _ _ _ h => h) (Or.inl ⟨by rfl, ?_⟩) ?_ ?_
                        rotate_left
                        · intro w'
                          go_simp
                          with_reducible rfl
                        rotate_left
                        · simp only [Act.put, List.setIfInBounds_toArray, List.set_cons_zero, List.set_cons_succ, i64_w, i32_w]
                          rfl
                        refine take_ (i := 4) (N := some 45) (v := ?_) (a' := ?_) #[true, true, true, true, true, true, false, false, false, false, false] rfl rfl (take_ofW HT_.out HW_.out (by kernel_rfl)) (fun _ _ _ h => h) (Or.inl ⟨by rfl, ?_⟩) hHeld ?_ ?_
                        rotate_left
                        · rintro w' ⟨s0, s1, s2, s3, s4, s5, s6, s7⟩
                          go_simp
                          with_reducible rfl
                        rotate_left
                        · simp only [Act.put, List.setIfInBounds_toArray, List.set_cons_zero, List.set_cons_succ, i64_w, i32_w]
                          rfl
                        refine take_ (i := 6) (N := some 47) (v := ?_) (a' := ?_) #[true, true, true, true, true, true, true, false, false, false, false] rfl rfl (take_ofW HT_.out HW_.out (by kernel_rfl)) (fun _ _ _ h => h) (Or.inl ⟨by rfl, ?_⟩) hHeld ?_ ?_
                        rotate_left
                        · rintro w' ⟨s0, s1, s2, s3, s4, s5, s6, s7⟩
                          go_simp
                          with_reducible rfl
                        rotate_left
                        · simp only [Act.put, List.setIfInBounds_toArray, List.set_cons_zero, List.set_cons_succ, i64_w, i32_w]
                          rfl
                        refine pure_ (i := 7) (N := some 48) (v := ?_) (a' := ?_) #[true, true, true, true, true, true, true, true, false, false, false] rfl rfl (any_of HT_.out (by kernel_rfl)) (fun _ _ _ h => h) (Or.inl ⟨by rfl, ?_⟩) ?_ ?_
                        rotate_left
                        · intro w'
                          go_simp
                          with_reducible rfl
                        rotate_left
                        · simp only [Act.put, List.setIfInBounds_toArray, List.set_cons_zero, List.set_cons_succ, i64_w, i32_w]
                          rfl
                        refine pure_ (i := 8) (N := some 49) (v := ?_) (a' := ?_) #[true, true, true, true, true, true, true, true, true, false, false] rfl rfl (any_of HT_.out (by kernel_rfl)) (fun _ _ _ h => h) (Or.inl ⟨by rfl, ?_⟩) ?_ ?_
                        rotate_left
                        · intro w'
                          go_simp
                          with_reducible rfl
                        rotate_left
                        · simp only [Act.put, List.setIfInBounds_toArray, List.set_cons_zero, List.set_cons_succ, i64_w, i32_w]
                          rfl
                        refine pure_ (i := 9) (N := some 50) (v := ?_) (a' := ?_) #[true, true, true, true, true, true, true, true, true, true, false] rfl rfl (any_of HT_.out (by kernel_rfl)) (fun _ _ _ h => h) (Or.inl ⟨by rfl, ?_⟩) ?_ ?_
                        rotate_left
                        · intro w'
                          go_simp
                          with_reducible rfl
                        rotate_left
                        · simp only [Act.put, List.setIfInBounds_toArray, List.set_cons_zero, List.set_cons_succ, i64_w, i32_w]
                          rfl
                        refine last_ (i := 10) (N := none) #[true, true, true, true, true, true, true, true, true, true, true] rfl rfl (one_of HT_.out (by kernel_rfl)) (by decide) (fun K hK => ?_)
                        refine skip_ (w1 := ?_) (by rfl) rfl ?_ ?_
                        rotate_left
                        · go_simp
                          rfl
                        refine hK.out _ _ ?_
                        clear hK K
                        refine done_ (done_of HT_.out (by kernel_rfl)) ?_
                        try go_wp2
                        have n0_ : Aside0 (Kd.R k34 34 (w28.setCell ⟨go20, (t387 : Int).toNat * 4 + 1, none⟩ (.int .i64 (wrap64 (((rd_T34 x6_2 t387).f1) + ((rd_T34 l1 x23_2).f1))))) w.heap.size (fun k_ => k_ ≠ gb386) (.slice (some ⟨go20, 0, none⟩) x6_2.length co26) y390) := ⟨by (with_reducible repeat (first | apply Kd.R_alloc | apply Kd.R_drewN | apply Kd.R_drew)); exact HQ29.out⟩
                        have n1_ : Aside0 ((w28.setCell ⟨go20, (t387 : Int).toNat * 4 + 1, none⟩ (.int .i64 (wrap64 (((rd_T34 x6_2 t387).f1) + ((rd_T34 l1 x23_2).f1))))).heap[gb386]? = some (.cells #[.string ((rd_T34 l1 x23_2).f0), .int .i64 ((rd_T34 l1 x23_2).f1), .int .i64 ((rd_T34 l1 x23_2).f2), .int .i64 ((rd_T34 l1 x23_2).f3)] 34 (0, 0))) := ⟨by (with_reducible repeat (first | refine blk_drewN ?_ _ | refine blk_drew ?_ | refine blk_alloc ?_ _)); refine blk_far ?_ (by have h_ := Kd.R_away HO_6.out (fun _ hk => hk); intro e_; exact h_ (by rw [e_]; rfl)) _; (with_reducible repeat (first | refine blk_drewN ?_ _ | refine blk_drew ?_ | refine blk_alloc ?_ _)); exact BK386.out⟩
                        have n2_ : Aside0 (Below w.heap.size w (w28.setCell ⟨go20, (t387 : Int).toNat * 4 + 1, none⟩ (.int .i64 (wrap64 (((rd_T34 x6_2 t387).f1) + ((rd_T34 l1 x23_2).f1)))))) := ⟨by repeat (first | (with_reducible first | exact HB.out | apply below_alloc | apply pw_below_drewN | apply below_drew1 | refine below_set ?_ GB20.out | refine below_set ?_ GE386.out) | exact HB.out)⟩
                        (try clear HO_6)
                        (try clear BK386)
                        (try clear HB)
                        generalize (w28.setCell ⟨go20, (t387 : Int).toNat * 4 + 1, none⟩ (.int .i64 (wrap64 (((rd_T34 x6_2 t387).f1) + ((rd_T34 l1 x23_2).f1))))) = w30 at n0_ n1_ n2_ ⊢
                        have HO_6 := n0_
                        have BK386 := n1_
                        have HB := n2_
                        clear n0_ n1_ n2_
                        have n0_ := Aside0.mk (Kd.R_drew HO_6.out)
                        have n1_ := Aside0.mk (blk_drew BK386.out)
                        have n2_ := Aside0.mk (below_drew1 HB.out)
                        clear HO_6
                        clear BK386
                        clear HB
                        have HO_6 := n0_
                        have BK386 := n1_
                        have HB := n2_
                        clear n0_ n1_ n2_
                        have p391 : 0 ≤ (t387 : Int) := of_decide_eq_true (by first | (with_reducible assumption) | assumption)
                        have q391 : t387 < (y390.length : Int) := (by have h_ : (t387 : Int) < ((x6_2.length : Int) : Int) := of_decide_eq_true (by first | (with_reducible assumption) | assumption); first | (have e_ := (Kd.R_reads' HO_6.out).1; omega) | simpa only [Ny390.out, List.length_set] using h_)
                        have ql391 : ((t387 : Int) < ((x6_2.length : Int) : Int)) = True := eq_true (of_decide_eq_true (by first | (with_reducible assumption) | assumption))
                        obtain ⟨ad391, e391, hx391_0, hx391_1, hx391_2, hx391_3⟩ := at_T34 (Kd.R_reads' HO_6.out).2.2 t387 p391 q391
                        obtain rfl : (⟨go20, 0, none⟩ : Addr) = ad391 := (by injection e391)
                        (first | simp only [add_plain] at hx391_0 | simp only [add_at] at hx391_0 | simp only [Addr.add, Nat.zero_add] at hx391_0 | skip)
                        (first | simp only [add_plain] at hx391_1 | simp only [add_at] at hx391_1 | simp only [Addr.add, Nat.zero_add] at hx391_1 | skip)
                        (first | simp only [add_plain] at hx391_2 | simp only [add_at] at hx391_2 | simp only [Addr.add, Nat.zero_add] at hx391_2 | skip)
                        (first | simp only [add_plain] at hx391_3 | simp only [add_at] at hx391_3 | simp only [Addr.add, Nat.zero_add] at hx391_3 | skip)
                        replace p391 := eq_true p391
                        replace q391 := eq_true q391
                        have p21 : 0 ≤ (t387 : Int) := of_decide_eq_true (by first | (with_reducible assumption) | assumption)
                        have q21 : (t387 : Int) < ((x6_2.length : Int) : Int) := of_decide_eq_true (by first | (with_reducible assumption) | assumption)
                        obtain ⟨ce21, hcl21, hM21, hcc21, hfr21⟩ := Kd.R_elem HO_6.out z34 (t387 : Int) p21 q21
                        obtain rfl := k34_openM hM21
                        have hx21_0 : World.cell? _ ⟨go20, (t387 : Int).toNat * 4, none⟩ = some (.string ((rd_T34 y390 t387).f0)) := hcc21 0 _ rfl
                        have hx21_1 : World.cell? _ ⟨go20, (t387 : Int).toNat * 4 + 1, none⟩ = some (.int .i64 ((rd_T34 y390 t387).f1)) := hcc21 1 _ rfl
                        have hx21_2 : World.cell? _ ⟨go20, (t387 : Int).toNat * 4 + 2, none⟩ = some (.int .i64 ((rd_T34 y390 t387).f2)) := hcc21 2 _ rfl
                        have hx21_3 : World.cell? _ ⟨go20, (t387 : Int).toNat * 4 + 3, none⟩ = some (.int .i64 ((rd_T34 y390 t387).f3)) := hcc21 3 _ rfl
                        have hf21_0 : World.frozen? _ ⟨go20, (t387 : Int).toNat * 4, none⟩ = false := hfr21 0
                        have hf21_1 : World.frozen? _ ⟨go20, (t387 : Int).toNat * 4 + 1, none⟩ = false := hfr21 1
                        have hf21_2 : World.frozen? _ ⟨go20, (t387 : Int).toNat * 4 + 2, none⟩ = false := hfr21 2
                        have hf21_3 : World.frozen? _ ⟨go20, (t387 : Int).toNat * 4 + 3, none⟩ = false := hfr21 3
                        clear hcl21 hcc21 hfr21 hM21
                        replace p21 := eq_true p21
                        replace q21 := eq_true q21
                        obtain ⟨ce32, hcl32, hM32, hcc32, hfr32⟩ := Kd.R_elem HO_6.out z34 (t387 : Int) (of_decide_eq_true (by first | (with_reducible assumption) | assumption)) (by have h_ : (t387 : Int) < ((x6_2.length : Int) : Int) := of_decide_eq_true (by first | (with_reducible assumption) | assumption); first | exact h_ | (have e_ := (Kd.R_reads' HO_6.out).1; omega) | simpa using h_)
                        obtain rfl := k34_openM hM32
                        have HP32 := (Kd.R_seg HO_6.out (t387 : Int) (of_decide_eq_true (by first | (with_reducible assumption) | assumption)) (by have h_ : (t387 : Int) < ((x6_2.length : Int) : Int) := of_decide_eq_true (by first | (with_reducible assumption) | assumption); first | exact h_ | (have e_ := (Kd.R_reads' HO_6.out).1; omega) | simpa using h_) (seg := [.int .i64 (wrap64 (((rd_T34 y390 t387).f2) + ((rd_T34 l1 x23_2).f2)))]) (j := 2) hcl32 hcc32 (show 3 ≤ 4 from by decide) (x' := (⟨(rd_T34 y390 t387).f0, (rd_T34 y390 t387).f1, wrap64 (((rd_T34 y390 t387).f2) + ((rd_T34 l1 x23_2).f2)), (rd_T34 y390 t387).f3⟩ : S34)) (k34_mkM _ _ _ (⟨(rd_T34 y390 t387).f0, (rd_T34 y390 t387).f1, wrap64 (((rd_T34 y390 t387).f2) + ((rd_T34 l1 x23_2).f2)), (rd_T34 y390 t387).f3⟩ : S34) ) (fun _ hk => hk)).1
                        rw [← Ny392.out] at HP32
                        have HQ32 := Aside0.mk HP32
                        clear hcl32 hcc32 hfr32 hM32 HP32
                        refine start_ (n := 11) (S := fun w' => w'.cell? ⟨gb386, 0, none⟩ = some (.string ((rd_T34 l1 x23_2).f0)) ∧ w'.cell? ⟨gb386, 1, none⟩ = some (.int .i64 ((rd_T34 l1 x23_2).f1)) ∧ w'.cell? ⟨gb386, 2, none⟩ = some (.int .i64 ((rd_T34 l1 x23_2).f2)) ∧ w'.cell? ⟨gb386, 3, none⟩ = some (.int .i64 ((rd_T34 l1 x23_2).f3)) ∧ w'.cell? ⟨go20, (t387).toNat * 4, none⟩ = some (.string ((rd_T34 y390 t387).f0)) ∧ w'.cell? ⟨go20, (t387).toNat * 4 + 1, none⟩ = some (.int .i64 ((rd_T34 y390 t387).f1)) ∧ w'.cell? ⟨go20, (t387).toNat * 4 + 2, none⟩ = some (.int .i64 ((rd_T34 y390 t387).f2)) ∧ w'.cell? ⟨go20, (t387).toNat * 4 + 3, none⟩ = some (.int .i64 ((rd_T34 y390 t387).f3))) (ds := [10]) #[false, false, false, false, false, false, false, false, false, false, false] (by kernel_rfl) rfl rfl ⟨(blk_cell BK386.out 0).trans rfl, (blk_cell BK386.out 1).trans rfl, (blk_cell BK386.out 2).trans rfl, (blk_cell BK386.out 3).trans rfl, hx391_0, hx391_1, hx391_2, hx391_3⟩ (fun hHeld => ?_); refine with_tabW impl_JoinStock.tab11 impl_JoinStock.bits11 (fun HT_ HW_ => ?_)
                        generalize w30.drew = w31 at HO_6 BK386 HB HQ29 HQ32 hf21_0 hf21_1 hf21_2 hf21_3 hx21_0 hx21_1 hx21_2 hx21_3 hx391_0 hx391_1 hx391_2 hx391_3 hHeld ⊢
                        refine pure_ (i := 0) (N := some 51) (v := ?_) (a' := ?_) #[true, false, false, false, false, false, false, false, false, false, false] rfl rfl (any_of HT_.out (by kernel_rfl)) (fun _ _ _ h => h) (Or.inl ⟨by rfl, ?_⟩) ?_ ?_
                        rotate_left
                        · intro w'
                          go_simp
                          with_reducible rfl
                        rotate_left
                        · simp only [Act.put, List.setIfInBounds_toArray, List.set_cons_zero, List.set_cons_succ, i64_w, i32_w]
                          rfl
                        refine pure_ (i := 1) (N := some 52) (v := ?_) (a' := ?_) #[true, true, false, false, false, false, false, false, false, false, false] rfl rfl (any_of HT_.out (by kernel_rfl)) (fun _ _ _ h => h) (Or.inl ⟨by rfl, ?_⟩) ?_ ?_
                        rotate_left
                        · intro w'
                          go_simp
                          with_reducible rfl
                        rotate_left
                        · simp only [Act.put, List.setIfInBounds_toArray, List.set_cons_zero, List.set_cons_succ, i64_w, i32_w]
                          rfl
                        refine pure_ (i := 2) (N := some 53) (v := ?_) (a' := ?_) #[true, true, true, false, false, false, false, false, false, false, false] rfl rfl (any_of HT_.out (by kernel_rfl)) (fun _ _ _ h => h) (Or.inl ⟨by rfl, ?_⟩) ?_ ?_
                        rotate_left
                        · intro w'
                          go_simp
                          with_reducible rfl
                        rotate_left
                        · simp only [Act.put, List.setIfInBounds_toArray, List.set_cons_zero, List.set_cons_succ, i64_w, i32_w]
                          rfl
                        refine pure_ (i := 3) (N := some 54) (v := ?_) (a' := ?_) #[true, true, true, true, false, false, false, false, false, false, false] rfl rfl (any_of HT_.out (by kernel_rfl)) (fun _ _ _ h => h) (Or.inl ⟨by rfl, ?_⟩) ?_ ?_
                        rotate_left
                        · intro w'
                          go_simp
                          with_reducible rfl
                        rotate_left
                        · simp only [Act.put, List.setIfInBounds_toArray, List.set_cons_zero, List.set_cons_succ, i64_w, i32_w]
                          rfl
                        refine pure_ (i := 5) (N := some 56) (v := ?_) (a' := ?_) #[true, true, true, true, false, true, false, false, false, false, false] rfl rfl (any_of HT_.out (by kernel_rfl)) (fun _ _ _ h => h) (Or.inl ⟨by rfl, ?_⟩) ?_ ?_
                        rotate_left
                        · intro w'
                          go_simp
                          with_reducible rfl
                        rotate_left
                        · simp only [Act.put, List.setIfInBounds_toArray, List.set_cons_zero, List.set_cons_succ, i64_w, i32_w]
                          rfl
                        refine take_ (i := 4) (N := some 55) (v := ?_) (a' := ?_) #[true, true, true, true, true, true, false, false, false, false, false] rfl rfl (take_ofW HT_.out HW_.out (by kernel_rfl)) (fun _ _ _ h => h) (Or.inl ⟨by rfl, ?_⟩) hHeld ?_ ?_
                        rotate_left
                        · rintro w' ⟨s0, s1, s2, s3, s4, s5, s6, s7⟩
                          go_simp
                          with_reducible rfl
                        rotate_left
                        · simp only [Act.put, List.setIfInBounds_toArray, List.set_cons_zero, List.set_cons_succ, i64_w, i32_w]
                          rfl
                        refine take_ (i := 6) (N := some 57) (v := ?_) (a' := ?_) #[true, true, true, true, true, true, true, false, false, false, false] rfl rfl (take_ofW HT_.out HW_.out (by kernel_rfl)) (fun _ _ _ h => h) (Or.inl ⟨by rfl, ?_⟩) hHeld ?_ ?_
                        rotate_left
                        · rintro w' ⟨s0, s1, s2, s3, s4, s5, s6, s7⟩
                          go_simp
                          with_reducible rfl
                        rotate_left
                        · simp only [Act.put, List.setIfInBounds_toArray, List.set_cons_zero, List.set_cons_succ, i64_w, i32_w]
                          rfl
                        refine pure_ (i := 7) (N := some 58) (v := ?_) (a' := ?_) #[true, true, true, true, true, true, true, true, false, false, false] rfl rfl (any_of HT_.out (by kernel_rfl)) (fun _ _ _ h => h) (Or.inl ⟨by rfl, ?_⟩) ?_ ?_
                        rotate_left
                        · intro w'
                          go_simp
                          with_reducible rfl
                        rotate_left
                        · simp only [Act.put, List.setIfInBounds_toArray, List.set_cons_zero, List.set_cons_succ, i64_w, i32_w]
                          rfl
                        refine pure_ (i := 8) (N := some 59) (v := ?_) (a' := ?_) #[true, true, true, true, true, true, true, true, true, false, false] rfl rfl (any_of HT_.out (by kernel_rfl)) (fun _ _ _ h => h) (Or.inl ⟨by rfl, ?_⟩) ?_ ?_
                        rotate_left
                        · intro w'
                          go_simp
                          with_reducible rfl
                        rotate_left
                        · simp only [Act.put, List.setIfInBounds_toArray, List.set_cons_zero, List.set_cons_succ, i64_w, i32_w]
                          rfl
                        refine pure_ (i := 9) (N := some 60) (v := ?_) (a' := ?_) #[true, true, true, true, true, true, true, true, true, true, false] rfl rfl (any_of HT_.out (by kernel_rfl)) (fun _ _ _ h => h) (Or.inl ⟨by rfl, ?_⟩) ?_ ?_
                        rotate_left
                        · intro w'
                          go_simp
                          with_reducible rfl
                        rotate_left
                        · simp only [Act.put, List.setIfInBounds_toArray, List.set_cons_zero, List.set_cons_succ, i64_w, i32_w]
                          rfl
                        refine last_ (i := 10) (N := none) #[true, true, true, true, true, true, true, true, true, true, true] rfl rfl (one_of HT_.out (by kernel_rfl)) (by decide) (fun K hK => ?_)
                        refine skip_ (w1 := ?_) (by rfl) rfl ?_ ?_
                        rotate_left
                        · go_simp
                          rfl
                        refine hK.out _ _ ?_
                        clear hK K
                        refine done_ (done_of HT_.out (by kernel_rfl)) ?_
                        try go_wp2
                        have n0_ : Aside0 (Kd.R k34 34 (w31.setCell ⟨go20, (t387 : Int).toNat * 4 + 2, none⟩ (.int .i64 (wrap64 (((rd_T34 y390 t387).f2) + ((rd_T34 l1 x23_2).f2))))) w.heap.size (fun k_ => k_ ≠ gb386) (.slice (some ⟨go20, 0, none⟩) x6_2.length co26) y392) := ⟨by (with_reducible repeat (first | apply Kd.R_alloc | apply Kd.R_drewN | apply Kd.R_drew)); exact HQ32.out⟩
                        have n1_ : Aside0 ((w31.setCell ⟨go20, (t387 : Int).toNat * 4 + 2, none⟩ (.int .i64 (wrap64 (((rd_T34 y390 t387).f2) + ((rd_T34 l1 x23_2).f2))))).heap[gb386]? = some (.cells #[.string ((rd_T34 l1 x23_2).f0), .int .i64 ((rd_T34 l1 x23_2).f1), .int .i64 ((rd_T34 l1 x23_2).f2), .int .i64 ((rd_T34 l1 x23_2).f3)] 34 (0, 0))) := ⟨by (with_reducible repeat (first | refine blk_drewN ?_ _ | refine blk_drew ?_ | refine blk_alloc ?_ _)); refine blk_far ?_ (by have h_ := Kd.R_away HO_6.out (fun _ hk => hk); intro e_; exact h_ (by rw [e_]; rfl)) _; (with_reducible repeat (first | refine blk_drewN ?_ _ | refine blk_drew ?_ | refine blk_alloc ?_ _)); exact BK386.out⟩
                        have n2_ : Aside0 (Below w.heap.size w (w31.setCell ⟨go20, (t387 : Int).toNat * 4 + 2, none⟩ (.int .i64 (wrap64 (((rd_T34 y390 t387).f2) + ((rd_T34 l1 x23_2).f2)))))) := ⟨by repeat (first | (with_reducible first | exact HB.out | apply below_alloc | apply pw_below_drewN | apply below_drew1 | refine below_set ?_ GB20.out | refine below_set ?_ GE386.out) | exact HB.out)⟩
                        (try clear HO_6)
                        (try clear BK386)
                        (try clear HB)
                        generalize (w31.setCell ⟨go20, (t387 : Int).toNat * 4 + 2, none⟩ (.int .i64 (wrap64 (((rd_T34 y390 t387).f2) + ((rd_T34 l1 x23_2).f2))))) = w33 at n0_ n1_ n2_ ⊢
                        have HO_6 := n0_
                        have BK386 := n1_
                        have HB := n2_
                        clear n0_ n1_ n2_
                        have n0_ := Aside0.mk (Kd.R_drew HO_6.out)
                        have n1_ := Aside0.mk (blk_drew BK386.out)
                        have n2_ := Aside0.mk (below_drew1 HB.out)
                        clear HO_6
                        clear BK386
                        clear HB
                        have HO_6 := n0_
                        have BK386 := n1_
                        have HB := n2_
                        clear n0_ n1_ n2_
                        have p393 : 0 ≤ (t387 : Int) := of_decide_eq_true (by first | (with_reducible assumption) | assumption)
                        have q393 : t387 < (y392.length : Int) := (by have h_ : (t387 : Int) < ((x6_2.length : Int) : Int) := of_decide_eq_true (by first | (with_reducible assumption) | assumption); first | (have e_ := (Kd.R_reads' HO_6.out).1; omega) | simpa only [Ny390.out, Ny392.out, List.length_set] using h_)
                        have ql393 : ((t387 : Int) < ((x6_2.length : Int) : Int)) = True := eq_true (of_decide_eq_true (by first | (with_reducible assumption) | assumption))
                        obtain ⟨ad393, e393, hx393_0, hx393_1, hx393_2, hx393_3⟩ := at_T34 (Kd.R_reads' HO_6.out).2.2 t387 p393 q393
                        obtain rfl : (⟨go20, 0, none⟩ : Addr) = ad393 := (by injection e393)
                        (first | simp only [add_plain] at hx393_0 | simp only [add_at] at hx393_0 | simp only [Addr.add, Nat.zero_add] at hx393_0 | skip)
                        (first | simp only [add_plain] at hx393_1 | simp only [add_at] at hx393_1 | simp only [Addr.add, Nat.zero_add] at hx393_1 | skip)
                        (first | simp only [add_plain] at hx393_2 | simp only [add_at] at hx393_2 | simp only [Addr.add, Nat.zero_add] at hx393_2 | skip)
                        (first | simp only [add_plain] at hx393_3 | simp only [add_at] at hx393_3 | simp only [Addr.add, Nat.zero_add] at hx393_3 | skip)
                        replace p393 := eq_true p393
                        replace q393 := eq_true q393
                        have p23 : 0 ≤ (t387 : Int) := of_decide_eq_true (by first | (with_reducible assumption) | assumption)
                        have q23 : (t387 : Int) < ((x6_2.length : Int) : Int) := of_decide_eq_true (by first | (with_reducible assumption) | assumption)
                        obtain ⟨ce23, hcl23, hM23, hcc23, hfr23⟩ := Kd.R_elem HO_6.out z34 (t387 : Int) p23 q23
                        obtain rfl := k34_openM hM23
                        have hx23_0 : World.cell? _ ⟨go20, (t387 : Int).toNat * 4, none⟩ = some (.string ((rd_T34 y392 t387).f0)) := hcc23 0 _ rfl
                        have hx23_1 : World.cell? _ ⟨go20, (t387 : Int).toNat * 4 + 1, none⟩ = some (.int .i64 ((rd_T34 y392 t387).f1)) := hcc23 1 _ rfl
                        have hx23_2 : World.cell? _ ⟨go20, (t387 : Int).toNat * 4 + 2, none⟩ = some (.int .i64 ((rd_T34 y392 t387).f2)) := hcc23 2 _ rfl
                        have hx23_3 : World.cell? _ ⟨go20, (t387 : Int).toNat * 4 + 3, none⟩ = some (.int .i64 ((rd_T34 y392 t387).f3)) := hcc23 3 _ rfl
                        have hf23_0 : World.frozen? _ ⟨go20, (t387 : Int).toNat * 4, none⟩ = false := hfr23 0
                        have hf23_1 : World.frozen? _ ⟨go20, (t387 : Int).toNat * 4 + 1, none⟩ = false := hfr23 1
                        have hf23_2 : World.frozen? _ ⟨go20, (t387 : Int).toNat * 4 + 2, none⟩ = false := hfr23 2
                        have hf23_3 : World.frozen? _ ⟨go20, (t387 : Int).toNat * 4 + 3, none⟩ = false := hfr23 3
                        clear hcl23 hcc23 hfr23 hM23
                        replace p23 := eq_true p23
                        replace q23 := eq_true q23
                        obtain ⟨ce35, hcl35, hM35, hcc35, hfr35⟩ := Kd.R_elem HO_6.out z34 (t387 : Int) (of_decide_eq_true (by first | (with_reducible assumption) | assumption)) (by have h_ : (t387 : Int) < ((x6_2.length : Int) : Int) := of_decide_eq_true (by first | (with_reducible assumption) | assumption); first | exact h_ | (have e_ := (Kd.R_reads' HO_6.out).1; omega) | simpa using h_)
                        obtain rfl := k34_openM hM35
                        have HP35 := (Kd.R_seg HO_6.out (t387 : Int) (of_decide_eq_true (by first | (with_reducible assumption) | assumption)) (by have h_ : (t387 : Int) < ((x6_2.length : Int) : Int) := of_decide_eq_true (by first | (with_reducible assumption) | assumption); first | exact h_ | (have e_ := (Kd.R_reads' HO_6.out).1; omega) | simpa using h_) (seg := [.int .i64 ji22]) (j := 3) hcl35 hcc35 (show 4 ≤ 4 from by decide) (x' := (⟨(rd_T34 y392 t387).f0, (rd_T34 y392 t387).f1, (rd_T34 y392 t387).f2, ji22⟩ : S34)) (k34_mkM _ _ _ (⟨(rd_T34 y392 t387).f0, (rd_T34 y392 t387).f1, (rd_T34 y392 t387).f2, ji22⟩ : S34) ) (fun _ hk => hk)).1
                        rw [← Ny394.out] at HP35
                        have HQ35 := Aside0.mk HP35
                        clear hcl35 hcc35 hfr35 hM35 HP35
                        refine start_ (n := 13) (S := fun w' => w'.cell? ⟨gb386, 0, none⟩ = some (.string ((rd_T34 l1 x23_2).f0)) ∧ w'.cell? ⟨gb386, 1, none⟩ = some (.int .i64 ((rd_T34 l1 x23_2).f1)) ∧ w'.cell? ⟨gb386, 2, none⟩ = some (.int .i64 ((rd_T34 l1 x23_2).f2)) ∧ w'.cell? ⟨gb386, 3, none⟩ = some (.int .i64 ((rd_T34 l1 x23_2).f3)) ∧ w'.cell? ⟨go20, (t387).toNat * 4, none⟩ = some (.string ((rd_T34 y392 t387).f0)) ∧ w'.cell? ⟨go20, (t387).toNat * 4 + 1, none⟩ = some (.int .i64 ((rd_T34 y392 t387).f1)) ∧ w'.cell? ⟨go20, (t387).toNat * 4 + 2, none⟩ = some (.int .i64 ((rd_T34 y392 t387).f2)) ∧ w'.cell? ⟨go20, (t387).toNat * 4 + 3, none⟩ = some (.int .i64 ((rd_T34 y392 t387).f3))) (ds := [12]) #[false, false, false, false, false, false, false, false, false, false, false, false, false] (by kernel_rfl) rfl rfl ⟨(blk_cell BK386.out 0).trans rfl, (blk_cell BK386.out 1).trans rfl, (blk_cell BK386.out 2).trans rfl, (blk_cell BK386.out 3).trans rfl, hx393_0, hx393_1, hx393_2, hx393_3⟩ (fun hHeld => ?_); refine with_tabW impl_JoinStock.tab12 impl_JoinStock.bits12 (fun HT_ HW_ => ?_)
                        generalize w33.drew = w34 at HO_6 BK386 HB HQ32 HQ35 hf23_0 hf23_1 hf23_2 hf23_3 hx23_0 hx23_1 hx23_2 hx23_3 hx393_0 hx393_1 hx393_2 hx393_3 hHeld ⊢
                        refine pure_ (i := 0) (N := some 61) (v := ?_) (a' := ?_) #[true, false, false, false, false, false, false, false, false, false, false, false, false] rfl rfl (any_of HT_.out (by kernel_rfl)) (fun _ _ _ h => h) (Or.inl ⟨by rfl, ?_⟩) ?_ ?_
                        rotate_left
                        · intro w'
                          go_simp
                          with_reducible rfl
                        rotate_left
                        · simp only [Act.put, List.setIfInBounds_toArray, List.set_cons_zero, List.set_cons_succ, i64_w, i32_w]
                          rfl
                        refine pure_ (i := 1) (N := some 62) (v := ?_) (a' := ?_) #[true, true, false, false, false, false, false, false, false, false, false, false, false] rfl rfl (any_of HT_.out (by kernel_rfl)) (fun _ _ _ h => h) (Or.inl ⟨by rfl, ?_⟩) ?_ ?_
                        rotate_left
                        · intro w'
                          go_simp
                          with_reducible rfl
                        rotate_left
                        · simp only [Act.put, List.setIfInBounds_toArray, List.set_cons_zero, List.set_cons_succ, i64_w, i32_w]
                          rfl
                        refine pure_ (i := 2) (N := some 63) (v := ?_) (a' := ?_) #[true, true, true, false, false, false, false, false, false, false, false, false, false] rfl rfl (any_of HT_.out (by kernel_rfl)) (fun _ _ _ h => h) (Or.inl ⟨by rfl, ?_⟩) ?_ ?_
                        rotate_left
                        · intro w'
                          go_simp
                          with_reducible rfl
                        rotate_left
                        · simp only [Act.put, List.setIfInBounds_toArray, List.set_cons_zero, List.set_cons_succ, i64_w, i32_w]
                          rfl
                        refine pure_ (i := 3) (N := some 64) (v := ?_) (a' := ?_) #[true, true, true, true, false, false, false, false, false, false, false, false, false] rfl rfl (any_of HT_.out (by kernel_rfl)) (fun _ _ _ h => h) (Or.inl ⟨by rfl, ?_⟩) ?_ ?_
                        rotate_left
                        · intro w'
                          go_simp
                          with_reducible rfl
                        rotate_left
                        · simp only [Act.put, List.setIfInBounds_toArray, List.set_cons_zero, List.set_cons_succ, i64_w, i32_w]
                          rfl
                        refine pure_ (i := 4) (N := some 65) (v := ?_) (a' := ?_) #[true, true, true, true, true, false, false, false, false, false, false, false, false] rfl rfl (any_of HT_.out (by kernel_rfl)) (fun _ _ _ h => h) (Or.inl ⟨by rfl, ?_⟩) ?_ ?_
                        rotate_left
                        · intro w'
                          go_simp
                          with_reducible rfl
                        rotate_left
                        · simp only [Act.put, List.setIfInBounds_toArray, List.set_cons_zero, List.set_cons_succ, i64_w, i32_w]
                          rfl
                        refine pure_ (i := 5) (N := some 66) (v := ?_) (a' := ?_) #[true, true, true, true, true, true, false, false, false, false, false, false, false] rfl rfl (any_of HT_.out (by kernel_rfl)) (fun _ _ _ h => h) (Or.inl ⟨by rfl, ?_⟩) ?_ ?_
                        rotate_left
                        · intro w'
                          go_simp
                          with_reducible rfl
                        rotate_left
                        · simp only [Act.put, List.setIfInBounds_toArray, List.set_cons_zero, List.set_cons_succ, i64_w, i32_w]
                          rfl
                        refine pure_ (i := 7) (N := some 68) (v := ?_) (a' := ?_) #[true, true, true, true, true, true, false, true, false, false, false, false, false] rfl rfl (any_of HT_.out (by kernel_rfl)) (fun _ _ _ h => h) (Or.inl ⟨by rfl, ?_⟩) ?_ ?_
                        rotate_left
                        · intro w'
                          go_simp
                          with_reducible rfl
                        rotate_left
                        · simp only [Act.put, List.setIfInBounds_toArray, List.set_cons_zero, List.set_cons_succ, i64_w, i32_w]
                          rfl
                        refine take_ (i := 6) (N := some 67) (v := ?_) (a' := ?_) #[true, true, true, true, true, true, true, true, false, false, false, false, false] rfl rfl (take_ofW HT_.out HW_.out (by kernel_rfl)) (fun _ _ _ h => h) (Or.inl ⟨by rfl, ?_⟩) hHeld ?_ ?_
                        rotate_left
                        · rintro w' ⟨s0, s1, s2, s3, s4, s5, s6, s7⟩
                          go_simp
                          with_reducible rfl
                        rotate_left
                        · simp only [Act.put, List.setIfInBounds_toArray, List.set_cons_zero, List.set_cons_succ, i64_w, i32_w]
                          rfl
                        refine take_ (i := 8) (N := some 69) (v := ?_) (a' := ?_) #[true, true, true, true, true, true, true, true, true, false, false, false, false] rfl rfl (take_ofW HT_.out HW_.out (by kernel_rfl)) (fun _ _ _ h => h) (Or.inl ⟨by rfl, ?_⟩) hHeld ?_ ?_
                        rotate_left
                        · rintro w' ⟨s0, s1, s2, s3, s4, s5, s6, s7⟩
                          go_simp
                          with_reducible rfl
                        rotate_left
                        · simp only [Act.put, List.setIfInBounds_toArray, List.set_cons_zero, List.set_cons_succ, i64_w, i32_w]
                          rfl
                        refine pure_ (i := 9) (N := some 70) (v := ?_) (a' := ?_) #[true, true, true, true, true, true, true, true, true, true, false, false, false] rfl rfl (any_of HT_.out (by kernel_rfl)) (fun _ _ _ h => h) (Or.inl ⟨by rfl, ?_⟩) ?_ ?_
                        rotate_left
                        · intro w'
                          go_simp
                          with_reducible rfl
                        rotate_left
                        · simp only [Act.put, List.setIfInBounds_toArray, List.set_cons_zero, List.set_cons_succ, i64_w, i32_w]
                          rfl
                        refine pure_ (i := 10) (N := some 71) (v := ?_) (a' := ?_) #[true, true, true, true, true, true, true, true, true, true, true, false, false] rfl rfl (any_of HT_.out (by kernel_rfl)) (fun _ _ _ h => h) (Or.inl ⟨by rfl, ?_⟩) ?_ ?_
                        rotate_left
                        · intro w'
                          go_simp
                          with_reducible rfl
                        rotate_left
                        · simp only [Act.put, List.setIfInBounds_toArray, List.set_cons_zero, List.set_cons_succ, i64_w, i32_w]
                          rfl
                        refine pure_ (i := 11) (N := some 72) (v := ?_) (a' := ?_) #[true, true, true, true, true, true, true, true, true, true, true, true, false] rfl rfl (any_of HT_.out (by kernel_rfl)) (fun _ _ _ h => h) (Or.inl ⟨by rfl, ?_⟩) ?_ ?_
                        rotate_left
                        · intro w'
                          go_simp
                          with_reducible rfl
                        rotate_left
                        · simp only [Act.put, List.setIfInBounds_toArray, List.set_cons_zero, List.set_cons_succ, i64_w, i32_w]
                          rfl
                        refine last_ (i := 12) (N := none) #[true, true, true, true, true, true, true, true, true, true, true, true, true] rfl rfl (one_of HT_.out (by kernel_rfl)) (by decide) (fun K hK => ?_)
                        refine skip_ (w1 := ?_) (by rfl) rfl ?_ ?_
                        rotate_left
                        · go_simp
                          rfl
                        refine hK.out _ _ ?_
                        clear hK K
                        refine done_ (done_of HT_.out (by kernel_rfl)) ?_
                        try go_wp2
                        go_roundg k2
                        case measure => have := HJ2.out; have := HK2.out; omega
                        case rel => exact ⟨(y394), (wrap64 (x23_2 + 1)), (by first | rfl | (simp; done) | (simp [*]; done)), H', ⟨by have := HJ2.out; have := HK2.out; omega⟩, ⟨by (with_reducible repeat (first | apply Kd.R_alloc | apply Kd.R_drewN | apply Kd.R_drew)); exact Kd.R_mono HQ35.out (fun _ hk => trivial)⟩, ⟨by repeat (first | (with_reducible first | exact HB.out | apply below_alloc | apply pw_below_drewN | apply below_drew1 | refine below_set ?_ GB20.out | refine below_set ?_ GE386.out) | exact HB.out)⟩⟩
                      · rw [if_neg c19] at H
                        exact absurd H (by simp)
                    · rw [if_neg c18] at H
                      exact absurd H (by simp)
                  · replace c17 := Bool.eq_false_iff.mpr c17
                    subst c17
                    have H1 : ((impl_Item_128.f x6_2 t387 (([(⟨(rd_T34 l1 x23_2).f0, (rd_T34 l1 x23_2).f1, (rd_T34 l1 x23_2).f2, (rd_T34 l1 x23_2).f3⟩ : S34)] : List (S34)))).bind fun t398 => (impl_JoinStock.l0 k2 t398 l1 (l1.length : Int) (wrap64 (x23_2 + 1)))) = some (r1, r2) := by rw [if_neg (show ¬ (false = true) by decide)] at H; exact H
                    clear H
                    have H := H1
                    clear H1
                    obtain ⟨y395, hy395⟩ : ∃ y_ : List (S34), y_ = (([(⟨(rd_T34 l1 x23_2).f0, (rd_T34 l1 x23_2).f1, (rd_T34 l1 x23_2).f2, (rd_T34 l1 x23_2).f3⟩ : S34)] : List (S34))) := ⟨_, rfl⟩
                    replace H : ((impl_Item_128.f x6_2 t387 y395).bind fun t398 => (impl_JoinStock.l0 k2 t398 l1 (l1.length : Int) (wrap64 (x23_2 + 1)))) = some (r1, r2) := by first | (rw [hy395]; with_reducible exact H) | (have H2_ := (Option.bind_some _ _).symm.trans H; rw [hy395]; with_reducible exact H2_) | (have H2_ := (Option.bind_some _ _).symm.trans H; with_reducible exact H2_) | with_reducible exact H | (rw [hy395]; exact H) | exact H
                    have Ny395 := Aside0.mk hy395
                    clear hy395
                    replace H := Option.bind_eq_some_iff.mp H
                    obtain ⟨t398, A360, H⟩ := H
                    replace H : (impl_JoinStock.l0 k2 t398 l1 (l1.length : Int) (wrap64 (x23_2 + 1))) = some (r1, r2) := H
                    have A36 := Aside0.mk A360
                    clear A360
                    have H' := Aside0.mk H
                    clear H
                    have p385 : 0 ≤ (x23_2 : Int) := of_decide_eq_true (by first | (with_reducible assumption) | assumption)
                    have q385 : x23_2 < (l1.length : Int) := of_decide_eq_true (by first | (with_reducible assumption) | assumption)
                    obtain ⟨ad385, e385, hx385_0, hx385_1, hx385_2, hx385_3⟩ := at_T34 HR1.out x23_2 p385 q385
                    cases e385
                    replace hx385_0 := (HB.out.cell (World.block_lt_of_cell? w _ hx385_0)).trans hx385_0
                    replace hx385_1 := (HB.out.cell (World.block_lt_of_cell? w _ hx385_1)).trans hx385_1
                    replace hx385_2 := (HB.out.cell (World.block_lt_of_cell? w _ hx385_2)).trans hx385_2
                    replace hx385_3 := (HB.out.cell (World.block_lt_of_cell? w _ hx385_3)).trans hx385_3
                    replace p385 := eq_true p385
                    replace q385 := eq_true q385
                    go_wp2_with (first | ((with_reducible refine gate_dst (N := 8) rfl ?_); refine box_event ?hg (N := 8) ?hd (cs := #[.string (⟨#[]⟩ : ByteArray), .int .i64 0, .int .i64 0, .int .i64 0]) (t := 34) ?hr ?_; (case hd => rfl); (case hg => rfl); (case hr => first | (go_simp; done) | (go_simp; rfl)); intro gb386 hg w37 hbox hb; have n0_ := Aside0.mk (Kd.R_below (Kd.R_elderB (by (with_reducible repeat (first | apply Kd.R_alloc | apply Kd.R_drewN | apply Kd.R_drew)); exact HO_6.out) gb386 (Nat.le_of_eq hg.symm)) hb); have n1_ := Aside0.mk (below_step (by repeat (first | (with_reducible first | exact HB.out | apply below_alloc | apply pw_below_drewN | apply below_drew1) | exact HB.out)) hb); have n2_ := Aside0.mk (hbox); have n3_ := Aside0.mk ((by rw [hg]; exact (below_size (by repeat (first | (with_reducible first | exact HB.out | apply below_alloc | apply pw_below_drewN | apply below_drew1) | exact HB.out))) : w.heap.size ≤ gb386)); have n4_ := Aside0.mk ((by rw [hg]; exact (below_size (by repeat (first | (with_reducible first | exact HB.out | apply below_alloc | apply pw_below_drewN | apply below_drew1) | exact HB.out))) : w.heap.size ≤ gb386)); clear HO_6; clear HB; have HO_6 := n0_; have HB := n1_; have BK386 := n2_; have GW386 := n3_; have GE386 := n4_; clear n0_ n1_ n2_ n3_ n4_; clear hb hbox hg; have hcz38_0 : w37.cell? ⟨gb386, 0, none⟩ = some (.string (⟨#[]⟩ : ByteArray)) := (blk_cell BK386.out 0).trans rfl; have hcz38_1 : w37.cell? ⟨gb386, 1, none⟩ = some (.int .i64 0) := (blk_cell BK386.out 1).trans rfl; have hcz38_2 : w37.cell? ⟨gb386, 2, none⟩ = some (.int .i64 0) := (blk_cell BK386.out 2).trans rfl; have hcz38_3 : w37.cell? ⟨gb386, 3, none⟩ = some (.int .i64 0) := (blk_cell BK386.out 3).trans rfl; have hfz38_0 := blk_frozen BK386.out 0; have hfz38_1 := blk_frozen BK386.out 1; have hfz38_2 := blk_frozen BK386.out 2; have hfz38_3 := blk_frozen BK386.out 3; obtain ⟨Ao39, co39, eo39⟩ := Kd.R_slice HO_6.out; subst eo39) | ((with_reducible refine gate_callee (f := 127) rfl ?_); refine goesL_ (some 31) rfl rfl Tryd.func127 (by kernel_rfl) rfl #[.slice Ao39 x6_2.length co39, .string ((rd_T34 l1 x23_2).f0)] rfl (by (try simp only [List.map_toArray, List.map_cons, List.map_nil]); first | done | rfl | (simp only [List.length_drop, List.length_take]; rfl)) ?_; (with_reducible refine (impl_itemAt.calls k2 _ _ x6_2 ((rd_T34 l1 x23_2).f0) t387 false _ ?side1 ?side2 A16.out).mono ?_); (case side1 => refine (Kd.R_reads' (e := 34) (base := w.heap.size) (ok := fun k_ => (True ∧ k_ ≠ gb386)) (n := x6_2.length) (c := co39) ?_).2.2; exact (by (with_reducible repeat (first | apply Kd.R_alloc | apply Kd.R_drewN | apply Kd.R_drew)); exact (Kd.R_mono (Kd.R_far (p := ⟨gb386, 3, none⟩) (Kd.R_far (p := ⟨gb386, 2, none⟩) (Kd.R_far (p := ⟨gb386, 1, none⟩) (Kd.R_far (p := ⟨gb386, 0, none⟩) (Kd.R_mono HO_6.out (fun k_ hk => (⟨hk, hk.2⟩ : _ ∧ k_ ≠ gb386))) (fun _ hk => hk.2) (.string ((rd_T34 l1 x23_2).f0))) (fun _ hk => hk.2) (.int .i64 ((rd_T34 l1 x23_2).f1))) (fun _ hk => hk.2) (.int .i64 ((rd_T34 l1 x23_2).f2))) (fun _ hk => hk.2) (.int .i64 ((rd_T34 l1 x23_2).f3))) (fun _ h_ => h_.1)))); (case side2 => exact (Kd.R_reads' HO_6.out).2.1); rintro e w' ⟨rfl, ⟨nd, rfl⟩⟩; refine ⟨_, rfl, ?_⟩) | ((with_reducible refine gate_dst (N := 39) rfl ?_); refine Kd.R_lit k34 _ 34 ?hg (N := 39) ?hd (xs := ([(⟨(rd_T34 l1 x23_2).f0, (rd_T34 l1 x23_2).f1, (rd_T34 l1 x23_2).f2, (rd_T34 l1 x23_2).f3⟩ : S34)] : List (S34))) (inner := [.string ((rd_T34 l1 x23_2).f0), .int .i64 ((rd_T34 l1 x23_2).f1), .int .i64 ((rd_T34 l1 x23_2).f2), .int .i64 ((rd_T34 l1 x23_2).f3)]) (ok := fun _ => True) (okp := fun _ => True) ?hr ?hp (fun _ hk => hk) trivial (Below.refl _ _) (Nat.le_refl _) (by simp) ?_; (case hd => rfl); (case hg => rfl); (case hr => first | (go_simp; done) | (go_simp; rfl)); (case hp => exact (Reps.c4 (show Kd.M k34 _ _ _ (⟨(rd_T34 l1 x23_2).f0, (rd_T34 l1 x23_2).f1, (rd_T34 l1 x23_2).f2, (rd_T34 l1 x23_2).f3⟩ : S34) [.string ((rd_T34 l1 x23_2).f0), .int .i64 ((rd_T34 l1 x23_2).f1), .int .i64 ((rd_T34 l1 x23_2).f2), .int .i64 ((rd_T34 l1 x23_2).f3)] from (k34_mkM _ _ _ (⟨(rd_T34 l1 x23_2).f0, (rd_T34 l1 x23_2).f1, (rd_T34 l1 x23_2).f2, (rd_T34 l1 x23_2).f3⟩ : S34) )) (Reps.none _ _))); intro v396 w40 ho41 hb hg_ hnew_; clear hg_ hnew_; (first | rw [← Ny395.out] at ho41 | (simp only [Int.reduceToNat] at ho41; rw [← Ny395.out] at ho41)); have n0_ := Aside0.mk (Kd.R_elder' (by (with_reducible repeat (first | apply Kd.R_alloc | apply Kd.R_drewN | apply Kd.R_drew)); exact (Kd.R_mono (Kd.R_far (p := ⟨gb386, 3, none⟩) (Kd.R_far (p := ⟨gb386, 2, none⟩) (Kd.R_far (p := ⟨gb386, 1, none⟩) (Kd.R_far (p := ⟨gb386, 0, none⟩) (Kd.R_mono HO_6.out (fun k_ hk => (⟨hk, hk.2⟩ : _ ∧ k_ ≠ gb386))) (fun _ hk => hk.2) (.string ((rd_T34 l1 x23_2).f0))) (fun _ hk => hk.2) (.int .i64 ((rd_T34 l1 x23_2).f1))) (fun _ hk => hk.2) (.int .i64 ((rd_T34 l1 x23_2).f2))) (fun _ hk => hk.2) (.int .i64 ((rd_T34 l1 x23_2).f3))) (fun _ h_ => h_.1))) (Kd.R_base ho41) hb); have n1_ := Aside0.mk (Kd.R_lower (Kd.R_newB (Kd.R_new' ho41 (Kd.R_lt (by (with_reducible repeat (first | apply Kd.R_alloc | apply Kd.R_drewN | apply Kd.R_drew)); exact (Kd.R_mono (Kd.R_far (p := ⟨gb386, 3, none⟩) (Kd.R_far (p := ⟨gb386, 2, none⟩) (Kd.R_far (p := ⟨gb386, 1, none⟩) (Kd.R_far (p := ⟨gb386, 0, none⟩) (Kd.R_mono HO_6.out (fun k_ hk => (⟨hk, hk.2⟩ : _ ∧ k_ ≠ gb386))) (fun _ hk => hk.2) (.string ((rd_T34 l1 x23_2).f0))) (fun _ hk => hk.2) (.int .i64 ((rd_T34 l1 x23_2).f1))) (fun _ hk => hk.2) (.int .i64 ((rd_T34 l1 x23_2).f2))) (fun _ hk => hk.2) (.int .i64 ((rd_T34 l1 x23_2).f3))) (fun _ h_ => h_.1))))) (g := gb386) (o := .cells #[.string ((rd_T34 l1 x23_2).f0), .int .i64 ((rd_T34 l1 x23_2).f1), .int .i64 ((rd_T34 l1 x23_2).f2), .int .i64 ((rd_T34 l1 x23_2).f3)] 34 (0, 0)) (by (with_reducible repeat (first | refine blk_drewN ?_ _ | refine blk_drew ?_ | refine blk_alloc ?_ _)); refine blk_put (cs := #[.string ((rd_T34 l1 x23_2).f0), .int .i64 ((rd_T34 l1 x23_2).f1), .int .i64 ((rd_T34 l1 x23_2).f2), .int .i64 0]) ?_ 3 _ rfl; (with_reducible repeat (first | refine blk_drewN ?_ _ | refine blk_drew ?_ | refine blk_alloc ?_ _)); refine blk_put (cs := #[.string ((rd_T34 l1 x23_2).f0), .int .i64 ((rd_T34 l1 x23_2).f1), .int .i64 0, .int .i64 0]) ?_ 2 _ rfl; (with_reducible repeat (first | refine blk_drewN ?_ _ | refine blk_drew ?_ | refine blk_alloc ?_ _)); refine blk_put (cs := #[.string ((rd_T34 l1 x23_2).f0), .int .i64 0, .int .i64 0, .int .i64 0]) ?_ 1 _ rfl; (with_reducible repeat (first | refine blk_drewN ?_ _ | refine blk_drew ?_ | refine blk_alloc ?_ _)); refine blk_put (cs := #[.string (⟨#[]⟩ : ByteArray), .int .i64 0, .int .i64 0, .int .i64 0]) ?_ 0 _ rfl; (with_reducible repeat (first | refine blk_drewN ?_ _ | refine blk_drew ?_ | refine blk_alloc ?_ _)); exact BK386.out)) (below_size (by repeat (first | (with_reducible first | exact HB.out | apply below_alloc | apply pw_below_drewN | apply below_drew1 | refine below_set ?_ GE386.out) | exact HB.out)))); have n2_ := Aside0.mk (blk_below (g := gb386) (o := .cells #[.string ((rd_T34 l1 x23_2).f0), .int .i64 ((rd_T34 l1 x23_2).f1), .int .i64 ((rd_T34 l1 x23_2).f2), .int .i64 ((rd_T34 l1 x23_2).f3)] 34 (0, 0)) (by (with_reducible repeat (first | refine blk_drewN ?_ _ | refine blk_drew ?_ | refine blk_alloc ?_ _)); refine blk_put (cs := #[.string ((rd_T34 l1 x23_2).f0), .int .i64 ((rd_T34 l1 x23_2).f1), .int .i64 ((rd_T34 l1 x23_2).f2), .int .i64 0]) ?_ 3 _ rfl; (with_reducible repeat (first | refine blk_drewN ?_ _ | refine blk_drew ?_ | refine blk_alloc ?_ _)); refine blk_put (cs := #[.string ((rd_T34 l1 x23_2).f0), .int .i64 ((rd_T34 l1 x23_2).f1), .int .i64 0, .int .i64 0]) ?_ 2 _ rfl; (with_reducible repeat (first | refine blk_drewN ?_ _ | refine blk_drew ?_ | refine blk_alloc ?_ _)); refine blk_put (cs := #[.string ((rd_T34 l1 x23_2).f0), .int .i64 0, .int .i64 0, .int .i64 0]) ?_ 1 _ rfl; (with_reducible repeat (first | refine blk_drewN ?_ _ | refine blk_drew ?_ | refine blk_alloc ?_ _)); refine blk_put (cs := #[.string (⟨#[]⟩ : ByteArray), .int .i64 0, .int .i64 0, .int .i64 0]) ?_ 0 _ rfl; (with_reducible repeat (first | refine blk_drewN ?_ _ | refine blk_drew ?_ | refine blk_alloc ?_ _)); exact BK386.out) hb); have n3_ := Aside0.mk (below_step (by repeat (first | (with_reducible first | exact HB.out | apply below_alloc | apply pw_below_drewN | apply below_drew1 | refine below_set ?_ GE386.out) | exact HB.out)) hb); clear HO_6; clear BK386; clear HB; have HO_6 := n0_; have HO397 := n1_; have BK386 := n2_; have HB := n3_; clear n0_ n1_ n2_ n3_; clear hb ho41; obtain ⟨Ao42, co42, eo42⟩ := Kd.R_slice HO397.out; subst eo42) | ((with_reducible refine gate_callee (f := 128) rfl ?_); refine goesL_ (some 40) rfl rfl Tryd.func128 (by kernel_rfl) rfl #[.slice Ao39 x6_2.length co39, .int .i64 t387, .slice Ao42 y395.length co42] rfl (by (try simp only [List.map_toArray, List.map_cons, List.map_nil]); first | done | rfl | (simp only [List.length_drop, List.length_take]; rfl)) ?_; (with_reducible refine (impl_Item_128.calls (fun k_ => some k_ = (.slice Ao39 x6_2.length co39 : Value).ownBlock) (.slice Ao39 x6_2.length co39) x6_2 t387 (fun k_ => some k_ = (.slice Ao42 y395.length co42 : Value).ownBlock) (.slice Ao42 y395.length co42) y395 t398 w _ ?side1 ?side2 ?side3 ?side4 ?side5 A36.out).mono ?_); (case side1 => repeat (first | (with_reducible first | exact HB.out | apply below_alloc | apply pw_below_drewN | apply below_drew1 | refine below_set ?_ GE386.out) | exact HB.out)); (case side2 => exact Kd.R_tight rfl HO_6.out); (case side3 => exact fun k_ e_ => (HO_6.out.1 k_ e_.symm).2); (case side4 => exact Kd.R_tight rfl HO397.out); (case side5 => exact fun k_ e_ => (HO397.out.1 k_ e_.symm).1.2); rintro e w43 ⟨v399, rfl, ho0, hb, hkp⟩; refine ⟨_, rfl, ?_⟩; have n0_ := Aside0.mk (blk_kept (by (with_reducible repeat (first | refine blk_drewN ?_ _ | refine blk_drew ?_ | refine blk_alloc ?_ _)); exact BK386.out) hkp (fun hs_ => Or.elim hs_ (fun e_ => (fun e_ => (Kd.R_away HO_6.out (fun _ hk => hk.1.2)) e_) e_) (fun e_ => (fun e_ => (Kd.R_away HO397.out (fun _ hk => hk.2)) e_) e_))); have n1_ := Aside0.mk (Kd.R_mono (ok' := fun k_ => k_ ≠ gb386) ho0 (fun k_ hk_ => Or.elim hk_ (fun hs_ => Or.elim hs_ (fun hs_ => fun e_ => (Kd.R_away HO_6.out (fun _ hk => hk.1.2)) (by rw [← e_]; exact hs_)) (fun hs_ => fun e_ => (Kd.R_away HO397.out (fun _ hk => hk.2)) (by rw [← e_]; exact hs_))) (fun hn_ => (Kd.freshB (g := gb386) (o := .cells #[.string ((rd_T34 l1 x23_2).f0), .int .i64 ((rd_T34 l1 x23_2).f1), .int .i64 ((rd_T34 l1 x23_2).f2), .int .i64 ((rd_T34 l1 x23_2).f3)] 34 (0, 0)) (by (with_reducible repeat (first | refine blk_drewN ?_ _ | refine blk_drew ?_ | refine blk_alloc ?_ _)); exact BK386.out) k_ hn_)))); have n2_ := Aside0.mk (hb); clear BK386; clear HB; clear HO397; clear HO_6; have BK386 := n0_; have HO400 := n1_; have HB := n2_; clear n0_ n1_ n2_; (try clear hb); (try clear hkp); (try clear ho0)))
                    go_roundg k2
                    case measure => have := HJ2.out; have := HK2.out; omega
                    case rel => exact ⟨(t398), (wrap64 (x23_2 + 1)), (by first | rfl | (simp; done) | (simp [*]; done)), H', ⟨by have := HJ2.out; have := HK2.out; omega⟩, ⟨by (with_reducible repeat (first | apply Kd.R_alloc | apply Kd.R_drewN | apply Kd.R_drew)); exact Kd.R_mono HO400.out (fun _ hk => trivial)⟩, ⟨by repeat (first | (with_reducible first | exact HB.out | apply below_alloc | apply pw_below_drewN | apply below_drew1 | refine below_set ?_ GE386.out) | exact HB.out)⟩⟩
                · rw [if_neg c15] at H
                  exact absurd H (by simp)
              · rw [if_neg c14] at H
                exact absurd H (by simp)
            · rw [if_neg c13] at H
              have c13b0 : decide (x23_2 < (l1.length : Int)) = false := decide_eq_false c13
              clear c13
              replace H := Option.bind_eq_some_iff.mp H
              obtain ⟨t384, A440, H⟩ := H
              replace H : (if t384 = true then (some (x6_2, 0)) else (some (([] : List (S34)), 5))) = some (r1, r2) := H
              have A44 := Aside0.mk A440
              clear A440
              by_cases c45 : t384 = true
              · subst c45
                have H1 : (some (x6_2, 0)) = some (r1, r2) := by rw [if_pos rfl] at H; exact H
                clear H
                have H := H1
                clear H1
                simp only [Option.some.injEq, Prod.mk.injEq] at H
                obtain ⟨rfl, rfl⟩ := H
                obtain ⟨Ao46, co46, eo46⟩ := Kd.R_slice HO_6.out
                subst eo46
                go_wp2_with (first | ((with_reducible refine gate_callee (f := 94) rfl ?_); refine goesL_ (some 75) rfl rfl Tryd.func94 (by kernel_rfl) rfl #[.slice Ao46 x6_2.length co46] rfl (by (try simp only [List.map_toArray, List.map_cons, List.map_nil]); first | done | rfl | (simp only [List.length_drop, List.length_take]; rfl)) ?_; (with_reducible refine (impl_ValidStock.calls _ _ x6_2 true _ ?side1 ?side2 A44.out).mono ?_); (case side1 => repeat (first | exact (Kd.R_reads' HO_6.out).2.2 | (with_reducible refine Kd.C_alloc ?_ _) | (with_reducible refine Kd.C_drewN ?_ _) | (with_reducible refine Kd.C_drew ?_))); (case side2 => exact (Kd.R_reads' HO_6.out).2.1); rintro e w47 ⟨rfl, hb⟩; refine ⟨_, rfl, ?_⟩; have n0_ := Aside0.mk (Kd.R_below (by (with_reducible repeat (first | apply Kd.R_alloc | apply Kd.R_drewN | apply Kd.R_drew)); exact HO_6.out) hb); have n1_ := Aside0.mk (below_step (by repeat (first | (with_reducible first | exact HB.out | apply below_alloc | apply pw_below_drewN | apply below_drew1) | exact HB.out)) hb); clear HO_6; clear HB; have HO_6 := n0_; have HB := n1_; clear n0_ n1_; (try clear hb); (try clear hb2); (try clear hk); (try clear hi)))
                go_ret2
                exact ⟨_, by first | rfl | (simp [errW_none, errW_some] <;> rfl) | (simp [*, errW_none, errW_some] <;> rfl), by (with_reducible repeat (first | apply Kd.R_alloc | apply Kd.R_drewN | apply Kd.R_drew)); exact HO_6.out, by repeat (first | (with_reducible first | exact HB.out | apply below_alloc | apply pw_below_drewN | apply below_drew1) | exact HB.out)⟩
              · replace c45 := Bool.eq_false_iff.mpr c45
                subst c45
                have H1 : (some (([] : List (S34)), 5)) = some (r1, r2) := by rw [if_neg (show ¬ (false = true) by decide)] at H; exact H
                clear H
                have H := H1
                clear H1
                simp only [Option.some.injEq, Prod.mk.injEq] at H
                obtain ⟨rfl, rfl⟩ := H
                obtain ⟨Ao48, co48, eo48⟩ := Kd.R_slice HO_6.out
                subst eo48
                go_wp2_with (first | ((with_reducible refine gate_callee (f := 94) rfl ?_); refine goesL_ (some 75) rfl rfl Tryd.func94 (by kernel_rfl) rfl #[.slice Ao48 x6_2.length co48] rfl (by (try simp only [List.map_toArray, List.map_cons, List.map_nil]); first | done | rfl | (simp only [List.length_drop, List.length_take]; rfl)) ?_; (with_reducible refine (impl_ValidStock.calls _ _ x6_2 false _ ?side1 ?side2 A44.out).mono ?_); (case side1 => repeat (first | exact (Kd.R_reads' HO_6.out).2.2 | (with_reducible refine Kd.C_alloc ?_ _) | (with_reducible refine Kd.C_drewN ?_ _) | (with_reducible refine Kd.C_drew ?_))); (case side2 => exact (Kd.R_reads' HO_6.out).2.1); rintro e w49 ⟨rfl, hb⟩; refine ⟨_, rfl, ?_⟩; have n0_ := Aside0.mk (Kd.R_below (by (with_reducible repeat (first | apply Kd.R_alloc | apply Kd.R_drewN | apply Kd.R_drew)); exact HO_6.out) hb); have n1_ := Aside0.mk (below_step (by repeat (first | (with_reducible first | exact HB.out | apply below_alloc | apply pw_below_drewN | apply below_drew1) | exact HB.out)) hb); clear HO_6; clear HB; have HO_6 := n0_; have HB := n1_; clear n0_ n1_; (try clear hb); (try clear hb2); (try clear hk); (try clear hi)))
                go_ret2
                exact ⟨_, by first | rfl | (simp [errW_none, errW_some] <;> rfl) | (simp [*, errW_none, errW_some] <;> rfl), by first | exact Kd.R_nil _ _ _ _ _ | exact Kd.N_nil _ _ _ _ _ | exact Kd.V_nil _ _ _ _ _ | exact Kd.Q_nil _ _ _ _ _ | exact Kd.S_nil _ _ _ _ _, by repeat (first | (with_reducible first | exact HB.out | apply below_alloc | apply pw_below_drewN | apply below_drew1) | exact HB.out)⟩

end Go.Proofs.YtdjdillppgijmaaDoor.Qs
