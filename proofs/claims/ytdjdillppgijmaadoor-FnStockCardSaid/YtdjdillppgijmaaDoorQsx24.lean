-- Printed for this claim by this project's pp.py (a patched run of the kit's print). Lean checks it.
import Derived.Test.YtdjdillppgijmaaDoorQsx0
import Derived.Test.YtdjdillppgijmaaDoorQsx23
namespace Go.Proofs.YtdjdillppgijmaaDoor.Qs
open Go.RowKit Go.Proofs.YtdjdillppgijmaaDoorW.PrintWords Go.Proofs.YtdjdillppgijmaaDoorW.PrintLast Go.Proofs.YtdjdillppgijmaaDoorW.PrintMore
attribute [local go_sem] max2_int min2_int max_two min_two max_three min_three max_four min_four   -- for this text's walks alone

set_option linter.unusedVariables false
set_option linter.unusedSimpArgs false

/-! ### laws_a2Kept: function 61 -/
mutual
def laws_a2Kept.l0 : Nat → List (S34) → List (S34) → List (S34) → ByteArray → Int → List (S34) → Int → Option (Bool)
  | 0, _, _, _, _, _, _, _ => none
  | k + 1, x0, x1, x2, x3, x9, x10, x11 => if x11 < (x0.length : Int) then (if 0 ≤ x11 then (if ((rd_T34 x0 x11).f0).toList = x3.toList then (laws_a2Kept.l0 k x0 x1 x2 x3 ((rd_T34 x0 x11).f1) x10 (wrap64 (x11 + 1))) else (if x10.length < 3518437208883 then (laws_a2Kept.l0 k x0 x1 x2 x3 x9 (x10 ++ [(⟨(rd_T34 x0 x11).f0, (rd_T34 x0 x11).f1, (rd_T34 x0 x11).f2, (rd_T34 x0 x11).f3⟩ : S34)]) (wrap64 (x11 + 1))) else (none))) else (none)) else (laws_a2Kept.l1 k x1 x2 x3 x9 x10 (([] : List (S34))) 0)
def laws_a2Kept.l1 : Nat → List (S34) → List (S34) → ByteArray → Int → List (S34) → List (S34) → Int → Option (Bool)
  | 0, _, _, _, _, _, _, _ => none
  | k + 1, x1, x2, x3, x9, x10, x12, x13 => if x13 < (x2.length : Int) then (if 0 ≤ x13 then (if x13 < (x1.length : Int) then (if ((rd_T34 x2 x13).f0).toList = ((rd_T34 x1 x13).f0).toList then (if ((rd_T34 x2 x13).f0).toList = x3.toList then (if ((rd_T34 x2 x13).f1) = x9 then (laws_a2Kept.l1 k x1 x2 x3 x9 x10 x12 (wrap64 (x13 + 1))) else (some false)) else (if x12.length < 3518437208883 then (laws_a2Kept.l1 k x1 x2 x3 x9 x10 (x12 ++ [(⟨(rd_T34 x2 x13).f0, (rd_T34 x2 x13).f1, (rd_T34 x2 x13).f2, (rd_T34 x2 x13).f3⟩ : S34)]) (wrap64 (x13 + 1))) else (none))) else (some false)) else (none)) else (none)) else ((spec_SameStock.f k x10 x12).bind fun t595 => (some t595))
end
def laws_a2Kept.f (k : Nat) (l0 : List (S34)) (l1 : List (S34)) (l2 : List (S34)) (a3 : ByteArray) : Option (Bool) := laws_a2Kept.l0 k l0 l1 l2 a3 0 (([] : List (S34))) 0
theorem laws_a2Kept.mono_l : ∀ k, (∀ y0 y1 y2 y3 y4 y5 y6, LeO (laws_a2Kept.l0 k y0 y1 y2 y3 y4 y5 y6) (laws_a2Kept.l0 (k + 1) y0 y1 y2 y3 y4 y5 y6)) ∧ (∀ y0 y1 y2 y3 y4 y5 y6, LeO (laws_a2Kept.l1 k y0 y1 y2 y3 y4 y5 y6) (laws_a2Kept.l1 (k + 1) y0 y1 y2 y3 y4 y5 y6))
  | 0 => ⟨fun _ _ _ _ _ _ _ r h => by simp [laws_a2Kept.l0] at h, fun _ _ _ _ _ _ _ r h => by simp [laws_a2Kept.l1] at h⟩
  | k + 1 => by
    obtain ⟨ih0, ih1⟩ := laws_a2Kept.mono_l k
    refine ⟨?_, ?_⟩
    · intro y0 y1 y2 y3 y4 y5 y6
      unfold laws_a2Kept.l0
      repeat' first
      | (with_reducible exact ih0 _ _ _ _ _ _ _)
      | (with_reducible exact ih1 _ _ _ _ _ _ _)
      | (with_reducible exact spec_SameStock.mono _ _ _)
      | (with_reducible exact LeO.refl _)
      | (with_reducible exact LeO.none _)
      | (with_reducible refine LeO.ite ?_ ?_)
      | (with_reducible refine LeO.bind ?_ (fun _ => ?_))
      | exact ih0 _ _ _ _ _ _ _
      | exact ih1 _ _ _ _ _ _ _
      | exact spec_SameStock.mono _ _ _
      | exact LeO.none _
      | refine LeO.ite ?_ ?_
      | refine LeO.bind ?_ (fun _ => ?_)
    · intro y0 y1 y2 y3 y4 y5 y6
      unfold laws_a2Kept.l1
      repeat' first
      | (with_reducible exact ih0 _ _ _ _ _ _ _)
      | (with_reducible exact ih1 _ _ _ _ _ _ _)
      | (with_reducible exact spec_SameStock.mono _ _ _)
      | (with_reducible exact LeO.refl _)
      | (with_reducible exact LeO.none _)
      | (with_reducible refine LeO.ite ?_ ?_)
      | (with_reducible refine LeO.bind ?_ (fun _ => ?_))
      | exact ih0 _ _ _ _ _ _ _
      | exact ih1 _ _ _ _ _ _ _
      | exact spec_SameStock.mono _ _ _
      | exact LeO.none _
      | refine LeO.ite ?_ ?_
      | refine LeO.bind ?_ (fun _ => ?_)
theorem laws_a2Kept.mono : ∀ a0 a1 a2 a3 k, LeO (laws_a2Kept.f k a0 a1 a2 a3) (laws_a2Kept.f (k + 1) a0 a1 a2 a3) := by
  intro a0 a1 a2 a3 k
  obtain ⟨ih0, ih1⟩ := laws_a2Kept.mono_l k
  unfold laws_a2Kept.f
  repeat' first
      | (with_reducible exact ih0 _ _ _ _ _ _ _)
      | (with_reducible exact ih1 _ _ _ _ _ _ _)
      | (with_reducible exact spec_SameStock.mono _ _ _)
      | (with_reducible exact LeO.refl _)
      | (with_reducible exact LeO.none _)
      | (with_reducible refine LeO.ite ?_ ?_)
      | (with_reducible refine LeO.bind ?_ (fun _ => ?_))
      | exact ih0 _ _ _ _ _ _ _
      | exact ih1 _ _ _ _ _ _ _
      | exact spec_SameStock.mono _ _ _
      | exact LeO.none _
      | refine LeO.ite ?_ ?_
      | refine LeO.bind ?_ (fun _ => ?_)
set_option maxHeartbeats 8000000 in
set_option maxRecDepth 100000 in
theorem laws_a2Kept.calls (k : Nat) (A0 : Option Addr) (c0 : Nat) (l0 : List (S34)) (A1 : Option Addr) (c1 : Nat) (l1 : List (S34)) (A2 : Option Addr) (c2 : Nat) (l2 : List (S34)) (a3 : ByteArray) (r : Bool) (w : World) (hr0 : Kd.C k34 w A0 l0.length l0) (hc0 : l0.length ≤ c0) (hr1 : Kd.C k34 w A1 l1.length l1) (hc1 : l1.length ≤ c1) (hr2 : Kd.C k34 w A2 l2.length l2) (hc2 : l2.length ≤ c2) (h : laws_a2Kept.f k l0 l1 l2 a3 = some r) :
    Calls Tryd.prog 61 #[.slice A0 l0.length c0, .slice A1 l1.length c1, .slice A2 l2.length c2, .string a3] w fun e w' => e = .returned (.bool r) ∧ Below w.heap.size w w' := by
  have hu34 := Tryd.underlying34
  have HR0 := Aside0.mk hr0
  have HC0 := Aside0.mk hc0
  clear hr0 hc0
  have HR1 := Aside0.mk hr1
  have HC1 := Aside0.mk hc1
  clear hr1 hc1
  have HR2 := Aside0.mk hr2
  have HC2 := Aside0.mk hc2
  clear hr2 hc2
  have HB := Aside0.mk (Below.refl w.heap.size w)
  have H : (laws_a2Kept.l0 k l0 l1 l2 a3 0 (([] : List (S34))) 0) = some r := h
  clear h
  obtain ⟨y583, hy583⟩ : ∃ y_ : List (S34), y_ = (([] : List (S34))) := ⟨_, rfl⟩
  replace H : (laws_a2Kept.l0 k l0 l1 l2 a3 0 y583 0) = some r := by first | (rw [hy583]; with_reducible exact H) | (have H2_ := (Option.bind_some _ _).symm.trans H; rw [hy583]; with_reducible exact H2_) | (have H2_ := (Option.bind_some _ _).symm.trans H; with_reducible exact H2_) | with_reducible exact H | (rw [hy583]; exact H) | exact H
  have Ny583 := Aside0.mk hy583
  clear hy583
  have H' := Aside0.mk H
  clear H
  go_enter Tryd.func61, Tryd.ntmps61
  go_wp2_with (first | ((with_reducible refine gate_dst (N := 14) rfl ?_); refine Kd.R_lit k34 _ 34 ?hg (N := 14) ?hd (xs := ([] : List (S34))) (inner := []) (ok := fun _ => True) (okp := fun _ => True) ?hr ?hp (fun _ hk => hk) trivial (Below.refl _ _) (Nat.le_refl _) (by simp) ?_; (case hd => rfl); (case hg => rfl); (case hr => first | (go_simp; done) | (go_simp; rfl)); (case hp => exact (Reps.none _ _)); intro v584 w5 ho6 hb hg_ hnew_; clear hg_ hnew_; (first | rw [← Ny583.out] at ho6 | (simp only [Int.reduceToNat] at ho6; rw [← Ny583.out] at ho6)); have n0_ := Aside0.mk (Kd.R_lower ho6 (below_size (by repeat (first | (with_reducible first | exact HB.out | apply below_alloc | apply pw_below_drewN | apply below_drew1) | exact HB.out)))); have n1_ := Aside0.mk (below_step (by repeat (first | (with_reducible first | exact HB.out | apply below_alloc | apply pw_below_drewN | apply below_drew1) | exact HB.out)) hb); clear HB; have HO585 := n0_; have HB := n1_; clear n0_ n1_; clear hb ho6))
  repeat (go_quiet (first | ((with_reducible refine gate_dst (N := 14) rfl ?_); refine Kd.R_lit k34 _ 34 ?hg (N := 14) ?hd (xs := ([] : List (S34))) (inner := []) (ok := fun _ => True) (okp := fun _ => True) ?hr ?hp (fun _ hk => hk) trivial (Below.refl _ _) (Nat.le_refl _) (by simp) ?_; (case hd => rfl); (case hg => rfl); (case hr => first | (go_simp; done) | (go_simp; rfl)); (case hp => exact (Reps.none _ _)); intro v584 w5 ho6 hb hg_ hnew_; clear hg_ hnew_; (first | rw [← Ny583.out] at ho6 | (simp only [Int.reduceToNat] at ho6; rw [← Ny583.out] at ho6)); have n0_ := Aside0.mk (Kd.R_lower ho6 (below_size (by repeat (first | (with_reducible first | exact HB.out | apply below_alloc | apply pw_below_drewN | apply below_drew1) | exact HB.out)))); have n1_ := Aside0.mk (below_step (by repeat (first | (with_reducible first | exact HB.out | apply below_alloc | apply pw_below_drewN | apply below_drew1) | exact HB.out)) hb); clear HB; have HO585 := n0_; have HB := n1_; clear n0_ n1_; clear hb ho6)); try go_wp2_with (first | ((with_reducible refine gate_dst (N := 14) rfl ?_); refine Kd.R_lit k34 _ 34 ?hg (N := 14) ?hd (xs := ([] : List (S34))) (inner := []) (ok := fun _ => True) (okp := fun _ => True) ?hr ?hp (fun _ hk => hk) trivial (Below.refl _ _) (Nat.le_refl _) (by simp) ?_; (case hd => rfl); (case hg => rfl); (case hr => first | (go_simp; done) | (go_simp; rfl)); (case hp => exact (Reps.none _ _)); intro v584 w5 ho6 hb hg_ hnew_; clear hg_ hnew_; (first | rw [← Ny583.out] at ho6 | (simp only [Int.reduceToNat] at ho6; rw [← Ny583.out] at ho6)); have n0_ := Aside0.mk (Kd.R_lower ho6 (below_size (by repeat (first | (with_reducible first | exact HB.out | apply below_alloc | apply pw_below_drewN | apply below_drew1) | exact HB.out)))); have n1_ := Aside0.mk (below_step (by repeat (first | (with_reducible first | exact HB.out | apply below_alloc | apply pw_below_drewN | apply below_drew1) | exact HB.out)) hb); clear HB; have HO585 := n0_; have HB := n1_; clear n0_ n1_; clear hb ho6)))
  go_loopg [9, 10, 11] k (fun kq v9 v10 v11 w' => ∃ (x9_1 : Int) (x10_1 : List (S34)) (x11_1 : Int), v9 = .int .i64 x9_1 ∧ v11 = .int .i64 x11_1 ∧ Aside0 (laws_a2Kept.l0 kq l0 l1 l2 a3 x9_1 x10_1 x11_1 = some r) ∧ Aside0 (kq ≤ k) ∧ Aside0 (Kd.R k34 34 w' w.heap.size (fun _ => True) v10 x10_1) ∧ Aside0 (Below w.heap.size w w'))
  case atStart => exact ⟨(0), (y583), (0), (by first | rfl | (simp; done) | (simp [*]; done)), (by first | rfl | (simp; done) | (simp [*]; done)), H', ⟨Nat.le_refl _⟩, ⟨by (with_reducible repeat (first | apply Kd.R_alloc | apply Kd.R_drewN | apply Kd.R_drew)); exact HO585.out⟩, ⟨by repeat (first | (with_reducible first | exact HB.out | apply below_alloc | apply pw_below_drewN | apply below_drew1) | exact HB.out)⟩⟩
  case round =>
    clear H'
    try clear c1
    try clear c2
    try clear p2
    try clear c6
    obtain ⟨x9_1, x10_1, x11_1, rfl, rfl, HA, HK1, HO_10, HB⟩ := hrel
    cases gk with
    | zero => exact absurd HA.out (by simp [laws_a2Kept.l0])
    | succ k1 =>
      have H := HA.out
      clear HA
      simp only [laws_a2Kept.l0] at H
      by_cases c7 : x11_1 < (l0.length : Int)
      · rw [if_pos c7] at H
        have c7b0 : decide (x11_1 < (l0.length : Int)) = true := decide_eq_true c7
        clear c7
        by_cases c8 : 0 ≤ x11_1
        · rw [if_pos c8] at H
          have c8b0 : decide (0 ≤ x11_1) = true := decide_eq_true c8
          clear c8
          by_cases c9 : ((rd_T34 l0 x11_1).f0).toList = a3.toList
          · rw [if_pos c9] at H
            have c9b0 : (((rd_T34 l0 x11_1).f0).toList == a3.toList) = true := beq_iff_eq.mpr c9
            have c9b1 : (((rd_T34 l0 x11_1).f0).toList != a3.toList) = false := bne_eq_false_iff_eq.mpr c9
            clear c9
            have H' := Aside0.mk H
            clear H
            have p586 : 0 ≤ (x11_1 : Int) := of_decide_eq_true (by first | (with_reducible assumption) | assumption)
            have q586 : x11_1 < (l0.length : Int) := of_decide_eq_true (by first | (with_reducible assumption) | assumption)
            obtain ⟨ad586, e586, hx586_0, hx586_1, hx586_2, hx586_3⟩ := at_T34 HR0.out x11_1 p586 q586
            cases e586
            replace hx586_0 := (HB.out.cell (World.block_lt_of_cell? w _ hx586_0)).trans hx586_0
            replace hx586_1 := (HB.out.cell (World.block_lt_of_cell? w _ hx586_1)).trans hx586_1
            replace hx586_2 := (HB.out.cell (World.block_lt_of_cell? w _ hx586_2)).trans hx586_2
            replace hx586_3 := (HB.out.cell (World.block_lt_of_cell? w _ hx586_3)).trans hx586_3
            replace p586 := eq_true p586
            replace q586 := eq_true q586
            have p587 : 0 ≤ (x11_1 : Int) := of_decide_eq_true (by first | (with_reducible assumption) | assumption)
            have q587 : x11_1 < (l0.length : Int) := of_decide_eq_true (by first | (with_reducible assumption) | assumption)
            obtain ⟨ad587, e587, hx587_0, hx587_1, hx587_2, hx587_3⟩ := at_T34 HR0.out x11_1 p587 q587
            obtain rfl : ad586 = ad587 := (by injection e587)
            replace hx587_0 := (HB.out.cell (World.block_lt_of_cell? w _ hx587_0)).trans hx587_0
            replace hx587_1 := (HB.out.cell (World.block_lt_of_cell? w _ hx587_1)).trans hx587_1
            replace hx587_2 := (HB.out.cell (World.block_lt_of_cell? w _ hx587_2)).trans hx587_2
            replace hx587_3 := (HB.out.cell (World.block_lt_of_cell? w _ hx587_3)).trans hx587_3
            replace p587 := eq_true p587
            replace q587 := eq_true q587
            go_wp2
            repeat (go_quiet (fail); try go_wp2)
            go_roundg k1
            case measure => have := HK1.out; omega
            case rel => exact ⟨((rd_T34 l0 x11_1).f1), (x10_1), (wrap64 (x11_1 + 1)), (by first | rfl | (simp; done) | (simp [*]; done)), (by first | rfl | (simp; done) | (simp [*]; done)), H', ⟨by have := HK1.out; omega⟩, ⟨by (with_reducible repeat (first | apply Kd.R_alloc | apply Kd.R_drewN | apply Kd.R_drew)); exact HO_10.out⟩, ⟨by repeat (first | (with_reducible first | exact HB.out | apply below_alloc | apply pw_below_drewN | apply below_drew1) | exact HB.out)⟩⟩
          · rw [if_neg c9] at H
            have c9b0 : (((rd_T34 l0 x11_1).f0).toList == a3.toList) = false := beq_eq_false_iff_ne.mpr c9
            have c9b1 : (((rd_T34 l0 x11_1).f0).toList != a3.toList) = true := bne_iff_ne.mpr c9
            by_cases c10 : x10_1.length < 3518437208883
            · rw [if_pos c10] at H
              have LMc10 := Aside0.mk c10
              clear c10
              obtain ⟨y589, hy589⟩ : ∃ y_ : List (S34), y_ = (x10_1 ++ [(⟨(rd_T34 l0 x11_1).f0, (rd_T34 l0 x11_1).f1, (rd_T34 l0 x11_1).f2, (rd_T34 l0 x11_1).f3⟩ : S34)]) := ⟨_, rfl⟩
              replace H : (laws_a2Kept.l0 k1 l0 l1 l2 a3 x9_1 y589 (wrap64 (x11_1 + 1))) = some r := by first | (rw [hy589]; with_reducible exact H) | (have H2_ := (Option.bind_some _ _).symm.trans H; rw [hy589]; with_reducible exact H2_) | (have H2_ := (Option.bind_some _ _).symm.trans H; with_reducible exact H2_) | with_reducible exact H | (rw [hy589]; exact H) | exact H
              have Ny589 := Aside0.mk hy589
              clear hy589
              have H' := Aside0.mk H
              clear H
              have p586 : 0 ≤ (x11_1 : Int) := of_decide_eq_true (by first | (with_reducible assumption) | assumption)
              have q586 : x11_1 < (l0.length : Int) := of_decide_eq_true (by first | (with_reducible assumption) | assumption)
              obtain ⟨ad586, e586, hx586_0, hx586_1, hx586_2, hx586_3⟩ := at_T34 HR0.out x11_1 p586 q586
              cases e586
              replace hx586_0 := (HB.out.cell (World.block_lt_of_cell? w _ hx586_0)).trans hx586_0
              replace hx586_1 := (HB.out.cell (World.block_lt_of_cell? w _ hx586_1)).trans hx586_1
              replace hx586_2 := (HB.out.cell (World.block_lt_of_cell? w _ hx586_2)).trans hx586_2
              replace hx586_3 := (HB.out.cell (World.block_lt_of_cell? w _ hx586_3)).trans hx586_3
              replace p586 := eq_true p586
              replace q586 := eq_true q586
              have p588 : 0 ≤ (x11_1 : Int) := of_decide_eq_true (by first | (with_reducible assumption) | assumption)
              have q588 : x11_1 < (l0.length : Int) := of_decide_eq_true (by first | (with_reducible assumption) | assumption)
              obtain ⟨ad588, e588, hx588_0, hx588_1, hx588_2, hx588_3⟩ := at_T34 HR0.out x11_1 p588 q588
              obtain rfl : ad586 = ad588 := (by injection e588)
              replace hx588_0 := (HB.out.cell (World.block_lt_of_cell? w _ hx588_0)).trans hx588_0
              replace hx588_1 := (HB.out.cell (World.block_lt_of_cell? w _ hx588_1)).trans hx588_1
              replace hx588_2 := (HB.out.cell (World.block_lt_of_cell? w _ hx588_2)).trans hx588_2
              replace hx588_3 := (HB.out.cell (World.block_lt_of_cell? w _ hx588_3)).trans hx588_3
              replace p588 := eq_true p588
              replace q588 := eq_true q588
              go_wp2_with (first | ((with_reducible refine gate_builtin (b := .append) (xs := #[.tmp 33, .tmp 38]) rfl ?_); at_builtin; refine Kd.R_append k34 (w0 := w) w.heap.size rfl (.tmp 33) (.tmp 38) 24 34 (.agg #[(.string ⟨#[]⟩), (.int .i64 0), (.int .i64 0), (.int .i64 0)]) 40 rfl Tryd.underlying24 info34 rfl (by decide) (by omega) u10 x10_1 (⟨(rd_T34 l0 x11_1).f0, (rd_T34 l0 x11_1).f1, (rd_T34 l0 x11_1).f2, (rd_T34 l0 x11_1).f3⟩ : S34) [.string ((rd_T34 l0 x11_1).f0), .int .i64 ((rd_T34 l0 x11_1).f1), .int .i64 ((rd_T34 l0 x11_1).f2), .int .i64 ((rd_T34 l0 x11_1).f3)] (fun _ => True) (fun _ => False) rfl rfl ?aP (fun _ hk => hk.elim) ?aF ?aO ?aB ?aS ?aL ?_; (case aP => exact k34_mkM _ _ _ (⟨(rd_T34 l0 x11_1).f0, (rd_T34 l0 x11_1).f1, (rd_T34 l0 x11_1).f2, (rd_T34 l0 x11_1).f3⟩ : S34)); (case aB => exact (by repeat (first | (with_reducible first | exact HB.out | apply below_alloc | apply pw_below_drewN | apply below_drew1) | exact HB.out))); (case aF => exact (fun _ _ => trivial)); (case aO => exact (by (with_reducible repeat (first | apply Kd.R_alloc | apply Kd.R_drewN | apply Kd.R_drew)); exact HO_10.out)); (case aS => exact (below_size (by repeat (first | (with_reducible first | exact HB.out | apply below_alloc | apply pw_below_drewN | apply below_drew1) | exact HB.out)))); (case aL => have := LMc10.out; omega); intro v590 w11 ho hb hg hat; rw [← Ny589.out] at ho; have n0_ := Aside0.mk (hb); have n1_ := Aside0.mk (ho); clear HB; clear HO_10; have HB := n0_; have HO591 := n1_; clear n0_ n1_; clear ho hb hg hat))
              repeat (go_quiet (first | ((with_reducible refine gate_builtin (b := .append) (xs := #[.tmp 33, .tmp 38]) rfl ?_); at_builtin; refine Kd.R_append k34 (w0 := w) w.heap.size rfl (.tmp 33) (.tmp 38) 24 34 (.agg #[(.string ⟨#[]⟩), (.int .i64 0), (.int .i64 0), (.int .i64 0)]) 40 rfl Tryd.underlying24 info34 rfl (by decide) (by omega) u10 x10_1 (⟨(rd_T34 l0 x11_1).f0, (rd_T34 l0 x11_1).f1, (rd_T34 l0 x11_1).f2, (rd_T34 l0 x11_1).f3⟩ : S34) [.string ((rd_T34 l0 x11_1).f0), .int .i64 ((rd_T34 l0 x11_1).f1), .int .i64 ((rd_T34 l0 x11_1).f2), .int .i64 ((rd_T34 l0 x11_1).f3)] (fun _ => True) (fun _ => False) rfl rfl ?aP (fun _ hk => hk.elim) ?aF ?aO ?aB ?aS ?aL ?_; (case aP => exact k34_mkM _ _ _ (⟨(rd_T34 l0 x11_1).f0, (rd_T34 l0 x11_1).f1, (rd_T34 l0 x11_1).f2, (rd_T34 l0 x11_1).f3⟩ : S34)); (case aB => exact (by repeat (first | (with_reducible first | exact HB.out | apply below_alloc | apply pw_below_drewN | apply below_drew1) | exact HB.out))); (case aF => exact (fun _ _ => trivial)); (case aO => exact (by (with_reducible repeat (first | apply Kd.R_alloc | apply Kd.R_drewN | apply Kd.R_drew)); exact HO_10.out)); (case aS => exact (below_size (by repeat (first | (with_reducible first | exact HB.out | apply below_alloc | apply pw_below_drewN | apply below_drew1) | exact HB.out)))); (case aL => have := LMc10.out; omega); intro v590 w11 ho hb hg hat; rw [← Ny589.out] at ho; have n0_ := Aside0.mk (hb); have n1_ := Aside0.mk (ho); clear HB; clear HO_10; have HB := n0_; have HO591 := n1_; clear n0_ n1_; clear ho hb hg hat)); try go_wp2_with (first | ((with_reducible refine gate_builtin (b := .append) (xs := #[.tmp 33, .tmp 38]) rfl ?_); at_builtin; refine Kd.R_append k34 (w0 := w) w.heap.size rfl (.tmp 33) (.tmp 38) 24 34 (.agg #[(.string ⟨#[]⟩), (.int .i64 0), (.int .i64 0), (.int .i64 0)]) 40 rfl Tryd.underlying24 info34 rfl (by decide) (by omega) u10 x10_1 (⟨(rd_T34 l0 x11_1).f0, (rd_T34 l0 x11_1).f1, (rd_T34 l0 x11_1).f2, (rd_T34 l0 x11_1).f3⟩ : S34) [.string ((rd_T34 l0 x11_1).f0), .int .i64 ((rd_T34 l0 x11_1).f1), .int .i64 ((rd_T34 l0 x11_1).f2), .int .i64 ((rd_T34 l0 x11_1).f3)] (fun _ => True) (fun _ => False) rfl rfl ?aP (fun _ hk => hk.elim) ?aF ?aO ?aB ?aS ?aL ?_; (case aP => exact k34_mkM _ _ _ (⟨(rd_T34 l0 x11_1).f0, (rd_T34 l0 x11_1).f1, (rd_T34 l0 x11_1).f2, (rd_T34 l0 x11_1).f3⟩ : S34)); (case aB => exact (by repeat (first | (with_reducible first | exact HB.out | apply below_alloc | apply pw_below_drewN | apply below_drew1) | exact HB.out))); (case aF => exact (fun _ _ => trivial)); (case aO => exact (by (with_reducible repeat (first | apply Kd.R_alloc | apply Kd.R_drewN | apply Kd.R_drew)); exact HO_10.out)); (case aS => exact (below_size (by repeat (first | (with_reducible first | exact HB.out | apply below_alloc | apply pw_below_drewN | apply below_drew1) | exact HB.out)))); (case aL => have := LMc10.out; omega); intro v590 w11 ho hb hg hat; rw [← Ny589.out] at ho; have n0_ := Aside0.mk (hb); have n1_ := Aside0.mk (ho); clear HB; clear HO_10; have HB := n0_; have HO591 := n1_; clear n0_ n1_; clear ho hb hg hat)))
              go_roundg k1
              case measure => have := HK1.out; omega
              case rel => exact ⟨(x9_1), (y589), (wrap64 (x11_1 + 1)), (by first | rfl | (simp; done) | (simp [*]; done)), (by first | rfl | (simp; done) | (simp [*]; done)), H', ⟨by have := HK1.out; omega⟩, ⟨by (with_reducible repeat (first | apply Kd.R_alloc | apply Kd.R_drewN | apply Kd.R_drew)); exact HO591.out⟩, ⟨by repeat (first | (with_reducible first | exact HB.out | apply below_alloc | apply pw_below_drewN | apply below_drew1) | exact HB.out)⟩⟩
            · rw [if_neg c10] at H
              exact absurd H (by simp)
        · rw [if_neg c8] at H
          exact absurd H (by simp)
      · rw [if_neg c7] at H
        have c7b0 : decide (x11_1 < (l0.length : Int)) = false := decide_eq_false c7
        clear c7
        obtain ⟨y592, hy592⟩ : ∃ y_ : List (S34), y_ = (([] : List (S34))) := ⟨_, rfl⟩
        replace H : (laws_a2Kept.l1 k1 l1 l2 a3 x9_1 x10_1 y592 0) = some r := by first | (rw [hy592]; with_reducible exact H) | (have H2_ := (Option.bind_some _ _).symm.trans H; rw [hy592]; with_reducible exact H2_) | (have H2_ := (Option.bind_some _ _).symm.trans H; with_reducible exact H2_) | with_reducible exact H | (rw [hy592]; exact H) | exact H
        have Ny592 := Aside0.mk hy592
        clear hy592
        have H' := Aside0.mk H
        clear H
        go_wp2_with (first | ((with_reducible refine gate_dst (N := 40) rfl ?_); refine Kd.R_lit k34 _ 34 ?hg (N := 40) ?hd (xs := ([] : List (S34))) (inner := []) (ok := fun _ => True) (okp := fun _ => True) ?hr ?hp (fun _ hk => hk) trivial (Below.refl _ _) (Nat.le_refl _) (by simp) ?_; (case hd => rfl); (case hg => rfl); (case hr => first | (go_simp; done) | (go_simp; rfl)); (case hp => exact (Reps.none _ _)); intro v593 w12 ho13 hb hg_ hnew_; clear hg_ hnew_; (first | rw [← Ny592.out] at ho13 | (simp only [Int.reduceToNat] at ho13; rw [← Ny592.out] at ho13)); have n0_ := Aside0.mk (Kd.R_elder' (by (with_reducible repeat (first | apply Kd.R_alloc | apply Kd.R_drewN | apply Kd.R_drew)); exact HO_10.out) (Kd.R_base ho13) hb); have n1_ := Aside0.mk (Kd.R_lower (Kd.R_new' ho13 (Kd.R_lt (by (with_reducible repeat (first | apply Kd.R_alloc | apply Kd.R_drewN | apply Kd.R_drew)); exact HO_10.out))) (below_size (by repeat (first | (with_reducible first | exact HB.out | apply below_alloc | apply pw_below_drewN | apply below_drew1) | exact HB.out)))); have n2_ := Aside0.mk (below_step (by repeat (first | (with_reducible first | exact HB.out | apply below_alloc | apply pw_below_drewN | apply below_drew1) | exact HB.out)) hb); clear HO_10; clear HB; have HO_10 := n0_; have HO594 := n1_; have HB := n2_; clear n0_ n1_ n2_; clear hb ho13))
        repeat (go_quiet (first | ((with_reducible refine gate_dst (N := 40) rfl ?_); refine Kd.R_lit k34 _ 34 ?hg (N := 40) ?hd (xs := ([] : List (S34))) (inner := []) (ok := fun _ => True) (okp := fun _ => True) ?hr ?hp (fun _ hk => hk) trivial (Below.refl _ _) (Nat.le_refl _) (by simp) ?_; (case hd => rfl); (case hg => rfl); (case hr => first | (go_simp; done) | (go_simp; rfl)); (case hp => exact (Reps.none _ _)); intro v593 w12 ho13 hb hg_ hnew_; clear hg_ hnew_; (first | rw [← Ny592.out] at ho13 | (simp only [Int.reduceToNat] at ho13; rw [← Ny592.out] at ho13)); have n0_ := Aside0.mk (Kd.R_elder' (by (with_reducible repeat (first | apply Kd.R_alloc | apply Kd.R_drewN | apply Kd.R_drew)); exact HO_10.out) (Kd.R_base ho13) hb); have n1_ := Aside0.mk (Kd.R_lower (Kd.R_new' ho13 (Kd.R_lt (by (with_reducible repeat (first | apply Kd.R_alloc | apply Kd.R_drewN | apply Kd.R_drew)); exact HO_10.out))) (below_size (by repeat (first | (with_reducible first | exact HB.out | apply below_alloc | apply pw_below_drewN | apply below_drew1) | exact HB.out)))); have n2_ := Aside0.mk (below_step (by repeat (first | (with_reducible first | exact HB.out | apply below_alloc | apply pw_below_drewN | apply below_drew1) | exact HB.out)) hb); clear HO_10; clear HB; have HO_10 := n0_; have HO594 := n1_; have HB := n2_; clear n0_ n1_ n2_; clear hb ho13)); try go_wp2_with (first | ((with_reducible refine gate_dst (N := 40) rfl ?_); refine Kd.R_lit k34 _ 34 ?hg (N := 40) ?hd (xs := ([] : List (S34))) (inner := []) (ok := fun _ => True) (okp := fun _ => True) ?hr ?hp (fun _ hk => hk) trivial (Below.refl _ _) (Nat.le_refl _) (by simp) ?_; (case hd => rfl); (case hg => rfl); (case hr => first | (go_simp; done) | (go_simp; rfl)); (case hp => exact (Reps.none _ _)); intro v593 w12 ho13 hb hg_ hnew_; clear hg_ hnew_; (first | rw [← Ny592.out] at ho13 | (simp only [Int.reduceToNat] at ho13; rw [← Ny592.out] at ho13)); have n0_ := Aside0.mk (Kd.R_elder' (by (with_reducible repeat (first | apply Kd.R_alloc | apply Kd.R_drewN | apply Kd.R_drew)); exact HO_10.out) (Kd.R_base ho13) hb); have n1_ := Aside0.mk (Kd.R_lower (Kd.R_new' ho13 (Kd.R_lt (by (with_reducible repeat (first | apply Kd.R_alloc | apply Kd.R_drewN | apply Kd.R_drew)); exact HO_10.out))) (below_size (by repeat (first | (with_reducible first | exact HB.out | apply below_alloc | apply pw_below_drewN | apply below_drew1) | exact HB.out)))); have n2_ := Aside0.mk (below_step (by repeat (first | (with_reducible first | exact HB.out | apply below_alloc | apply pw_below_drewN | apply below_drew1) | exact HB.out)) hb); clear HO_10; clear HB; have HO_10 := n0_; have HO594 := n1_; have HB := n2_; clear n0_ n1_ n2_; clear hb ho13)))
        go_loopg [12, 13] k1 (fun kq v12 v13 w' => ∃ (x12_2 : List (S34)) (x13_2 : Int), v13 = .int .i64 x13_2 ∧ Aside0 (laws_a2Kept.l1 kq l1 l2 a3 x9_1 x10_1 x12_2 x13_2 = some r) ∧ Aside0 (kq ≤ k1) ∧ Aside0 (Kd.R k34 34 w' w.heap.size (fun k_ => some k_ ≠ (v12 : Value).ownBlock) u10 x10_1) ∧ Aside0 (Kd.R k34 34 w' w.heap.size (fun k_ => some k_ ≠ (u10 : Value).ownBlock) v12 x12_2) ∧ Aside0 (Below w.heap.size w w'))
        case atStart => exact ⟨(y592), (0), (by first | rfl | (simp; done) | (simp [*]; done)), H', ⟨Nat.le_refl _⟩, ⟨by (with_reducible repeat (first | apply Kd.R_alloc | apply Kd.R_drewN | apply Kd.R_drew)); exact Kd.R_mono HO_10.out (fun _ hk => hk.2)⟩, ⟨by (with_reducible repeat (first | apply Kd.R_alloc | apply Kd.R_drewN | apply Kd.R_drew)); exact Kd.R_mono HO594.out (fun _ hk => hk.2)⟩, ⟨by repeat (first | (with_reducible first | exact HB.out | apply below_alloc | apply pw_below_drewN | apply below_drew1) | exact HB.out)⟩⟩
        case round =>
          clear H'
          try clear c1
          try clear c2
          try clear p2
          try clear p5
          try clear q5
          try clear hx5
          try clear c6
          try clear p6
          try clear c7
          try clear c7b0
          try clear c8
          try clear c8b0
          try clear c9
          try clear c9b0
          try clear c9b1
          try clear c10
          try clear hx586_0
          try clear hx586_1
          try clear hx586_2
          try clear hx586_3
          try clear hx587_0
          try clear hx587_1
          try clear hx587_2
          try clear hx587_3
          try clear hx588_0
          try clear hx588_1
          try clear hx588_2
          try clear hx588_3
          try clear p2
          try clear p586
          try clear p587
          try clear p588
          try clear q586
          try clear q587
          try clear q588
          obtain ⟨x12_2, x13_2, rfl, HA, HK2, HO_10, HO_12, HB⟩ := hrel
          cases gk with
          | zero => exact absurd HA.out (by simp [laws_a2Kept.l1])
          | succ k2 =>
            have H := HA.out
            clear HA
            simp only [laws_a2Kept.l1] at H
            by_cases c14 : x13_2 < (l2.length : Int)
            · rw [if_pos c14] at H
              have c14b0 : decide (x13_2 < (l2.length : Int)) = true := decide_eq_true c14
              clear c14
              by_cases c15 : 0 ≤ x13_2
              · rw [if_pos c15] at H
                have c15b0 : decide (0 ≤ x13_2) = true := decide_eq_true c15
                clear c15
                by_cases c16 : x13_2 < (l1.length : Int)
                · rw [if_pos c16] at H
                  have c16b0 : decide (x13_2 < (l1.length : Int)) = true := decide_eq_true c16
                  clear c16
                  by_cases c17 : ((rd_T34 l2 x13_2).f0).toList = ((rd_T34 l1 x13_2).f0).toList
                  · rw [if_pos c17] at H
                    have c17b0 : (((rd_T34 l2 x13_2).f0).toList == ((rd_T34 l1 x13_2).f0).toList) = true := beq_iff_eq.mpr c17
                    have c17b1 : (((rd_T34 l2 x13_2).f0).toList != ((rd_T34 l1 x13_2).f0).toList) = false := bne_eq_false_iff_eq.mpr c17
                    clear c17
                    by_cases c18 : ((rd_T34 l2 x13_2).f0).toList = a3.toList
                    · rw [if_pos c18] at H
                      have c18b0 : (((rd_T34 l2 x13_2).f0).toList == a3.toList) = true := beq_iff_eq.mpr c18
                      have c18b1 : (((rd_T34 l2 x13_2).f0).toList != a3.toList) = false := bne_eq_false_iff_eq.mpr c18
                      clear c18
                      by_cases c19 : ((rd_T34 l2 x13_2).f1) = x9_1
                      · rw [if_pos c19] at H
                        have c19b0 : (((rd_T34 l2 x13_2).f1) == x9_1) = true := beq_iff_eq.mpr c19
                        have c19b1 : (((rd_T34 l2 x13_2).f1) != x9_1) = false := bne_eq_false_iff_eq.mpr c19
                        clear c19
                        have H' := Aside0.mk H
                        clear H
                        have p596 : 0 ≤ (x13_2 : Int) := of_decide_eq_true (by first | (with_reducible assumption) | assumption)
                        have q596 : x13_2 < (l2.length : Int) := of_decide_eq_true (by first | (with_reducible assumption) | assumption)
                        obtain ⟨ad596, e596, hx596_0, hx596_1, hx596_2, hx596_3⟩ := at_T34 HR2.out x13_2 p596 q596
                        cases e596
                        replace hx596_0 := (HB.out.cell (World.block_lt_of_cell? w _ hx596_0)).trans hx596_0
                        replace hx596_1 := (HB.out.cell (World.block_lt_of_cell? w _ hx596_1)).trans hx596_1
                        replace hx596_2 := (HB.out.cell (World.block_lt_of_cell? w _ hx596_2)).trans hx596_2
                        replace hx596_3 := (HB.out.cell (World.block_lt_of_cell? w _ hx596_3)).trans hx596_3
                        replace p596 := eq_true p596
                        replace q596 := eq_true q596
                        have p597 : 0 ≤ (x13_2 : Int) := of_decide_eq_true (by first | (with_reducible assumption) | assumption)
                        have q597 : x13_2 < (l1.length : Int) := of_decide_eq_true (by first | (with_reducible assumption) | assumption)
                        obtain ⟨ad597, e597, hx597_0, hx597_1, hx597_2, hx597_3⟩ := at_T34 HR1.out x13_2 p597 q597
                        cases e597
                        replace hx597_0 := (HB.out.cell (World.block_lt_of_cell? w _ hx597_0)).trans hx597_0
                        replace hx597_1 := (HB.out.cell (World.block_lt_of_cell? w _ hx597_1)).trans hx597_1
                        replace hx597_2 := (HB.out.cell (World.block_lt_of_cell? w _ hx597_2)).trans hx597_2
                        replace hx597_3 := (HB.out.cell (World.block_lt_of_cell? w _ hx597_3)).trans hx597_3
                        replace p597 := eq_true p597
                        replace q597 := eq_true q597
                        have p598 : 0 ≤ (x13_2 : Int) := of_decide_eq_true (by first | (with_reducible assumption) | assumption)
                        have q598 : x13_2 < (l2.length : Int) := of_decide_eq_true (by first | (with_reducible assumption) | assumption)
                        obtain ⟨ad598, e598, hx598_0, hx598_1, hx598_2, hx598_3⟩ := at_T34 HR2.out x13_2 p598 q598
                        obtain rfl : ad596 = ad598 := (by injection e598)
                        replace hx598_0 := (HB.out.cell (World.block_lt_of_cell? w _ hx598_0)).trans hx598_0
                        replace hx598_1 := (HB.out.cell (World.block_lt_of_cell? w _ hx598_1)).trans hx598_1
                        replace hx598_2 := (HB.out.cell (World.block_lt_of_cell? w _ hx598_2)).trans hx598_2
                        replace hx598_3 := (HB.out.cell (World.block_lt_of_cell? w _ hx598_3)).trans hx598_3
                        replace p598 := eq_true p598
                        replace q598 := eq_true q598
                        have p599 : 0 ≤ (x13_2 : Int) := of_decide_eq_true (by first | (with_reducible assumption) | assumption)
                        have q599 : x13_2 < (l2.length : Int) := of_decide_eq_true (by first | (with_reducible assumption) | assumption)
                        obtain ⟨ad599, e599, hx599_0, hx599_1, hx599_2, hx599_3⟩ := at_T34 HR2.out x13_2 p599 q599
                        obtain rfl : ad596 = ad599 := (by injection e599)
                        replace hx599_0 := (HB.out.cell (World.block_lt_of_cell? w _ hx599_0)).trans hx599_0
                        replace hx599_1 := (HB.out.cell (World.block_lt_of_cell? w _ hx599_1)).trans hx599_1
                        replace hx599_2 := (HB.out.cell (World.block_lt_of_cell? w _ hx599_2)).trans hx599_2
                        replace hx599_3 := (HB.out.cell (World.block_lt_of_cell? w _ hx599_3)).trans hx599_3
                        replace p599 := eq_true p599
                        replace q599 := eq_true q599
                        go_wp2
                        repeat (go_quiet (fail); try go_wp2)
                        go_roundg k2
                        case measure => have := HK1.out; have := HK2.out; omega
                        case rel => exact ⟨(x12_2), (wrap64 (x13_2 + 1)), (by first | rfl | (simp; done) | (simp [*]; done)), H', ⟨by have := HK1.out; have := HK2.out; omega⟩, ⟨by (with_reducible repeat (first | apply Kd.R_alloc | apply Kd.R_drewN | apply Kd.R_drew)); exact HO_10.out⟩, ⟨by (with_reducible repeat (first | apply Kd.R_alloc | apply Kd.R_drewN | apply Kd.R_drew)); exact HO_12.out⟩, ⟨by repeat (first | (with_reducible first | exact HB.out | apply below_alloc | apply pw_below_drewN | apply below_drew1) | exact HB.out)⟩⟩
                      · rw [if_neg c19] at H
                        have c19b0 : (((rd_T34 l2 x13_2).f1) == x9_1) = false := beq_eq_false_iff_ne.mpr c19
                        have c19b1 : (((rd_T34 l2 x13_2).f1) != x9_1) = true := bne_iff_ne.mpr c19
                        obtain rfl := Option.some.inj H
                        have p596 : 0 ≤ (x13_2 : Int) := of_decide_eq_true (by first | (with_reducible assumption) | assumption)
                        have q596 : x13_2 < (l2.length : Int) := of_decide_eq_true (by first | (with_reducible assumption) | assumption)
                        obtain ⟨ad596, e596, hx596_0, hx596_1, hx596_2, hx596_3⟩ := at_T34 HR2.out x13_2 p596 q596
                        cases e596
                        replace hx596_0 := (HB.out.cell (World.block_lt_of_cell? w _ hx596_0)).trans hx596_0
                        replace hx596_1 := (HB.out.cell (World.block_lt_of_cell? w _ hx596_1)).trans hx596_1
                        replace hx596_2 := (HB.out.cell (World.block_lt_of_cell? w _ hx596_2)).trans hx596_2
                        replace hx596_3 := (HB.out.cell (World.block_lt_of_cell? w _ hx596_3)).trans hx596_3
                        replace p596 := eq_true p596
                        replace q596 := eq_true q596
                        have p597 : 0 ≤ (x13_2 : Int) := of_decide_eq_true (by first | (with_reducible assumption) | assumption)
                        have q597 : x13_2 < (l1.length : Int) := of_decide_eq_true (by first | (with_reducible assumption) | assumption)
                        obtain ⟨ad597, e597, hx597_0, hx597_1, hx597_2, hx597_3⟩ := at_T34 HR1.out x13_2 p597 q597
                        cases e597
                        replace hx597_0 := (HB.out.cell (World.block_lt_of_cell? w _ hx597_0)).trans hx597_0
                        replace hx597_1 := (HB.out.cell (World.block_lt_of_cell? w _ hx597_1)).trans hx597_1
                        replace hx597_2 := (HB.out.cell (World.block_lt_of_cell? w _ hx597_2)).trans hx597_2
                        replace hx597_3 := (HB.out.cell (World.block_lt_of_cell? w _ hx597_3)).trans hx597_3
                        replace p597 := eq_true p597
                        replace q597 := eq_true q597
                        have p598 : 0 ≤ (x13_2 : Int) := of_decide_eq_true (by first | (with_reducible assumption) | assumption)
                        have q598 : x13_2 < (l2.length : Int) := of_decide_eq_true (by first | (with_reducible assumption) | assumption)
                        obtain ⟨ad598, e598, hx598_0, hx598_1, hx598_2, hx598_3⟩ := at_T34 HR2.out x13_2 p598 q598
                        obtain rfl : ad596 = ad598 := (by injection e598)
                        replace hx598_0 := (HB.out.cell (World.block_lt_of_cell? w _ hx598_0)).trans hx598_0
                        replace hx598_1 := (HB.out.cell (World.block_lt_of_cell? w _ hx598_1)).trans hx598_1
                        replace hx598_2 := (HB.out.cell (World.block_lt_of_cell? w _ hx598_2)).trans hx598_2
                        replace hx598_3 := (HB.out.cell (World.block_lt_of_cell? w _ hx598_3)).trans hx598_3
                        replace p598 := eq_true p598
                        replace q598 := eq_true q598
                        have p599 : 0 ≤ (x13_2 : Int) := of_decide_eq_true (by first | (with_reducible assumption) | assumption)
                        have q599 : x13_2 < (l2.length : Int) := of_decide_eq_true (by first | (with_reducible assumption) | assumption)
                        obtain ⟨ad599, e599, hx599_0, hx599_1, hx599_2, hx599_3⟩ := at_T34 HR2.out x13_2 p599 q599
                        obtain rfl : ad596 = ad599 := (by injection e599)
                        replace hx599_0 := (HB.out.cell (World.block_lt_of_cell? w _ hx599_0)).trans hx599_0
                        replace hx599_1 := (HB.out.cell (World.block_lt_of_cell? w _ hx599_1)).trans hx599_1
                        replace hx599_2 := (HB.out.cell (World.block_lt_of_cell? w _ hx599_2)).trans hx599_2
                        replace hx599_3 := (HB.out.cell (World.block_lt_of_cell? w _ hx599_3)).trans hx599_3
                        replace p599 := eq_true p599
                        replace q599 := eq_true q599
                        go_wp2
                        repeat (go_quiet (fail); try go_wp2)
                        go_ret
                        exact ⟨by first | rfl | (simp [errW_none, errW_some] <;> rfl) | (simp [*, errW_none, errW_some] <;> rfl), by repeat (first | (with_reducible first | exact HB.out | apply below_alloc | apply pw_below_drewN | apply below_drew1) | exact HB.out)⟩
                    · rw [if_neg c18] at H
                      have c18b0 : (((rd_T34 l2 x13_2).f0).toList == a3.toList) = false := beq_eq_false_iff_ne.mpr c18
                      have c18b1 : (((rd_T34 l2 x13_2).f0).toList != a3.toList) = true := bne_iff_ne.mpr c18
                      by_cases c20 : x12_2.length < 3518437208883
                      · rw [if_pos c20] at H
                        have LMc20 := Aside0.mk c20
                        clear c20
                        obtain ⟨y601, hy601⟩ : ∃ y_ : List (S34), y_ = (x12_2 ++ [(⟨(rd_T34 l2 x13_2).f0, (rd_T34 l2 x13_2).f1, (rd_T34 l2 x13_2).f2, (rd_T34 l2 x13_2).f3⟩ : S34)]) := ⟨_, rfl⟩
                        replace H : (laws_a2Kept.l1 k2 l1 l2 a3 x9_1 x10_1 y601 (wrap64 (x13_2 + 1))) = some r := by first | (rw [hy601]; with_reducible exact H) | (have H2_ := (Option.bind_some _ _).symm.trans H; rw [hy601]; with_reducible exact H2_) | (have H2_ := (Option.bind_some _ _).symm.trans H; with_reducible exact H2_) | with_reducible exact H | (rw [hy601]; exact H) | exact H
                        have Ny601 := Aside0.mk hy601
                        clear hy601
                        have H' := Aside0.mk H
                        clear H
                        have p596 : 0 ≤ (x13_2 : Int) := of_decide_eq_true (by first | (with_reducible assumption) | assumption)
                        have q596 : x13_2 < (l2.length : Int) := of_decide_eq_true (by first | (with_reducible assumption) | assumption)
                        obtain ⟨ad596, e596, hx596_0, hx596_1, hx596_2, hx596_3⟩ := at_T34 HR2.out x13_2 p596 q596
                        cases e596
                        replace hx596_0 := (HB.out.cell (World.block_lt_of_cell? w _ hx596_0)).trans hx596_0
                        replace hx596_1 := (HB.out.cell (World.block_lt_of_cell? w _ hx596_1)).trans hx596_1
                        replace hx596_2 := (HB.out.cell (World.block_lt_of_cell? w _ hx596_2)).trans hx596_2
                        replace hx596_3 := (HB.out.cell (World.block_lt_of_cell? w _ hx596_3)).trans hx596_3
                        replace p596 := eq_true p596
                        replace q596 := eq_true q596
                        have p597 : 0 ≤ (x13_2 : Int) := of_decide_eq_true (by first | (with_reducible assumption) | assumption)
                        have q597 : x13_2 < (l1.length : Int) := of_decide_eq_true (by first | (with_reducible assumption) | assumption)
                        obtain ⟨ad597, e597, hx597_0, hx597_1, hx597_2, hx597_3⟩ := at_T34 HR1.out x13_2 p597 q597
                        cases e597
                        replace hx597_0 := (HB.out.cell (World.block_lt_of_cell? w _ hx597_0)).trans hx597_0
                        replace hx597_1 := (HB.out.cell (World.block_lt_of_cell? w _ hx597_1)).trans hx597_1
                        replace hx597_2 := (HB.out.cell (World.block_lt_of_cell? w _ hx597_2)).trans hx597_2
                        replace hx597_3 := (HB.out.cell (World.block_lt_of_cell? w _ hx597_3)).trans hx597_3
                        replace p597 := eq_true p597
                        replace q597 := eq_true q597
                        have p598 : 0 ≤ (x13_2 : Int) := of_decide_eq_true (by first | (with_reducible assumption) | assumption)
                        have q598 : x13_2 < (l2.length : Int) := of_decide_eq_true (by first | (with_reducible assumption) | assumption)
                        obtain ⟨ad598, e598, hx598_0, hx598_1, hx598_2, hx598_3⟩ := at_T34 HR2.out x13_2 p598 q598
                        obtain rfl : ad596 = ad598 := (by injection e598)
                        replace hx598_0 := (HB.out.cell (World.block_lt_of_cell? w _ hx598_0)).trans hx598_0
                        replace hx598_1 := (HB.out.cell (World.block_lt_of_cell? w _ hx598_1)).trans hx598_1
                        replace hx598_2 := (HB.out.cell (World.block_lt_of_cell? w _ hx598_2)).trans hx598_2
                        replace hx598_3 := (HB.out.cell (World.block_lt_of_cell? w _ hx598_3)).trans hx598_3
                        replace p598 := eq_true p598
                        replace q598 := eq_true q598
                        have p600 : 0 ≤ (x13_2 : Int) := of_decide_eq_true (by first | (with_reducible assumption) | assumption)
                        have q600 : x13_2 < (l2.length : Int) := of_decide_eq_true (by first | (with_reducible assumption) | assumption)
                        obtain ⟨ad600, e600, hx600_0, hx600_1, hx600_2, hx600_3⟩ := at_T34 HR2.out x13_2 p600 q600
                        obtain rfl : ad596 = ad600 := (by injection e600)
                        replace hx600_0 := (HB.out.cell (World.block_lt_of_cell? w _ hx600_0)).trans hx600_0
                        replace hx600_1 := (HB.out.cell (World.block_lt_of_cell? w _ hx600_1)).trans hx600_1
                        replace hx600_2 := (HB.out.cell (World.block_lt_of_cell? w _ hx600_2)).trans hx600_2
                        replace hx600_3 := (HB.out.cell (World.block_lt_of_cell? w _ hx600_3)).trans hx600_3
                        replace p600 := eq_true p600
                        replace q600 := eq_true q600
                        go_wp2_with (first | ((with_reducible refine gate_builtin (b := .append) (xs := #[.tmp 72, .tmp 77]) rfl ?_); at_builtin; refine Kd.R_append k34 (w0 := w) w.heap.size rfl (.tmp 72) (.tmp 77) 24 34 (.agg #[(.string ⟨#[]⟩), (.int .i64 0), (.int .i64 0), (.int .i64 0)]) 40 rfl Tryd.underlying24 info34 rfl (by decide) (by omega) u12 x12_2 (⟨(rd_T34 l2 x13_2).f0, (rd_T34 l2 x13_2).f1, (rd_T34 l2 x13_2).f2, (rd_T34 l2 x13_2).f3⟩ : S34) [.string ((rd_T34 l2 x13_2).f0), .int .i64 ((rd_T34 l2 x13_2).f1), .int .i64 ((rd_T34 l2 x13_2).f2), .int .i64 ((rd_T34 l2 x13_2).f3)] (fun k_ => some k_ ≠ (u10 : Value).ownBlock) (fun _ => False) rfl rfl ?aP (fun _ hk => hk.elim) ?aF ?aO ?aB ?aS ?aL ?_; (case aP => exact k34_mkM _ _ _ (⟨(rd_T34 l2 x13_2).f0, (rd_T34 l2 x13_2).f1, (rd_T34 l2 x13_2).f2, (rd_T34 l2 x13_2).f3⟩ : S34)); (case aB => exact (by repeat (first | (with_reducible first | exact HB.out | apply below_alloc | apply pw_below_drewN | apply below_drew1) | exact HB.out))); (case aF => exact (fun k_ hk => Kd.fresh' (Kd.R_lt (by (with_reducible repeat (first | apply Kd.R_alloc | apply Kd.R_drewN | apply Kd.R_drew)); exact HO_10.out)) k_ hk)); (case aO => exact (by (with_reducible repeat (first | apply Kd.R_alloc | apply Kd.R_drewN | apply Kd.R_drew)); exact HO_12.out)); (case aS => exact (below_size (by repeat (first | (with_reducible first | exact HB.out | apply below_alloc | apply pw_below_drewN | apply below_drew1) | exact HB.out)))); (case aL => have := LMc20.out; omega); intro v602 w21 ho hb hg hat; rw [← Ny601.out] at ho; have n0_ := Aside0.mk (Kd.R_after (ok := (fun _ => True)) (by (with_reducible repeat (first | apply Kd.R_alloc | apply Kd.R_drewN | apply Kd.R_drew)); exact Kd.R_mono HO_10.out (fun _ hk => ⟨trivial, hk⟩)) hg hat); have n1_ := Aside0.mk (hb); have n2_ := Aside0.mk (ho); clear HO_10; clear HB; clear HO_12; have HO_10 := n0_; have HB := n1_; have HO603 := n2_; clear n0_ n1_ n2_; clear ho hb hg hat))
                        repeat (go_quiet (first | ((with_reducible refine gate_builtin (b := .append) (xs := #[.tmp 72, .tmp 77]) rfl ?_); at_builtin; refine Kd.R_append k34 (w0 := w) w.heap.size rfl (.tmp 72) (.tmp 77) 24 34 (.agg #[(.string ⟨#[]⟩), (.int .i64 0), (.int .i64 0), (.int .i64 0)]) 40 rfl Tryd.underlying24 info34 rfl (by decide) (by omega) u12 x12_2 (⟨(rd_T34 l2 x13_2).f0, (rd_T34 l2 x13_2).f1, (rd_T34 l2 x13_2).f2, (rd_T34 l2 x13_2).f3⟩ : S34) [.string ((rd_T34 l2 x13_2).f0), .int .i64 ((rd_T34 l2 x13_2).f1), .int .i64 ((rd_T34 l2 x13_2).f2), .int .i64 ((rd_T34 l2 x13_2).f3)] (fun k_ => some k_ ≠ (u10 : Value).ownBlock) (fun _ => False) rfl rfl ?aP (fun _ hk => hk.elim) ?aF ?aO ?aB ?aS ?aL ?_; (case aP => exact k34_mkM _ _ _ (⟨(rd_T34 l2 x13_2).f0, (rd_T34 l2 x13_2).f1, (rd_T34 l2 x13_2).f2, (rd_T34 l2 x13_2).f3⟩ : S34)); (case aB => exact (by repeat (first | (with_reducible first | exact HB.out | apply below_alloc | apply pw_below_drewN | apply below_drew1) | exact HB.out))); (case aF => exact (fun k_ hk => Kd.fresh' (Kd.R_lt (by (with_reducible repeat (first | apply Kd.R_alloc | apply Kd.R_drewN | apply Kd.R_drew)); exact HO_10.out)) k_ hk)); (case aO => exact (by (with_reducible repeat (first | apply Kd.R_alloc | apply Kd.R_drewN | apply Kd.R_drew)); exact HO_12.out)); (case aS => exact (below_size (by repeat (first | (with_reducible first | exact HB.out | apply below_alloc | apply pw_below_drewN | apply below_drew1) | exact HB.out)))); (case aL => have := LMc20.out; omega); intro v602 w21 ho hb hg hat; rw [← Ny601.out] at ho; have n0_ := Aside0.mk (Kd.R_after (ok := (fun _ => True)) (by (with_reducible repeat (first | apply Kd.R_alloc | apply Kd.R_drewN | apply Kd.R_drew)); exact Kd.R_mono HO_10.out (fun _ hk => ⟨trivial, hk⟩)) hg hat); have n1_ := Aside0.mk (hb); have n2_ := Aside0.mk (ho); clear HO_10; clear HB; clear HO_12; have HO_10 := n0_; have HB := n1_; have HO603 := n2_; clear n0_ n1_ n2_; clear ho hb hg hat)); try go_wp2_with (first | ((with_reducible refine gate_builtin (b := .append) (xs := #[.tmp 72, .tmp 77]) rfl ?_); at_builtin; refine Kd.R_append k34 (w0 := w) w.heap.size rfl (.tmp 72) (.tmp 77) 24 34 (.agg #[(.string ⟨#[]⟩), (.int .i64 0), (.int .i64 0), (.int .i64 0)]) 40 rfl Tryd.underlying24 info34 rfl (by decide) (by omega) u12 x12_2 (⟨(rd_T34 l2 x13_2).f0, (rd_T34 l2 x13_2).f1, (rd_T34 l2 x13_2).f2, (rd_T34 l2 x13_2).f3⟩ : S34) [.string ((rd_T34 l2 x13_2).f0), .int .i64 ((rd_T34 l2 x13_2).f1), .int .i64 ((rd_T34 l2 x13_2).f2), .int .i64 ((rd_T34 l2 x13_2).f3)] (fun k_ => some k_ ≠ (u10 : Value).ownBlock) (fun _ => False) rfl rfl ?aP (fun _ hk => hk.elim) ?aF ?aO ?aB ?aS ?aL ?_; (case aP => exact k34_mkM _ _ _ (⟨(rd_T34 l2 x13_2).f0, (rd_T34 l2 x13_2).f1, (rd_T34 l2 x13_2).f2, (rd_T34 l2 x13_2).f3⟩ : S34)); (case aB => exact (by repeat (first | (with_reducible first | exact HB.out | apply below_alloc | apply pw_below_drewN | apply below_drew1) | exact HB.out))); (case aF => exact (fun k_ hk => Kd.fresh' (Kd.R_lt (by (with_reducible repeat (first | apply Kd.R_alloc | apply Kd.R_drewN | apply Kd.R_drew)); exact HO_10.out)) k_ hk)); (case aO => exact (by (with_reducible repeat (first | apply Kd.R_alloc | apply Kd.R_drewN | apply Kd.R_drew)); exact HO_12.out)); (case aS => exact (below_size (by repeat (first | (with_reducible first | exact HB.out | apply below_alloc | apply pw_below_drewN | apply below_drew1) | exact HB.out)))); (case aL => have := LMc20.out; omega); intro v602 w21 ho hb hg hat; rw [← Ny601.out] at ho; have n0_ := Aside0.mk (Kd.R_after (ok := (fun _ => True)) (by (with_reducible repeat (first | apply Kd.R_alloc | apply Kd.R_drewN | apply Kd.R_drew)); exact Kd.R_mono HO_10.out (fun _ hk => ⟨trivial, hk⟩)) hg hat); have n1_ := Aside0.mk (hb); have n2_ := Aside0.mk (ho); clear HO_10; clear HB; clear HO_12; have HO_10 := n0_; have HB := n1_; have HO603 := n2_; clear n0_ n1_ n2_; clear ho hb hg hat)))
                        go_roundg k2
                        case measure => have := HK1.out; have := HK2.out; omega
                        case rel => exact ⟨(y601), (wrap64 (x13_2 + 1)), (by first | rfl | (simp; done) | (simp [*]; done)), H', ⟨by have := HK1.out; have := HK2.out; omega⟩, ⟨by (with_reducible repeat (first | apply Kd.R_alloc | apply Kd.R_drewN | apply Kd.R_drew)); exact Kd.R_mono HO_10.out (fun _ hk => hk.2)⟩, ⟨by (with_reducible repeat (first | apply Kd.R_alloc | apply Kd.R_drewN | apply Kd.R_drew)); exact HO603.out⟩, ⟨by repeat (first | (with_reducible first | exact HB.out | apply below_alloc | apply pw_below_drewN | apply below_drew1) | exact HB.out)⟩⟩
                      · rw [if_neg c20] at H
                        exact absurd H (by simp)
                  · rw [if_neg c17] at H
                    have c17b0 : (((rd_T34 l2 x13_2).f0).toList == ((rd_T34 l1 x13_2).f0).toList) = false := beq_eq_false_iff_ne.mpr c17
                    have c17b1 : (((rd_T34 l2 x13_2).f0).toList != ((rd_T34 l1 x13_2).f0).toList) = true := bne_iff_ne.mpr c17
                    obtain rfl := Option.some.inj H
                    have p596 : 0 ≤ (x13_2 : Int) := of_decide_eq_true (by first | (with_reducible assumption) | assumption)
                    have q596 : x13_2 < (l2.length : Int) := of_decide_eq_true (by first | (with_reducible assumption) | assumption)
                    obtain ⟨ad596, e596, hx596_0, hx596_1, hx596_2, hx596_3⟩ := at_T34 HR2.out x13_2 p596 q596
                    cases e596
                    replace hx596_0 := (HB.out.cell (World.block_lt_of_cell? w _ hx596_0)).trans hx596_0
                    replace hx596_1 := (HB.out.cell (World.block_lt_of_cell? w _ hx596_1)).trans hx596_1
                    replace hx596_2 := (HB.out.cell (World.block_lt_of_cell? w _ hx596_2)).trans hx596_2
                    replace hx596_3 := (HB.out.cell (World.block_lt_of_cell? w _ hx596_3)).trans hx596_3
                    replace p596 := eq_true p596
                    replace q596 := eq_true q596
                    have p597 : 0 ≤ (x13_2 : Int) := of_decide_eq_true (by first | (with_reducible assumption) | assumption)
                    have q597 : x13_2 < (l1.length : Int) := of_decide_eq_true (by first | (with_reducible assumption) | assumption)
                    obtain ⟨ad597, e597, hx597_0, hx597_1, hx597_2, hx597_3⟩ := at_T34 HR1.out x13_2 p597 q597
                    cases e597
                    replace hx597_0 := (HB.out.cell (World.block_lt_of_cell? w _ hx597_0)).trans hx597_0
                    replace hx597_1 := (HB.out.cell (World.block_lt_of_cell? w _ hx597_1)).trans hx597_1
                    replace hx597_2 := (HB.out.cell (World.block_lt_of_cell? w _ hx597_2)).trans hx597_2
                    replace hx597_3 := (HB.out.cell (World.block_lt_of_cell? w _ hx597_3)).trans hx597_3
                    replace p597 := eq_true p597
                    replace q597 := eq_true q597
                    go_wp2
                    repeat (go_quiet (fail); try go_wp2)
                    go_ret
                    exact ⟨by first | rfl | (simp [errW_none, errW_some] <;> rfl) | (simp [*, errW_none, errW_some] <;> rfl), by repeat (first | (with_reducible first | exact HB.out | apply below_alloc | apply pw_below_drewN | apply below_drew1) | exact HB.out)⟩
                · rw [if_neg c16] at H
                  exact absurd H (by simp)
              · rw [if_neg c15] at H
                exact absurd H (by simp)
            · rw [if_neg c14] at H
              have c14b0 : decide (x13_2 < (l2.length : Int)) = false := decide_eq_false c14
              clear c14
              replace H := Option.bind_eq_some_iff.mp H
              obtain ⟨t595, A220, H⟩ := H
              replace H : (some t595) = some r := H
              have A22 := Aside0.mk A220
              clear A220
              obtain rfl := Option.some.inj H
              obtain ⟨Ao23, co23, eo23⟩ := Kd.R_slice HO_10.out
              subst eo23
              obtain ⟨Ao24, co24, eo24⟩ := Kd.R_slice HO_12.out
              subst eo24
              go_wp2_with (first | (go_at_call 60; (with_reducible refine (spec_SameStock.calls k2 _ _ x10_1 _ _ x12_2 t595 _ ?side1 ?side2 ?side3 ?side4 A22.out).mono ?_); (case side1 => repeat (first | exact (Kd.R_reads' HO_10.out).2.2 | (with_reducible refine Kd.C_alloc ?_ _) | (with_reducible refine Kd.C_drewN ?_ _) | (with_reducible refine Kd.C_drew ?_))); (case side2 => exact (Kd.R_reads' HO_10.out).2.1); (case side3 => repeat (first | exact (Kd.R_reads' HO_12.out).2.2 | (with_reducible refine Kd.C_alloc ?_ _) | (with_reducible refine Kd.C_drewN ?_ _) | (with_reducible refine Kd.C_drew ?_))); (case side4 => exact (Kd.R_reads' HO_12.out).2.1); rintro e w' ⟨rfl, ⟨nd, rfl⟩⟩; (try first | exact ⟨rfl, _, World.drewN_drewN _ _ _⟩ | exact ⟨rfl, _, Eq.trans (World.drewN_drewN _ _ _) (congrArg (World.drewN _) (Nat.add_assoc _ _ _))⟩)))
              repeat (go_quiet (first | (go_at_call 60; (with_reducible refine (spec_SameStock.calls k2 _ _ x10_1 _ _ x12_2 t595 _ ?side1 ?side2 ?side3 ?side4 A22.out).mono ?_); (case side1 => repeat (first | exact (Kd.R_reads' HO_10.out).2.2 | (with_reducible refine Kd.C_alloc ?_ _) | (with_reducible refine Kd.C_drewN ?_ _) | (with_reducible refine Kd.C_drew ?_))); (case side2 => exact (Kd.R_reads' HO_10.out).2.1); (case side3 => repeat (first | exact (Kd.R_reads' HO_12.out).2.2 | (with_reducible refine Kd.C_alloc ?_ _) | (with_reducible refine Kd.C_drewN ?_ _) | (with_reducible refine Kd.C_drew ?_))); (case side4 => exact (Kd.R_reads' HO_12.out).2.1); rintro e w' ⟨rfl, ⟨nd, rfl⟩⟩; (try first | exact ⟨rfl, _, World.drewN_drewN _ _ _⟩ | exact ⟨rfl, _, Eq.trans (World.drewN_drewN _ _ _) (congrArg (World.drewN _) (Nat.add_assoc _ _ _))⟩))); try go_wp2_with (first | (go_at_call 60; (with_reducible refine (spec_SameStock.calls k2 _ _ x10_1 _ _ x12_2 t595 _ ?side1 ?side2 ?side3 ?side4 A22.out).mono ?_); (case side1 => repeat (first | exact (Kd.R_reads' HO_10.out).2.2 | (with_reducible refine Kd.C_alloc ?_ _) | (with_reducible refine Kd.C_drewN ?_ _) | (with_reducible refine Kd.C_drew ?_))); (case side2 => exact (Kd.R_reads' HO_10.out).2.1); (case side3 => repeat (first | exact (Kd.R_reads' HO_12.out).2.2 | (with_reducible refine Kd.C_alloc ?_ _) | (with_reducible refine Kd.C_drewN ?_ _) | (with_reducible refine Kd.C_drew ?_))); (case side4 => exact (Kd.R_reads' HO_12.out).2.1); rintro e w' ⟨rfl, ⟨nd, rfl⟩⟩; (try first | exact ⟨rfl, _, World.drewN_drewN _ _ _⟩ | exact ⟨rfl, _, Eq.trans (World.drewN_drewN _ _ _) (congrArg (World.drewN _) (Nat.add_assoc _ _ _))⟩))))
              go_ret
              exact ⟨by first | rfl | (simp [errW_none, errW_some] <;> rfl) | (simp [*, errW_none, errW_some] <;> rfl), by repeat (first | (with_reducible first | exact HB.out | apply below_alloc | apply pw_below_drewN | apply below_drew1) | exact HB.out)⟩

end Go.Proofs.YtdjdillppgijmaaDoor.Qs
