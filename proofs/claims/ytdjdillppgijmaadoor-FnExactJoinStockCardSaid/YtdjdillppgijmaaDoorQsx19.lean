-- Printed for this claim by this project's pp.py (a patched run of the kit's print). Lean checks it.
import Derived.Test.YtdjdillppgijmaaDoorQsx0
import Derived.Test.YtdjdillppgijmaaDoorQsx12
import Derived.Test.YtdjdillppgijmaaDoorQsx18
import Derived.Test.YtdjdillppgijmaaDoorSOk
namespace Go.Proofs.YtdjdillppgijmaaDoor.Qs
open Go.RowKit Go.Proofs.YtdjdillppgijmaaDoorW.PrintWords Go.Proofs.YtdjdillppgijmaaDoorW.PrintLast Go.Proofs.YtdjdillppgijmaaDoorW.PrintMore
attribute [local go_sem] max2_int min2_int max_two min_two max_three min_three max_four min_four   -- for this text's walks alone

set_option linter.unusedVariables false
set_option linter.unusedSimpArgs false

/-! ### spec_JoinStock: function 40 -/
mutual
def spec_JoinStock.j0 : Nat → List (S34) → List (S34) → Bool → Option ((List (S34)) × Int)
  | 0, _, _, _ => none
  | k + 1, x0, x1, x17 => if x17 = true then (some (([] : List (S34)), 1)) else ((some (([] : List (S34)) : List (S34))).bind fun y335 => (if y335.length + x0.length < 3518437208883 then (spec_JoinStock.l0 k x1 (y335 ++ x0) 0) else (none)))
def spec_JoinStock.l0 : Nat → List (S34) → List (S34) → Int → Option ((List (S34)) × Int)
  | 0, _, _, _ => none
  | k + 1, x1, x6, x7 => if x7 < (x1.length : Int) then (if 0 ≤ x7 then ((spec_l23At.f k x6 ((rd_T34 x1 x7).f0)).bind fun t343 => ((spec_l23Is.f x6 t343 ((rd_T34 x1 x7).f0)).bind fun t345 => (if t345 = true then (if 0 ≤ t343 then (if t343 < (x6.length : Int) then ((some (x6.set (t343 : Int).toNat (⟨(rd_T34 x6 t343).f0, wrap64 (((rd_T34 x6 t343).f1) + ((rd_T34 x1 x7).f1)), (rd_T34 x6 t343).f2, (rd_T34 x6 t343).f3⟩ : S34) : List (S34))).bind fun y348 => ((some (y348.set (t343 : Int).toNat (⟨(rd_T34 y348 t343).f0, (rd_T34 y348 t343).f1, wrap64 (((rd_T34 y348 t343).f2) + ((rd_T34 x1 x7).f2)), (rd_T34 y348 t343).f3⟩ : S34) : List (S34))).bind fun y351 => ((spec_l00Min.f ((rd_T34 y351 t343).f3) ((rd_T34 x1 x7).f3)).bind fun t354 => (spec_JoinStock.l0 k x1 (y351.set (t343 : Int).toNat (⟨(rd_T34 y351 t343).f0, (rd_T34 y351 t343).f1, (rd_T34 y351 t343).f2, t354⟩ : S34)) (wrap64 (x7 + 1)))))) else (none)) else (none)) else ((some (([] : List (S34)) : List (S34))).bind fun y356 => (if 0 ≤ t343 then (if t343 ≤ (x6.length : Int) then ((some (x6.take (t343 : Int).toNat : List (S34))).bind fun y359 => (if y356.length + y359.length < 3518437208883 then ((some (y356 ++ y359 : List (S34))).bind fun y363 => (if y363.length < 3518437208883 then ((some (y363 ++ [(⟨(rd_T34 x1 x7).f0, (rd_T34 x1 x7).f1, (rd_T34 x1 x7).f2, (rd_T34 x1 x7).f3⟩ : S34)] : List (S34))).bind fun y367 => ((some (x6.drop (t343 : Int).toNat : List (S34))).bind fun y370 => (if y367.length + y370.length < 3518437208883 then (spec_JoinStock.l0 k x1 (y367 ++ y370) (wrap64 (x7 + 1))) else (none)))) else (none))) else (none))) else (none)) else (none)))))) else (none)) else ((spec_l23Ok.f x6).bind fun t341 => (if t341 = true then (some (x6, 0)) else (some (([] : List (S34)), 5))))
end
def spec_JoinStock.f (k : Nat) (l0 : List (S34)) (l1 : List (S34)) : Option ((List (S34)) × Int) := (spec_l23Ok.f l0).bind fun t333 => (if t333 = true then ((spec_l23Ok.f l1).bind fun t334 => (spec_JoinStock.j0 k l0 l1 (!t334))) else (spec_JoinStock.j0 k l0 l1 true))
theorem spec_JoinStock.mono_l : ∀ k, (∀ y0 y1 y2, LeO (spec_JoinStock.j0 k y0 y1 y2) (spec_JoinStock.j0 (k + 1) y0 y1 y2)) ∧ (∀ y0 y1 y2, LeO (spec_JoinStock.l0 k y0 y1 y2) (spec_JoinStock.l0 (k + 1) y0 y1 y2))
  | 0 => ⟨fun _ _ _ r h => by simp [spec_JoinStock.j0] at h, fun _ _ _ r h => by simp [spec_JoinStock.l0] at h⟩
  | k + 1 => by
    obtain ⟨ih0, ih1⟩ := spec_JoinStock.mono_l k
    refine ⟨?_, ?_⟩
    · intro y0 y1 y2
      unfold spec_JoinStock.j0
      repeat' first
      | (with_reducible exact ih0 _ _ _)
      | (with_reducible exact ih1 _ _ _)
      | (with_reducible exact spec_l23At.mono _ _ _)
      | (with_reducible exact LeO.refl _)
      | (with_reducible exact LeO.none _)
      | (with_reducible refine LeO.ite ?_ ?_)
      | (with_reducible refine LeO.bind ?_ (fun _ => ?_))
      | exact ih0 _ _ _
      | exact ih1 _ _ _
      | exact spec_l23At.mono _ _ _
      | exact LeO.none _
      | refine LeO.ite ?_ ?_
      | refine LeO.bind ?_ (fun _ => ?_)
    · intro y0 y1 y2
      unfold spec_JoinStock.l0
      repeat' first
      | (with_reducible exact ih0 _ _ _)
      | (with_reducible exact ih1 _ _ _)
      | (with_reducible exact spec_l23At.mono _ _ _)
      | (with_reducible exact LeO.refl _)
      | (with_reducible exact LeO.none _)
      | (with_reducible refine LeO.ite ?_ ?_)
      | (with_reducible refine LeO.bind ?_ (fun _ => ?_))
      | exact ih0 _ _ _
      | exact ih1 _ _ _
      | exact spec_l23At.mono _ _ _
      | exact LeO.none _
      | refine LeO.ite ?_ ?_
      | refine LeO.bind ?_ (fun _ => ?_)
theorem spec_JoinStock.mono : ∀ a0 a1 k, LeO (spec_JoinStock.f k a0 a1) (spec_JoinStock.f (k + 1) a0 a1) := by
  intro a0 a1 k
  obtain ⟨ih0, ih1⟩ := spec_JoinStock.mono_l k
  unfold spec_JoinStock.f
  repeat' first
      | (with_reducible exact ih0 _ _ _)
      | (with_reducible exact ih1 _ _ _)
      | (with_reducible exact spec_l23At.mono _ _ _)
      | (with_reducible exact LeO.refl _)
      | (with_reducible exact LeO.none _)
      | (with_reducible refine LeO.ite ?_ ?_)
      | (with_reducible refine LeO.bind ?_ (fun _ => ?_))
      | exact ih0 _ _ _
      | exact ih1 _ _ _
      | exact spec_l23At.mono _ _ _
      | exact LeO.none _
      | refine LeO.ite ?_ ?_
      | refine LeO.bind ?_ (fun _ => ?_)
def spec_JoinStock.T9 : Bool × List (List Nat × List Nat) := (true, [([], []), ([], []), ([0, 1], [0, 1]), ([2], [2]), ([3], [3]), ([], []), ([], []), ([5, 6], [5, 6]), ([7], [7]), ([8], [8]), ([4, 9], [4, 9]), ([0, 1, 0, 1, 2, 3, 4, 5, 6, 7, 8, 9, 10], [0, 1]), ([11, 0, 1, 2, 3, 4, 5, 6, 7, 8, 9, 10], [11]), ([12, 10, 0, 1, 2, 3, 4, 5, 6, 7, 8, 9, 10], [10, 12])])
def spec_JoinStock.B9 : List Nat := [0, 0, 3, 7, 15, 0, 0, 96, 224, 480, 1023, 2047, 4095, 8191]
theorem spec_JoinStock.tab9 : rtab .any (opsOf Tryd.f40 9) = spec_JoinStock.T9 := by kernel_rfl
theorem spec_JoinStock.bits9 : waitsOk spec_JoinStock.T9.2 spec_JoinStock.B9 = true := by kernel_rfl
def spec_JoinStock.T10 : Bool × List (List Nat × List Nat) := (true, [([], []), ([], []), ([0, 1], [0, 1]), ([2], [2]), ([3], [3]), ([], []), ([], []), ([5, 6], [5, 6]), ([7], [7]), ([8], [8]), ([4, 9], [4, 9]), ([0, 1, 0, 1, 2, 3, 4, 5, 6, 7, 8, 9, 10], [0, 1]), ([11, 0, 1, 2, 3, 4, 5, 6, 7, 8, 9, 10], [11]), ([12, 10, 0, 1, 2, 3, 4, 5, 6, 7, 8, 9, 10], [10, 12])])
def spec_JoinStock.B10 : List Nat := [0, 0, 3, 7, 15, 0, 0, 96, 224, 480, 1023, 2047, 4095, 8191]
theorem spec_JoinStock.tab10 : rtab .any (opsOf Tryd.f40 10) = spec_JoinStock.T10 := by kernel_rfl
theorem spec_JoinStock.bits10 : waitsOk spec_JoinStock.T10.2 spec_JoinStock.B10 = true := by kernel_rfl
def spec_JoinStock.T11 : Bool × List (List Nat × List Nat) := (true, [([], []), ([], []), ([], []), ([], []), ([2, 3], [2, 3]), ([4], [4]), ([5], [5]), ([], []), ([], []), ([7, 8], [7, 8]), ([9], [9]), ([10], [10]), ([6, 11], [6, 11]), ([0, 1, 0, 1, 2, 3, 4, 5, 6, 7, 8, 9, 10, 11, 12], [0, 1]), ([13, 0, 1, 2, 3, 4, 5, 6, 7, 8, 9, 10, 11, 12], [13]), ([14, 12, 12, 0, 1, 2, 3, 4, 5, 6, 7, 8, 9, 10, 11, 12], [12, 14])])
def spec_JoinStock.B11 : List Nat := [0, 0, 0, 0, 12, 28, 60, 0, 0, 384, 896, 1920, 4092, 8191, 16383, 32767]
theorem spec_JoinStock.tab11 : rtab .any (opsOf Tryd.f40 11) = spec_JoinStock.T11 := by kernel_rfl
theorem spec_JoinStock.bits11 : waitsOk spec_JoinStock.T11.2 spec_JoinStock.B11 = true := by kernel_rfl
set_option maxHeartbeats 8000000 in
set_option maxRecDepth 100000 in
theorem spec_JoinStock.calls (k : Nat) (A0 : Option Addr) (c0 : Nat) (l0 : List (S34)) (A1 : Option Addr) (c1 : Nat) (l1 : List (S34)) (r1 : List (S34)) (r2 : Int) (w : World) (hr0 : Kd.C k34 w A0 l0.length l0) (hc0 : l0.length ≤ c0) (hr1 : Kd.C k34 w A1 l1.length l1) (hc1 : l1.length ≤ c1) (h : spec_JoinStock.f k l0 l1 = some (r1, r2)) :
    Calls Tryd.prog 40 #[.slice A0 l0.length c0, .slice A1 l1.length c1] w fun e w' => ∃ v0_ : Value, e = .returned (.tuple #[v0_, .int .i64 r2]) ∧ Kd.R k34 34 w' w.heap.size (fun _ => True) v0_ r1 ∧ Below w.heap.size w w' := by
  have hu34 := Tryd.underlying34
  have HR0 := Aside0.mk hr0
  have HC0 := Aside0.mk hc0
  clear hr0 hc0
  have HR1 := Aside0.mk hr1
  have HC1 := Aside0.mk hc1
  clear hr1 hc1
  have HB := Aside0.mk (Below.refl w.heap.size w)
  have H : ((spec_l23Ok.f l0).bind fun t333 => (if t333 = true then ((spec_l23Ok.f l1).bind fun t334 => (spec_JoinStock.j0 k l0 l1 (!t334))) else (spec_JoinStock.j0 k l0 l1 true))) = some (r1, r2) := h
  clear h
  have HC3 := Aside0.mk H
  clear H
  go_enter Tryd.func40, Tryd.ntmps40
  go_upto_region 1 with (fail)
  go_cut [17] (fun v17 wc => ∃ (kq : Nat) (x17_2 : Bool), v17 = .bool x17_2 ∧ Aside0 (spec_JoinStock.j0 kq l0 l1 x17_2 = some (r1, r2)) ∧ Aside0 (kq ≤ k) ∧ Aside0 (Below w.heap.size w wc))
  case first =>
    have H := HC3.out
    clear HC3
    replace H := Option.bind_eq_some_iff.mp H
    obtain ⟨t333, A40, H⟩ := H
    replace H : (if t333 = true then ((spec_l23Ok.f l1).bind fun t334 => (spec_JoinStock.j0 k l0 l1 (!t334))) else (spec_JoinStock.j0 k l0 l1 true)) = some (r1, r2) := H
    have A4 := Aside0.mk A40
    clear A40
    by_cases c5 : t333 = true
    · subst c5
      have H1 : ((spec_l23Ok.f l1).bind fun t334 => (spec_JoinStock.j0 k l0 l1 (!t334))) = some (r1, r2) := by rw [if_pos rfl] at H; exact H
      clear H
      have H := H1
      clear H1
      replace H := Option.bind_eq_some_iff.mp H
      obtain ⟨t334, A60, H⟩ := H
      replace H : (spec_JoinStock.j0 k l0 l1 (!t334)) = some (r1, r2) := H
      have A6 := Aside0.mk A60
      clear A60
      have H' := Aside0.mk H
      clear H
      go_wp2_with (first | ((with_reducible refine gate_callee (f := 100) rfl ?_); refine goesL_ (some 11) rfl rfl Tryd.func100 (by kernel_rfl) rfl #[.slice A0 l0.length c0] rfl (by (try simp only [List.map_toArray, List.map_cons, List.map_nil]); first | done | rfl | (simp only [List.length_drop, List.length_take]; rfl)) ?_; (with_reducible refine (spec_l23Ok.calls _ _ l0 true _ ?side1 ?side2 A4.out).mono ?_); (case side1 => repeat (first | exact (Kd.C_below HR0.out HB.out) | (with_reducible refine Kd.C_alloc ?_ _) | (with_reducible refine Kd.C_drewN ?_ _) | (with_reducible refine Kd.C_drew ?_))); (case side2 => exact HC0.out); rintro e w7 ⟨rfl, hb⟩; refine ⟨_, rfl, ?_⟩; have n0_ := Aside0.mk (below_step (by repeat (first | (with_reducible first | exact HB.out | apply below_alloc | apply pw_below_drewN | apply below_drew1) | exact HB.out)) hb); clear HB; have HB := n0_; clear n0_; (try clear hb); (try clear hb2); (try clear hk); (try clear hi)) | (go_at_call 100; (with_reducible refine (spec_l23Ok.calls _ _ l1 t334 _ ?side1 ?side2 A6.out).mono ?_); (case side1 => repeat (first | exact (Kd.C_below HR1.out HB.out) | (with_reducible refine Kd.C_alloc ?_ _) | (with_reducible refine Kd.C_drewN ?_ _) | (with_reducible refine Kd.C_drew ?_))); (case side2 => exact HC1.out); rintro e w8 ⟨rfl, hb⟩; have n0_ := Aside0.mk (below_step (by repeat (first | (with_reducible first | exact HB.out | apply below_alloc | apply pw_below_drewN | apply below_drew1) | exact HB.out)) hb); clear HB; have HB := n0_; clear n0_; (try clear hb); (try clear hb2); (try clear hk); (try clear hi)))
      go_meet
      case rel => exact ⟨_, (!t334), (by first | rfl | (simp; done) | (simp [*]; done)), H', ⟨by first | omega | exact Nat.le_refl _⟩, ⟨by repeat (first | (with_reducible first | exact HB.out | apply below_alloc | apply pw_below_drewN | apply below_drew1) | exact HB.out)⟩⟩
    · replace c5 := Bool.eq_false_iff.mpr c5
      subst c5
      have H1 : (spec_JoinStock.j0 k l0 l1 true) = some (r1, r2) := by rw [if_neg (show ¬ (false = true) by decide)] at H; exact H
      clear H
      have H := H1
      clear H1
      have H' := Aside0.mk H
      clear H
      go_wp2_with (first | ((with_reducible refine gate_callee (f := 100) rfl ?_); refine goesL_ (some 11) rfl rfl Tryd.func100 (by kernel_rfl) rfl #[.slice A0 l0.length c0] rfl (by (try simp only [List.map_toArray, List.map_cons, List.map_nil]); first | done | rfl | (simp only [List.length_drop, List.length_take]; rfl)) ?_; (with_reducible refine (spec_l23Ok.calls _ _ l0 false _ ?side1 ?side2 A4.out).mono ?_); (case side1 => repeat (first | exact (Kd.C_below HR0.out HB.out) | (with_reducible refine Kd.C_alloc ?_ _) | (with_reducible refine Kd.C_drewN ?_ _) | (with_reducible refine Kd.C_drew ?_))); (case side2 => exact HC0.out); rintro e w9 ⟨rfl, hb⟩; refine ⟨_, rfl, ?_⟩; have n0_ := Aside0.mk (below_step (by repeat (first | (with_reducible first | exact HB.out | apply below_alloc | apply pw_below_drewN | apply below_drew1) | exact HB.out)) hb); clear HB; have HB := n0_; clear n0_; (try clear hb); (try clear hb2); (try clear hk); (try clear hi)))
      go_meet
      case rel => exact ⟨_, (true), (by first | rfl | (simp; done) | (simp [*]; done)), H', ⟨by first | omega | exact Nat.le_refl _⟩, ⟨by repeat (first | (with_reducible first | exact HB.out | apply below_alloc | apply pw_below_drewN | apply below_drew1) | exact HB.out)⟩⟩
  case rest =>
    clear HC3
    try clear c1
    try clear p2
    try clear c4
    try clear c5
    obtain ⟨kq, x17_2, rfl, HA, HJ2, HB⟩ := hcut
    cases kq with
    | zero => exact absurd HA.out (by simp [spec_JoinStock.j0])
    | succ kj2 =>
      have H := HA.out
      clear HA
      simp only [spec_JoinStock.j0] at H
      by_cases c10 : x17_2 = true
      · subst c10
        have H1 : (some (([] : List (S34)), 1)) = some (r1, r2) := by rw [if_pos rfl] at H; exact H
        clear H
        have H := H1
        clear H1
        simp only [Option.some.injEq, Prod.mk.injEq] at H
        obtain ⟨rfl, rfl⟩ := H
        go_wp2
        go_ret2
        exact ⟨_, by first | rfl | (simp [errW_none, errW_some] <;> rfl) | (simp [*, errW_none, errW_some] <;> rfl), by first | exact Kd.R_nil _ _ _ _ _ | exact Kd.N_nil _ _ _ _ _ | exact Kd.V_nil _ _ _ _ _ | exact Kd.Q_nil _ _ _ _ _ | exact Kd.S_nil _ _ _ _ _, by repeat (first | (with_reducible first | exact HB.out | apply below_alloc | apply pw_below_drewN | apply below_drew1) | exact HB.out)⟩
      · replace c10 := Bool.eq_false_iff.mpr c10
        subst c10
        have H1 : ((some (([] : List (S34)) : List (S34))).bind fun y335 => (if y335.length + l0.length < 3518437208883 then (spec_JoinStock.l0 kj2 l1 (y335 ++ l0) 0) else (none))) = some (r1, r2) := by rw [if_neg (show ¬ (false = true) by decide)] at H; exact H
        clear H
        have H := H1
        clear H1
        obtain ⟨y335, hy335⟩ : ∃ y_ : List (S34), y_ = (([] : List (S34))) := ⟨_, rfl⟩
        replace H : (if y335.length + l0.length < 3518437208883 then (spec_JoinStock.l0 kj2 l1 (y335 ++ l0) 0) else (none)) = some (r1, r2) := by first | (rw [hy335]; with_reducible exact H) | (have H2_ := (Option.bind_some _ _).symm.trans H; rw [hy335]; with_reducible exact H2_) | (have H2_ := (Option.bind_some _ _).symm.trans H; with_reducible exact H2_) | with_reducible exact H | (rw [hy335]; exact H) | exact H
        have Ny335 := Aside0.mk hy335
        clear hy335
        by_cases c11 : y335.length + l0.length < 3518437208883
        · rw [if_pos c11] at H
          have LMc11 := Aside0.mk c11
          clear c11
          obtain ⟨y338, hy338⟩ : ∃ y_ : List (S34), y_ = (y335 ++ l0) := ⟨_, rfl⟩
          replace H : (spec_JoinStock.l0 kj2 l1 y338 0) = some (r1, r2) := by first | (rw [hy338]; with_reducible exact H) | (have H2_ := (Option.bind_some _ _).symm.trans H; rw [hy338]; with_reducible exact H2_) | (have H2_ := (Option.bind_some _ _).symm.trans H; with_reducible exact H2_) | with_reducible exact H | (rw [hy338]; exact H) | exact H
          have Ny338 := Aside0.mk hy338
          clear hy338
          have H' := Aside0.mk H
          clear H
          go_wp2_with (first | ((with_reducible refine gate_dst (N := 18) rfl ?_); refine Kd.R_lit k34 _ 34 ?hg (N := 18) ?hd (xs := ([] : List (S34))) (inner := []) (ok := fun _ => True) (okp := fun _ => True) ?hr ?hp (fun _ hk => hk) trivial (Below.refl _ _) (Nat.le_refl _) (by simp) ?_; (case hd => rfl); (case hg => rfl); (case hr => first | (go_simp; done) | (go_simp; rfl)); (case hp => exact (Reps.none _ _)); intro v336 w12 ho13 hb hg_ hnew_; clear hg_ hnew_; (first | rw [← Ny335.out] at ho13 | (simp only [Int.reduceToNat] at ho13; rw [← Ny335.out] at ho13)); have n0_ := Aside0.mk (Kd.R_lower ho13 (below_size (by repeat (first | (with_reducible first | exact HB.out | apply below_alloc | apply pw_below_drewN | apply below_drew1) | exact HB.out)))); have n1_ := Aside0.mk (below_step (by repeat (first | (with_reducible first | exact HB.out | apply below_alloc | apply pw_below_drewN | apply below_drew1) | exact HB.out)) hb); clear HB; have HO337 := n0_; have HB := n1_; clear n0_ n1_; clear hb ho13) | ((with_reducible refine gate_builtin (b := .append) (xs := #[.tmp 18, .tmp 19]) rfl ?_); at_builtin; refine Kd.R_append_rows k34 (w0 := w) w.heap.size rfl (.tmp 18) (.tmp 19) 24 34 (.agg #[(.string ⟨#[]⟩), (.int .i64 0), (.int .i64 0), (.int .i64 0)]) 40 rfl Tryd.underlying24 info34 rfl (by decide) (by omega) v336 y335 l0 _ _ _ (fun _ => True) (fun _ => False) rfl rfl ?aO ?aR (fun _ _ h => h) (fun _ h => h.elim) ?aF ?aB ?aS ?aL ?_; (case aR => repeat (first | exact (Kd.C_below HR0.out HB.out) | (with_reducible refine Kd.C_alloc ?_ _) | (with_reducible refine Kd.C_drewN ?_ _) | (with_reducible refine Kd.C_drew ?_))); (case aB => exact (by repeat (first | (with_reducible first | exact HB.out | apply below_alloc | apply pw_below_drewN | apply below_drew1) | exact HB.out))); (case aF => exact (fun _ _ => trivial)); (case aO => exact (by (with_reducible repeat (first | apply Kd.R_alloc | apply Kd.R_drewN | apply Kd.R_drew)); exact HO337.out)); (case aS => exact (below_size (by repeat (first | (with_reducible first | exact HB.out | apply below_alloc | apply pw_below_drewN | apply below_drew1) | exact HB.out)))); (case aL => have := LMc11.out; omega); intro v339 w14 ho hb hg hat; rw [← Ny338.out] at ho; have n0_ := Aside0.mk (hb); have n1_ := Aside0.mk (ho); clear HB; clear HO337; have HB := n0_; have HO340 := n1_; clear n0_ n1_; clear ho hb hg hat))
          go_loopg [6, 7] kj2 (fun kq v6 v7 w' => ∃ (x6_2 : List (S34)) (x7_2 : Int), v7 = .int .i64 x7_2 ∧ Aside0 (spec_JoinStock.l0 kq l1 x6_2 x7_2 = some (r1, r2)) ∧ Aside0 (kq ≤ kj2) ∧ Aside0 (Kd.R k34 34 w' w.heap.size (fun _ => True) v6 x6_2) ∧ Aside0 (Below w.heap.size w w'))
          case atStart => exact ⟨(y338), (0), (by first | rfl | (simp; done) | (simp [*]; done)), H', ⟨Nat.le_refl _⟩, ⟨by (with_reducible repeat (first | apply Kd.R_alloc | apply Kd.R_drewN | apply Kd.R_drew)); exact HO340.out⟩, ⟨by repeat (first | (with_reducible first | exact HB.out | apply below_alloc | apply pw_below_drewN | apply below_drew1) | exact HB.out)⟩⟩
          case round =>
            clear H'
            try clear c1
            try clear p2
            try clear c4
            try clear c5
            try clear c10
            try clear c11
            try clear p2
            obtain ⟨x6_2, x7_2, rfl, HA, HK2, HO_6, HB⟩ := hrel
            cases gk with
            | zero => exact absurd HA.out (by simp [spec_JoinStock.l0])
            | succ k2 =>
              have H := HA.out
              clear HA
              simp only [spec_JoinStock.l0] at H
              by_cases c15 : x7_2 < (l1.length : Int)
              · rw [if_pos c15] at H
                have c15b0 : decide (x7_2 < (l1.length : Int)) = true := decide_eq_true c15
                clear c15
                by_cases c16 : 0 ≤ x7_2
                · rw [if_pos c16] at H
                  have c16b0 : decide (0 ≤ x7_2) = true := decide_eq_true c16
                  clear c16
                  replace H := Option.bind_eq_some_iff.mp H
                  obtain ⟨t343, A170, H⟩ := H
                  replace H : ((spec_l23Is.f x6_2 t343 ((rd_T34 l1 x7_2).f0)).bind fun t345 => (if t345 = true then (if 0 ≤ t343 then (if t343 < (x6_2.length : Int) then ((some (x6_2.set (t343 : Int).toNat (⟨(rd_T34 x6_2 t343).f0, wrap64 (((rd_T34 x6_2 t343).f1) + ((rd_T34 l1 x7_2).f1)), (rd_T34 x6_2 t343).f2, (rd_T34 x6_2 t343).f3⟩ : S34) : List (S34))).bind fun y348 => ((some (y348.set (t343 : Int).toNat (⟨(rd_T34 y348 t343).f0, (rd_T34 y348 t343).f1, wrap64 (((rd_T34 y348 t343).f2) + ((rd_T34 l1 x7_2).f2)), (rd_T34 y348 t343).f3⟩ : S34) : List (S34))).bind fun y351 => ((spec_l00Min.f ((rd_T34 y351 t343).f3) ((rd_T34 l1 x7_2).f3)).bind fun t354 => (spec_JoinStock.l0 k2 l1 (y351.set (t343 : Int).toNat (⟨(rd_T34 y351 t343).f0, (rd_T34 y351 t343).f1, (rd_T34 y351 t343).f2, t354⟩ : S34)) (wrap64 (x7_2 + 1)))))) else (none)) else (none)) else ((some (([] : List (S34)) : List (S34))).bind fun y356 => (if 0 ≤ t343 then (if t343 ≤ (x6_2.length : Int) then ((some (x6_2.take (t343 : Int).toNat : List (S34))).bind fun y359 => (if y356.length + y359.length < 3518437208883 then ((some (y356 ++ y359 : List (S34))).bind fun y363 => (if y363.length < 3518437208883 then ((some (y363 ++ [(⟨(rd_T34 l1 x7_2).f0, (rd_T34 l1 x7_2).f1, (rd_T34 l1 x7_2).f2, (rd_T34 l1 x7_2).f3⟩ : S34)] : List (S34))).bind fun y367 => ((some (x6_2.drop (t343 : Int).toNat : List (S34))).bind fun y370 => (if y367.length + y370.length < 3518437208883 then (spec_JoinStock.l0 k2 l1 (y367 ++ y370) (wrap64 (x7_2 + 1))) else (none)))) else (none))) else (none))) else (none)) else (none))))) = some (r1, r2) := H
                  have A17 := Aside0.mk A170
                  clear A170
                  replace H := Option.bind_eq_some_iff.mp H
                  obtain ⟨t345, A180, H⟩ := H
                  replace H : (if t345 = true then (if 0 ≤ t343 then (if t343 < (x6_2.length : Int) then ((some (x6_2.set (t343 : Int).toNat (⟨(rd_T34 x6_2 t343).f0, wrap64 (((rd_T34 x6_2 t343).f1) + ((rd_T34 l1 x7_2).f1)), (rd_T34 x6_2 t343).f2, (rd_T34 x6_2 t343).f3⟩ : S34) : List (S34))).bind fun y348 => ((some (y348.set (t343 : Int).toNat (⟨(rd_T34 y348 t343).f0, (rd_T34 y348 t343).f1, wrap64 (((rd_T34 y348 t343).f2) + ((rd_T34 l1 x7_2).f2)), (rd_T34 y348 t343).f3⟩ : S34) : List (S34))).bind fun y351 => ((spec_l00Min.f ((rd_T34 y351 t343).f3) ((rd_T34 l1 x7_2).f3)).bind fun t354 => (spec_JoinStock.l0 k2 l1 (y351.set (t343 : Int).toNat (⟨(rd_T34 y351 t343).f0, (rd_T34 y351 t343).f1, (rd_T34 y351 t343).f2, t354⟩ : S34)) (wrap64 (x7_2 + 1)))))) else (none)) else (none)) else ((some (([] : List (S34)) : List (S34))).bind fun y356 => (if 0 ≤ t343 then (if t343 ≤ (x6_2.length : Int) then ((some (x6_2.take (t343 : Int).toNat : List (S34))).bind fun y359 => (if y356.length + y359.length < 3518437208883 then ((some (y356 ++ y359 : List (S34))).bind fun y363 => (if y363.length < 3518437208883 then ((some (y363 ++ [(⟨(rd_T34 l1 x7_2).f0, (rd_T34 l1 x7_2).f1, (rd_T34 l1 x7_2).f2, (rd_T34 l1 x7_2).f3⟩ : S34)] : List (S34))).bind fun y367 => ((some (x6_2.drop (t343 : Int).toNat : List (S34))).bind fun y370 => (if y367.length + y370.length < 3518437208883 then (spec_JoinStock.l0 k2 l1 (y367 ++ y370) (wrap64 (x7_2 + 1))) else (none)))) else (none))) else (none))) else (none)) else (none)))) = some (r1, r2) := H
                  have A18 := Aside0.mk A180
                  clear A180
                  by_cases c19 : t345 = true
                  · subst c19
                    have H1 : (if 0 ≤ t343 then (if t343 < (x6_2.length : Int) then ((some (x6_2.set (t343 : Int).toNat (⟨(rd_T34 x6_2 t343).f0, wrap64 (((rd_T34 x6_2 t343).f1) + ((rd_T34 l1 x7_2).f1)), (rd_T34 x6_2 t343).f2, (rd_T34 x6_2 t343).f3⟩ : S34) : List (S34))).bind fun y348 => ((some (y348.set (t343 : Int).toNat (⟨(rd_T34 y348 t343).f0, (rd_T34 y348 t343).f1, wrap64 (((rd_T34 y348 t343).f2) + ((rd_T34 l1 x7_2).f2)), (rd_T34 y348 t343).f3⟩ : S34) : List (S34))).bind fun y351 => ((spec_l00Min.f ((rd_T34 y351 t343).f3) ((rd_T34 l1 x7_2).f3)).bind fun t354 => (spec_JoinStock.l0 k2 l1 (y351.set (t343 : Int).toNat (⟨(rd_T34 y351 t343).f0, (rd_T34 y351 t343).f1, (rd_T34 y351 t343).f2, t354⟩ : S34)) (wrap64 (x7_2 + 1)))))) else (none)) else (none)) = some (r1, r2) := by rw [if_pos rfl] at H; exact H
                    clear H
                    have H := H1
                    clear H1
                    by_cases c20 : 0 ≤ t343
                    · rw [if_pos c20] at H
                      have c20b0 : decide (0 ≤ t343) = true := decide_eq_true c20
                      clear c20
                      by_cases c21 : t343 < (x6_2.length : Int)
                      · rw [if_pos c21] at H
                        have c21b0 : decide (t343 < (x6_2.length : Int)) = true := decide_eq_true c21
                        clear c21
                        obtain ⟨y348, hy348⟩ : ∃ y_ : List (S34), y_ = (x6_2.set (t343 : Int).toNat (⟨(rd_T34 x6_2 t343).f0, wrap64 (((rd_T34 x6_2 t343).f1) + ((rd_T34 l1 x7_2).f1)), (rd_T34 x6_2 t343).f2, (rd_T34 x6_2 t343).f3⟩ : S34)) := ⟨_, rfl⟩
                        replace H : ((some (y348.set (t343 : Int).toNat (⟨(rd_T34 y348 t343).f0, (rd_T34 y348 t343).f1, wrap64 (((rd_T34 y348 t343).f2) + ((rd_T34 l1 x7_2).f2)), (rd_T34 y348 t343).f3⟩ : S34) : List (S34))).bind fun y351 => ((spec_l00Min.f ((rd_T34 y351 t343).f3) ((rd_T34 l1 x7_2).f3)).bind fun t354 => (spec_JoinStock.l0 k2 l1 (y351.set (t343 : Int).toNat (⟨(rd_T34 y351 t343).f0, (rd_T34 y351 t343).f1, (rd_T34 y351 t343).f2, t354⟩ : S34)) (wrap64 (x7_2 + 1))))) = some (r1, r2) := by first | (rw [hy348]; with_reducible exact H) | (have H2_ := (Option.bind_some _ _).symm.trans H; rw [hy348]; with_reducible exact H2_) | (have H2_ := (Option.bind_some _ _).symm.trans H; with_reducible exact H2_) | with_reducible exact H | (rw [hy348]; exact H) | exact H
                        have Ny348 := Aside0.mk hy348
                        clear hy348
                        obtain ⟨y351, hy351⟩ : ∃ y_ : List (S34), y_ = (y348.set (t343 : Int).toNat (⟨(rd_T34 y348 t343).f0, (rd_T34 y348 t343).f1, wrap64 (((rd_T34 y348 t343).f2) + ((rd_T34 l1 x7_2).f2)), (rd_T34 y348 t343).f3⟩ : S34)) := ⟨_, rfl⟩
                        replace H : ((spec_l00Min.f ((rd_T34 y351 t343).f3) ((rd_T34 l1 x7_2).f3)).bind fun t354 => (spec_JoinStock.l0 k2 l1 (y351.set (t343 : Int).toNat (⟨(rd_T34 y351 t343).f0, (rd_T34 y351 t343).f1, (rd_T34 y351 t343).f2, t354⟩ : S34)) (wrap64 (x7_2 + 1)))) = some (r1, r2) := by first | (rw [hy351]; with_reducible exact H) | (have H2_ := (Option.bind_some _ _).symm.trans H; rw [hy351]; with_reducible exact H2_) | (have H2_ := (Option.bind_some _ _).symm.trans H; with_reducible exact H2_) | with_reducible exact H | (rw [hy351]; exact H) | exact H
                        have Ny351 := Aside0.mk hy351
                        clear hy351
                        replace H := Option.bind_eq_some_iff.mp H
                        obtain ⟨t354, A240, H⟩ := H
                        replace H : (spec_JoinStock.l0 k2 l1 (y351.set (t343 : Int).toNat (⟨(rd_T34 y351 t343).f0, (rd_T34 y351 t343).f1, (rd_T34 y351 t343).f2, t354⟩ : S34)) (wrap64 (x7_2 + 1))) = some (r1, r2) := H
                        have A24 := Aside0.mk A240
                        clear A240
                        obtain ⟨y355, hy355⟩ : ∃ y_ : List (S34), y_ = (y351.set (t343 : Int).toNat (⟨(rd_T34 y351 t343).f0, (rd_T34 y351 t343).f1, (rd_T34 y351 t343).f2, t354⟩ : S34)) := ⟨_, rfl⟩
                        replace H : (spec_JoinStock.l0 k2 l1 y355 (wrap64 (x7_2 + 1))) = some (r1, r2) := by first | (rw [hy355]; with_reducible exact H) | (have H2_ := (Option.bind_some _ _).symm.trans H; rw [hy355]; with_reducible exact H2_) | (have H2_ := (Option.bind_some _ _).symm.trans H; with_reducible exact H2_) | with_reducible exact H | (rw [hy355]; exact H) | exact H
                        have Ny355 := Aside0.mk hy355
                        clear hy355
                        have H' := Aside0.mk H
                        clear H
                        have p342 : 0 ≤ (x7_2 : Int) := of_decide_eq_true (by first | (with_reducible assumption) | assumption)
                        have q342 : x7_2 < (l1.length : Int) := of_decide_eq_true (by first | (with_reducible assumption) | assumption)
                        obtain ⟨ad342, e342, hx342_0, hx342_1, hx342_2, hx342_3⟩ := at_T34 HR1.out x7_2 p342 q342
                        cases e342
                        replace hx342_0 := (HB.out.cell (World.block_lt_of_cell? w _ hx342_0)).trans hx342_0
                        replace hx342_1 := (HB.out.cell (World.block_lt_of_cell? w _ hx342_1)).trans hx342_1
                        replace hx342_2 := (HB.out.cell (World.block_lt_of_cell? w _ hx342_2)).trans hx342_2
                        replace hx342_3 := (HB.out.cell (World.block_lt_of_cell? w _ hx342_3)).trans hx342_3
                        replace p342 := eq_true p342
                        replace q342 := eq_true q342
                        obtain ⟨Ao26, co26, eo26⟩ := Kd.R_slice HO_6.out
                        subst eo26
                        try go_wp2_with (first | ((with_reducible refine gate_callee (f := 123) rfl ?_); refine goesL_ (some 33) rfl rfl Tryd.func123 (by kernel_rfl) rfl #[.slice Ao26 x6_2.length co26, .string ((rd_T34 l1 x7_2).f0)] rfl (by (try simp only [List.map_toArray, List.map_cons, List.map_nil]); first | done | rfl | (simp only [List.length_drop, List.length_take]; rfl)) ?_; (with_reducible refine (spec_l23At.calls k2 _ _ x6_2 ((rd_T34 l1 x7_2).f0) t343 _ ?side1 ?side2 A17.out).mono ?_); (case side1 => repeat (first | exact (Kd.R_reads' HO_6.out).2.2 | (with_reducible refine Kd.C_alloc ?_ _) | (with_reducible refine Kd.C_drewN ?_ _) | (with_reducible refine Kd.C_drew ?_))); (case side2 => exact (Kd.R_reads' HO_6.out).2.1); rintro e w' ⟨rfl, ⟨nd, rfl⟩⟩; refine ⟨_, rfl, ?_⟩; (try (rw [drewN_self wr]; generalize hq_ : World.drewN wr _ = wr; have n0_ : Aside0 (Kd.R k34 34 wr w.heap.size (fun _ => True) (.slice Ao26 x6_2.length co26) x6_2) := ⟨by rw [← hq_]; exact (by (with_reducible repeat (first | apply Kd.R_alloc | apply Kd.R_drewN | apply Kd.R_drew)); exact HO_6.out)⟩; have n1_ : Aside0 (Below w.heap.size w wr) := ⟨by rw [← hq_]; exact (by repeat (first | (with_reducible first | exact HB.out | apply below_alloc | apply pw_below_drewN | apply below_drew1) | exact HB.out))⟩; clear HO_6 HB hq_; have HO_6 := n0_; have HB := n1_; clear n0_ n1_)); have p344 : 0 ≤ (x7_2 : Int) := of_decide_eq_true (by first | (with_reducible assumption) | assumption); have q344 : x7_2 < (l1.length : Int) := of_decide_eq_true (by first | (with_reducible assumption) | assumption); obtain ⟨ad344, e344, hx344_0, hx344_1, hx344_2, hx344_3⟩ := at_T34 HR1.out x7_2 p344 q344; obtain rfl : ad342 = ad344 := (by injection e344); replace hx344_0 := (HB.out.cell (World.block_lt_of_cell? w _ hx344_0)).trans hx344_0; replace hx344_1 := (HB.out.cell (World.block_lt_of_cell? w _ hx344_1)).trans hx344_1; replace hx344_2 := (HB.out.cell (World.block_lt_of_cell? w _ hx344_2)).trans hx344_2; replace hx344_3 := (HB.out.cell (World.block_lt_of_cell? w _ hx344_3)).trans hx344_3; replace p344 := eq_true p344; replace q344 := eq_true q344) | ((with_reducible refine gate_callee (f := 124) rfl ?_); refine goesL_ (some 41) rfl rfl Tryd.func124 (by kernel_rfl) rfl #[.slice Ao26 x6_2.length co26, .int .i64 t343, .string ((rd_T34 l1 x7_2).f0)] rfl (by (try simp only [List.map_toArray, List.map_cons, List.map_nil]); first | done | rfl | (simp only [List.length_drop, List.length_take]; rfl)) ?_; (with_reducible refine (spec_l23Is.calls _ _ x6_2 t343 ((rd_T34 l1 x7_2).f0) true _ ?side1 ?side2 A18.out).mono ?_); (case side1 => repeat (first | exact (Kd.R_reads' HO_6.out).2.2 | (with_reducible refine Kd.C_alloc ?_ _) | (with_reducible refine Kd.C_drewN ?_ _) | (with_reducible refine Kd.C_drew ?_))); (case side2 => exact (Kd.R_reads' HO_6.out).2.1); rintro e w' ⟨rfl, ⟨nd, rfl⟩⟩; refine ⟨_, rfl, ?_⟩; (try (rw [drewN_self wr]; generalize hq_ : World.drewN wr _ = wr; have n0_ : Aside0 (Kd.R k34 34 wr w.heap.size (fun _ => True) (.slice Ao26 x6_2.length co26) x6_2) := ⟨by rw [← hq_]; exact (by (with_reducible repeat (first | apply Kd.R_alloc | apply Kd.R_drewN | apply Kd.R_drew)); exact HO_6.out)⟩; have n1_ : Aside0 (Below w.heap.size w wr) := ⟨by rw [← hq_]; exact (by repeat (first | (with_reducible first | exact HB.out | apply below_alloc | apply pw_below_drewN | apply below_drew1) | exact HB.out))⟩; clear HO_6 HB hq_; have HO_6 := n0_; have HB := n1_; clear n0_ n1_))))
                        have n0_ := Aside0.mk (Kd.R_drew HO_6.out)
                        have n1_ := Aside0.mk (below_drew1 HB.out)
                        clear HO_6
                        clear HB
                        have HO_6 := n0_
                        have HB := n1_
                        clear n0_ n1_
                        have p346 : 0 ≤ (t343 : Int) := of_decide_eq_true (by first | (with_reducible assumption) | assumption)
                        have q346 : t343 < (x6_2.length : Int) := of_decide_eq_true (by first | (with_reducible assumption) | assumption)
                        obtain ⟨ad346, e346, hx346_0, hx346_1, hx346_2, hx346_3⟩ := at_T34 (Kd.R_reads' HO_6.out).2.2 t343 p346 q346
                        cases e346
                        replace p346 := eq_true p346
                        replace q346 := eq_true q346
                        have p347 : 0 ≤ (x7_2 : Int) := of_decide_eq_true (by first | (with_reducible assumption) | assumption)
                        have q347 : x7_2 < (l1.length : Int) := of_decide_eq_true (by first | (with_reducible assumption) | assumption)
                        obtain ⟨ad347, e347, hx347_0, hx347_1, hx347_2, hx347_3⟩ := at_T34 HR1.out x7_2 p347 q347
                        have hw347_3 := hx347_3
                        have hw347_2 := hx347_2
                        have hw347_1 := hx347_1
                        have hw347_0 := hx347_0
                        obtain rfl : ad342 = ad347 := (by injection e347)
                        replace hx347_0 := (HB.out.cell (World.block_lt_of_cell? w _ hx347_0)).trans hx347_0
                        replace hx347_1 := (HB.out.cell (World.block_lt_of_cell? w _ hx347_1)).trans hx347_1
                        replace hx347_2 := (HB.out.cell (World.block_lt_of_cell? w _ hx347_2)).trans hx347_2
                        replace hx347_3 := (HB.out.cell (World.block_lt_of_cell? w _ hx347_3)).trans hx347_3
                        replace p347 := eq_true p347
                        replace q347 := eq_true q347
                        have p22 : 0 ≤ (t343 : Int) := of_decide_eq_true (by first | (with_reducible assumption) | assumption)
                        have q22 : (t343 : Int) < ((x6_2.length : Int) : Int) := of_decide_eq_true (by first | (with_reducible assumption) | assumption)
                        obtain ⟨go22, co22, eo22, gb22, gl22, cl22, HG22⟩ := Kd.R_form HO_6.out (by omega)
                        (first | cases eo22 | (injection eo22 with ea_ en_ ec_; (first | subst ea_ | (injection ea_ with ea_; subst ea_)); subst ec_; clear en_))
                        have GB22 := Aside0.mk gb22
                        have GG22 := Aside0.mk HG22
                        clear gb22 gl22 HG22
                        (first | simp only [add_plain] at hx346_0 | skip)
                        (first | simp only [add_plain] at hx346_1 | skip)
                        (first | simp only [add_plain] at hx346_2 | skip)
                        (first | simp only [add_plain] at hx346_3 | skip)
                        obtain ⟨ce22, hcl22, hM22, hcc22, hfr22⟩ := Kd.R_elem HO_6.out z34 (t343 : Int) p22 q22
                        obtain rfl := k34_openM hM22
                        have hx22_0 : World.cell? _ ⟨go22, (t343 : Int).toNat * 4, none⟩ = some (.string ((rd_T34 x6_2 t343).f0)) := hcc22 0 _ rfl
                        have hx22_1 : World.cell? _ ⟨go22, (t343 : Int).toNat * 4 + 1, none⟩ = some (.int .i64 ((rd_T34 x6_2 t343).f1)) := hcc22 1 _ rfl
                        have hx22_2 : World.cell? _ ⟨go22, (t343 : Int).toNat * 4 + 2, none⟩ = some (.int .i64 ((rd_T34 x6_2 t343).f2)) := hcc22 2 _ rfl
                        have hx22_3 : World.cell? _ ⟨go22, (t343 : Int).toNat * 4 + 3, none⟩ = some (.int .i64 ((rd_T34 x6_2 t343).f3)) := hcc22 3 _ rfl
                        have hf22_0 : World.frozen? _ ⟨go22, (t343 : Int).toNat * 4, none⟩ = false := hfr22 0
                        have hf22_1 : World.frozen? _ ⟨go22, (t343 : Int).toNat * 4 + 1, none⟩ = false := hfr22 1
                        have hf22_2 : World.frozen? _ ⟨go22, (t343 : Int).toNat * 4 + 2, none⟩ = false := hfr22 2
                        have hf22_3 : World.frozen? _ ⟨go22, (t343 : Int).toNat * 4 + 3, none⟩ = false := hfr22 3
                        clear hcl22 hcc22 hfr22 hM22
                        replace p22 := eq_true p22
                        replace q22 := eq_true q22
                        obtain ⟨ce28, hcl28, hM28, hcc28, hfr28⟩ := Kd.R_elem HO_6.out z34 (t343 : Int) (of_decide_eq_true (by first | (with_reducible assumption) | assumption)) (by have h_ : (t343 : Int) < ((x6_2.length : Int) : Int) := of_decide_eq_true (by first | (with_reducible assumption) | assumption); first | exact h_ | (have e_ := (Kd.R_reads' HO_6.out).1; omega) | simpa using h_)
                        obtain rfl := k34_openM hM28
                        have HP28 := (Kd.R_seg HO_6.out (t343 : Int) (of_decide_eq_true (by first | (with_reducible assumption) | assumption)) (by have h_ : (t343 : Int) < ((x6_2.length : Int) : Int) := of_decide_eq_true (by first | (with_reducible assumption) | assumption); first | exact h_ | (have e_ := (Kd.R_reads' HO_6.out).1; omega) | simpa using h_) (seg := [.int .i64 (wrap64 (((rd_T34 x6_2 t343).f1) + ((rd_T34 l1 x7_2).f1)))]) (j := 1) hcl28 hcc28 (show 2 ≤ 4 from by decide) (x' := (⟨(rd_T34 x6_2 t343).f0, wrap64 (((rd_T34 x6_2 t343).f1) + ((rd_T34 l1 x7_2).f1)), (rd_T34 x6_2 t343).f2, (rd_T34 x6_2 t343).f3⟩ : S34)) (k34_mkM _ _ _ (⟨(rd_T34 x6_2 t343).f0, wrap64 (((rd_T34 x6_2 t343).f1) + ((rd_T34 l1 x7_2).f1)), (rd_T34 x6_2 t343).f2, (rd_T34 x6_2 t343).f3⟩ : S34) ) (fun _ hk => hk)).1
                        rw [← Ny348.out] at HP28
                        have HQ28 := Aside0.mk HP28
                        clear hcl28 hcc28 hfr28 hM28 HP28
                        refine start_ (n := 14) (S := fun w' => w'.cell? ⟨go22, ((t343).toNat * 4), none⟩ = some (.string ((rd_T34 x6_2 t343).f0)) ∧ w'.cell? ⟨go22, ((t343).toNat * 4) + 1, none⟩ = some (.int .i64 ((rd_T34 x6_2 t343).f1)) ∧ w'.cell? ⟨go22, ((t343).toNat * 4) + 2, none⟩ = some (.int .i64 ((rd_T34 x6_2 t343).f2)) ∧ w'.cell? ⟨go22, ((t343).toNat * 4) + 3, none⟩ = some (.int .i64 ((rd_T34 x6_2 t343).f3)) ∧ w'.cell? (ad342.add ((x7_2).toNat * 4)) = some (.string ((rd_T34 l1 x7_2).f0)) ∧ w'.cell? ⟨(ad342.add ((x7_2).toNat * 4)).block, (ad342.add ((x7_2).toNat * 4)).off + 1, none⟩ = some (.int .i64 ((rd_T34 l1 x7_2).f1)) ∧ w'.cell? ⟨(ad342.add ((x7_2).toNat * 4)).block, (ad342.add ((x7_2).toNat * 4)).off + 2, none⟩ = some (.int .i64 ((rd_T34 l1 x7_2).f2)) ∧ w'.cell? ⟨(ad342.add ((x7_2).toNat * 4)).block, (ad342.add ((x7_2).toNat * 4)).off + 3, none⟩ = some (.int .i64 ((rd_T34 l1 x7_2).f3))) (ds := [13]) #[false, false, false, false, false, false, false, false, false, false, false, false, false, false] (by kernel_rfl) rfl rfl ⟨hx346_0, hx346_1, hx346_2, hx346_3, ((HB.out.cell (World.block_lt_of_cell? w _ hw347_0)).trans hw347_0), ((HB.out.cell (World.block_lt_of_cell? w _ hw347_1)).trans hw347_1), ((HB.out.cell (World.block_lt_of_cell? w _ hw347_2)).trans hw347_2), ((HB.out.cell (World.block_lt_of_cell? w _ hw347_3)).trans hw347_3)⟩ (fun hHeld => ?_); refine with_tabW spec_JoinStock.tab9 spec_JoinStock.bits9 (fun HT_ HW_ => ?_)
                        generalize wr.drew = w27 at HO_6 HB GG22 HQ28 hf22_0 hf22_1 hf22_2 hf22_3 hx22_0 hx22_1 hx22_2 hx22_3 hx346_0 hx346_1 hx346_2 hx346_3 hx347_0 hx347_1 hx347_2 hx347_3 hHeld ⊢
                        refine pure_ (i := 0) (N := some 42) (v := ?_) (a' := ?_) #[true, false, false, false, false, false, false, false, false, false, false, false, false, false] rfl rfl (any_of HT_.out (by kernel_rfl)) (fun _ _ _ h => h) (Or.inl ⟨by rfl, ?_⟩) ?_ ?_
                        rotate_left
                        · intro w'
                          go_simp
                          with_reducible rfl
                        rotate_left
                        · simp only [Act.put, List.setIfInBounds_toArray, List.set_cons_zero, List.set_cons_succ, i64_w, i32_w]
                          rfl
                        refine pure_ (i := 1) (N := some 43) (v := ?_) (a' := ?_) #[true, true, false, false, false, false, false, false, false, false, false, false, false, false] rfl rfl (any_of HT_.out (by kernel_rfl)) (fun _ _ _ h => h) (Or.inl ⟨by rfl, ?_⟩) ?_ ?_
                        rotate_left
                        · intro w'
                          go_simp
                          with_reducible rfl
                        rotate_left
                        · simp only [Act.put, List.setIfInBounds_toArray, List.set_cons_zero, List.set_cons_succ, i64_w, i32_w]
                          rfl
                        refine pure_ (i := 2) (N := some 44) (v := ?_) (a' := ?_) #[true, true, true, false, false, false, false, false, false, false, false, false, false, false] rfl rfl (any_of HT_.out (by kernel_rfl)) (fun _ _ _ h => h) (Or.inl ⟨by rfl, ?_⟩) ?_ ?_
                        rotate_left
                        · intro w'
                          go_simp
                          with_reducible rfl
                        rotate_left
                        · simp only [Act.put, List.setIfInBounds_toArray, List.set_cons_zero, List.set_cons_succ, i64_w, i32_w]
                          rfl
                        refine pure_ (i := 3) (N := some 45) (v := ?_) (a' := ?_) #[true, true, true, true, false, false, false, false, false, false, false, false, false, false] rfl rfl (any_of HT_.out (by kernel_rfl)) (fun _ _ _ h => h) (Or.inl ⟨by rfl, ?_⟩) ?_ ?_
                        rotate_left
                        · intro w'
                          go_simp
                          with_reducible rfl
                        rotate_left
                        · simp only [Act.put, List.setIfInBounds_toArray, List.set_cons_zero, List.set_cons_succ, i64_w, i32_w]
                          rfl
                        refine pure_ (i := 5) (N := some 47) (v := ?_) (a' := ?_) #[true, true, true, true, false, true, false, false, false, false, false, false, false, false] rfl rfl (any_of HT_.out (by kernel_rfl)) (fun _ _ _ h => h) (Or.inl ⟨by rfl, ?_⟩) ?_ ?_
                        rotate_left
                        · intro w'
                          go_simp
                          with_reducible rfl
                        rotate_left
                        · simp only [Act.put, List.setIfInBounds_toArray, List.set_cons_zero, List.set_cons_succ, i64_w, i32_w]
                          rfl
                        refine pure_ (i := 6) (N := some 48) (v := ?_) (a' := ?_) #[true, true, true, true, false, true, true, false, false, false, false, false, false, false] rfl rfl (any_of HT_.out (by kernel_rfl)) (fun _ _ _ h => h) (Or.inl ⟨by rfl, ?_⟩) ?_ ?_
                        rotate_left
                        · intro w'
                          go_simp
                          with_reducible rfl
                        rotate_left
                        · simp only [Act.put, List.setIfInBounds_toArray, List.set_cons_zero, List.set_cons_succ, i64_w, i32_w]
                          rfl
                        refine pure_ (i := 7) (N := some 49) (v := ?_) (a' := ?_) #[true, true, true, true, false, true, true, true, false, false, false, false, false, false] rfl rfl (any_of HT_.out (by kernel_rfl)) (fun _ _ _ h => h) (Or.inl ⟨by rfl, ?_⟩) ?_ ?_
                        rotate_left
                        · intro w'
                          go_simp
                          with_reducible rfl
                        rotate_left
                        · simp only [Act.put, List.setIfInBounds_toArray, List.set_cons_zero, List.set_cons_succ, i64_w, i32_w]
                          rfl
                        refine pure_ (i := 8) (N := some 50) (v := ?_) (a' := ?_) #[true, true, true, true, false, true, true, true, true, false, false, false, false, false] rfl rfl (any_of HT_.out (by kernel_rfl)) (fun _ _ _ h => h) (Or.inl ⟨by rfl, ?_⟩) ?_ ?_
                        rotate_left
                        · intro w'
                          go_simp
                          with_reducible rfl
                        rotate_left
                        · simp only [Act.put, List.setIfInBounds_toArray, List.set_cons_zero, List.set_cons_succ, i64_w, i32_w]
                          rfl
                        refine take_ (i := 4) (N := some 46) (v := ?_) (a' := ?_) #[true, true, true, true, true, true, true, true, true, false, false, false, false, false] rfl rfl (take_ofW HT_.out HW_.out (by kernel_rfl)) (fun _ _ _ h => h) (Or.inl ⟨by rfl, ?_⟩) hHeld ?_ ?_
                        rotate_left
                        · rintro w' ⟨s0, s1, s2, s3, s4, s5, s6, s7⟩
                          go_simp
                          with_reducible rfl
                        rotate_left
                        · simp only [Act.put, List.setIfInBounds_toArray, List.set_cons_zero, List.set_cons_succ, i64_w, i32_w]
                          rfl
                        refine take_ (i := 9) (N := some 51) (v := ?_) (a' := ?_) #[true, true, true, true, true, true, true, true, true, true, false, false, false, false] rfl rfl (take_ofW HT_.out HW_.out (by kernel_rfl)) (fun _ _ _ h => h) (Or.inl ⟨by rfl, ?_⟩) hHeld ?_ ?_
                        rotate_left
                        · rintro w' ⟨s0, s1, s2, s3, s4, s5, s6, s7⟩
                          go_simp
                          with_reducible rfl
                        rotate_left
                        · simp only [Act.put, List.setIfInBounds_toArray, List.set_cons_zero, List.set_cons_succ, i64_w, i32_w]
                          rfl
                        refine pure_ (i := 10) (N := some 52) (v := ?_) (a' := ?_) #[true, true, true, true, true, true, true, true, true, true, true, false, false, false] rfl rfl (any_of HT_.out (by kernel_rfl)) (fun _ _ _ h => h) (Or.inl ⟨by rfl, ?_⟩) ?_ ?_
                        rotate_left
                        · intro w'
                          go_simp
                          with_reducible rfl
                        rotate_left
                        · simp only [Act.put, List.setIfInBounds_toArray, List.set_cons_zero, List.set_cons_succ, i64_w, i32_w]
                          rfl
                        refine pure_ (i := 11) (N := some 53) (v := ?_) (a' := ?_) #[true, true, true, true, true, true, true, true, true, true, true, true, false, false] rfl rfl (any_of HT_.out (by kernel_rfl)) (fun _ _ _ h => h) (Or.inl ⟨by rfl, ?_⟩) ?_ ?_
                        rotate_left
                        · intro w'
                          go_simp
                          with_reducible rfl
                        rotate_left
                        · simp only [Act.put, List.setIfInBounds_toArray, List.set_cons_zero, List.set_cons_succ, i64_w, i32_w]
                          rfl
                        refine pure_ (i := 12) (N := some 54) (v := ?_) (a' := ?_) #[true, true, true, true, true, true, true, true, true, true, true, true, true, false] rfl rfl (any_of HT_.out (by kernel_rfl)) (fun _ _ _ h => h) (Or.inl ⟨by rfl, ?_⟩) ?_ ?_
                        rotate_left
                        · intro w'
                          go_simp
                          with_reducible rfl
                        rotate_left
                        · simp only [Act.put, List.setIfInBounds_toArray, List.set_cons_zero, List.set_cons_succ, i64_w, i32_w]
                          rfl
                        refine last_ (i := 13) (N := none) #[true, true, true, true, true, true, true, true, true, true, true, true, true, true] rfl rfl (one_of HT_.out (by kernel_rfl)) (by decide) (fun K hK => ?_)
                        refine skip_ (w1 := ?_) (by rfl) rfl ?_ ?_
                        rotate_left
                        · go_simp
                          rfl
                        refine hK.out _ _ ?_
                        clear hK K
                        refine done_ (done_of HT_.out (by kernel_rfl)) ?_
                        try go_wp2
                        have n0_ : Aside0 (Kd.R k34 34 (w27.setCell ⟨go22, (t343 : Int).toNat * 4 + 1, none⟩ (.int .i64 (wrap64 (((rd_T34 x6_2 t343).f1) + ((rd_T34 l1 x7_2).f1))))) w.heap.size (fun _ => True) (.slice (some ⟨go22, 0, none⟩) x6_2.length co26) y348) := ⟨by (with_reducible repeat (first | apply Kd.R_alloc | apply Kd.R_drewN | apply Kd.R_drew)); exact HQ28.out⟩
                        have n1_ : Aside0 (Below w.heap.size w (w27.setCell ⟨go22, (t343 : Int).toNat * 4 + 1, none⟩ (.int .i64 (wrap64 (((rd_T34 x6_2 t343).f1) + ((rd_T34 l1 x7_2).f1)))))) := ⟨by repeat (first | (with_reducible first | exact HB.out | apply below_alloc | apply pw_below_drewN | apply below_drew1 | refine below_set ?_ GB22.out) | exact HB.out)⟩
                        (try clear HO_6)
                        (try clear HB)
                        generalize (w27.setCell ⟨go22, (t343 : Int).toNat * 4 + 1, none⟩ (.int .i64 (wrap64 (((rd_T34 x6_2 t343).f1) + ((rd_T34 l1 x7_2).f1))))) = w29 at n0_ n1_ ⊢
                        have HO_6 := n0_
                        have HB := n1_
                        clear n0_ n1_
                        have n0_ := Aside0.mk (Kd.R_drew HO_6.out)
                        have n1_ := Aside0.mk (below_drew1 HB.out)
                        clear HO_6
                        clear HB
                        have HO_6 := n0_
                        have HB := n1_
                        clear n0_ n1_
                        have p349 : 0 ≤ (t343 : Int) := of_decide_eq_true (by first | (with_reducible assumption) | assumption)
                        have q349 : t343 < (y348.length : Int) := (by have h_ : (t343 : Int) < ((x6_2.length : Int) : Int) := of_decide_eq_true (by first | (with_reducible assumption) | assumption); first | (have e_ := (Kd.R_reads' HO_6.out).1; omega) | simpa only [Ny348.out, List.length_set] using h_)
                        have ql349 : ((t343 : Int) < ((x6_2.length : Int) : Int)) = True := eq_true (of_decide_eq_true (by first | (with_reducible assumption) | assumption))
                        obtain ⟨ad349, e349, hx349_0, hx349_1, hx349_2, hx349_3⟩ := at_T34 (Kd.R_reads' HO_6.out).2.2 t343 p349 q349
                        obtain rfl : (⟨go22, 0, none⟩ : Addr) = ad349 := (by injection e349)
                        (first | simp only [add_plain] at hx349_0 | simp only [add_at] at hx349_0 | simp only [Addr.add, Nat.zero_add] at hx349_0 | skip)
                        (first | simp only [add_plain] at hx349_1 | simp only [add_at] at hx349_1 | simp only [Addr.add, Nat.zero_add] at hx349_1 | skip)
                        (first | simp only [add_plain] at hx349_2 | simp only [add_at] at hx349_2 | simp only [Addr.add, Nat.zero_add] at hx349_2 | skip)
                        (first | simp only [add_plain] at hx349_3 | simp only [add_at] at hx349_3 | simp only [Addr.add, Nat.zero_add] at hx349_3 | skip)
                        replace p349 := eq_true p349
                        replace q349 := eq_true q349
                        have p350 : 0 ≤ (x7_2 : Int) := of_decide_eq_true (by first | (with_reducible assumption) | assumption)
                        have q350 : x7_2 < (l1.length : Int) := of_decide_eq_true (by first | (with_reducible assumption) | assumption)
                        obtain ⟨ad350, e350, hx350_0, hx350_1, hx350_2, hx350_3⟩ := at_T34 HR1.out x7_2 p350 q350
                        have hw350_3 := hx350_3
                        have hw350_2 := hx350_2
                        have hw350_1 := hx350_1
                        have hw350_0 := hx350_0
                        obtain rfl : ad342 = ad350 := (by injection e350)
                        replace hx350_0 := (HB.out.cell (World.block_lt_of_cell? w _ hx350_0)).trans hx350_0
                        replace hx350_1 := (HB.out.cell (World.block_lt_of_cell? w _ hx350_1)).trans hx350_1
                        replace hx350_2 := (HB.out.cell (World.block_lt_of_cell? w _ hx350_2)).trans hx350_2
                        replace hx350_3 := (HB.out.cell (World.block_lt_of_cell? w _ hx350_3)).trans hx350_3
                        replace p350 := eq_true p350
                        replace q350 := eq_true q350
                        have p23 : 0 ≤ (t343 : Int) := of_decide_eq_true (by first | (with_reducible assumption) | assumption)
                        have q23 : (t343 : Int) < ((x6_2.length : Int) : Int) := of_decide_eq_true (by first | (with_reducible assumption) | assumption)
                        obtain ⟨ce23, hcl23, hM23, hcc23, hfr23⟩ := Kd.R_elem HO_6.out z34 (t343 : Int) p23 q23
                        obtain rfl := k34_openM hM23
                        have hx23_0 : World.cell? _ ⟨go22, (t343 : Int).toNat * 4, none⟩ = some (.string ((rd_T34 y348 t343).f0)) := hcc23 0 _ rfl
                        have hx23_1 : World.cell? _ ⟨go22, (t343 : Int).toNat * 4 + 1, none⟩ = some (.int .i64 ((rd_T34 y348 t343).f1)) := hcc23 1 _ rfl
                        have hx23_2 : World.cell? _ ⟨go22, (t343 : Int).toNat * 4 + 2, none⟩ = some (.int .i64 ((rd_T34 y348 t343).f2)) := hcc23 2 _ rfl
                        have hx23_3 : World.cell? _ ⟨go22, (t343 : Int).toNat * 4 + 3, none⟩ = some (.int .i64 ((rd_T34 y348 t343).f3)) := hcc23 3 _ rfl
                        have hf23_0 : World.frozen? _ ⟨go22, (t343 : Int).toNat * 4, none⟩ = false := hfr23 0
                        have hf23_1 : World.frozen? _ ⟨go22, (t343 : Int).toNat * 4 + 1, none⟩ = false := hfr23 1
                        have hf23_2 : World.frozen? _ ⟨go22, (t343 : Int).toNat * 4 + 2, none⟩ = false := hfr23 2
                        have hf23_3 : World.frozen? _ ⟨go22, (t343 : Int).toNat * 4 + 3, none⟩ = false := hfr23 3
                        clear hcl23 hcc23 hfr23 hM23
                        replace p23 := eq_true p23
                        replace q23 := eq_true q23
                        obtain ⟨ce31, hcl31, hM31, hcc31, hfr31⟩ := Kd.R_elem HO_6.out z34 (t343 : Int) (of_decide_eq_true (by first | (with_reducible assumption) | assumption)) (by have h_ : (t343 : Int) < ((x6_2.length : Int) : Int) := of_decide_eq_true (by first | (with_reducible assumption) | assumption); first | exact h_ | (have e_ := (Kd.R_reads' HO_6.out).1; omega) | simpa using h_)
                        obtain rfl := k34_openM hM31
                        have HP31 := (Kd.R_seg HO_6.out (t343 : Int) (of_decide_eq_true (by first | (with_reducible assumption) | assumption)) (by have h_ : (t343 : Int) < ((x6_2.length : Int) : Int) := of_decide_eq_true (by first | (with_reducible assumption) | assumption); first | exact h_ | (have e_ := (Kd.R_reads' HO_6.out).1; omega) | simpa using h_) (seg := [.int .i64 (wrap64 (((rd_T34 y348 t343).f2) + ((rd_T34 l1 x7_2).f2)))]) (j := 2) hcl31 hcc31 (show 3 ≤ 4 from by decide) (x' := (⟨(rd_T34 y348 t343).f0, (rd_T34 y348 t343).f1, wrap64 (((rd_T34 y348 t343).f2) + ((rd_T34 l1 x7_2).f2)), (rd_T34 y348 t343).f3⟩ : S34)) (k34_mkM _ _ _ (⟨(rd_T34 y348 t343).f0, (rd_T34 y348 t343).f1, wrap64 (((rd_T34 y348 t343).f2) + ((rd_T34 l1 x7_2).f2)), (rd_T34 y348 t343).f3⟩ : S34) ) (fun _ hk => hk)).1
                        rw [← Ny351.out] at HP31
                        have HQ31 := Aside0.mk HP31
                        clear hcl31 hcc31 hfr31 hM31 HP31
                        refine start_ (n := 14) (S := fun w' => w'.cell? ⟨go22, (t343).toNat * 4, none⟩ = some (.string ((rd_T34 y348 t343).f0)) ∧ w'.cell? ⟨go22, (t343).toNat * 4 + 1, none⟩ = some (.int .i64 ((rd_T34 y348 t343).f1)) ∧ w'.cell? ⟨go22, (t343).toNat * 4 + 2, none⟩ = some (.int .i64 ((rd_T34 y348 t343).f2)) ∧ w'.cell? ⟨go22, (t343).toNat * 4 + 3, none⟩ = some (.int .i64 ((rd_T34 y348 t343).f3)) ∧ w'.cell? (ad342.add ((x7_2).toNat * 4)) = some (.string ((rd_T34 l1 x7_2).f0)) ∧ w'.cell? ⟨(ad342.add ((x7_2).toNat * 4)).block, (ad342.add ((x7_2).toNat * 4)).off + 1, none⟩ = some (.int .i64 ((rd_T34 l1 x7_2).f1)) ∧ w'.cell? ⟨(ad342.add ((x7_2).toNat * 4)).block, (ad342.add ((x7_2).toNat * 4)).off + 2, none⟩ = some (.int .i64 ((rd_T34 l1 x7_2).f2)) ∧ w'.cell? ⟨(ad342.add ((x7_2).toNat * 4)).block, (ad342.add ((x7_2).toNat * 4)).off + 3, none⟩ = some (.int .i64 ((rd_T34 l1 x7_2).f3))) (ds := [13]) #[false, false, false, false, false, false, false, false, false, false, false, false, false, false] (by kernel_rfl) rfl rfl ⟨hx349_0, hx349_1, hx349_2, hx349_3, ((HB.out.cell (World.block_lt_of_cell? w _ hw350_0)).trans hw350_0), ((HB.out.cell (World.block_lt_of_cell? w _ hw350_1)).trans hw350_1), ((HB.out.cell (World.block_lt_of_cell? w _ hw350_2)).trans hw350_2), ((HB.out.cell (World.block_lt_of_cell? w _ hw350_3)).trans hw350_3)⟩ (fun hHeld => ?_); refine with_tabW spec_JoinStock.tab10 spec_JoinStock.bits10 (fun HT_ HW_ => ?_)
                        generalize w29.drew = w30 at HO_6 HB HQ28 HQ31 hf23_0 hf23_1 hf23_2 hf23_3 hx23_0 hx23_1 hx23_2 hx23_3 hx349_0 hx349_1 hx349_2 hx349_3 hx350_0 hx350_1 hx350_2 hx350_3 hHeld ⊢
                        refine pure_ (i := 0) (N := some 55) (v := ?_) (a' := ?_) #[true, false, false, false, false, false, false, false, false, false, false, false, false, false] rfl rfl (any_of HT_.out (by kernel_rfl)) (fun _ _ _ h => h) (Or.inl ⟨by rfl, ?_⟩) ?_ ?_
                        rotate_left
                        · intro w'
                          go_simp
                          with_reducible rfl
                        rotate_left
                        · simp only [Act.put, List.setIfInBounds_toArray, List.set_cons_zero, List.set_cons_succ, i64_w, i32_w]
                          rfl
                        refine pure_ (i := 1) (N := some 56) (v := ?_) (a' := ?_) #[true, true, false, false, false, false, false, false, false, false, false, false, false, false] rfl rfl (any_of HT_.out (by kernel_rfl)) (fun _ _ _ h => h) (Or.inl ⟨by rfl, ?_⟩) ?_ ?_
                        rotate_left
                        · intro w'
                          go_simp
                          with_reducible rfl
                        rotate_left
                        · simp only [Act.put, List.setIfInBounds_toArray, List.set_cons_zero, List.set_cons_succ, i64_w, i32_w]
                          rfl
                        refine pure_ (i := 2) (N := some 57) (v := ?_) (a' := ?_) #[true, true, true, false, false, false, false, false, false, false, false, false, false, false] rfl rfl (any_of HT_.out (by kernel_rfl)) (fun _ _ _ h => h) (Or.inl ⟨by rfl, ?_⟩) ?_ ?_
                        rotate_left
                        · intro w'
                          go_simp
                          with_reducible rfl
                        rotate_left
                        · simp only [Act.put, List.setIfInBounds_toArray, List.set_cons_zero, List.set_cons_succ, i64_w, i32_w]
                          rfl
                        refine pure_ (i := 3) (N := some 58) (v := ?_) (a' := ?_) #[true, true, true, true, false, false, false, false, false, false, false, false, false, false] rfl rfl (any_of HT_.out (by kernel_rfl)) (fun _ _ _ h => h) (Or.inl ⟨by rfl, ?_⟩) ?_ ?_
                        rotate_left
                        · intro w'
                          go_simp
                          with_reducible rfl
                        rotate_left
                        · simp only [Act.put, List.setIfInBounds_toArray, List.set_cons_zero, List.set_cons_succ, i64_w, i32_w]
                          rfl
                        refine pure_ (i := 5) (N := some 60) (v := ?_) (a' := ?_) #[true, true, true, true, false, true, false, false, false, false, false, false, false, false] rfl rfl (any_of HT_.out (by kernel_rfl)) (fun _ _ _ h => h) (Or.inl ⟨by rfl, ?_⟩) ?_ ?_
                        rotate_left
                        · intro w'
                          go_simp
                          with_reducible rfl
                        rotate_left
                        · simp only [Act.put, List.setIfInBounds_toArray, List.set_cons_zero, List.set_cons_succ, i64_w, i32_w]
                          rfl
                        refine pure_ (i := 6) (N := some 61) (v := ?_) (a' := ?_) #[true, true, true, true, false, true, true, false, false, false, false, false, false, false] rfl rfl (any_of HT_.out (by kernel_rfl)) (fun _ _ _ h => h) (Or.inl ⟨by rfl, ?_⟩) ?_ ?_
                        rotate_left
                        · intro w'
                          go_simp
                          with_reducible rfl
                        rotate_left
                        · simp only [Act.put, List.setIfInBounds_toArray, List.set_cons_zero, List.set_cons_succ, i64_w, i32_w]
                          rfl
                        refine pure_ (i := 7) (N := some 62) (v := ?_) (a' := ?_) #[true, true, true, true, false, true, true, true, false, false, false, false, false, false] rfl rfl (any_of HT_.out (by kernel_rfl)) (fun _ _ _ h => h) (Or.inl ⟨by rfl, ?_⟩) ?_ ?_
                        rotate_left
                        · intro w'
                          go_simp
                          with_reducible rfl
                        rotate_left
                        · simp only [Act.put, List.setIfInBounds_toArray, List.set_cons_zero, List.set_cons_succ, i64_w, i32_w]
                          rfl
                        refine pure_ (i := 8) (N := some 63) (v := ?_) (a' := ?_) #[true, true, true, true, false, true, true, true, true, false, false, false, false, false] rfl rfl (any_of HT_.out (by kernel_rfl)) (fun _ _ _ h => h) (Or.inl ⟨by rfl, ?_⟩) ?_ ?_
                        rotate_left
                        · intro w'
                          go_simp
                          with_reducible rfl
                        rotate_left
                        · simp only [Act.put, List.setIfInBounds_toArray, List.set_cons_zero, List.set_cons_succ, i64_w, i32_w]
                          rfl
                        refine take_ (i := 4) (N := some 59) (v := ?_) (a' := ?_) #[true, true, true, true, true, true, true, true, true, false, false, false, false, false] rfl rfl (take_ofW HT_.out HW_.out (by kernel_rfl)) (fun _ _ _ h => h) (Or.inl ⟨by rfl, ?_⟩) hHeld ?_ ?_
                        rotate_left
                        · rintro w' ⟨s0, s1, s2, s3, s4, s5, s6, s7⟩
                          go_simp
                          with_reducible rfl
                        rotate_left
                        · simp only [Act.put, List.setIfInBounds_toArray, List.set_cons_zero, List.set_cons_succ, i64_w, i32_w]
                          rfl
                        refine take_ (i := 9) (N := some 64) (v := ?_) (a' := ?_) #[true, true, true, true, true, true, true, true, true, true, false, false, false, false] rfl rfl (take_ofW HT_.out HW_.out (by kernel_rfl)) (fun _ _ _ h => h) (Or.inl ⟨by rfl, ?_⟩) hHeld ?_ ?_
                        rotate_left
                        · rintro w' ⟨s0, s1, s2, s3, s4, s5, s6, s7⟩
                          go_simp
                          with_reducible rfl
                        rotate_left
                        · simp only [Act.put, List.setIfInBounds_toArray, List.set_cons_zero, List.set_cons_succ, i64_w, i32_w]
                          rfl
                        refine pure_ (i := 10) (N := some 65) (v := ?_) (a' := ?_) #[true, true, true, true, true, true, true, true, true, true, true, false, false, false] rfl rfl (any_of HT_.out (by kernel_rfl)) (fun _ _ _ h => h) (Or.inl ⟨by rfl, ?_⟩) ?_ ?_
                        rotate_left
                        · intro w'
                          go_simp
                          with_reducible rfl
                        rotate_left
                        · simp only [Act.put, List.setIfInBounds_toArray, List.set_cons_zero, List.set_cons_succ, i64_w, i32_w]
                          rfl
                        refine pure_ (i := 11) (N := some 66) (v := ?_) (a' := ?_) #[true, true, true, true, true, true, true, true, true, true, true, true, false, false] rfl rfl (any_of HT_.out (by kernel_rfl)) (fun _ _ _ h => h) (Or.inl ⟨by rfl, ?_⟩) ?_ ?_
                        rotate_left
                        · intro w'
                          go_simp
                          with_reducible rfl
                        rotate_left
                        · simp only [Act.put, List.setIfInBounds_toArray, List.set_cons_zero, List.set_cons_succ, i64_w, i32_w]
                          rfl
                        refine pure_ (i := 12) (N := some 67) (v := ?_) (a' := ?_) #[true, true, true, true, true, true, true, true, true, true, true, true, true, false] rfl rfl (any_of HT_.out (by kernel_rfl)) (fun _ _ _ h => h) (Or.inl ⟨by rfl, ?_⟩) ?_ ?_
                        rotate_left
                        · intro w'
                          go_simp
                          with_reducible rfl
                        rotate_left
                        · simp only [Act.put, List.setIfInBounds_toArray, List.set_cons_zero, List.set_cons_succ, i64_w, i32_w]
                          rfl
                        refine last_ (i := 13) (N := none) #[true, true, true, true, true, true, true, true, true, true, true, true, true, true] rfl rfl (one_of HT_.out (by kernel_rfl)) (by decide) (fun K hK => ?_)
                        refine skip_ (w1 := ?_) (by rfl) rfl ?_ ?_
                        rotate_left
                        · go_simp
                          rfl
                        refine hK.out _ _ ?_
                        clear hK K
                        refine done_ (done_of HT_.out (by kernel_rfl)) ?_
                        try go_wp2
                        have n0_ : Aside0 (Kd.R k34 34 (w30.setCell ⟨go22, (t343 : Int).toNat * 4 + 2, none⟩ (.int .i64 (wrap64 (((rd_T34 y348 t343).f2) + ((rd_T34 l1 x7_2).f2))))) w.heap.size (fun _ => True) (.slice (some ⟨go22, 0, none⟩) x6_2.length co26) y351) := ⟨by (with_reducible repeat (first | apply Kd.R_alloc | apply Kd.R_drewN | apply Kd.R_drew)); exact HQ31.out⟩
                        have n1_ : Aside0 (Below w.heap.size w (w30.setCell ⟨go22, (t343 : Int).toNat * 4 + 2, none⟩ (.int .i64 (wrap64 (((rd_T34 y348 t343).f2) + ((rd_T34 l1 x7_2).f2)))))) := ⟨by repeat (first | (with_reducible first | exact HB.out | apply below_alloc | apply pw_below_drewN | apply below_drew1 | refine below_set ?_ GB22.out) | exact HB.out)⟩
                        (try clear HO_6)
                        (try clear HB)
                        generalize (w30.setCell ⟨go22, (t343 : Int).toNat * 4 + 2, none⟩ (.int .i64 (wrap64 (((rd_T34 y348 t343).f2) + ((rd_T34 l1 x7_2).f2))))) = w32 at n0_ n1_ ⊢
                        have HO_6 := n0_
                        have HB := n1_
                        clear n0_ n1_
                        have n0_ := Aside0.mk (Kd.R_drew HO_6.out)
                        have n1_ := Aside0.mk (below_drew1 HB.out)
                        clear HO_6
                        clear HB
                        have HO_6 := n0_
                        have HB := n1_
                        clear n0_ n1_
                        have p352 : 0 ≤ (t343 : Int) := of_decide_eq_true (by first | (with_reducible assumption) | assumption)
                        have q352 : t343 < (y351.length : Int) := (by have h_ : (t343 : Int) < ((x6_2.length : Int) : Int) := of_decide_eq_true (by first | (with_reducible assumption) | assumption); first | (have e_ := (Kd.R_reads' HO_6.out).1; omega) | simpa only [Ny348.out, Ny351.out, List.length_set] using h_)
                        have ql352 : ((t343 : Int) < ((x6_2.length : Int) : Int)) = True := eq_true (of_decide_eq_true (by first | (with_reducible assumption) | assumption))
                        obtain ⟨ad352, e352, hx352_0, hx352_1, hx352_2, hx352_3⟩ := at_T34 (Kd.R_reads' HO_6.out).2.2 t343 p352 q352
                        obtain rfl : (⟨go22, 0, none⟩ : Addr) = ad352 := (by injection e352)
                        (first | simp only [add_plain] at hx352_0 | simp only [add_at] at hx352_0 | simp only [Addr.add, Nat.zero_add] at hx352_0 | skip)
                        (first | simp only [add_plain] at hx352_1 | simp only [add_at] at hx352_1 | simp only [Addr.add, Nat.zero_add] at hx352_1 | skip)
                        (first | simp only [add_plain] at hx352_2 | simp only [add_at] at hx352_2 | simp only [Addr.add, Nat.zero_add] at hx352_2 | skip)
                        (first | simp only [add_plain] at hx352_3 | simp only [add_at] at hx352_3 | simp only [Addr.add, Nat.zero_add] at hx352_3 | skip)
                        replace p352 := eq_true p352
                        replace q352 := eq_true q352
                        have p353 : 0 ≤ (x7_2 : Int) := of_decide_eq_true (by first | (with_reducible assumption) | assumption)
                        have q353 : x7_2 < (l1.length : Int) := of_decide_eq_true (by first | (with_reducible assumption) | assumption)
                        obtain ⟨ad353, e353, hx353_0, hx353_1, hx353_2, hx353_3⟩ := at_T34 HR1.out x7_2 p353 q353
                        have hw353_3 := hx353_3
                        have hw353_2 := hx353_2
                        have hw353_1 := hx353_1
                        have hw353_0 := hx353_0
                        obtain rfl : ad342 = ad353 := (by injection e353)
                        replace hx353_0 := (HB.out.cell (World.block_lt_of_cell? w _ hx353_0)).trans hx353_0
                        replace hx353_1 := (HB.out.cell (World.block_lt_of_cell? w _ hx353_1)).trans hx353_1
                        replace hx353_2 := (HB.out.cell (World.block_lt_of_cell? w _ hx353_2)).trans hx353_2
                        replace hx353_3 := (HB.out.cell (World.block_lt_of_cell? w _ hx353_3)).trans hx353_3
                        replace p353 := eq_true p353
                        replace q353 := eq_true q353
                        refine start_ (n := 16) (S := fun w' => w'.cell? ⟨go22, (t343).toNat * 4, none⟩ = some (.string ((rd_T34 y351 t343).f0)) ∧ w'.cell? ⟨go22, (t343).toNat * 4 + 1, none⟩ = some (.int .i64 ((rd_T34 y351 t343).f1)) ∧ w'.cell? ⟨go22, (t343).toNat * 4 + 2, none⟩ = some (.int .i64 ((rd_T34 y351 t343).f2)) ∧ w'.cell? ⟨go22, (t343).toNat * 4 + 3, none⟩ = some (.int .i64 ((rd_T34 y351 t343).f3)) ∧ w'.cell? (ad342.add ((x7_2).toNat * 4)) = some (.string ((rd_T34 l1 x7_2).f0)) ∧ w'.cell? ⟨(ad342.add ((x7_2).toNat * 4)).block, (ad342.add ((x7_2).toNat * 4)).off + 1, none⟩ = some (.int .i64 ((rd_T34 l1 x7_2).f1)) ∧ w'.cell? ⟨(ad342.add ((x7_2).toNat * 4)).block, (ad342.add ((x7_2).toNat * 4)).off + 2, none⟩ = some (.int .i64 ((rd_T34 l1 x7_2).f2)) ∧ w'.cell? ⟨(ad342.add ((x7_2).toNat * 4)).block, (ad342.add ((x7_2).toNat * 4)).off + 3, none⟩ = some (.int .i64 ((rd_T34 l1 x7_2).f3))) (ds := [15]) #[false, false, false, false, false, false, false, false, false, false, false, false, false, false, false, false] (by kernel_rfl) rfl rfl ⟨hx352_0, hx352_1, hx352_2, hx352_3, ((HB.out.cell (World.block_lt_of_cell? w _ hw353_0)).trans hw353_0), ((HB.out.cell (World.block_lt_of_cell? w _ hw353_1)).trans hw353_1), ((HB.out.cell (World.block_lt_of_cell? w _ hw353_2)).trans hw353_2), ((HB.out.cell (World.block_lt_of_cell? w _ hw353_3)).trans hw353_3)⟩ (fun hHeld => ?_); refine with_tabW spec_JoinStock.tab11 spec_JoinStock.bits11 (fun HT_ HW_ => ?_)
                        generalize w32.drew = w33 at HO_6 HB HQ31 hx352_0 hx352_1 hx352_2 hx352_3 hx353_0 hx353_1 hx353_2 hx353_3 hHeld ⊢
                        refine pure_ (i := 0) (N := some 68) (v := ?_) (a' := ?_) #[true, false, false, false, false, false, false, false, false, false, false, false, false, false, false, false] rfl rfl (any_of HT_.out (by kernel_rfl)) (fun _ _ _ h => h) (Or.inl ⟨by rfl, ?_⟩) ?_ ?_
                        rotate_left
                        · intro w'
                          go_simp
                          with_reducible rfl
                        rotate_left
                        · simp only [Act.put, List.setIfInBounds_toArray, List.set_cons_zero, List.set_cons_succ, i64_w, i32_w]
                          rfl
                        refine pure_ (i := 1) (N := some 69) (v := ?_) (a' := ?_) #[true, true, false, false, false, false, false, false, false, false, false, false, false, false, false, false] rfl rfl (any_of HT_.out (by kernel_rfl)) (fun _ _ _ h => h) (Or.inl ⟨by rfl, ?_⟩) ?_ ?_
                        rotate_left
                        · intro w'
                          go_simp
                          with_reducible rfl
                        rotate_left
                        · simp only [Act.put, List.setIfInBounds_toArray, List.set_cons_zero, List.set_cons_succ, i64_w, i32_w]
                          rfl
                        refine pure_ (i := 2) (N := some 70) (v := ?_) (a' := ?_) #[true, true, true, false, false, false, false, false, false, false, false, false, false, false, false, false] rfl rfl (any_of HT_.out (by kernel_rfl)) (fun _ _ _ h => h) (Or.inl ⟨by rfl, ?_⟩) ?_ ?_
                        rotate_left
                        · intro w'
                          go_simp
                          with_reducible rfl
                        rotate_left
                        · simp only [Act.put, List.setIfInBounds_toArray, List.set_cons_zero, List.set_cons_succ, i64_w, i32_w]
                          rfl
                        refine pure_ (i := 3) (N := some 71) (v := ?_) (a' := ?_) #[true, true, true, true, false, false, false, false, false, false, false, false, false, false, false, false] rfl rfl (any_of HT_.out (by kernel_rfl)) (fun _ _ _ h => h) (Or.inl ⟨by rfl, ?_⟩) ?_ ?_
                        rotate_left
                        · intro w'
                          go_simp
                          with_reducible rfl
                        rotate_left
                        · simp only [Act.put, List.setIfInBounds_toArray, List.set_cons_zero, List.set_cons_succ, i64_w, i32_w]
                          rfl
                        refine pure_ (i := 4) (N := some 72) (v := ?_) (a' := ?_) #[true, true, true, true, true, false, false, false, false, false, false, false, false, false, false, false] rfl rfl (any_of HT_.out (by kernel_rfl)) (fun _ _ _ h => h) (Or.inl ⟨by rfl, ?_⟩) ?_ ?_
                        rotate_left
                        · intro w'
                          go_simp
                          with_reducible rfl
                        rotate_left
                        · simp only [Act.put, List.setIfInBounds_toArray, List.set_cons_zero, List.set_cons_succ, i64_w, i32_w]
                          rfl
                        refine pure_ (i := 5) (N := some 73) (v := ?_) (a' := ?_) #[true, true, true, true, true, true, false, false, false, false, false, false, false, false, false, false] rfl rfl (any_of HT_.out (by kernel_rfl)) (fun _ _ _ h => h) (Or.inl ⟨by rfl, ?_⟩) ?_ ?_
                        rotate_left
                        · intro w'
                          go_simp
                          with_reducible rfl
                        rotate_left
                        · simp only [Act.put, List.setIfInBounds_toArray, List.set_cons_zero, List.set_cons_succ, i64_w, i32_w]
                          rfl
                        refine pure_ (i := 7) (N := some 75) (v := ?_) (a' := ?_) #[true, true, true, true, true, true, false, true, false, false, false, false, false, false, false, false] rfl rfl (any_of HT_.out (by kernel_rfl)) (fun _ _ _ h => h) (Or.inl ⟨by rfl, ?_⟩) ?_ ?_
                        rotate_left
                        · intro w'
                          go_simp
                          with_reducible rfl
                        rotate_left
                        · simp only [Act.put, List.setIfInBounds_toArray, List.set_cons_zero, List.set_cons_succ, i64_w, i32_w]
                          rfl
                        refine pure_ (i := 8) (N := some 76) (v := ?_) (a' := ?_) #[true, true, true, true, true, true, false, true, true, false, false, false, false, false, false, false] rfl rfl (any_of HT_.out (by kernel_rfl)) (fun _ _ _ h => h) (Or.inl ⟨by rfl, ?_⟩) ?_ ?_
                        rotate_left
                        · intro w'
                          go_simp
                          with_reducible rfl
                        rotate_left
                        · simp only [Act.put, List.setIfInBounds_toArray, List.set_cons_zero, List.set_cons_succ, i64_w, i32_w]
                          rfl
                        refine pure_ (i := 9) (N := some 77) (v := ?_) (a' := ?_) #[true, true, true, true, true, true, false, true, true, true, false, false, false, false, false, false] rfl rfl (any_of HT_.out (by kernel_rfl)) (fun _ _ _ h => h) (Or.inl ⟨by rfl, ?_⟩) ?_ ?_
                        rotate_left
                        · intro w'
                          go_simp
                          with_reducible rfl
                        rotate_left
                        · simp only [Act.put, List.setIfInBounds_toArray, List.set_cons_zero, List.set_cons_succ, i64_w, i32_w]
                          rfl
                        refine pure_ (i := 10) (N := some 78) (v := ?_) (a' := ?_) #[true, true, true, true, true, true, false, true, true, true, true, false, false, false, false, false] rfl rfl (any_of HT_.out (by kernel_rfl)) (fun _ _ _ h => h) (Or.inl ⟨by rfl, ?_⟩) ?_ ?_
                        rotate_left
                        · intro w'
                          go_simp
                          with_reducible rfl
                        rotate_left
                        · simp only [Act.put, List.setIfInBounds_toArray, List.set_cons_zero, List.set_cons_succ, i64_w, i32_w]
                          rfl
                        refine take_ (i := 6) (N := some 74) (v := ?_) (a' := ?_) #[true, true, true, true, true, true, true, true, true, true, true, false, false, false, false, false] rfl rfl (take_ofW HT_.out HW_.out (by kernel_rfl)) (fun _ _ _ h => h) (Or.inl ⟨by rfl, ?_⟩) hHeld ?_ ?_
                        rotate_left
                        · rintro w' ⟨s0, s1, s2, s3, s4, s5, s6, s7⟩
                          go_simp
                          with_reducible rfl
                        rotate_left
                        · simp only [Act.put, List.setIfInBounds_toArray, List.set_cons_zero, List.set_cons_succ, i64_w, i32_w]
                          rfl
                        refine take_ (i := 11) (N := some 79) (v := ?_) (a' := ?_) #[true, true, true, true, true, true, true, true, true, true, true, true, false, false, false, false] rfl rfl (take_ofW HT_.out HW_.out (by kernel_rfl)) (fun _ _ _ h => h) (Or.inl ⟨by rfl, ?_⟩) hHeld ?_ ?_
                        rotate_left
                        · rintro w' ⟨s0, s1, s2, s3, s4, s5, s6, s7⟩
                          go_simp
                          with_reducible rfl
                        rotate_left
                        · simp only [Act.put, List.setIfInBounds_toArray, List.set_cons_zero, List.set_cons_succ, i64_w, i32_w]
                          rfl
                        refine one_ (i := 12) (N := some 80) #[true, true, true, true, true, true, true, true, true, true, true, true, true, false, false, false] rfl rfl (one_of HT_.out (by kernel_rfl)) (by decide) (fun K hK => ?_)
                        refine goes_ Tryd.func125 (by kernel_rfl) rfl #[.int .i64 ((rd_T34 y351 t343).f3), .int .i64 ((rd_T34 l1 x7_2).f3)] (by rfl) rfl rfl (by (try simp only [List.map_toArray, List.map_cons, List.map_nil]); first | done | rfl | (simp only [List.length_drop, List.length_take]; rfl)) ?_
                        with_reducible refine (spec_l00Min.calls ((rd_T34 y351 t343).f3) ((rd_T34 l1 x7_2).f3) t354 _ A24.out).mono ?_
                        rintro e w' ⟨rfl, ⟨nd, rfl⟩⟩
                        refine ⟨_, rfl, ?_⟩
                        have p25 : 0 ≤ (t343 : Int) := of_decide_eq_true (by first | (with_reducible assumption) | assumption)
                        have q25 : (t343 : Int) < ((x6_2.length : Int) : Int) := of_decide_eq_true (by first | (with_reducible assumption) | assumption)
                        obtain ⟨ce25, hcl25, hM25, hcc25, hfr25⟩ := Kd.R_elem HO_6.out z34 (t343 : Int) p25 q25
                        obtain rfl := k34_openM hM25
                        have hx25_0 : World.cell? _ ⟨go22, (t343 : Int).toNat * 4, none⟩ = some (.string ((rd_T34 y351 t343).f0)) := hcc25 0 _ rfl
                        have hx25_1 : World.cell? _ ⟨go22, (t343 : Int).toNat * 4 + 1, none⟩ = some (.int .i64 ((rd_T34 y351 t343).f1)) := hcc25 1 _ rfl
                        have hx25_2 : World.cell? _ ⟨go22, (t343 : Int).toNat * 4 + 2, none⟩ = some (.int .i64 ((rd_T34 y351 t343).f2)) := hcc25 2 _ rfl
                        have hx25_3 : World.cell? _ ⟨go22, (t343 : Int).toNat * 4 + 3, none⟩ = some (.int .i64 ((rd_T34 y351 t343).f3)) := hcc25 3 _ rfl
                        have hf25_0 : World.frozen? _ ⟨go22, (t343 : Int).toNat * 4, none⟩ = false := hfr25 0
                        have hf25_1 : World.frozen? _ ⟨go22, (t343 : Int).toNat * 4 + 1, none⟩ = false := hfr25 1
                        have hf25_2 : World.frozen? _ ⟨go22, (t343 : Int).toNat * 4 + 2, none⟩ = false := hfr25 2
                        have hf25_3 : World.frozen? _ ⟨go22, (t343 : Int).toNat * 4 + 3, none⟩ = false := hfr25 3
                        clear hcl25 hcc25 hfr25 hM25
                        replace p25 := eq_true p25
                        replace q25 := eq_true q25
                        obtain ⟨ce34, hcl34, hM34, hcc34, hfr34⟩ := Kd.R_elem HO_6.out z34 (t343 : Int) (of_decide_eq_true (by first | (with_reducible assumption) | assumption)) (by have h_ : (t343 : Int) < ((x6_2.length : Int) : Int) := of_decide_eq_true (by first | (with_reducible assumption) | assumption); first | exact h_ | (have e_ := (Kd.R_reads' HO_6.out).1; omega) | simpa using h_)
                        obtain rfl := k34_openM hM34
                        have HP34 := (Kd.R_seg HO_6.out (t343 : Int) (of_decide_eq_true (by first | (with_reducible assumption) | assumption)) (by have h_ : (t343 : Int) < ((x6_2.length : Int) : Int) := of_decide_eq_true (by first | (with_reducible assumption) | assumption); first | exact h_ | (have e_ := (Kd.R_reads' HO_6.out).1; omega) | simpa using h_) (seg := [.int .i64 t354]) (j := 3) hcl34 hcc34 (show 4 ≤ 4 from by decide) (x' := (⟨(rd_T34 y351 t343).f0, (rd_T34 y351 t343).f1, (rd_T34 y351 t343).f2, t354⟩ : S34)) (k34_mkM _ _ _ (⟨(rd_T34 y351 t343).f0, (rd_T34 y351 t343).f1, (rd_T34 y351 t343).f2, t354⟩ : S34) ) (fun _ hk => hk)).1
                        rw [← Ny355.out] at HP34
                        have HQ34 := Aside0.mk HP34
                        clear hcl34 hcc34 hfr34 hM34 HP34
                        refine hK.out _ _ ⟨hHeld.1, hHeld.2.1, hHeld.2.2.1, hHeld.2.2.2.1, ((HB.out.cell (World.block_lt_of_cell? w _ hw353_0)).trans hw353_0), ((HB.out.cell (World.block_lt_of_cell? w _ hw353_1)).trans hw353_1), ((HB.out.cell (World.block_lt_of_cell? w _ hw353_2)).trans hw353_2), ((HB.out.cell (World.block_lt_of_cell? w _ hw353_3)).trans hw353_3)⟩ (fun hHeld => ?_)
                        clear hK K
                        refine norm_ (a' := ?_) ?_ ?_
                        rotate_left
                        · show Act.put _ (some 80) _ = _
                          simp only [Act.put, List.setIfInBounds_toArray, List.set_cons_zero, List.set_cons_succ, i64_w, i32_w]
                          rfl
                        refine pure_ (i := 13) (N := some 81) (v := ?_) (a' := ?_) #[true, true, true, true, true, true, true, true, true, true, true, true, true, true, false, false] rfl rfl (any_of HT_.out (by kernel_rfl)) (fun _ _ _ h => h) (Or.inl ⟨by rfl, ?_⟩) ?_ ?_
                        rotate_left
                        · intro w'
                          go_simp
                          with_reducible rfl
                        rotate_left
                        · simp only [Act.put, List.setIfInBounds_toArray, List.set_cons_zero, List.set_cons_succ, i64_w, i32_w]
                          rfl
                        refine pure_ (i := 14) (N := some 82) (v := ?_) (a' := ?_) #[true, true, true, true, true, true, true, true, true, true, true, true, true, true, true, false] rfl rfl (any_of HT_.out (by kernel_rfl)) (fun _ _ _ h => h) (Or.inl ⟨by rfl, ?_⟩) ?_ ?_
                        rotate_left
                        · intro w'
                          go_simp
                          with_reducible rfl
                        rotate_left
                        · simp only [Act.put, List.setIfInBounds_toArray, List.set_cons_zero, List.set_cons_succ, i64_w, i32_w]
                          rfl
                        refine last_ (i := 15) (N := none) #[true, true, true, true, true, true, true, true, true, true, true, true, true, true, true, true] rfl rfl (one_of HT_.out (by kernel_rfl)) (by decide) (fun K hK => ?_)
                        refine skip_ (w1 := ?_) (by rfl) rfl ?_ ?_
                        rotate_left
                        · go_simp
                          rfl
                        refine hK.out _ _ ?_
                        clear hK K
                        refine done_ (done_of HT_.out (by kernel_rfl)) ?_
                        try go_wp2
                        go_roundg k2
                        case measure => have := HJ2.out; have := HK2.out; omega
                        case rel => exact ⟨(y355), (wrap64 (x7_2 + 1)), (by first | rfl | (simp; done) | (simp [*]; done)), H', ⟨by have := HJ2.out; have := HK2.out; omega⟩, ⟨by (with_reducible repeat (first | apply Kd.R_alloc | apply Kd.R_drewN | apply Kd.R_drew)); exact HQ34.out⟩, ⟨by repeat (first | (with_reducible first | exact HB.out | apply below_alloc | apply pw_below_drewN | apply below_drew1 | refine below_set ?_ GB22.out) | exact HB.out)⟩⟩
                      · rw [if_neg c21] at H
                        exact absurd H (by simp)
                    · rw [if_neg c20] at H
                      exact absurd H (by simp)
                  · replace c19 := Bool.eq_false_iff.mpr c19
                    subst c19
                    have H1 : ((some (([] : List (S34)) : List (S34))).bind fun y356 => (if 0 ≤ t343 then (if t343 ≤ (x6_2.length : Int) then ((some (x6_2.take (t343 : Int).toNat : List (S34))).bind fun y359 => (if y356.length + y359.length < 3518437208883 then ((some (y356 ++ y359 : List (S34))).bind fun y363 => (if y363.length < 3518437208883 then ((some (y363 ++ [(⟨(rd_T34 l1 x7_2).f0, (rd_T34 l1 x7_2).f1, (rd_T34 l1 x7_2).f2, (rd_T34 l1 x7_2).f3⟩ : S34)] : List (S34))).bind fun y367 => ((some (x6_2.drop (t343 : Int).toNat : List (S34))).bind fun y370 => (if y367.length + y370.length < 3518437208883 then (spec_JoinStock.l0 k2 l1 (y367 ++ y370) (wrap64 (x7_2 + 1))) else (none)))) else (none))) else (none))) else (none)) else (none))) = some (r1, r2) := by rw [if_neg (show ¬ (false = true) by decide)] at H; exact H
                    clear H
                    have H := H1
                    clear H1
                    obtain ⟨y356, hy356⟩ : ∃ y_ : List (S34), y_ = (([] : List (S34))) := ⟨_, rfl⟩
                    replace H : (if 0 ≤ t343 then (if t343 ≤ (x6_2.length : Int) then ((some (x6_2.take (t343 : Int).toNat : List (S34))).bind fun y359 => (if y356.length + y359.length < 3518437208883 then ((some (y356 ++ y359 : List (S34))).bind fun y363 => (if y363.length < 3518437208883 then ((some (y363 ++ [(⟨(rd_T34 l1 x7_2).f0, (rd_T34 l1 x7_2).f1, (rd_T34 l1 x7_2).f2, (rd_T34 l1 x7_2).f3⟩ : S34)] : List (S34))).bind fun y367 => ((some (x6_2.drop (t343 : Int).toNat : List (S34))).bind fun y370 => (if y367.length + y370.length < 3518437208883 then (spec_JoinStock.l0 k2 l1 (y367 ++ y370) (wrap64 (x7_2 + 1))) else (none)))) else (none))) else (none))) else (none)) else (none)) = some (r1, r2) := by first | (rw [hy356]; with_reducible exact H) | (have H2_ := (Option.bind_some _ _).symm.trans H; rw [hy356]; with_reducible exact H2_) | (have H2_ := (Option.bind_some _ _).symm.trans H; with_reducible exact H2_) | with_reducible exact H | (rw [hy356]; exact H) | exact H
                    have Ny356 := Aside0.mk hy356
                    clear hy356
                    by_cases c35 : 0 ≤ t343
                    · rw [if_pos c35] at H
                      have c35b0 := eq_true c35
                      have c35b1 : decide (0 ≤ t343) = true := decide_eq_true c35
                      clear c35
                      by_cases c36 : t343 ≤ (x6_2.length : Int)
                      · rw [if_pos c36] at H
                        have c36b0 := eq_true c36
                        have c36b1 : decide (t343 ≤ (x6_2.length : Int)) = true := decide_eq_true c36
                        clear c36
                        obtain ⟨y359, hy359⟩ : ∃ y_ : List (S34), y_ = (x6_2.take (t343 : Int).toNat) := ⟨_, rfl⟩
                        replace H : (if y356.length + y359.length < 3518437208883 then ((some (y356 ++ y359 : List (S34))).bind fun y363 => (if y363.length < 3518437208883 then ((some (y363 ++ [(⟨(rd_T34 l1 x7_2).f0, (rd_T34 l1 x7_2).f1, (rd_T34 l1 x7_2).f2, (rd_T34 l1 x7_2).f3⟩ : S34)] : List (S34))).bind fun y367 => ((some (x6_2.drop (t343 : Int).toNat : List (S34))).bind fun y370 => (if y367.length + y370.length < 3518437208883 then (spec_JoinStock.l0 k2 l1 (y367 ++ y370) (wrap64 (x7_2 + 1))) else (none)))) else (none))) else (none)) = some (r1, r2) := by first | (rw [hy359]; with_reducible exact H) | (have H2_ := (Option.bind_some _ _).symm.trans H; rw [hy359]; with_reducible exact H2_) | (have H2_ := (Option.bind_some _ _).symm.trans H; with_reducible exact H2_) | with_reducible exact H | (rw [hy359]; exact H) | exact H
                        have Ny359 := Aside0.mk hy359
                        clear hy359
                        by_cases c37 : y356.length + y359.length < 3518437208883
                        · rw [if_pos c37] at H
                          have LMc37 := Aside0.mk c37
                          clear c37
                          obtain ⟨y363, hy363⟩ : ∃ y_ : List (S34), y_ = (y356 ++ y359) := ⟨_, rfl⟩
                          replace H : (if y363.length < 3518437208883 then ((some (y363 ++ [(⟨(rd_T34 l1 x7_2).f0, (rd_T34 l1 x7_2).f1, (rd_T34 l1 x7_2).f2, (rd_T34 l1 x7_2).f3⟩ : S34)] : List (S34))).bind fun y367 => ((some (x6_2.drop (t343 : Int).toNat : List (S34))).bind fun y370 => (if y367.length + y370.length < 3518437208883 then (spec_JoinStock.l0 k2 l1 (y367 ++ y370) (wrap64 (x7_2 + 1))) else (none)))) else (none)) = some (r1, r2) := by first | (rw [hy363]; with_reducible exact H) | (have H2_ := (Option.bind_some _ _).symm.trans H; rw [hy363]; with_reducible exact H2_) | (have H2_ := (Option.bind_some _ _).symm.trans H; with_reducible exact H2_) | with_reducible exact H | (rw [hy363]; exact H) | exact H
                          have Ny363 := Aside0.mk hy363
                          clear hy363
                          by_cases c38 : y363.length < 3518437208883
                          · rw [if_pos c38] at H
                            have LMc38 := Aside0.mk c38
                            clear c38
                            obtain ⟨y367, hy367⟩ : ∃ y_ : List (S34), y_ = (y363 ++ [(⟨(rd_T34 l1 x7_2).f0, (rd_T34 l1 x7_2).f1, (rd_T34 l1 x7_2).f2, (rd_T34 l1 x7_2).f3⟩ : S34)]) := ⟨_, rfl⟩
                            replace H : ((some (x6_2.drop (t343 : Int).toNat : List (S34))).bind fun y370 => (if y367.length + y370.length < 3518437208883 then (spec_JoinStock.l0 k2 l1 (y367 ++ y370) (wrap64 (x7_2 + 1))) else (none))) = some (r1, r2) := by first | (rw [hy367]; with_reducible exact H) | (have H2_ := (Option.bind_some _ _).symm.trans H; rw [hy367]; with_reducible exact H2_) | (have H2_ := (Option.bind_some _ _).symm.trans H; with_reducible exact H2_) | with_reducible exact H | (rw [hy367]; exact H) | exact H
                            have Ny367 := Aside0.mk hy367
                            clear hy367
                            have c39b0 := eq_true (of_decide_eq_true (by first | (with_reducible assumption) | assumption) : 0 ≤ t343)
                            have c40b0 := eq_true (of_decide_eq_true (by first | (with_reducible assumption) | assumption) : t343 ≤ (x6_2.length : Int))
                            obtain ⟨y370, hy370⟩ : ∃ y_ : List (S34), y_ = (x6_2.drop (t343 : Int).toNat) := ⟨_, rfl⟩
                            replace H : (if y367.length + y370.length < 3518437208883 then (spec_JoinStock.l0 k2 l1 (y367 ++ y370) (wrap64 (x7_2 + 1))) else (none)) = some (r1, r2) := by first | (rw [hy370]; with_reducible exact H) | (have H2_ := (Option.bind_some _ _).symm.trans H; rw [hy370]; with_reducible exact H2_) | (have H2_ := (Option.bind_some _ _).symm.trans H; with_reducible exact H2_) | with_reducible exact H | (rw [hy370]; exact H) | exact H
                            have Ny370 := Aside0.mk hy370
                            clear hy370
                            by_cases c41 : y367.length + y370.length < 3518437208883
                            · rw [if_pos c41] at H
                              have LMc41 := Aside0.mk c41
                              clear c41
                              obtain ⟨y374, hy374⟩ : ∃ y_ : List (S34), y_ = (y367 ++ y370) := ⟨_, rfl⟩
                              replace H : (spec_JoinStock.l0 k2 l1 y374 (wrap64 (x7_2 + 1))) = some (r1, r2) := by first | (rw [hy374]; with_reducible exact H) | (have H2_ := (Option.bind_some _ _).symm.trans H; rw [hy374]; with_reducible exact H2_) | (have H2_ := (Option.bind_some _ _).symm.trans H; with_reducible exact H2_) | with_reducible exact H | (rw [hy374]; exact H) | exact H
                              have Ny374 := Aside0.mk hy374
                              clear hy374
                              have H' := Aside0.mk H
                              clear H
                              have p342 : 0 ≤ (x7_2 : Int) := of_decide_eq_true (by first | (with_reducible assumption) | assumption)
                              have q342 : x7_2 < (l1.length : Int) := of_decide_eq_true (by first | (with_reducible assumption) | assumption)
                              obtain ⟨ad342, e342, hx342_0, hx342_1, hx342_2, hx342_3⟩ := at_T34 HR1.out x7_2 p342 q342
                              cases e342
                              replace hx342_0 := (HB.out.cell (World.block_lt_of_cell? w _ hx342_0)).trans hx342_0
                              replace hx342_1 := (HB.out.cell (World.block_lt_of_cell? w _ hx342_1)).trans hx342_1
                              replace hx342_2 := (HB.out.cell (World.block_lt_of_cell? w _ hx342_2)).trans hx342_2
                              replace hx342_3 := (HB.out.cell (World.block_lt_of_cell? w _ hx342_3)).trans hx342_3
                              replace p342 := eq_true p342
                              replace q342 := eq_true q342
                              obtain ⟨Ao42, co42, eo42⟩ := Kd.R_slice HO_6.out
                              subst eo42
                              go_wp2_with (first | ((with_reducible refine gate_callee (f := 123) rfl ?_); refine goesL_ (some 33) rfl rfl Tryd.func123 (by kernel_rfl) rfl #[.slice Ao42 x6_2.length co42, .string ((rd_T34 l1 x7_2).f0)] rfl (by (try simp only [List.map_toArray, List.map_cons, List.map_nil]); first | done | rfl | (simp only [List.length_drop, List.length_take]; rfl)) ?_; (with_reducible refine (spec_l23At.calls k2 _ _ x6_2 ((rd_T34 l1 x7_2).f0) t343 _ ?side1 ?side2 A17.out).mono ?_); (case side1 => repeat (first | exact (Kd.R_reads' HO_6.out).2.2 | (with_reducible refine Kd.C_alloc ?_ _) | (with_reducible refine Kd.C_drewN ?_ _) | (with_reducible refine Kd.C_drew ?_))); (case side2 => exact (Kd.R_reads' HO_6.out).2.1); rintro e w' ⟨rfl, ⟨nd, rfl⟩⟩; refine ⟨_, rfl, ?_⟩; have p344 : 0 ≤ (x7_2 : Int) := of_decide_eq_true (by first | (with_reducible assumption) | assumption); have q344 : x7_2 < (l1.length : Int) := of_decide_eq_true (by first | (with_reducible assumption) | assumption); obtain ⟨ad344, e344, hx344_0, hx344_1, hx344_2, hx344_3⟩ := at_T34 HR1.out x7_2 p344 q344; obtain rfl : ad342 = ad344 := (by injection e344); replace hx344_0 := (HB.out.cell (World.block_lt_of_cell? w _ hx344_0)).trans hx344_0; replace hx344_1 := (HB.out.cell (World.block_lt_of_cell? w _ hx344_1)).trans hx344_1; replace hx344_2 := (HB.out.cell (World.block_lt_of_cell? w _ hx344_2)).trans hx344_2; replace hx344_3 := (HB.out.cell (World.block_lt_of_cell? w _ hx344_3)).trans hx344_3; replace p344 := eq_true p344; replace q344 := eq_true q344) | ((with_reducible refine gate_callee (f := 124) rfl ?_); refine goesL_ (some 41) rfl rfl Tryd.func124 (by kernel_rfl) rfl #[.slice Ao42 x6_2.length co42, .int .i64 t343, .string ((rd_T34 l1 x7_2).f0)] rfl (by (try simp only [List.map_toArray, List.map_cons, List.map_nil]); first | done | rfl | (simp only [List.length_drop, List.length_take]; rfl)) ?_; (with_reducible refine (spec_l23Is.calls _ _ x6_2 t343 ((rd_T34 l1 x7_2).f0) false _ ?side1 ?side2 A18.out).mono ?_); (case side1 => repeat (first | exact (Kd.R_reads' HO_6.out).2.2 | (with_reducible refine Kd.C_alloc ?_ _) | (with_reducible refine Kd.C_drewN ?_ _) | (with_reducible refine Kd.C_drew ?_))); (case side2 => exact (Kd.R_reads' HO_6.out).2.1); rintro e w' ⟨rfl, ⟨nd, rfl⟩⟩; refine ⟨_, rfl, ?_⟩) | ((with_reducible refine gate_dst (N := 83) rfl ?_); refine Kd.R_lit k34 _ 34 ?hg (N := 83) ?hd (xs := ([] : List (S34))) (inner := []) (ok := fun _ => True) (okp := fun _ => True) ?hr ?hp (fun _ hk => hk) trivial (Below.refl _ _) (Nat.le_refl _) (by simp) ?_; (case hd => rfl); (case hg => rfl); (case hr => first | (go_simp; done) | (go_simp; rfl)); (case hp => exact (Reps.none _ _)); intro v357 w43 ho44 hb hg_ hnew_; clear hg_ hnew_; (first | rw [← Ny356.out] at ho44 | (simp only [Int.reduceToNat] at ho44; rw [← Ny356.out] at ho44)); have n0_ := Aside0.mk (Kd.R_elder' (by (with_reducible repeat (first | apply Kd.R_alloc | apply Kd.R_drewN | apply Kd.R_drew)); exact HO_6.out) (Kd.R_base ho44) hb); have n1_ := Aside0.mk (Kd.R_lower (Kd.R_new' ho44 (Kd.R_lt (by (with_reducible repeat (first | apply Kd.R_alloc | apply Kd.R_drewN | apply Kd.R_drew)); exact HO_6.out))) (below_size (by repeat (first | (with_reducible first | exact HB.out | apply below_alloc | apply pw_below_drewN | apply below_drew1) | exact HB.out)))); have n2_ := Aside0.mk (below_step (by repeat (first | (with_reducible first | exact HB.out | apply below_alloc | apply pw_below_drewN | apply below_drew1) | exact HB.out)) hb); clear HO_6; clear HB; have HO_6 := n0_; have HO358 := n1_; have HB := n2_; clear n0_ n1_ n2_; clear hb ho44; have q45 : (t343 : Int) ≤ ((x6_2.length : Int) : Int) := of_decide_eq_true (by first | (with_reducible assumption) | assumption); obtain ⟨i045, hi045, _, hsz45, _⟩ := info_parts info34; have hroom45 : x6_2.length ≤ co42 := (Kd.R_reads' HO_6.out).2.1; have hC45 : Kd.C k34 _ Ao42 x6_2.length x6_2 := (Kd.R_reads' HO_6.out).2.2; have hcut45 := cut_to (P := Tryd.prog) 24 34 .i64 Tryd.underlying24 hi045 Ao42 x6_2.length co42 t343 (of_decide_eq_true (by first | (with_reducible assumption) | assumption)) q45 hroom45; have hr45 := Kd.C_take (m := (t343 : Int).toNat) hC45 (by omega); have hy45 : y359.length = (t343 : Int).toNat := (by rw [Ny359.out, List.length_take]; omega); rw [← Ny359.out] at hr45; rw [← hy45] at hcut45; have HR362 := Aside0.mk hr45; have HC362 := Aside0.mk (show y359.length ≤ co42 from by omega); clear hr45 hC45 hroom45 hi045 hsz45; have KY45 := Aside0.mk hy45; clear hy45; have KL45 := Aside0.mk (show (t343 : Int).toNat ≤ x6_2.length from by omega); replace q45 := eq_true q45) | ((with_reducible refine gate_builtin (b := .append) (xs := #[.tmp 83, .tmp 86]) rfl ?_); at_builtin; refine Kd.R_append_rows k34 (w0 := w) w.heap.size rfl (.tmp 83) (.tmp 86) 24 34 (.agg #[(.string ⟨#[]⟩), (.int .i64 0), (.int .i64 0), (.int .i64 0)]) 40 rfl Tryd.underlying24 info34 rfl (by decide) (by omega) v357 y356 y359 _ _ _ (fun k_ => some k_ ≠ (.slice Ao42 x6_2.length co42 : Value).ownBlock) (fun _ => False) rfl rfl ?aO ?aR (fun _ _ h => h) (fun _ h => h.elim) ?aF ?aB ?aS ?aL ?_; (case aR => repeat (first | exact (by repeat (first | (with_reducible exact HR362.out) | (with_reducible refine Kd.C_alloc ?_ _) | (with_reducible refine Kd.C_drewN ?_ _) | (with_reducible refine Kd.C_drew ?_) | exact HR362.out)) | (with_reducible refine Kd.C_alloc ?_ _) | (with_reducible refine Kd.C_drewN ?_ _) | (with_reducible refine Kd.C_drew ?_))); (case aB => exact (by repeat (first | (with_reducible first | exact HB.out | apply below_alloc | apply pw_below_drewN | apply below_drew1) | exact HB.out))); (case aF => exact (fun k_ hk => Kd.fresh' (Kd.R_lt (by (with_reducible repeat (first | apply Kd.R_alloc | apply Kd.R_drewN | apply Kd.R_drew)); exact HO_6.out)) k_ hk)); (case aO => exact (by (with_reducible repeat (first | apply Kd.R_alloc | apply Kd.R_drewN | apply Kd.R_drew)); exact Kd.R_mono HO358.out (fun _ hk => hk.2))); (case aS => exact (below_size (by repeat (first | (with_reducible first | exact HB.out | apply below_alloc | apply pw_below_drewN | apply below_drew1) | exact HB.out)))); (case aL => have := LMc37.out; omega); intro v364 w46 ho hb hg hat; rw [← Ny363.out] at ho; have n0_ := Aside0.mk (Kd.R_after (ok := (fun _ => True)) (by (with_reducible repeat (first | apply Kd.R_alloc | apply Kd.R_drewN | apply Kd.R_drew)); exact HO_6.out) hg hat); have n1_ := Aside0.mk (hb); have n2_ := Aside0.mk ((show Kd.C k34 w46 Ao42 y359.length y359 from by rw [Ny359.out]; exact Kd.C_take (m := (t343 : Int).toNat) ((Kd.R_reads' (Kd.R_after (ok := (fun _ => True)) (by (with_reducible repeat (first | apply Kd.R_alloc | apply Kd.R_drewN | apply Kd.R_drew)); exact HO_6.out) hg hat)).2.2) KL45.out)); have n3_ := Aside0.mk (ho); clear HO_6; clear HB; clear HR362; clear HO358; have HO_6 := n0_; have HB := n1_; have HR362 := n2_; have HO365 := n3_; clear n0_ n1_ n2_ n3_; clear ho hb hg hat; have p366 : 0 ≤ (x7_2 : Int) := of_decide_eq_true (by first | (with_reducible assumption) | assumption); have q366 : x7_2 < (l1.length : Int) := of_decide_eq_true (by first | (with_reducible assumption) | assumption); obtain ⟨ad366, e366, hx366_0, hx366_1, hx366_2, hx366_3⟩ := at_T34 HR1.out x7_2 p366 q366; obtain rfl : ad342 = ad366 := (by injection e366); replace hx366_0 := (HB.out.cell (World.block_lt_of_cell? w _ hx366_0)).trans hx366_0; replace hx366_1 := (HB.out.cell (World.block_lt_of_cell? w _ hx366_1)).trans hx366_1; replace hx366_2 := (HB.out.cell (World.block_lt_of_cell? w _ hx366_2)).trans hx366_2; replace hx366_3 := (HB.out.cell (World.block_lt_of_cell? w _ hx366_3)).trans hx366_3; replace p366 := eq_true p366; replace q366 := eq_true q366) | ((with_reducible refine gate_builtin (b := .append) (xs := #[.tmp 88, .tmp 93]) rfl ?_); at_builtin; refine Kd.R_append k34 (w0 := w) w.heap.size rfl (.tmp 88) (.tmp 93) 24 34 (.agg #[(.string ⟨#[]⟩), (.int .i64 0), (.int .i64 0), (.int .i64 0)]) 40 rfl Tryd.underlying24 info34 rfl (by decide) (by omega) v364 y363 (⟨(rd_T34 l1 x7_2).f0, (rd_T34 l1 x7_2).f1, (rd_T34 l1 x7_2).f2, (rd_T34 l1 x7_2).f3⟩ : S34) [.string ((rd_T34 l1 x7_2).f0), .int .i64 ((rd_T34 l1 x7_2).f1), .int .i64 ((rd_T34 l1 x7_2).f2), .int .i64 ((rd_T34 l1 x7_2).f3)] (fun k_ => some k_ ≠ (.slice Ao42 x6_2.length co42 : Value).ownBlock) (fun _ => False) rfl rfl ?aP (fun _ hk => hk.elim) ?aF ?aO ?aB ?aS ?aL ?_; (case aP => exact k34_mkM _ _ _ (⟨(rd_T34 l1 x7_2).f0, (rd_T34 l1 x7_2).f1, (rd_T34 l1 x7_2).f2, (rd_T34 l1 x7_2).f3⟩ : S34)); (case aB => exact (by repeat (first | (with_reducible first | exact HB.out | apply below_alloc | apply pw_below_drewN | apply below_drew1) | exact HB.out))); (case aF => exact (fun k_ hk => Kd.fresh' (Kd.R_lt (by (with_reducible repeat (first | apply Kd.R_alloc | apply Kd.R_drewN | apply Kd.R_drew)); exact HO_6.out)) k_ hk)); (case aO => exact (by (with_reducible repeat (first | apply Kd.R_alloc | apply Kd.R_drewN | apply Kd.R_drew)); exact HO365.out)); (case aS => exact (below_size (by repeat (first | (with_reducible first | exact HB.out | apply below_alloc | apply pw_below_drewN | apply below_drew1) | exact HB.out)))); (case aL => have := LMc38.out; omega); intro v368 w47 ho hb hg hat; rw [← Ny367.out] at ho; have n0_ := Aside0.mk (Kd.R_after (ok := (fun _ => True)) (by (with_reducible repeat (first | apply Kd.R_alloc | apply Kd.R_drewN | apply Kd.R_drew)); exact HO_6.out) hg hat); have n1_ := Aside0.mk (hb); have n2_ := Aside0.mk ((show Kd.C k34 w47 Ao42 y359.length y359 from by rw [Ny359.out]; exact Kd.C_take (m := (t343 : Int).toNat) ((Kd.R_reads' (Kd.R_after (ok := (fun _ => True)) (by (with_reducible repeat (first | apply Kd.R_alloc | apply Kd.R_drewN | apply Kd.R_drew)); exact HO_6.out) hg hat)).2.2) KL45.out)); have n3_ := Aside0.mk (ho); clear HO_6; clear HB; clear HR362; clear HO365; have HO_6 := n0_; have HB := n1_; have HR362 := n2_; have HO369 := n3_; clear n0_ n1_ n2_ n3_; clear ho hb hg hat; have q48 : (t343 : Int) ≤ ((x6_2.length : Int) : Int) := of_decide_eq_true (by first | (with_reducible assumption) | assumption); obtain ⟨i048, hi048, _, hsz48, _⟩ := info_parts info34; have hroom48 : x6_2.length ≤ co42 := (Kd.R_reads' HO_6.out).2.1; have hC48 : Kd.C k34 _ Ao42 x6_2.length x6_2 := (Kd.R_reads' HO_6.out).2.2; have q048 : (0 : Int) ≤ (t343 : Int) := of_decide_eq_true (by first | (with_reducible assumption) | assumption); have hcut48 := cut_from (P := Tryd.prog) 24 34 .i64 Tryd.underlying24 hi048 4 hsz48 Ao42 x6_2.length co42 t343 q048 q48; have hr48 := Kd.C_drop (m := (t343 : Int).toNat) (c := co42) hC48 (by omega) hroom48; obtain ⟨A48, hA48⟩ : ∃ A1, A1 = (if co42 = (t343 : Int).toNat then Ao42 else (Ao42 : Option Addr).map (·.add ((t343 : Int).toNat * 4))) := ⟨_, rfl⟩; obtain ⟨c48, hc48⟩ : ∃ c1, c1 = co42 - (t343 : Int).toNat := ⟨_, rfl⟩; have hy48 : y370.length = x6_2.length - (t343 : Int).toNat := (by rw [Ny370.out, List.length_drop] <;> omega); rw [show (x6_2).drop (t343 : Int).toNat = y370 from Ny370.out.symm] at hr48; replace hr48 : Kd.C k34 _ A48 y370.length y370 := (by rw [hA48]; exact hr48); rw [← hy48, ← hA48, ← hc48] at hcut48; have HR373 := Aside0.mk hr48; have HC373 := Aside0.mk (show y370.length ≤ c48 from by rw [hy48, hc48]; exact Nat.sub_le_sub_right hroom48 _); clear hr48 hC48 hroom48 hi048 hsz48 hc48; have KY48 := Aside0.mk hy48; have KA48 := Aside0.mk hA48; clear hy48 hA48; have KL48 := Aside0.mk (show (t343 : Int).toNat ≤ x6_2.length from by omega); replace q48 := eq_true q48) | ((with_reducible refine gate_builtin (b := .append) (xs := #[.tmp 95, .tmp 98]) rfl ?_); at_builtin; refine Kd.R_append_rows k34 (w0 := w) w.heap.size rfl (.tmp 95) (.tmp 98) 24 34 (.agg #[(.string ⟨#[]⟩), (.int .i64 0), (.int .i64 0), (.int .i64 0)]) 40 rfl Tryd.underlying24 info34 rfl (by decide) (by omega) v368 y367 y370 _ _ _ (fun k_ => some k_ ≠ (.slice Ao42 x6_2.length co42 : Value).ownBlock) (fun _ => False) rfl rfl ?aO ?aR (fun _ _ h => h) (fun _ h => h.elim) ?aF ?aB ?aS ?aL ?_; (case aR => repeat (first | exact (by repeat (first | (with_reducible exact HR373.out) | (with_reducible refine Kd.C_alloc ?_ _) | (with_reducible refine Kd.C_drewN ?_ _) | (with_reducible refine Kd.C_drew ?_) | exact HR373.out)) | (with_reducible refine Kd.C_alloc ?_ _) | (with_reducible refine Kd.C_drewN ?_ _) | (with_reducible refine Kd.C_drew ?_))); (case aB => exact (by repeat (first | (with_reducible first | exact HB.out | apply below_alloc | apply pw_below_drewN | apply below_drew1) | exact HB.out))); (case aF => exact (fun k_ hk => Kd.fresh' (Kd.R_lt (by (with_reducible repeat (first | apply Kd.R_alloc | apply Kd.R_drewN | apply Kd.R_drew)); exact HO_6.out)) k_ hk)); (case aO => exact (by (with_reducible repeat (first | apply Kd.R_alloc | apply Kd.R_drewN | apply Kd.R_drew)); exact HO369.out)); (case aS => exact (below_size (by repeat (first | (with_reducible first | exact HB.out | apply below_alloc | apply pw_below_drewN | apply below_drew1) | exact HB.out)))); (case aL => have := LMc41.out; omega); intro v375 w49 ho hb hg hat; rw [← Ny374.out] at ho; have n0_ := Aside0.mk (Kd.R_after (ok := (fun _ => True)) (by (with_reducible repeat (first | apply Kd.R_alloc | apply Kd.R_drewN | apply Kd.R_drew)); exact HO_6.out) hg hat); have n1_ := Aside0.mk (hb); have n2_ := Aside0.mk ((show Kd.C k34 w49 Ao42 y359.length y359 from by rw [Ny359.out]; exact Kd.C_take (m := (t343 : Int).toNat) ((Kd.R_reads' (Kd.R_after (ok := (fun _ => True)) (by (with_reducible repeat (first | apply Kd.R_alloc | apply Kd.R_drewN | apply Kd.R_drew)); exact HO_6.out) hg hat)).2.2) KL45.out)); have n3_ := Aside0.mk ((show Kd.C k34 w49 A48 y370.length y370 from by rw [Ny370.out, KA48.out]; exact Kd.C_drop (m := (t343 : Int).toNat) (c := co42) ((Kd.R_reads' (Kd.R_after (ok := (fun _ => True)) (by (with_reducible repeat (first | apply Kd.R_alloc | apply Kd.R_drewN | apply Kd.R_drew)); exact HO_6.out) hg hat)).2.2) KL48.out ((Kd.R_reads' (Kd.R_after (ok := (fun _ => True)) (by (with_reducible repeat (first | apply Kd.R_alloc | apply Kd.R_drewN | apply Kd.R_drew)); exact HO_6.out) hg hat)).2.1))); have n4_ := Aside0.mk (ho); clear HO_6; clear HB; clear HR362; clear HR373; clear HO369; have HO_6 := n0_; have HB := n1_; have HR362 := n2_; have HR373 := n3_; have HO376 := n4_; clear n0_ n1_ n2_ n3_ n4_; clear ho hb hg hat))
                              go_roundg k2
                              case measure => have := HJ2.out; have := HK2.out; omega
                              case rel => exact ⟨(y374), (wrap64 (x7_2 + 1)), (by first | rfl | (simp; done) | (simp [*]; done)), H', ⟨by have := HJ2.out; have := HK2.out; omega⟩, ⟨by (with_reducible repeat (first | apply Kd.R_alloc | apply Kd.R_drewN | apply Kd.R_drew)); exact Kd.R_mono HO376.out (fun _ hk => trivial)⟩, ⟨by repeat (first | (with_reducible first | exact HB.out | apply below_alloc | apply pw_below_drewN | apply below_drew1) | exact HB.out)⟩⟩
                            · rw [if_neg c41] at H
                              exact absurd H (by simp)
                          · rw [if_neg c38] at H
                            exact absurd H (by simp)
                        · rw [if_neg c37] at H
                          exact absurd H (by simp)
                      · rw [if_neg c36] at H
                        exact absurd H (by simp)
                    · rw [if_neg c35] at H
                      exact absurd H (by simp)
                · rw [if_neg c16] at H
                  exact absurd H (by simp)
              · rw [if_neg c15] at H
                have c15b0 : decide (x7_2 < (l1.length : Int)) = false := decide_eq_false c15
                clear c15
                replace H := Option.bind_eq_some_iff.mp H
                obtain ⟨t341, A500, H⟩ := H
                replace H : (if t341 = true then (some (x6_2, 0)) else (some (([] : List (S34)), 5))) = some (r1, r2) := H
                have A50 := Aside0.mk A500
                clear A500
                by_cases c51 : t341 = true
                · subst c51
                  have H1 : (some (x6_2, 0)) = some (r1, r2) := by rw [if_pos rfl] at H; exact H
                  clear H
                  have H := H1
                  clear H1
                  simp only [Option.some.injEq, Prod.mk.injEq] at H
                  obtain ⟨rfl, rfl⟩ := H
                  obtain ⟨Ao52, co52, eo52⟩ := Kd.R_slice HO_6.out
                  subst eo52
                  go_wp2_with (first | ((with_reducible refine gate_callee (f := 100) rfl ?_); refine goesL_ (some 101) rfl rfl Tryd.func100 (by kernel_rfl) rfl #[.slice Ao52 x6_2.length co52] rfl (by (try simp only [List.map_toArray, List.map_cons, List.map_nil]); first | done | rfl | (simp only [List.length_drop, List.length_take]; rfl)) ?_; (with_reducible refine (spec_l23Ok.calls _ _ x6_2 true _ ?side1 ?side2 A50.out).mono ?_); (case side1 => repeat (first | exact (Kd.R_reads' HO_6.out).2.2 | (with_reducible refine Kd.C_alloc ?_ _) | (with_reducible refine Kd.C_drewN ?_ _) | (with_reducible refine Kd.C_drew ?_))); (case side2 => exact (Kd.R_reads' HO_6.out).2.1); rintro e w53 ⟨rfl, hb⟩; refine ⟨_, rfl, ?_⟩; have n0_ := Aside0.mk (Kd.R_below (by (with_reducible repeat (first | apply Kd.R_alloc | apply Kd.R_drewN | apply Kd.R_drew)); exact HO_6.out) hb); have n1_ := Aside0.mk (below_step (by repeat (first | (with_reducible first | exact HB.out | apply below_alloc | apply pw_below_drewN | apply below_drew1) | exact HB.out)) hb); clear HO_6; clear HB; have HO_6 := n0_; have HB := n1_; clear n0_ n1_; (try clear hb); (try clear hb2); (try clear hk); (try clear hi)))
                  go_ret2
                  exact ⟨_, by first | rfl | (simp [errW_none, errW_some] <;> rfl) | (simp [*, errW_none, errW_some] <;> rfl), by (with_reducible repeat (first | apply Kd.R_alloc | apply Kd.R_drewN | apply Kd.R_drew)); exact HO_6.out, by repeat (first | (with_reducible first | exact HB.out | apply below_alloc | apply pw_below_drewN | apply below_drew1) | exact HB.out)⟩
                · replace c51 := Bool.eq_false_iff.mpr c51
                  subst c51
                  have H1 : (some (([] : List (S34)), 5)) = some (r1, r2) := by rw [if_neg (show ¬ (false = true) by decide)] at H; exact H
                  clear H
                  have H := H1
                  clear H1
                  simp only [Option.some.injEq, Prod.mk.injEq] at H
                  obtain ⟨rfl, rfl⟩ := H
                  obtain ⟨Ao54, co54, eo54⟩ := Kd.R_slice HO_6.out
                  subst eo54
                  go_wp2_with (first | ((with_reducible refine gate_callee (f := 100) rfl ?_); refine goesL_ (some 101) rfl rfl Tryd.func100 (by kernel_rfl) rfl #[.slice Ao54 x6_2.length co54] rfl (by (try simp only [List.map_toArray, List.map_cons, List.map_nil]); first | done | rfl | (simp only [List.length_drop, List.length_take]; rfl)) ?_; (with_reducible refine (spec_l23Ok.calls _ _ x6_2 false _ ?side1 ?side2 A50.out).mono ?_); (case side1 => repeat (first | exact (Kd.R_reads' HO_6.out).2.2 | (with_reducible refine Kd.C_alloc ?_ _) | (with_reducible refine Kd.C_drewN ?_ _) | (with_reducible refine Kd.C_drew ?_))); (case side2 => exact (Kd.R_reads' HO_6.out).2.1); rintro e w55 ⟨rfl, hb⟩; refine ⟨_, rfl, ?_⟩; have n0_ := Aside0.mk (Kd.R_below (by (with_reducible repeat (first | apply Kd.R_alloc | apply Kd.R_drewN | apply Kd.R_drew)); exact HO_6.out) hb); have n1_ := Aside0.mk (below_step (by repeat (first | (with_reducible first | exact HB.out | apply below_alloc | apply pw_below_drewN | apply below_drew1) | exact HB.out)) hb); clear HO_6; clear HB; have HO_6 := n0_; have HB := n1_; clear n0_ n1_; (try clear hb); (try clear hb2); (try clear hk); (try clear hi)))
                  go_ret2
                  exact ⟨_, by first | rfl | (simp [errW_none, errW_some] <;> rfl) | (simp [*, errW_none, errW_some] <;> rfl), by first | exact Kd.R_nil _ _ _ _ _ | exact Kd.N_nil _ _ _ _ _ | exact Kd.V_nil _ _ _ _ _ | exact Kd.Q_nil _ _ _ _ _ | exact Kd.S_nil _ _ _ _ _, by repeat (first | (with_reducible first | exact HB.out | apply below_alloc | apply pw_below_drewN | apply below_drew1) | exact HB.out)⟩
        · rw [if_neg c11] at H
          exact absurd H (by simp)

end Go.Proofs.YtdjdillppgijmaaDoor.Qs
