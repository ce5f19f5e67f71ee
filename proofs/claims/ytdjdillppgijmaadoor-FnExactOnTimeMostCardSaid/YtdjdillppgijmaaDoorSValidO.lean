/- ValidOrders: at most 40 orders, each in order. No condition but a length below a milliard. -/
import Derived.Test.YtdjdillppgijmaaDoorS24
import Derived.Test.YtdjdillppgijmaaDoorQox2
import Derived.Lib.Hide
set_option linter.unusedVariables false
set_option linter.unusedSimpArgs false
namespace Go.Proofs.YtdjdillppgijmaaDoor.Qo
open Go.RowKit Go.Proofs.YtdjdillppgijmaaDoorW.PrintWords Go.Proofs.YtdjdillppgijmaaDoorW.PrintLast Go.Proofs.YtdjdillppgijmaaDoorW.PrintMore

theorem within_eq (a b c : Int) : impl_within.f a b c = some (decide (b ≤ a ∧ a ≤ c)) := by
  unfold impl_within.f
  by_cases h : a ≥ b
  · rw [if_pos h]; congr 1; by_cases h2 : a ≤ c <;> simp [h2]; omega
  · rw [if_neg h]; congr 1; symm; apply decide_eq_false; omega
theorem wi_call (a b c : Int) (q : Bool) (h : decide (b ≤ a ∧ a ≤ c) = q) (w : World) : Calls Tryd.prog 95 #[.int .i64 a, .int .i64 b, .int .i64 c] w fun e w' => e = .returned (.bool q) ∧ ∃ n, w' = w.drewN n :=
  (impl_within.calls a b c q w (by rw [within_eq, h])).mono fun e w' ⟨h1, h2⟩ => ⟨h1, h2.out⟩
theorem size_call (a : Int) (q : Bool) (h : decide (1 ≤ a ∧ a ≤ 200) = q) (w : World) : Calls Tryd.prog 163 #[.int .i64 a] w fun e w' => e = .returned (.bool q) ∧ ∃ n, w' = w.drewN n := by
  go_enter Tryd.func163, Tryd.ntmps163
  go_wp2_with (go_at_call 95; (with_reducible refine (wi_call a 1 200 q h _).mono ?_); rintro e w' ⟨rfl, ⟨n, rfl⟩⟩)
  go_ret
  exact ⟨rfl, n, rfl⟩
theorem name_call (s : ByteArray) (q : Bool) (h : isName s = q) (w : World) : Calls Tryd.prog 143 #[.string s] w fun e w' => e = .returned (.bool q) ∧ Below w.heap.size w w' :=
  impl_IsName.calls s q w (by rw [impl_IsName.f, h])

set_option maxHeartbeats 4000000 in
set_option maxRecDepth 100000 in
theorem isOrder_call (x : S149) (w : World) : Calls Tryd.prog 193 #[.agg #[.string x.f0, .int .i64 x.f1, .int .i64 x.f2, .int .i64 x.f3]] w fun e w' => e = .returned (.bool (orderB x)) ∧ Below w.heap.size w w' := by
  have hu149 := Tryd.underlying149
  obtain ⟨f0, f1, f2, f3⟩ := x
  have q1 : (w.alloc (.cells #[.string f0, .int .i64 f1, .int .i64 f2, .int .i64 f3] 149)).cell? ⟨w.heap.size, 1, none⟩ = some (.int .i64 f1) := by simp
  have q2 : (w.alloc (.cells #[.string f0, .int .i64 f1, .int .i64 f2, .int .i64 f3] 149)).cell? ⟨w.heap.size, 2, none⟩ = some (.int .i64 f2) := by simp
  have q3 : (w.alloc (.cells #[.string f0, .int .i64 f1, .int .i64 f2, .int .i64 f3] 149)).cell? ⟨w.heap.size, 3, none⟩ = some (.int .i64 f3) := by simp
  cases c1 : isName f0 with
  | false =>
    have hr : orderB ⟨f0, f1, f2, f3⟩ = false := by unfold orderB; rw [c1]; rfl
    rw [hr]; clear hr
    go_enter Tryd.func193, Tryd.ntmps193
    go_wp2_with (first | (go_at_call 143; (with_reducible refine (name_call _ _ c1 _).mono ?_); rintro e w' ⟨rfl, hB⟩; have y1 := (hB.cell (p := ⟨w.heap.size, 1, none⟩) (by simp)).trans q1; have y2 := (hB.cell (p := ⟨w.heap.size, 2, none⟩) (by simp)).trans q2; have y3 := (hB.cell (p := ⟨w.heap.size, 3, none⟩) (by simp)).trans q3))
    go_ret
    exact ⟨rfl, by repeat (first | exact ((Below.refl _ _).alloc (Nat.le_refl _) _).trans (hB.mono (by simp)) | apply pw_below_drewN)⟩
  | true =>
    cases c2 : decide (1 ≤ f1 ∧ f1 ≤ 200) with
    | false =>
      have hr : orderB ⟨f0, f1, f2, f3⟩ = false := by unfold orderB; rw [c1, c2]; rfl
      rw [hr]; clear hr
      go_enter Tryd.func193, Tryd.ntmps193
      go_wp2_with (first | (go_at_call 143; (with_reducible refine (name_call _ _ c1 _).mono ?_); rintro e w' ⟨rfl, hB⟩; have y1 := (hB.cell (p := ⟨w.heap.size, 1, none⟩) (by simp)).trans q1; have y2 := (hB.cell (p := ⟨w.heap.size, 2, none⟩) (by simp)).trans q2; have y3 := (hB.cell (p := ⟨w.heap.size, 3, none⟩) (by simp)).trans q3) | (go_at_call 163; (with_reducible refine (size_call f1 _ c2 _).mono ?_); rintro e w2 ⟨rfl, ⟨n2, rfl⟩⟩))
      go_ret
      exact ⟨rfl, by repeat (first | exact ((Below.refl _ _).alloc (Nat.le_refl _) _).trans (hB.mono (by simp)) | apply pw_below_drewN)⟩
    | true =>
      cases c3 : decide (1 ≤ f2 ∧ f2 ≤ 100) with
      | false =>
        have hr : orderB ⟨f0, f1, f2, f3⟩ = false := by unfold orderB; rw [c1, c2, c3]; rfl
        rw [hr]; clear hr
        go_enter Tryd.func193, Tryd.ntmps193
        go_wp2_with (first | (go_at_call 143; (with_reducible refine (name_call _ _ c1 _).mono ?_); rintro e w' ⟨rfl, hB⟩; have y1 := (hB.cell (p := ⟨w.heap.size, 1, none⟩) (by simp)).trans q1; have y2 := (hB.cell (p := ⟨w.heap.size, 2, none⟩) (by simp)).trans q2; have y3 := (hB.cell (p := ⟨w.heap.size, 3, none⟩) (by simp)).trans q3) | (go_at_call 163; (with_reducible refine (size_call f1 _ c2 _).mono ?_); rintro e w2 ⟨rfl, ⟨n2, rfl⟩⟩) | (go_at_call 95; (with_reducible refine (wi_call f2 1 100 _ c3 _).mono ?_); rintro e w3 ⟨rfl, ⟨n3, rfl⟩⟩))
        go_ret
        exact ⟨rfl, by repeat (first | exact ((Below.refl _ _).alloc (Nat.le_refl _) _).trans (hB.mono (by simp)) | apply pw_below_drewN)⟩
      | true =>
        cases c4 : decide (0 ≤ f3 ∧ f3 ≤ 20000) with
        | false =>
          have hr : orderB ⟨f0, f1, f2, f3⟩ = false := by unfold orderB; rw [c1, c2, c3, c4]; rfl
          rw [hr]; clear hr
          go_enter Tryd.func193, Tryd.ntmps193
          go_wp2_with (first | (go_at_call 143; (with_reducible refine (name_call _ _ c1 _).mono ?_); rintro e w' ⟨rfl, hB⟩; have y1 := (hB.cell (p := ⟨w.heap.size, 1, none⟩) (by simp)).trans q1; have y2 := (hB.cell (p := ⟨w.heap.size, 2, none⟩) (by simp)).trans q2; have y3 := (hB.cell (p := ⟨w.heap.size, 3, none⟩) (by simp)).trans q3) | (go_at_call 163; (with_reducible refine (size_call f1 _ c2 _).mono ?_); rintro e w2 ⟨rfl, ⟨n2, rfl⟩⟩) | (go_at_call 95; (with_reducible refine (wi_call f2 1 100 _ c3 _).mono ?_); rintro e w3 ⟨rfl, ⟨n3, rfl⟩⟩) | (go_at_call 95; (with_reducible refine (wi_call f3 0 20000 _ c4 _).mono ?_); rintro e w4 ⟨rfl, ⟨n4, rfl⟩⟩))
          go_ret
          exact ⟨rfl, by repeat (first | exact ((Below.refl _ _).alloc (Nat.le_refl _) _).trans (hB.mono (by simp)) | apply pw_below_drewN)⟩
        | true =>
          have hr : orderB ⟨f0, f1, f2, f3⟩ = true := by unfold orderB; rw [c1, c2, c3, c4]; rfl
          rw [hr]; clear hr
          go_enter Tryd.func193, Tryd.ntmps193
          go_wp2_with (first | (go_at_call 143; (with_reducible refine (name_call _ _ c1 _).mono ?_); rintro e w' ⟨rfl, hB⟩; have y1 := (hB.cell (p := ⟨w.heap.size, 1, none⟩) (by simp)).trans q1; have y2 := (hB.cell (p := ⟨w.heap.size, 2, none⟩) (by simp)).trans q2; have y3 := (hB.cell (p := ⟨w.heap.size, 3, none⟩) (by simp)).trans q3) | (go_at_call 163; (with_reducible refine (size_call f1 _ c2 _).mono ?_); rintro e w2 ⟨rfl, ⟨n2, rfl⟩⟩) | (go_at_call 95; (with_reducible refine (wi_call f2 1 100 _ c3 _).mono ?_); rintro e w3 ⟨rfl, ⟨n3, rfl⟩⟩) | (go_at_call 95; (with_reducible refine (wi_call f3 0 20000 _ c4 _).mono ?_); rintro e w4 ⟨rfl, ⟨n4, rfl⟩⟩))
          go_ret
          exact ⟨rfl, by repeat (first | exact ((Below.refl _ _).alloc (Nat.le_refl _) _).trans (hB.mono (by simp)) | apply pw_below_drewN)⟩

set_option maxHeartbeats 4000000 in
theorem not_call (x : S149) (w : World) : Calls Tryd.prog 192 #[.agg #[.string x.f0, .int .i64 x.f1, .int .i64 x.f2, .int .i64 x.f3]] w fun e w' => e = .returned (.bool (!(orderB x))) ∧ Below w.heap.size w w' := by
  have hu149 := Tryd.underlying149
  have hcall := fun W => isOrder_call x W
  obtain ⟨f0, f1, f2, f3⟩ := x
  generalize orderB ⟨f0, f1, f2, f3⟩ = b at hcall ⊢
  go_enter Tryd.func192, Tryd.ntmps192
  go_wp2_with (go_at_call 193; refine (hcall _).mono ?_; rintro e w' ⟨rfl, hB⟩)
  go_ret
  exact ⟨rfl, ((Below.refl _ _).alloc (Nat.le_refl _) _).trans (hB.mono (by simp))⟩

/-- The first order that is not in order; -1 if there is none. -/
def FirstBad (l : List S149) (n : Int) : Prop := (n = -1 ∧ ∀ j : Nat, (j : Int) < l.length → orderB (rd_T149 l j) = true) ∨ (0 ≤ n ∧ n < l.length ∧ orderB (rd_T149 l n) = false)
def Told (l : List S149) (w0 : World) (e : Ending) (w' : World) : Prop := ∃ n : Int, FirstBad l n ∧ -1 ≤ n ∧ e = .returned (.int .i64 n) ∧ Below w0.heap.size w0 w'

set_option maxHeartbeats 4000000 in
set_option maxRecDepth 100000 in
theorem index_call (A0 : Option Addr) (c0 : Nat) (l0 : List S149) (w : World) (hr0 : Kd.C k149 w A0 l0.length l0) (hl : l0.length ≤ 1000000000) :
    Calls Tryd.prog 217 #[.slice A0 l0.length c0, .func (.func 192) #[] #[]] w (Told l0 w) := by
  have hu149 := Tryd.underlying149
  go_enter Tryd.func217, Tryd.ntmps217
  go_wp2
  go_loopw [5, 8] (fun _ v wr => ∃ i : Int, v = .int .i64 i ∧ 0 ≤ i ∧ i ≤ l0.length ∧ Hid (∀ j : Nat, (j : Int) < i → orderB (rd_T149 l0 j) = true) ∧ Hid (Below w.heap.size w wr)) (fun _ v _ => l0.length - (intOf v).toNat)
  case atStart => exact ⟨0, rfl, by omega, by omega, Lib.hid (fun j hj => by omega), Lib.hid (Below.refl _ _)⟩
  case round =>
    obtain ⟨i, rfl, h0, hle, HOK, HB⟩ := hrel
    by_cases hlt : i < (l0.length : Int)
    · obtain ⟨ad, e, hx0, hx1, hx2, hx3⟩ := at_T149 hr0 i h0 hlt
      cases e
      replace hx0 := (HB.out.cell (World.block_lt_of_cell? w _ hx0)).trans hx0
      replace hx1 := (HB.out.cell (World.block_lt_of_cell? w _ hx1)).trans hx1
      replace hx2 := (HB.out.cell (World.block_lt_of_cell? w _ hx2)).trans hx2
      replace hx3 := (HB.out.cell (World.block_lt_of_cell? w _ hx3)).trans hx3
      have hcall := fun W => not_call (rd_T149 l0 i) W
      cases hq : orderB (rd_T149 l0 i) with
      | true =>
        rw [hq] at hcall
        have HQ := Lib.hid hq
        clear hq
        go_wp2_with (go_at_call 192; refine (hcall _).mono ?_; rintro e w' ⟨rfl, hB⟩)
        have HB2 := Lib.hid (HB.out.trans (hB.mono HB.out.size))
        clear hB
        go_roundw
        case rel => exact ⟨i + 1, by first | rfl | go_num | simp, by omega, by omega, Lib.hid (fun j hj => (by by_cases e : (j : Int) = i; (rw [e]; exact HQ.out); exact HOK.out j (by omega))), HB2⟩
        case measure => simp [intOf]; omega
      | false =>
        rw [hq] at hcall
        have HQ := Lib.hid hq
        clear hq
        go_wp2_with (go_at_call 192; refine (hcall _).mono ?_; rintro e w' ⟨rfl, hB⟩)
        go_ret
        exact ⟨i, .inr ⟨h0, hlt, HQ.out⟩, by omega, rfl, HB.out.trans (hB.mono HB.out.size)⟩
    · have hi : i = (l0.length : Int) := by omega
      subst hi
      go_wp2
      go_ret
      exact ⟨-1, .inl ⟨rfl, HOK.out⟩, by omega, rfl, HB.out⟩

theorem contains_call (A0 : Option Addr) (c0 : Nat) (l0 : List S149) (w : World) (hr0 : Kd.C k149 w A0 l0.length l0) (hl : l0.length ≤ 1000000000) :
    Calls Tryd.prog 191 #[.slice A0 l0.length c0, .func (.func 192) #[] #[]] w fun e w' => e = .returned (.bool (!((List.range l0.length).all (fun i => orderB (rd_T149 l0 i))))) ∧ Below w.heap.size w w' := by
  have hcall := index_call A0 c0 l0 w hr0 hl
  refine Calls.mono (R := fun e w' => ∃ n : Int, FirstBad l0 n ∧ e = .returned (.bool (decide (0 ≤ n))) ∧ Below w.heap.size w w') ?_ ?_
  · clear hr0
    go_enter Tryd.func191, Tryd.ntmps191
    go_wp2_with (go_at_call 217; refine hcall.mono ?_; rintro e w' ⟨n, h, h1, rfl, hB⟩)
    go_ret
    exact ⟨n, h, rfl, hB⟩
  · rintro e w' ⟨n, h, rfl, hB⟩
    refine ⟨?_, hB⟩
    congr 2
    rcases h with ⟨rfl, h⟩ | ⟨h0, h1, h2⟩
    · symm
      rw [show (List.range l0.length).all (fun i => orderB (rd_T149 l0 i)) = true from List.all_eq_true.2 (fun j hj => h j (by have := List.mem_range.1 hj; omega))]
      rfl
    · symm
      rw [show (List.range l0.length).all (fun i => orderB (rd_T149 l0 i)) = false from List.all_eq_false.2 ⟨n.toNat, List.mem_range.2 (by omega), by rw [Int.toNat_of_nonneg h0, h2]; simp⟩, decide_eq_true h0]
      rfl

def validO (l : List S149) : Bool := decide (l.length ≤ 40) && (List.range l.length).all (fun i => orderB (rd_T149 l i))
def impl_ValidOrders.f (l0 : List S149) : Option Bool := if l0.length ≤ 1000000000 then some (validO l0) else none
set_option maxHeartbeats 4000000 in
theorem impl_ValidOrders.calls (A0 : Option Addr) (c0 : Nat) (l0 : List S149) (r : Bool) (w : World) (hr0 : Kd.C k149 w A0 l0.length l0) (hc0 : l0.length ≤ c0) (h : impl_ValidOrders.f l0 = some r) :
    Calls Tryd.prog 135 #[.slice A0 l0.length c0] w fun e w' => e = .returned (.bool r) ∧ Below w.heap.size w w' := by
  unfold impl_ValidOrders.f at h
  by_cases hl : l0.length ≤ 1000000000
  · rw [if_pos hl] at h
    obtain rfl := Option.some.inj h
    by_cases h40 : l0.length ≤ 40
    · have hcall := fun W hB => contains_call A0 c0 l0 W (Kd.C_below hr0 hB) hl
      have hr : validO l0 = !(!((List.range l0.length).all (fun i => orderB (rd_T149 l0 i)))) := by unfold validO; rw [decide_eq_true h40, Bool.true_and, Bool.not_not]
      rw [hr]
      generalize (!((List.range l0.length).all (fun i => orderB (rd_T149 l0 i)))) = b at hcall ⊢
      have h40z : (l0.length : Int) ≤ 40 := by omega
      clear hr0 h40
      go_enter Tryd.func135, Tryd.ntmps135
      go_wp2_with (go_at_call 191; refine (hcall _ (Below.refl _ _)).mono ?_; rintro e w' ⟨rfl, hB⟩)
      go_ret
      exact ⟨rfl, hB⟩
    · have hr : validO l0 = false := by unfold validO; rw [decide_eq_false h40]; rfl
      rw [hr]
      have h40z : ¬ (l0.length : Int) ≤ 40 := by omega
      clear hr0 h40
      go_enter Tryd.func135, Tryd.ntmps135
      go_wp2
      go_ret
      exact ⟨rfl, Below.refl _ _⟩
  · rw [if_neg hl] at h; cases h
end Go.Proofs.YtdjdillppgijmaaDoor.Qo
