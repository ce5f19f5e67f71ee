/- allWithin: whether all numbers of a row lie between two. No condition but a length below a milliard. -/
import Derived.Test.YtdjdillppgijmaaDoorQpx1
import Derived.Test.YtdjdillppgijmaaDoorPlNameP
import Derived.Lib.Hide
set_option linter.unusedVariables false
set_option linter.unusedSimpArgs false
namespace Go.Proofs.YtdjdillppgijmaaDoor.Qp
open Go.RowKit Go.Proofs.YtdjdillppgijmaaDoorW.PrintWords Go.Proofs.YtdjdillppgijmaaDoorW.PrintLast Go.Proofs.YtdjdillppgijmaaDoorW.PrintMore

theorem within_eq (a b c : Int) : impl_within.f a b c = some (decide (b ≤ a ∧ a ≤ c)) := by
  unfold impl_within.f
  by_cases h : a ≥ b
  · rw [if_pos h]; congr 1; by_cases h2 : a ≤ c <;> simp [h2]; omega
  · rw [if_neg h]; congr 1; symm; apply decide_eq_false; omega
theorem wi_call (a b c : Int) (q : Bool) (h : decide (b ≤ a ∧ a ≤ c) = q) (w : World) : Calls Tryd.prog 95 #[.int .i64 a, .int .i64 b, .int .i64 c] w fun e w' => e = .returned (.bool q) ∧ ∃ n, w' = w.drewN n :=
  (impl_within.calls a b c q w (by rw [within_eq, h])).mono fun e w' ⟨h1, h2⟩ => ⟨h1, h2.out⟩
def inB (lo hi x : Int) : Bool := decide (lo ≤ x ∧ x ≤ hi)

set_option maxHeartbeats 1000000 in
set_option maxRecDepth 100000 in
theorem notin_call (x lo hi : Int) (a b : Addr) (q : Bool) (hq : inB lo hi x = q) (w : World) (h1 : w.cell? a = some (.int .i64 lo)) (h2 : w.cell? b = some (.int .i64 hi)) :
    Calls Tryd.prog 188 #[.int .i64 x, .pointer (some a), .pointer (some b)] w fun e w' => e = .returned (.bool (!q)) ∧ Below w.heap.size w w' := by
  have hq2 : decide (lo ≤ x ∧ x ≤ hi) = q := hq
  go_enter Tryd.func188, Tryd.ntmps188
  go_wp2_with (go_at_call 95; (refine (wi_call x lo hi q hq2 _).mono ?_); rintro e w' ⟨rfl, ⟨n, rfl⟩⟩)
  go_ret
  exact ⟨rfl, pw_below_drewN (Below.refl _ _) _⟩

set_option maxHeartbeats 4000000 in
set_option maxRecDepth 100000 in
theorem index_call (A0 : Option Addr) (c0 : Nat) (l0 : List Int) (lo hi : Int) (a b : Addr) (w : World) (hr0 : Kd.C (Kd.int .i64) w A0 l0.length l0) (h1 : w.cell? a = some (.int .i64 lo)) (h2 : w.cell? b = some (.int .i64 hi)) (hl : l0.length ≤ 1000000000) :
    Calls Tryd.prog 215 #[.slice A0 l0.length c0, .func (.func 188) #[] #[.pointer (some a), .pointer (some b)]] w fun e w' => ∃ n : Int, decide (0 ≤ n) = !(l0.all (inB lo hi)) ∧ e = .returned (.int .i64 n) ∧ Below w.heap.size w w' := by
  have hu27 := Tryd.underlying27
  have H1 := Lib.hid h1
  have H2 := Lib.hid h2
  clear h1 h2
  go_enter Tryd.func215, Tryd.ntmps215
  go_wp2
  go_loopw [5, 8] (fun _ v wr => ∃ i : Nat, v = .int .i64 i ∧ i ≤ l0.length ∧ Hid (∀ j : Nat, (h : j < l0.length) → j < i → inB lo hi l0[j] = true) ∧ Hid (Below w.heap.size w wr)) (fun _ v _ => l0.length - (intOf v).toNat)
  case atStart => exact ⟨0, rfl, by omega, Lib.hid (fun j _ hj => by omega), Lib.hid (Below.refl _ _)⟩
  case round =>
    obtain ⟨i, rfl, hle, HOK, HB⟩ := hrel
    by_cases hlt : i < l0.length
    · have hltz : (i : Int) < (l0.length : Int) := by omega
      obtain ⟨ad, e, d0⟩ := Kd.at_int hr0 (i : Int) (by omega) hltz
      cases e
      have erd : rd l0 (i : Int) = l0[i] := by unfold rd; rw [Int.toNat_natCast, List.getD_eq_getElem?_getD, List.getElem?_eq_getElem hlt]; rfl
      rw [Int.toNat_natCast, erd] at d0
      replace d0 := (HB.out.cell (World.block_lt_of_cell? w _ d0)).trans d0
      have y1 := (HB.out.cell (World.block_lt_of_cell? w _ H1.out)).trans H1.out
      have y2 := (HB.out.cell (World.block_lt_of_cell? w _ H2.out)).trans H2.out
      clear erd
      obtain ⟨x, hx⟩ : ∃ x, x = l0[i] := ⟨_, rfl⟩
      rw [← hx] at d0
      have HX := Lib.hid hx
      clear hx
      cases hq : inB lo hi x with
      | true =>
        go_wp2_with (go_at_call 188; refine (notin_call x lo hi a b _ hq _ (by assumption) (by assumption)).mono ?_; rintro e w' ⟨rfl, hB⟩)
        have HB2 := Lib.hid (HB.out.trans (hB.mono HB.out.size))
        clear hB
        have HQ := Lib.hid hq
        refine ⟨⟨i + 1, by simp, by omega, Lib.hid (fun j h hj => ?_), HB2⟩, by simp only [intOf]; omega⟩
        by_cases e : j = i
        · subst e; rw [← HX.out]; exact HQ.out
        · exact HOK.out j h (by omega)
      | false =>
        go_wp2_with (go_at_call 188; refine (notin_call x lo hi a b _ hq _ (by assumption) (by assumption)).mono ?_; rintro e w' ⟨rfl, hB⟩)
        go_ret
        refine ⟨(i : Int), ?_, rfl, HB.out.trans (hB.mono HB.out.size)⟩
        rw [List.all_eq_false.2 ⟨x, by rw [HX.out]; exact List.getElem_mem hlt, by rw [hq]; decide⟩]
        simp
    · have hltz : ¬ (i : Int) < (l0.length : Int) := by omega
      go_wp2
      go_ret
      refine ⟨-1, ?_, rfl, HB.out⟩
      rw [List.all_eq_true.2 fun x hx => by
        obtain ⟨j, hj, rfl⟩ := List.getElem_of_mem hx
        exact HOK.out j hj (by omega)]
      rfl

set_option maxHeartbeats 1000000 in
set_option maxRecDepth 100000 in
theorem contains_call (A0 : Option Addr) (c0 : Nat) (l0 : List Int) (lo hi : Int) (a b : Addr) (w : World) (hr0 : Kd.C (Kd.int .i64) w A0 l0.length l0) (h1 : w.cell? a = some (.int .i64 lo)) (h2 : w.cell? b = some (.int .i64 hi)) (hl : l0.length ≤ 1000000000) :
    Calls Tryd.prog 187 #[.slice A0 l0.length c0, .func (.func 188) #[] #[.pointer (some a), .pointer (some b)]] w fun e w' => e = .returned (.bool (!(l0.all (inB lo hi)))) ∧ Below w.heap.size w w' := by
  have hcall := index_call A0 c0 l0 lo hi a b w hr0 h1 h2 hl
  refine Calls.mono (R := fun e w' => ∃ n : Int, decide (0 ≤ n) = !(l0.all (inB lo hi)) ∧ e = .returned (.bool (decide (0 ≤ n))) ∧ Below w.heap.size w w') ?_ ?_
  · clear hr0
    go_enter Tryd.func187, Tryd.ntmps187
    go_wp2_with (go_at_call 215; refine hcall.mono ?_; rintro e w' ⟨n, h, rfl, hB⟩)
    go_ret
    exact ⟨n, h, by rw [h]; rfl, hB⟩
  · rintro e w' ⟨n, h, rfl, hB⟩
    rw [h]
    exact ⟨rfl, hB⟩
set_option maxHeartbeats 1000000 in
set_option maxRecDepth 100000 in
theorem all_call (A0 : Option Addr) (c0 : Nat) (l0 : List Int) (lo hi : Int) (q : Bool) (hq : l0.all (inB lo hi) = q) (w : World) (hr0 : Kd.C (Kd.int .i64) w A0 l0.length l0) (hl : l0.length ≤ 1000000000) :
    Calls Tryd.prog 119 #[.slice A0 l0.length c0, .int .i64 lo, .int .i64 hi] w fun e w' => e = .returned (.bool q) ∧ Below w.heap.size w w' := by
  have HR := Lib.hid hr0
  clear hr0
  go_enter Tryd.func119, Tryd.ntmps119
  go_wp2_with (go_at_call 187; refine (contains_call A0 c0 l0 lo hi ⟨w.heap.size, 0, none⟩ ⟨w.heap.size + 1, 0, none⟩ _ (Kd.C_below HR.out (((Below.refl _ w).alloc (Nat.le_refl _) _).alloc (by simp) _)) (by simp) (by simp) hl).mono ?_; rw [hq]; rintro e w' ⟨rfl, hB⟩)
  go_ret
  exact ⟨rfl, (((Below.refl _ w).alloc (Nat.le_refl _) _).alloc (by simp) _).trans (hB.mono (by simp; omega))⟩
end Go.Proofs.YtdjdillppgijmaaDoor.Qp
