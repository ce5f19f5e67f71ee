/- What two of the reference's functions read at an order's address: its checks, and its days. No condition. -/
import Derived.Test.YtdjdillppgijmaaDoorPlNameO
set_option linter.unusedVariables false
set_option linter.unusedSimpArgs false
namespace Go.Proofs.YtdjdillppgijmaaDoor.Qo
open Go.RowKit Go.Proofs.YtdjdillppgijmaaDoorW.PrintWords Go.Proofs.YtdjdillppgijmaaDoorW.PrintLast Go.Proofs.YtdjdillppgijmaaDoorW.PrintMore

theorem in_call (a b c : Int) (q : Bool) (h : decide (b ≤ a ∧ a ≤ c) = q) (w : World) : Calls Tryd.prog 104 #[.int .i64 a, .int .i64 b, .int .i64 c] w fun e w' => e = .returned (.bool q) ∧ ∃ n, w' = w.drewN n :=
  (spec_l00In.calls a b c q w (by rw [in_eq, h])).mono fun e w' ⟨h1, h2⟩ => ⟨h1, h2.out⟩
theorem nm_call (s : ByteArray) (q : Bool) (h : isName s = q) (w : World) : Calls Tryd.prog 140 #[.string s] w fun e w' => e = .returned (.bool q) ∧ ∃ n, w' = w.drewN n := by
  obtain ⟨k, hk⟩ := (isName_ev s).rounds
  exact (spec_IsName.calls k s q w (by rw [← h]; exact hk)).mono fun e w' ⟨h1, h2⟩ => ⟨h1, h2.out⟩

/-- Whether an order is in order. -/
def orderB (x : S149) : Bool := isName x.f0 && (decide (1 ≤ x.f1 ∧ x.f1 ≤ 200) && (decide (1 ≤ x.f2 ∧ x.f2 ≤ 100) && decide (0 ≤ x.f3 ∧ x.f3 ≤ 20000)))
def spec_l24One.f (f0 : ByteArray) (f1 f2 f3 : Int) : Option Bool := some (orderB ⟨f0, f1, f2, f3⟩)
set_option maxHeartbeats 4000000 in
set_option maxRecDepth 100000 in
theorem spec_l24One.calls (f0 : ByteArray) (f1 f2 f3 : Int) (r : Bool) (w : World) (h : spec_l24One.f f0 f1 f2 f3 = some r) {ad : Addr} (h0 : w.cell? ad = some (.string f0) := by first | assumption | (with_unfolding_all assumption))
    (h1 : w.cell? ⟨ad.block, ad.off + 1, none⟩ = some (.int .i64 f1) := by first | assumption | (with_unfolding_all assumption)) (h2 : w.cell? ⟨ad.block, ad.off + 2, none⟩ = some (.int .i64 f2) := by first | assumption | (with_unfolding_all assumption)) (h3 : w.cell? ⟨ad.block, ad.off + 3, none⟩ = some (.int .i64 f3) := by first | assumption | (with_unfolding_all assumption)) :
    Calls Tryd.prog 199 #[.pointer (some ad)] w fun e w' => e = .returned (.bool r) ∧ Drawn0 w w' := by
  obtain rfl := Option.some.inj h
  clear h
  have hu149 := Tryd.underlying149
  cases c1 : isName f0 with
  | false =>
    have hr : orderB ⟨f0, f1, f2, f3⟩ = false := by unfold orderB; rw [c1]; rfl
    rw [hr]; clear hr
    go_enter Tryd.func199, Tryd.ntmps199
    go_wp2_with (go_at_call 140; (with_reducible refine (nm_call _ _ c1 _).mono ?_); rintro e w' ⟨rfl, ⟨nd, rfl⟩⟩)
    go_ret
    exact ⟨rfl, by repeat (first | exact Drawn0.refl _ | apply Drawn0.step)⟩
  | true =>
    cases c2 : decide (1 ≤ f1 ∧ f1 ≤ 200) with
    | false =>
      have hr : orderB ⟨f0, f1, f2, f3⟩ = false := by unfold orderB; rw [c1, c2]; rfl
      rw [hr]; clear hr
      go_enter Tryd.func199, Tryd.ntmps199
      go_wp2_with (first | (go_at_call 140; (with_reducible refine (nm_call _ _ c1 _).mono ?_); rintro e w' ⟨rfl, ⟨nd, rfl⟩⟩) | (go_at_call 104; (with_reducible refine (in_call f1 1 200 _ c2 _).mono ?_); rintro e w' ⟨rfl, ⟨nd2, rfl⟩⟩))
      go_ret
      exact ⟨rfl, by repeat (first | exact Drawn0.refl _ | apply Drawn0.step)⟩
    | true =>
      cases c3 : decide (1 ≤ f2 ∧ f2 ≤ 100) with
      | false =>
        have hr : orderB ⟨f0, f1, f2, f3⟩ = false := by unfold orderB; rw [c1, c2, c3]; rfl
        rw [hr]; clear hr
        go_enter Tryd.func199, Tryd.ntmps199
        go_wp2_with (first | (go_at_call 140; (with_reducible refine (nm_call _ _ c1 _).mono ?_); rintro e w' ⟨rfl, ⟨nd, rfl⟩⟩) | (go_at_call 104; (with_reducible refine (in_call f1 1 200 _ c2 _).mono ?_); rintro e w' ⟨rfl, ⟨nd2, rfl⟩⟩) | (go_at_call 104; (with_reducible refine (in_call f2 1 100 _ c3 _).mono ?_); rintro e w' ⟨rfl, ⟨nd3, rfl⟩⟩))
        go_ret
        exact ⟨rfl, by repeat (first | exact Drawn0.refl _ | apply Drawn0.step)⟩
      | true =>
        cases c4 : decide (0 ≤ f3 ∧ f3 ≤ 20000) with
        | false =>
          have hr : orderB ⟨f0, f1, f2, f3⟩ = false := by unfold orderB; rw [c1, c2, c3, c4]; rfl
          rw [hr]; clear hr
          go_enter Tryd.func199, Tryd.ntmps199
          go_wp2_with (first | (go_at_call 140; (with_reducible refine (nm_call _ _ c1 _).mono ?_); rintro e w' ⟨rfl, ⟨nd, rfl⟩⟩) | (go_at_call 104; (with_reducible refine (in_call f1 1 200 _ c2 _).mono ?_); rintro e w' ⟨rfl, ⟨nd2, rfl⟩⟩) | (go_at_call 104; (with_reducible refine (in_call f2 1 100 _ c3 _).mono ?_); rintro e w' ⟨rfl, ⟨nd3, rfl⟩⟩) | (go_at_call 104; (with_reducible refine (in_call f3 0 20000 _ c4 _).mono ?_); rintro e w' ⟨rfl, ⟨nd4, rfl⟩⟩))
          go_ret
          exact ⟨rfl, by repeat (first | exact Drawn0.refl _ | apply Drawn0.step)⟩
        | true =>
          have hr : orderB ⟨f0, f1, f2, f3⟩ = true := by unfold orderB; rw [c1, c2, c3, c4]; rfl
          rw [hr]; clear hr
          go_enter Tryd.func199, Tryd.ntmps199
          go_wp2_with (first | (go_at_call 140; (with_reducible refine (nm_call _ _ c1 _).mono ?_); rintro e w' ⟨rfl, ⟨nd, rfl⟩⟩) | (go_at_call 104; (with_reducible refine (in_call f1 1 200 _ c2 _).mono ?_); rintro e w' ⟨rfl, ⟨nd2, rfl⟩⟩) | (go_at_call 104; (with_reducible refine (in_call f2 1 100 _ c3 _).mono ?_); rintro e w' ⟨rfl, ⟨nd3, rfl⟩⟩) | (go_at_call 104; (with_reducible refine (in_call f3 0 20000 _ c4 _).mono ?_); rintro e w' ⟨rfl, ⟨nd4, rfl⟩⟩))
          go_ret
          exact ⟨rfl, by repeat (first | exact Drawn0.refl _ | apply Drawn0.step)⟩

def spec_l24Days.f (_f0 : ByteArray) (_f1 f2 _f3 a1 : Int) : Option Int := some (wrap64 (f2 * a1))
set_option maxHeartbeats 400000 in
theorem spec_l24Days.calls (f0 : ByteArray) (f1 f2 f3 a1 : Int) (r : Int) (w : World) (h : spec_l24Days.f f0 f1 f2 f3 a1 = some r) {ad : Addr}
    (h2 : w.cell? ⟨ad.block, ad.off + 2, none⟩ = some (.int .i64 f2) := by first | assumption | (with_unfolding_all assumption)) :
    Calls Tryd.prog 132 #[.pointer (some ad), .int .i64 a1] w fun e w' => e = .returned (.int .i64 r) ∧ Drawn0 w w' := by
  obtain rfl := Option.some.inj h
  have hu149 := Tryd.underlying149
  go_enter Tryd.func132, Tryd.ntmps132
  go_wp2
  go_ret
  exact ⟨rfl, Drawn0.refl _⟩
end Go.Proofs.YtdjdillppgijmaaDoor.Qo
