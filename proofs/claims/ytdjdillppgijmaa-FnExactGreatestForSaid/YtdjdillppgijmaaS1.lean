/- What a price function reads at an element's address: its two branches. No condition. -/
import Derived.Test.YtdjdillppgijmaaQx0
namespace Go.Proofs.Ytdjdillppgijmaa.Q
open Go.RowKit Go.Proofs.YtdjdillppgijmaaW.PrintWords Go.Proofs.YtdjdillppgijmaaW.PrintLast Go.Proofs.YtdjdillppgijmaaW.PrintMore

def spec_l26Price.f (_f0 f1 f2 : Int) (a1 : Bool) : Option Int := some (if a1 = true then wrap64 (f1 + f2) else f1)
set_option maxHeartbeats 400000 in
theorem spec_l26Price.calls (f0 f1 f2 : Int) (a1 : Bool) (r : Int) (w : World) (h : spec_l26Price.f f0 f1 f2 a1 = some r) {ad : Addr}
    (h1 : w.cell? ⟨ad.block, ad.off + 1, none⟩ = some (.int .i64 f1) := by assumption) (h2 : w.cell? ⟨ad.block, ad.off + 2, none⟩ = some (.int .i64 f2) := by assumption) :
    Calls Try.prog 11 #[.pointer (some ad), .bool a1] w fun e w' => e = .returned (.int .i64 r) ∧ Drawn0 w w' := by
  obtain rfl := Option.some.inj h
  have hu35 := Try.underlying35
  cases a1
  · go_enter Try.func11, Try.ntmps11
    go_wp2
    go_ret
    exact ⟨rfl, Drawn0.refl _⟩
  · go_enter Try.func11, Try.ntmps11
    go_wp2
    go_quiet (fail)
    go_wp2
    go_ret
    exact ⟨by simp, by repeat (first | exact Drawn0.refl _ | apply Drawn0.step)⟩
end Go.Proofs.Ytdjdillppgijmaa.Q
