/- What the reference's walk over sets leans on: the cost of an item by its address, the state as it lies in memory. -/
import Derived.Test.YtdjdillppgijmaaDoorPlRefill
import Derived.Test.YtdjdillppgijmaaDoorPlWalk
import Derived.Test.YtdjdillppgijmaaDoorPlRows
import Derived.Test.YtdjdillppgijmaaDoorQsx16
import Derived.Lib.Hide
set_option linter.unusedVariables false
set_option linter.unusedSimpArgs false
namespace Go.Proofs.YtdjdillppgijmaaDoor.Qs
open Go.RowKit Go.Proofs.YtdjdillppgijmaaDoorW.PrintWords Go.Proofs.YtdjdillppgijmaaDoorW.PrintLast Go.Proofs.YtdjdillppgijmaaDoorW.PrintMore Go.Proofs.YtdjdillppgijmaaDoor.Pl

theorem max_call (b : Int) (hb : 0 < b) (w : World) : Calls Tryd.prog 133 #[.int .i64 0, .int .i64 b] w fun e w' => e = .returned (.int .i64 b) ∧ ∃ n, w' = w.drewN n :=
  (spec_l00Max.calls 0 b b w (by unfold spec_l00Max.f; rw [if_neg (by omega)])).mono fun e w' ⟨h1, h2⟩ => ⟨h1, h2.out⟩

set_option maxHeartbeats 1000000 in
set_option maxRecDepth 100000 in
theorem refill_at (ad : Addr) (f1 f2 f3 : Int) (w : World) (h1 : w.cell? ⟨ad.block, ad.off + 1, none⟩ = some (.int .i64 f1)) (h2 : w.cell? ⟨ad.block, ad.off + 2, none⟩ = some (.int .i64 f2)) (h3 : w.cell? ⟨ad.block, ad.off + 3, none⟩ = some (.int .i64 f3))
    (hlt : f1 < f2) (b1 : 0 ≤ f1) (b2 : f2 ≤ 100000) (b3 : 0 ≤ f3 ∧ f3 ≤ 1000000) (bm : 0 ≤ (f2 - f1) * f3 ∧ (f2 - f1) * f3 ≤ 100000000000) :
    Calls Tryd.prog 182 #[.pointer (some ad)] w fun e w' => e = .returned (.int .i64 ((f2 - f1) * f3)) ∧ ∃ n, w' = w.drewN n := by
  have hu34 := Tryd.underlying34
  have s1 : IntKind.i64.wrap (f2 - f1) = f2 - f1 := by rw [IntKind.wrap_i64]; omega
  have s2 : IntKind.i64.wrap ((f2 - f1) * f3) = (f2 - f1) * f3 := by rw [IntKind.wrap_i64]; omega
  have hp : 0 < f2 - f1 := by omega
  go_enter Tryd.func182, Tryd.ntmps182
  go_wp2
  go_quiet ((go_at_call 133; exact Calls.quiet_of (max_call _ hp _)))
  go_wp2
  go_ret
  exact ⟨rfl, _, rfl⟩
end Go.Proofs.YtdjdillppgijmaaDoor.Qs
