/- The law FnExactPractise: for every input the call returns true and leaves its arguments as they were; tied to the program's text. No condition. -/
import Derived.Test.YtdjdillppgijmaaDoorRowFnExactPractise
namespace Go.Proofs.YtdjdillppgijmaaDoor.fnExactPractise
open Go.ChangeShapes Go.WideShapes Go.ChangeAt Go.RowKit
open Go.ChangeMaps (open_string shut_string)
set_option linter.unusedVariables false
theorem c_main : Tryd.pinned.checked.prog.mainIs = some (true, "439f7eb298ca2b58c499fc93a30914df08e9094640df5b3dfe8c806ef234bf15".toList) := by kernel_rfl
theorem c_named : Tryd.prog.funcNamed "loop.example/g01055/laws.FnExactPractise" = some 4 := by kernel_rfl
theorem c_looks : false = Tryd.pinned.checked.prog.looks [] := by kernel_rfl
theorem c_stand : ([27, 35, 2, 2, 2].all fun u => !Tryd.prog.wantsStandIn u) = true := by kernel_rfl
theorem c_goes : false = Rows.fnExactPractiseRow.goesBy Tryd.pinned.checked.prog := by kernel_rfl
theorem c_text : Rows.fnExactPractiseRow.wfByText (OpenSpec.ofChange Rows.fnExactPractiseSpec) = true := by kernel_rfl
theorem card : Rows.FnExactPractiseCardSaid :=
  Claim7.holds_tied_plain_at .later [] [.data, .pinned] true (true, "439f7eb298ca2b58c499fc93a30914df08e9094640df5b3dfe8c806ef234bf15") false over (fun _ h => by cases h) c_text (fun _ h => by cases h) fnExactPractise_row_tie rfl ⟨rfl, rfl⟩ c_main rfl
    (fun f fn hf hfn => by
      obtain rfl : f = 4 := Option.some.inj (c_named.symm.trans hf) |>.symm
      obtain rfl : fn = Tryd.f4 := (Option.some.inj (Tryd.func4.symm.trans hfn)).symm
      exact ⟨c_looks, fun j t ht => by
        rw [Tryd.params4] at ht
        have hm : t ∈ [27, 35, 2, 2, 2] := by simpa using Array.mem_of_getElem? ht
        exact (show Tryd.prog.wantsStandIn t = false by simpa using List.all_eq_true.1 c_stand t hm)⟩)
    c_goes
#print axioms card
end Go.Proofs.YtdjdillppgijmaaDoor.fnExactPractise
namespace Go.Proofs.YtdjdillppgijmaaDoor
/-- The row, under a short name, for the claim. -/
theorem fnExactPractise_holds : Rows.FnExactPractiseCardSaid := fnExactPractise.card
end Go.Proofs.YtdjdillppgijmaaDoor
