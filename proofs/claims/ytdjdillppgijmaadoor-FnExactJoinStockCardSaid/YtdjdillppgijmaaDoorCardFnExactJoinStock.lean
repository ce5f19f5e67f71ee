/- The law FnExactJoinStock: for every input the call returns true and leaves its arguments as they were; tied to the program's text. No condition. -/
import Derived.Test.YtdjdillppgijmaaDoorTie
import Derived.Test.YtdjdillppgijmaaDoorCards
import Derived.LaidMore
import Derived.Lay
import Derived.SevenTiedAt
import Derived.Stop.Joined
import Derived.WalkKit
import Derived.ProofKit
import Derived.OpenShut
import Derived.ShutString
import Derived.ChangeOld
import Derived.Below
import Derived.SizedLaws
import Derived.Test.YtdjdillppgijmaaDoorOpenItems
import Derived.Test.YtdjdillppgijmaaDoorPureJoin
namespace Go.Proofs.YtdjdillppgijmaaDoor.fnExactJoinStock
open Go.ChangeShapes Go.WideShapes Go.ChangeAt Go.RowKit
open Go.ChangeMaps (open_string shut_string)
set_option linter.unusedVariables false
theorem own : ownKnob Tryd.prog.godebug = none := by kernel_rfl
theorem laidOut : laidOutB Tryd.prog = true := by kernel_rfl
set_option maxRecDepth 100000 in
theorem lifted (os : Os) (started : os.Started) (H : Type) (enc : TypeId × Value → H) :
    ReturnsInHanded {} Tryd.checked os 7 .any (fun w args => (Rows.fnExactJoinStockSpec.pre enc Tryd.prog Tryd.f7 Rows.fnExactJoinStockRow.domain false w args ∧ laidMetH Tryd.prog Rows.fnExactJoinStockRow.laid w) ∧ sizedMet enc Tryd.prog Tryd.f7 (OpenSpec.ofChange Rows.fnExactJoinStockSpec) false w args) (Rows.fnExactJoinStockSpec.post enc Tryd.prog Tryd.f7 false true false false) := by
  refine returnsInHanded_of_change_and (C := Tryd.checked) (X := (fun w _ => laidMetH Tryd.prog Rows.fnExactJoinStockRow.laid w)) (fun _ _ _ hh h => h.of_heap hh) own started (by kernel_rfl) Tryd.func7
    (ChangeSpec.witness_shaped (enc := enc) (C := Tryd.checked) (os := os) (X := (fun w _ => laidMetH Tryd.prog Rows.fnExactJoinStockRow.laid w)) false (World.laidAll Tryd.prog os Rows.fnExactJoinStockRow.laid) #[.slice none 0 0, .slice none 0 0] 8 (World.laidAll_os _ _ _)
      (World.shaped_of_ZipB (by kernel_rfl) (by kernel_rfl)) (by kernel_rfl) (by kernel_rfl) (by kernel_rfl)
      (by rw [MakeChecks.laidMetH_plain _ _ _ (by kernel_rfl)]; exact laidMet_laidAll _ (by kernel_rfl) (by kernel_rfl))) ?_
  intro W base args ds gs before hval0 hW hcnd hsz0 _ _
  have hval : ∀ (j : Nat) t v, Tryd.f7.params[j]? = some t → args[j]? = some v → Value.okWide Tryd.prog W .any base t v := hval0
  have hW' := hW
  obtain ⟨p, q, hA0, hV, rfl, hfz, hnd⟩ := hW
  have hA : DataW.TrodAll enc Tryd.prog W 0 (fun _ => true) true Tryd.f7.params.toList args.toList ds p := hA0
  rw [Tryd.params7] at hA hval
  obtain ⟨v0, vs0, d0, ds0, p0, q0, hargs, rfl, rfl, h0, r0⟩ := trodAll_cons hA
  obtain ⟨v1, vs1, d1, ds1, p1, q1, rfl, rfl, rfl, h1, r1⟩ := trodAll_cons r0
  obtain ⟨rfl, rfl, rfl⟩ := trodAll_nil r1
  obtain rfl : args = #[v0, v1] := by cases args; simp_all
  obtain ⟨rfl, rfl⟩ := trodVars_none hV
  obtain ⟨a0, len0, cap0, rfl⟩ := okWide_slice Tryd.underlying47 (hval 0 47 v0 rfl rfl)
  have k0 := h0
  have lt0 : ∀ x ∈ p0, x.block < W.heap.size := by obtain ⟨m, hm⟩ := k0; exact DataW.trod_lt m _ _ _ hm
  obtain ⟨z0, hz0, hc0, hm0, hs0⟩ : ∃ zs : List Qs.S122, zs.length = len0 ∧ len0 ≤ cap0 ∧ Go.Proofs.YtdjdillppgijmaaDoorW.PrintWords.Kd.C Qs.k122 W a0 len0 zs ∧ ∀ z ∈ zs, z.f0.size ≤ 9223372036854775807 := by
    obtain ⟨fuel, hf⟩ := h0
    exact OpenItems.items_open Tryd.underlying47 hf
  subst hz0
  obtain ⟨a1, len1, cap1, rfl⟩ := okWide_slice Tryd.underlying47 (hval 1 47 v1 rfl rfl)
  have k1 := h1
  have lt1 : ∀ x ∈ p1, x.block < W.heap.size := by obtain ⟨m, hm⟩ := k1; exact DataW.trod_lt m _ _ _ hm
  obtain ⟨z1, hz1, hc1, hm1, hs1⟩ : ∃ zs : List Qs.S122, zs.length = len1 ∧ len1 ≤ cap1 ∧ Go.Proofs.YtdjdillppgijmaaDoorW.PrintWords.Kd.C Qs.k122 W a1 len1 zs ∧ ∀ z ∈ zs, z.f0.size ≤ 9223372036854775807 := by
    obtain ⟨fuel, hf⟩ := h1
    exact OpenItems.items_open Tryd.underlying47 hf
  subst hz1
  obtain ⟨k, hk⟩ := Qs.join_law z0 z1 hm0.2.1 hm1.2.1 hs0 hs1
  clear hA0 hval0
  refine (Qs.laws_FnExactJoinStock.calls k a0 cap0 z0 a1 cap1 z1 true W hm0 hc0 hm1 hc1 hk).mono fun e W' ⟨he, bel⟩ => ?_
  subst he
  exact ⟨_, rfl, _, _, _, [], _, [], hW', trodAll_mk1 (shut_bool Tryd.underlying4 _), (trodAll_cons_mk (Below.trod laidOut (by kernel_rfl) (of_decide_eq_true (by kernel_rfl)) k0 bel lt0) (trodAll_cons_mk (Below.trod laidOut (by kernel_rfl) (of_decide_eq_true (by kernel_rfl)) k1 bel lt1) trodAll_mk0)), rfl, bel.frame _, fun h => by cases h⟩
theorem and_mk {a b : Bool} (h : a = true) (k : b = true) : (a && b) = true := by rw [h, k]; rfl
set_option maxHeartbeats 8000000 in
set_option maxRecDepth 100000 in
theorem closed : joinedFacts Tryd.prog 7 Tryd.f7 Rows.fnExactJoinStockSpec Rows.fnExactJoinStockRow = true := by
  unfold joinedFacts
  repeat' (with_reducible refine and_mk ?_ ?_)
  all_goals (as_aux_lemma => kernel_rfl)
theorem found : Tryd.pinned.checked.prog.funcNamed Rows.fnExactJoinStockRow.func = some 7 := by kernel_rfl
theorem over : Rows.fnExactJoinStockRow.holds Tryd.pinned (OpenSpec.ofChange Rows.fnExactJoinStockSpec) :=
  OpenClaim.holds_of_wide 7 Tryd.f7 rfl rfl rfl rfl rfl rfl rfl ⟨rfl, rfl, rfl, rfl, rfl⟩ rfl rfl rfl rfl rfl found Tryd.func7 closed
    (of_decide_eq_true (by kernel_rfl)) (by unfold Func.isWrapper; first | (rw [if_pos (by decide +kernel)]; kernel_rfl) | (rw [if_neg (by decide +kernel)]; exact ⟨rfl, rfl⟩))
    (fun os started H enc _ => lifted os started H enc)
theorem card : Rows.FnExactJoinStockCardSaid :=
  Claim7.holds_tied_plain_at .later [] [.data, .pinned] true (true, "439f7eb298ca2b58c499fc93a30914df08e9094640df5b3dfe8c806ef234bf15") false over (fun _ h => by cases h) (by kernel_rfl) (fun _ h => by cases h) fnExactJoinStock_row_tie rfl ⟨rfl, rfl⟩ (by kernel_rfl) rfl
    (fun f fn hf hfn => by
      obtain rfl : f = 7 := Option.some.inj ((show Tryd.prog.funcNamed "loop.example/g01055/laws.FnExactJoinStock" = some 7 by kernel_rfl).symm.trans hf) |>.symm
      obtain rfl : fn = Tryd.f7 := (Option.some.inj (Tryd.func7.symm.trans hfn)).symm
      exact ⟨by kernel_rfl, fun j t ht => by
        rw [Tryd.params7] at ht
        have hm : t ∈ [47, 47] := by simpa using Array.mem_of_getElem? ht
        have hall : ([47, 47].all fun u => !Tryd.prog.wantsStandIn u) = true := by kernel_rfl
        exact (show Tryd.prog.wantsStandIn t = false by simpa using List.all_eq_true.1 hall t hm)⟩)
    (by kernel_rfl)
#print axioms card
end Go.Proofs.YtdjdillppgijmaaDoor.fnExactJoinStock
namespace Go.Proofs.YtdjdillppgijmaaDoor
/-- The row, under a short name, for the claim. -/
theorem fnExactJoinStock_holds : Rows.FnExactJoinStockCardSaid := fnExactJoinStock.card
end Go.Proofs.YtdjdillppgijmaaDoor
