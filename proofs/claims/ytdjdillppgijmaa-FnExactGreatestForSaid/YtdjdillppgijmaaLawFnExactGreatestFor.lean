/- The law FnExactGreatestFor: for every input the call returns true and leaves its arguments as they were. No condition. -/
import Derived.Test.YtdjdillppgijmaaRows
import Derived.Test.YtdjdillppgijmaaPure
import Derived.WalkKit
import Derived.ProofKit
import Derived.OpenShut
import Derived.ShutString
import Derived.ChangeOld
import Derived.Below
import Derived.SizedLaws
import Derived.Deep.Slices
import Derived.Deep.Fields
import Derived.Deep.Strs
import Derived.ChangeSame
namespace Go.Proofs.Ytdjdillppgijmaa.fnExactGreatestFor
open Go.ChangeShapes Go.WideShapes Go.ChangeAt Go.RowKit Go.Deep
set_option linter.unusedVariables false
theorem own : ownKnob Try.prog.godebug = none := by kernel_rfl
theorem laidOut : laidOutB Try.prog = true := by kernel_rfl

/-- The number in a cell. -/
def rdI (w : World) (a : Addr) : Int := match w.cell? a with | some (.int _ n) => n | _ => 0
theorem rdI_of {w : World} {a : Addr} {k : IntKind} {n : Int} (h : w.cell? a = some (.int k n)) : rdI w a = n := by unfold rdI; rw [h]
def rowOf (w : World) (a : Addr) (len : Nat) : List Q.S37 := (List.range len).map fun i => ⟨rdI w (a.add (i * 3)), rdI w (a.add (i * 3 + 1)), rdI w (a.add (i * 3 + 2))⟩
theorem rowOf_reads (w : World) (a : Addr) (len : Nat) (hl : len ≤ maxLen) (h : ∀ i, i < len → ∃ n0 n1 n2, w.cell? (a.add (i * 3)) = some (.int .i64 n0) ∧ w.cell? (a.add (i * 3 + 1)) = some (.int .i64 n1) ∧ w.cell? (a.add (i * 3 + 2)) = some (.int .i64 n2)) :
    Go.Proofs.YtdjdillppgijmaaW.PrintWords.Kd.C Q.k37 w (some a) len (rowOf w a len) := by
  refine ⟨by simp [rowOf], hl, fun _ => ⟨a, rfl, fun j p hp => ?_⟩⟩
  unfold rowOf at hp
  rw [List.getElem?_map] at hp
  obtain ⟨i, hi, rfl⟩ := Option.map_eq_some_iff.1 hp
  obtain ⟨hlt, rfl⟩ := List.getElem?_eq_some_iff.1 hi
  rw [List.length_range] at hlt
  obtain ⟨n0, n1, n2, h0, h1, h2⟩ := h j hlt
  rw [List.getElem_range] at *
  rw [rdI_of h0, rdI_of h1, rdI_of h2]
  refine ⟨_, rfl, Q.k37_mk w _, fun i u hu => ?_⟩
  match i, hu with
  | 0, hu => cases hu; exact h0
  | 1, hu => cases hu; exact h1
  | 2, hu => cases hu; exact h2
  | n + 3, hu => cases hu

set_option maxRecDepth 100000 in
theorem lifted (os : Os) (started : os.Started) (H : Type) (enc : TypeId × Value → H) :
    ReturnsInHanded {} Try.checked os 3 .any (Rows.fnExactGreatestForSpec.pre6 enc Try.prog Try.f3 Rows.fnExactGreatestForRow.domain false) (Rows.fnExactGreatestForSpec.post enc Try.prog Try.f3 false true false false) := by
  refine returnsInHanded_of_change (C := Try.checked) own started (by kernel_rfl) Try.func3
    (ChangeSpec.witness6 (enc := enc) (C := Try.checked) false ⟨#[], #[.slice none 0 0, .int .i64 0, .bool false], []⟩ 8 (by kernel_rfl) (by kernel_rfl) (by kernel_rfl) (by kernel_rfl)) ?_
  intro W base args ds gs before hval0 hW hcnd _
  have hval : ∀ (j : Nat) t v, Try.f3.params[j]? = some t → args[j]? = some v → Value.okWide Try.prog W .any base t v := hval0
  have hW' := hW
  obtain ⟨p, q, hA0, hV, rfl, hfz, hnd⟩ := hW
  have hA : DataW.TrodAll enc Try.prog W 0 (fun _ => true) true Try.f3.params.toList args.toList ds p := hA0
  rw [Try.params3] at hA hval
  obtain ⟨v0, vs0, d0, ds0, p0, q0, hargs, rfl, rfl, h0, r0⟩ := trodAll_cons hA
  obtain ⟨v1, vs1, d1, ds1, p1, q1, rfl, rfl, rfl, h1, r1⟩ := trodAll_cons r0
  obtain ⟨v2, vs2, d2, ds2, p2, q2, rfl, rfl, rfl, h2, r2⟩ := trodAll_cons r1
  obtain ⟨rfl, rfl, rfl⟩ := trodAll_nil r2
  obtain rfl : args = #[v0, v1, v2] := by cases args; simp_all
  obtain ⟨rfl, rfl⟩ := trodVars_none hV
  obtain ⟨b, rfl, rfl, rfl, wb⟩ := open_int Try.underlying2 (hval 1 2 v1 rfl rfl) h1
  obtain ⟨c, rfl, rfl, rfl⟩ := open_bool Try.underlying4 (hval 2 4 v2 rfl rfl) h2
  obtain ⟨a0, len0, cap0, rfl⟩ := okWide_slice Try.underlying22 (hval 0 22 v0 rfl rfl)
  have k0 := h0
  have lt0 : ∀ x ∈ p0, x.block < W.heap.size := by obtain ⟨m, hm⟩ := k0; exact DataW.trod_lt m _ _ _ hm
  obtain ⟨z0, hz0, hc0, hm0⟩ : ∃ zs : List Q.S37, zs.length = len0 ∧ len0 ≤ cap0 ∧ Go.Proofs.YtdjdillppgijmaaW.PrintWords.Kd.C Q.k37 W a0 len0 zs := by
    obtain ⟨fuel, hf⟩ := h0
    rcases open_slice Try.underlying22 hf with ⟨hcs, _⟩ | ⟨x, l, cc, m, n, D, Pl, hcs, _, hl, hm, hmm, _, hi⟩
    · simp [Value.cells] at hcs
      obtain ⟨rfl, rfl, rfl⟩ := hcs
      exact ⟨[], rfl, Nat.le_refl _, rfl, by decide, fun h => absurd h (Nat.lt_irrefl 0)⟩
    · simp [Value.cells] at hcs
      obtain ⟨rfl, rfl, rfl⟩ := hcs
      refine ⟨rowOf W x len0, by simp [rowOf], hl, rowOf_reads W x len0 (Nat.le_trans hl hm) fun i hlt => ?_⟩
      obtain ⟨cs, hc, ht⟩ := hi i (by rw [hmm]; simp; omega)
      obtain ⟨y0, y1, y2, nn, _, hlen, t0, t1, t2⟩ := trod_struct3 Try.underlying37 ht
      obtain ⟨_, _, hat⟩ := World.cells?_some hc
      have e3 : Try.prog.cellsOf 37 = 3 := by kernel_rfl
      have e1 : Try.prog.cellsOf 2 = 1 := by kernel_rfl
      rw [e3] at hlen hat
      rw [e1] at t0 t1 t2
      obtain ⟨n0, g0, _, _⟩ := DataW.trod_int Try.underlying2 t0
      obtain ⟨n1, g1, _, _⟩ := DataW.trod_int Try.underlying2 t1
      obtain ⟨n2, g2, _, _⟩ := DataW.trod_int Try.underlying2 t2
      match cs, hlen with
      | [u0, u1, u2], _ =>
        simp at g0 g1 g2
        subst g0 g1 g2
        have f0 := hat 0 (by omega)
        have f1 := hat 1 (by omega)
        have f2 := hat 2 (by omega)
        rw [Go.Deep.add_add] at f0 f1 f2
        exact ⟨n0, n1, n2, f0, f1, f2⟩
  subst hz0
  obtain ⟨k, hk⟩ := Q.law z0 hm0.2.1 b c
  clear hA0 hval0
  refine (Q.laws_FnExactGreatestFor.calls k a0 cap0 z0 b c true W hm0 hc0 hk).mono fun e W' ⟨he, bel⟩ => ?_
  subst he
  exact ⟨_, rfl, _, _, _, [], _, [], hW', trodAll_mk1 (shut_bool Try.underlying4 _), (trodAll_cons_mk (Below.trod laidOut (by kernel_rfl) (of_decide_eq_true (by kernel_rfl)) k0 bel lt0) (trodAll_cons_mk (shut_int Try.underlying2 wb) (trodAll_cons_mk (shut_bool Try.underlying4 _) trodAll_mk0))), rfl, bel.frame _, fun h => by cases h⟩
theorem and_mk {a b : Bool} (h : a = true) (k : b = true) : (a && b) = true := by rw [h, k]; rfl
set_option maxHeartbeats 8000000 in
set_option maxRecDepth 100000 in
theorem closed : joinedFacts Try.prog 3 Try.f3 Rows.fnExactGreatestForSpec Rows.fnExactGreatestForRow = true := by
  unfold joinedFacts
  repeat' (with_reducible refine and_mk ?_ ?_)
  all_goals (as_aux_lemma => kernel_rfl)
theorem found : Try.pinned.checked.prog.funcNamed Rows.fnExactGreatestForRow.func = some 3 := by kernel_rfl
theorem over : Rows.FnExactGreatestForSaid :=
  OpenClaim.holds_of_wide 3 Try.f3 rfl rfl rfl rfl rfl rfl rfl ⟨rfl, rfl, rfl, rfl, rfl⟩ rfl rfl rfl rfl rfl found Try.func3 closed
    (of_decide_eq_true (by kernel_rfl)) (by unfold Func.isWrapper; first | (rw [if_pos (by decide +kernel)]; kernel_rfl) | (rw [if_neg (by decide +kernel)]; exact ⟨rfl, rfl⟩))
    (fun os started H enc _ => lifted os started H enc)
#print axioms over
end Go.Proofs.Ytdjdillppgijmaa.fnExactGreatestFor
namespace Go.Proofs.Ytdjdillppgijmaa
/-- The row, under a short name, for the claim. -/
theorem fnExactGreatestFor_holds : Rows.FnExactGreatestForSaid := fnExactGreatestFor.over
end Go.Proofs.Ytdjdillppgijmaa
