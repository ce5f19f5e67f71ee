/- The reference's RefillWithin: its walk over the sets of short items. -/
import Derived.Test.YtdjdillppgijmaaDoorSWalk
import Derived.Test.YtdjdillppgijmaaDoorSOk
import Derived.Test.YtdjdillppgijmaaDoorQsx2
import Derived.Test.YtdjdillppgijmaaDoorQsx9
import Derived.Test.YtdjdillppgijmaaDoorPlRefill2
set_option linter.unusedVariables false
set_option linter.unusedSimpArgs false
namespace Go.Proofs.YtdjdillppgijmaaDoor.Qs
open Go.RowKit Go.Proofs.YtdjdillppgijmaaDoorW.PrintWords Go.Proofs.YtdjdillppgijmaaDoorW.PrintLast Go.Proofs.YtdjdillppgijmaaDoorW.PrintMore Go.Proofs.YtdjdillppgijmaaDoor.Pl

def spec_RefillWithin.f (l : List S34) (budget : Int) : Option (List Int × Int × Int) :=
  if l.length ≤ 1000000000 then
    if validB l = true then
      if 0 ≤ budget ∧ budget ≤ 100000000 then
        if (shortL l).length ≤ 10 then some ((visit (need l) budget (shortL l) [] 0 ([], 0)).1, (visit (need l) budget (shortL l) [] 0 ([], 0)).2, 0) else some ([], 0, 5)
      else some ([], 0, 2)
    else some ([], 0, 1)
  else none

theorem rok_call (l : List S34) (b : Bool) (hl : l.length ≤ 1000000000) (hb : validB l = b) (A0 : Option Addr) (c0 : Nat) (W w : World) (hB : Below W.heap.size W w) (hr0 : Kd.C k34 W A0 l.length l) (hc0 : l.length ≤ c0) :
    Calls Tryd.prog 100 #[.slice A0 l.length c0] w fun e w' => e = .returned (.bool b) ∧ Below W.heap.size W w' :=
  (ok_loop A0 c0 l w (Kd.C_below hr0 hB) hc0 hl).mono fun e w' ⟨h1, h2⟩ => ⟨by rw [h1, hb], bel_trans hB h2⟩
theorem rin_call (a : Int) (b : Bool) (hb : decide (0 ≤ a ∧ a ≤ 100000000) = b) (W w : World) (hB : Below W.heap.size W w) :
    Calls Tryd.prog 104 #[.int .i64 a, .int .i64 0, .int .i64 100000000] w fun e w' => e = .returned (.bool b) ∧ Below W.heap.size W w' :=
  (spec_l00In.calls a 0 100000000 b w (by
    unfold spec_l00In.f
    subst hb
    by_cases h : a ≥ 0
    · rw [if_pos h]; congr 1; simp only [decide_eq_decide]; omega
    · rw [if_neg h, decide_eq_false (by omega)])).mono fun e w' ⟨h1, h2⟩ => ⟨h1, bel_trans hB h2.below⟩
theorem rshort_call (l : List S34) (hl : l.length ≤ 1000000000) (A0 : Option Addr) (c0 : Nat) (W w : World) (hB : Below W.heap.size W w) (hr0 : Kd.C k34 W A0 l.length l) (hc0 : l.length ≤ c0) :
    Calls Tryd.prog 101 #[.slice A0 l.length c0] w fun e w' => ∃ As cs, e = .returned (.slice As (shortL l).length cs) ∧ Kd.C (Kd.int .i64) w' As (shortL l).length (shortL l) ∧ Below W.heap.size W w' := by
  obtain ⟨k, hk⟩ := (short2_ev l hl).rounds
  refine (spec_l23Short.calls k A0 c0 l (shortL l) w (Kd.C_below hr0 hB) hc0 hk).mono ?_
  rintro e w' ⟨v, rfl, hR, hb⟩
  obtain ⟨As, cs, rfl⟩ := Kd.R_slice hR
  exact ⟨As, cs, rfl, (Kd.R_reads' hR).2.2, bel_trans hB hb⟩

theorem empty_own (W w : World) (b g : Nat) (hb : b ≤ g) (hg : w.heap[g]? = some (.cells #[] 2 (0, 0))) (ok : Nat → Prop) (hok : ok g) : Kd.R (Kd.int .i64) 2 w b ok (.slice (some ⟨g, 0, none⟩) 0 0) [] :=
  Rw.int_mk (xs := []) g 0 #[] hb hok hg (by simp) (by simp) (by simp) (by simp)
theorem walk_first (l : List S34) (A0 As : Option Addr) (c0 cs : Nat) (budget : Int) (w w3 : World) (sh : List Int) (hsh : sh = shortL l) (hB3 : Below w.heap.size w w3) (hr0 : Kd.C k34 w A0 l.length l) (hsh3 : Kd.C (Kd.int .i64) w3 As sh.length sh)
    (hv : validB l = true) (hb : 0 ≤ budget ∧ budget ≤ 100000000) (hn : sh.length ≤ 10) :
    Calls Tryd.prog 113 #[.pointer (some ⟨w3.heap.size + 1, 0, none⟩), .slice (some ⟨w3.heap.size + 1 + 1, 0, none⟩) 0 0, .int .i64 0, .int .i64 0]
      (((w3.alloc (.cells #[] 2)).alloc (.cells #[.slice A0 l.length c0, .slice As sh.length cs, .int .i64 budget, .slice (some ⟨w3.heap.size, 0, none⟩) 0 0, .int .i64 0] 125)).alloc (.cells #[] 2)) fun e w' =>
      ∃ Ab cb, e = .returned (.tuple #[]) ∧ w'.cell? ⟨w3.heap.size + 1, 3, none⟩ = some (.slice Ab (visit (need l) budget sh [] 0 ([], 0)).1.length cb) ∧ w'.cell? ⟨w3.heap.size + 1, 4, none⟩ = some (.int .i64 (visit (need l) budget sh [] 0 ([], 0)).2) ∧
        Kd.R (Kd.int .i64) 2 w' w.heap.size (fun _ => True) (.slice Ab (visit (need l) budget sh [] 0 ([], 0)).1.length cb) (visit (need l) budget sh [] 0 ([], 0)).1 ∧ Below w.heap.size w w' := by
  have hmem : ∀ x ∈ sh, 0 ≤ x ∧ x < l.length ∧ (rd_T34 l x).f1 < (rd_T34 l x).f2 ∧ 0 ≤ (rd_T34 l x).f1 ∧ (rd_T34 l x).f2 ≤ 100000 ∧ (0 ≤ (rd_T34 l x).f3 ∧ (rd_T34 l x).f3 ≤ 1000000) ∧ (0 ≤ need l x ∧ need l x ≤ 100000000000) := by
    intro x hx
    rw [hsh] at hx
    obtain ⟨h0, h1, h2⟩ := short_mem hx
    obtain ⟨a, b, c⟩ := valid_item hv x h0 h1
    exact ⟨h0, h1, h2, a.1, b.2, c, need_bd hv hx⟩
  have a1 := bel_alloc w3 (.cells #[] 2)
  have z1 : (w3.alloc (.cells #[] 2)).heap.size = w3.heap.size + 1 := by simp
  obtain ⟨v1, hv1⟩ : ∃ v1, v1 = w3.alloc (.cells #[] 2) := ⟨_, rfl⟩
  rw [← hv1] at a1 z1 ⊢
  have e1 : v1.heap[w3.heap.size]? = some (.cells #[] 2 (0, 0)) := by rw [hv1]; exact heap_alloc_new w3 _
  obtain ⟨o, ho⟩ : ∃ o, o = Obj.cells #[.slice A0 l.length c0, .slice As sh.length cs, .int .i64 budget, .slice (some ⟨w3.heap.size, 0, none⟩) 0 0, .int .i64 0] 125 := ⟨_, rfl⟩
  rw [← ho]
  have a2 := bel_alloc v1 o
  have z2 : (v1.alloc o).heap.size = w3.heap.size + 1 + 1 := by simp [z1]
  obtain ⟨v2, hv2⟩ : ∃ v2, v2 = v1.alloc o := ⟨_, rfl⟩
  rw [← hv2] at a2 z2 ⊢
  have e2 : v2.heap[w3.heap.size + 1]? = some o := by rw [hv2, ← z1]; exact heap_alloc_new v1 _
  have a3 := bel_alloc v2 (.cells #[] 2)
  have z3 : (v2.alloc (.cells #[] 2)).heap.size = w3.heap.size + 1 + 1 + 1 := by simp [z2]
  obtain ⟨v3, hv3⟩ : ∃ v3, v3 = v2.alloc (.cells #[] 2) := ⟨_, rfl⟩
  rw [← hv3] at a3 z3 ⊢
  have e3 : v3.heap[w3.heap.size + 1 + 1]? = some (.cells #[] 2 (0, 0)) := by rw [hv3, ← z2]; exact heap_alloc_new v2 _
  have a12 := bel_trans a1 a2
  have a13 := bel_trans a12 a3
  have own1 : Own1 v3 w3.heap.size (w3.heap.size + 1) (.slice (some ⟨w3.heap.size, 0, none⟩) 0 0) [] := empty_own w v3 _ _ (Nat.le_refl _) (heap_keep (bel_trans a2 a3) e1) _ (by omega)
  have own2 : Own1 v3 w3.heap.size (w3.heap.size + 1) (.slice (some ⟨w3.heap.size + 1 + 1, 0, none⟩) 0 0) [] := empty_own w v3 _ _ (by omega) e3 _ (by omega)
  have hW : WState v3 w3.heap.size (w3.heap.size + 1) (.slice A0 l.length c0) (.slice As sh.length cs) budget ([], 0) :=
    ⟨some ⟨w3.heap.size, 0, none⟩, 0, own1, by rw [heap_keep a3 e2, ho]; rfl, (Kd.R_reads' (n := 0) own1).2.2, Nat.le_refl _, fun ad e => by cases e; simp⟩
  have H := walk_calls l A0 c0 sh As cs budget (w3.heap.size + 1) w3 (Kd.C_below hr0 hB3) hsh3 (by omega) hmem hb hn (sh.length + 1) [] (some ⟨w3.heap.size + 1 + 1, 0, none⟩) 0 0 0 ([], 0) v3 (by omega) (by omega) (by simp) (by omega) a13 (by omega) hW own2
  refine H.mono ?_
  rintro e w' ⟨rfl, hB, hT, hW'⟩
  obtain ⟨Ab, cb, hO, hh, _, _, _⟩ := hW'
  rw [List.drop_zero] at hO hh
  have := hB3.size
  exact ⟨Ab, cb, rfl, by simp [World.cell?, hh], by simp [World.cell?, hh], Kd.R_lower (Kd.R_mono hO (fun _ _ => trivial)) hB3.size, bel_trans hB3 hB⟩

set_option maxHeartbeats 4000000 in
set_option maxRecDepth 100000 in
theorem refill_walk (l : List S34) (A0 : Option Addr) (c0 : Nat) (budget : Int) (w : World) (hr0 : Kd.C k34 w A0 l.length l) (hc0 : l.length ≤ c0) (hl : l.length ≤ 1000000000) (hv : validB l = true) (hb : 0 ≤ budget ∧ budget ≤ 100000000) (hn : (shortL l).length ≤ 10) :
    Calls Tryd.prog 33 #[.slice A0 l.length c0, .int .i64 budget] w fun e w' => ∃ v0_ : Value, e = .returned (.tuple #[v0_, .int .i64 (visit (need l) budget (shortL l) [] 0 ([], 0)).2, .int .i64 0]) ∧ Kd.R (Kd.int .i64) 2 w' w.heap.size (fun _ => True) v0_ (visit (need l) budget (shortL l) [] 0 ([], 0)).1 ∧ Below w.heap.size w w' := by
  have hu125 := Tryd.underlying125
  have hu27 := Tryd.underlying27
  have hu24 := Tryd.underlying24
  have HB0 := Lib.hid hb
  have hsl : ¬ (10 : Int) < ((shortL l).length : Int) := by omega
  clear hb
  obtain ⟨sh, hsh⟩ : ∃ sh, sh = shortL l := ⟨_, rfl⟩
  have HSH := Lib.hid hsh
  rw [← hsh] at hsl
  clear hsh
  go_enter Tryd.func33, Tryd.ntmps33
  go_wp2_with (first
    | (go_at_call 100; refine (rok_call l true hl hv A0 c0 w _ (Below.refl _ w) hr0 hc0).mono ?_; rintro e w1 ⟨rfl, hB1⟩)
    | (go_at_call 104; refine (rin_call budget true (decide_eq_true HB0.out) w _ hB1).mono ?_; rintro e w2 ⟨rfl, hB2⟩)
    | (go_at_call 101; refine (rshort_call l hl A0 c0 w _ hB2 hr0 hc0).mono ?_; rw [← HSH.out]; rintro e w3 ⟨As, cs, rfl, hsh3, hB3⟩)
    | (go_at_call 113; refine (walk_first l A0 As c0 cs budget w w3 sh HSH.out hB3 hr0 hsh3 hv HB0.out (by omega)).mono ?_; rintro e w4 ⟨Ab, cb, rfl, f3, f4, hR, hB4⟩))
  go_region
  go_wp2
  go_ret3
  exact ⟨_, by rw [← HSH.out]; rfl, by rw [← HSH.out]; exact Kd.R_drew hR, hB4.drew⟩

set_option maxHeartbeats 4000000 in
set_option maxRecDepth 100000 in
theorem refill_not1 (l : List S34) (A0 : Option Addr) (c0 : Nat) (budget : Int) (w : World) (hr0 : Kd.C k34 w A0 l.length l) (hc0 : l.length ≤ c0) (hl : l.length ≤ 1000000000) (hv : validB l = false) :
    Calls Tryd.prog 33 #[.slice A0 l.length c0, .int .i64 budget] w fun e w' => ∃ v0_ : Value, e = .returned (.tuple #[v0_, .int .i64 0, .int .i64 1]) ∧ Kd.R (Kd.int .i64) 2 w' w.heap.size (fun _ => True) v0_ [] ∧ Below w.heap.size w w' := by
  go_enter Tryd.func33, Tryd.ntmps33
  go_wp2_with (first
    | (go_at_call 100; refine (rok_call l false hl hv A0 c0 w _ (Below.refl _ w) hr0 hc0).mono ?_; rintro e w1 ⟨rfl, hB1⟩))
  go_ret3
  exact ⟨_, rfl, Kd.R_nil _ _ _ _ _, hB1⟩
set_option maxHeartbeats 4000000 in
set_option maxRecDepth 100000 in
theorem refill_not2 (l : List S34) (A0 : Option Addr) (c0 : Nat) (budget : Int) (w : World) (hr0 : Kd.C k34 w A0 l.length l) (hc0 : l.length ≤ c0) (hl : l.length ≤ 1000000000) (hv : validB l = true) (hb : ¬ (0 ≤ budget ∧ budget ≤ 100000000)) :
    Calls Tryd.prog 33 #[.slice A0 l.length c0, .int .i64 budget] w fun e w' => ∃ v0_ : Value, e = .returned (.tuple #[v0_, .int .i64 0, .int .i64 2]) ∧ Kd.R (Kd.int .i64) 2 w' w.heap.size (fun _ => True) v0_ [] ∧ Below w.heap.size w w' := by
  have HB0 := Lib.hid hb
  clear hb
  go_enter Tryd.func33, Tryd.ntmps33
  go_wp2_with (first
    | (go_at_call 100; refine (rok_call l true hl hv A0 c0 w _ (Below.refl _ w) hr0 hc0).mono ?_; rintro e w1 ⟨rfl, hB1⟩)
    | (go_at_call 104; refine (rin_call budget false (decide_eq_false HB0.out) w _ hB1).mono ?_; rintro e w2 ⟨rfl, hB2⟩))
  go_ret3
  exact ⟨_, rfl, Kd.R_nil _ _ _ _ _, hB2⟩
set_option maxHeartbeats 4000000 in
set_option maxRecDepth 100000 in
theorem refill_not5 (l : List S34) (A0 : Option Addr) (c0 : Nat) (budget : Int) (w : World) (hr0 : Kd.C k34 w A0 l.length l) (hc0 : l.length ≤ c0) (hl : l.length ≤ 1000000000) (hv : validB l = true) (hb : 0 ≤ budget ∧ budget ≤ 100000000) (hn : ¬ (shortL l).length ≤ 10) :
    Calls Tryd.prog 33 #[.slice A0 l.length c0, .int .i64 budget] w fun e w' => ∃ v0_ : Value, e = .returned (.tuple #[v0_, .int .i64 0, .int .i64 5]) ∧ Kd.R (Kd.int .i64) 2 w' w.heap.size (fun _ => True) v0_ [] ∧ Below w.heap.size w w' := by
  have HB0 := Lib.hid hb
  have hsl : (10 : Int) < ((shortL l).length : Int) := by omega
  clear hb hn
  obtain ⟨sh, hsh⟩ : ∃ sh, sh = shortL l := ⟨_, rfl⟩
  have HSH := Lib.hid hsh
  rw [← hsh] at hsl
  clear hsh
  go_enter Tryd.func33, Tryd.ntmps33
  go_wp2_with (first
    | (go_at_call 100; refine (rok_call l true hl hv A0 c0 w _ (Below.refl _ w) hr0 hc0).mono ?_; rintro e w1 ⟨rfl, hB1⟩)
    | (go_at_call 104; refine (rin_call budget true (decide_eq_true HB0.out) w _ hB1).mono ?_; rintro e w2 ⟨rfl, hB2⟩)
    | (go_at_call 101; refine (rshort_call l hl A0 c0 w _ hB2 hr0 hc0).mono ?_; rw [← HSH.out]; rintro e w3 ⟨As, cs, rfl, hsh3, hB3⟩))
  go_ret3
  exact ⟨_, rfl, Kd.R_nil _ _ _ _ _, hB3⟩

theorem spec_RefillWithin.calls (A0 : Option Addr) (c0 : Nat) (l0 : List S34) (a1 : Int) (r1 : List Int) (r2 r3 : Int) (w : World) (hr0 : Kd.C k34 w A0 l0.length l0) (hc0 : l0.length ≤ c0) (h : spec_RefillWithin.f l0 a1 = some (r1, r2, r3)) :
    Calls Tryd.prog 33 #[.slice A0 l0.length c0, .int .i64 a1] w fun e w' => ∃ v0_ : Value, e = .returned (.tuple #[v0_, .int .i64 r2, .int .i64 r3]) ∧ Kd.R (Kd.int .i64) 2 w' w.heap.size (fun _ => True) v0_ r1 ∧ Below w.heap.size w w' := by
  unfold spec_RefillWithin.f at h
  split at h
  · rename_i hl
    split at h
    · rename_i hv
      split at h
      · rename_i hb
        split at h
        · rename_i hn
          cases h
          exact refill_walk l0 A0 c0 a1 w hr0 hc0 hl hv hb hn
        · rename_i hn
          cases h
          exact refill_not5 l0 A0 c0 a1 w hr0 hc0 hl hv hb hn
      · rename_i hb
        cases h
        exact refill_not2 l0 A0 c0 a1 w hr0 hc0 hl hv hb
    · rename_i hv
      cases h
      exact refill_not1 l0 A0 c0 a1 w hr0 hc0 hl (Bool.eq_false_iff.2 hv)
  · cases h
end Go.Proofs.YtdjdillppgijmaaDoor.Qs
