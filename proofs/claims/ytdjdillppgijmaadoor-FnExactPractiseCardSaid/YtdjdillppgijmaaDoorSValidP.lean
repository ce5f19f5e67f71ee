/- ValidPupils: what it answers. No condition but lengths below a milliard. -/
import Derived.Test.YtdjdillppgijmaaDoorSWith
import Derived.Test.YtdjdillppgijmaaDoorSOkP
set_option linter.unusedVariables false
set_option linter.unusedSimpArgs false
namespace Go.Proofs.YtdjdillppgijmaaDoor.Qp
open Go.RowKit Go.Proofs.YtdjdillppgijmaaDoorW.PrintWords Go.Proofs.YtdjdillppgijmaaDoorW.PrintLast Go.Proofs.YtdjdillppgijmaaDoorW.PrintMore

set_option maxHeartbeats 1000000 in
set_option maxRecDepth 100000 in
theorem same_call (f0 : ByteArray) (f1 : Int) (v2 : Value) (ax : Addr) (nx : ByteArray) (w : World) (h : w.cell? ax = some (.string nx)) :
    Calls Tryd.prog 186 #[.agg #[.string f0, .int .i64 f1, v2], .pointer (some ax)] w fun e w' => e = .returned (.bool (f0.toList == nx.toList)) ∧ Below w.heap.size w w' := by
  have hu116 := Tryd.underlying116
  have hlt := World.block_lt_of_cell? w _ h
  go_enter Tryd.func186, Tryd.ntmps186
  go_wp2
  go_ret
  exact ⟨rfl, (Below.refl _ w).alloc (Nat.le_refl _) _⟩

def nameIs (nx : ByteArray) (y : S116) : Bool := y.f0.toList == nx.toList
set_option maxHeartbeats 4000000 in
set_option maxRecDepth 100000 in
theorem index2_call (A0 : Option Addr) (c0 : Nat) (l0 : List S116) (ax : Addr) (nx : ByteArray) (w : World) (hr0 : Kd.C k116 w A0 l0.length l0) (h1 : w.cell? ax = some (.string nx)) (hl : l0.length ≤ 1000000000) :
    Calls Tryd.prog 214 #[.slice A0 l0.length c0, .func (.func 186) #[] #[.pointer (some ax)]] w fun e w' => ∃ n : Int, decide (0 ≤ n) = l0.any (nameIs nx) ∧ e = .returned (.int .i64 n) ∧ Below w.heap.size w w' := by
  have hu37 := Tryd.underlying37
  have hu116 := Tryd.underlying116
  have H1 := Lib.hid h1
  clear h1
  go_enter Tryd.func214, Tryd.ntmps214
  go_wp2
  go_loopw [5, 8] (fun _ v wr => ∃ i : Nat, v = .int .i64 i ∧ i ≤ l0.length ∧ Hid (∀ j : Nat, (h : j < l0.length) → j < i → nameIs nx l0[j] = false) ∧ Hid (Below w.heap.size w wr)) (fun _ v _ => l0.length - (intOf v).toNat)
  case atStart => exact ⟨0, rfl, by omega, Lib.hid (fun j _ hj => by omega), Lib.hid (Below.refl _ _)⟩
  case round =>
    obtain ⟨i, rfl, hle, HOK, HB⟩ := hrel
    by_cases hlt : i < l0.length
    · have hltz : (i : Int) < (l0.length : Int) := by omega
      obtain ⟨ad, A2, c2, e, z0, z1, z2, hc2, hr2⟩ := at_T116 hr0 (i : Int) (by omega) hltz
      cases e
      have erd : rd_T116 l0 (i : Int) = l0[i] := by unfold rd_T116; rw [Int.toNat_natCast, List.getD_eq_getElem?_getD, List.getElem?_eq_getElem hlt]; rfl
      rw [Int.toNat_natCast] at z0 z1 z2
      rw [erd] at z0 z1 z2
      replace z0 := (HB.out.cell (World.block_lt_of_cell? w _ z0)).trans z0
      replace z1 := (HB.out.cell (World.block_lt_of_cell? w _ z1)).trans z1
      replace z2 := (HB.out.cell (World.block_lt_of_cell? w _ z2)).trans z2
      have y1 := (HB.out.cell (World.block_lt_of_cell? w _ H1.out)).trans H1.out
      clear erd hc2 hr2
      obtain ⟨x, hx⟩ : ∃ x, x = l0[i] := ⟨_, rfl⟩
      rw [← hx] at z0 z1 z2
      have HX := Lib.hid hx
      clear hx
      cases hq : (x.f0.toList == nx.toList) with
      | false =>
        go_wp2_with (go_at_call 186; refine (same_call x.f0 x.f1 _ ax nx _ y1).mono ?_; rw [hq]; rintro e w' ⟨rfl, hB⟩)
        have HB2 := Lib.hid (HB.out.trans (hB.mono HB.out.size))
        clear hB
        have HQ := Lib.hid hq
        refine ⟨⟨i + 1, by simp, by omega, Lib.hid (fun j h hj => ?_), HB2⟩, by simp only [intOf]; omega⟩
        by_cases e : j = i
        · subst e; rw [← HX.out]; exact HQ.out
        · exact HOK.out j h (by omega)
      | true =>
        go_wp2_with (go_at_call 186; refine (same_call x.f0 x.f1 _ ax nx _ y1).mono ?_; rw [hq]; rintro e w' ⟨rfl, hB⟩)
        go_ret
        refine ⟨(i : Int), ?_, rfl, HB.out.trans (hB.mono HB.out.size)⟩
        rw [List.any_eq_true.2 ⟨x, by rw [HX.out]; exact List.getElem_mem hlt, hq⟩]
        simp
    · have hltz : ¬ (i : Int) < (l0.length : Int) := by omega
      go_wp2
      go_ret
      refine ⟨-1, ?_, rfl, HB.out⟩
      rw [List.any_eq_false.2 fun x hx => by
        obtain ⟨j, hj, rfl⟩ := List.getElem_of_mem hx
        rw [HOK.out j hj (by omega)]; decide]
      rfl
set_option maxHeartbeats 1000000 in
set_option maxRecDepth 100000 in
theorem contains2_call (A0 : Option Addr) (c0 : Nat) (l0 : List S116) (ax : Addr) (nx : ByteArray) (q : Bool) (hq : l0.any (nameIs nx) = q) (w : World) (hr0 : Kd.C k116 w A0 l0.length l0) (h1 : w.cell? ax = some (.string nx)) (hl : l0.length ≤ 1000000000) :
    Calls Tryd.prog 185 #[.slice A0 l0.length c0, .func (.func 186) #[] #[.pointer (some ax)]] w fun e w' => e = .returned (.bool q) ∧ Below w.heap.size w w' := by
  have hcall := index2_call A0 c0 l0 ax nx w hr0 h1 hl
  rw [hq] at hcall
  refine Calls.mono (R := fun e w' => ∃ n : Int, decide (0 ≤ n) = q ∧ e = .returned (.bool (decide (0 ≤ n))) ∧ Below w.heap.size w w') ?_ ?_
  · clear hr0 hq
    go_enter Tryd.func185, Tryd.ntmps185
    go_wp2_with (go_at_call 214; refine hcall.mono ?_; rintro e w' ⟨n, h, rfl, hB⟩)
    go_ret
    exact ⟨n, h, by rw [h]; rfl, hB⟩
  · rintro e w' ⟨n, h, rfl, hB⟩
    rw [h]
    exact ⟨rfl, hB⟩
theorem vname_call (s : ByteArray) (q : Bool) (h : isName s = q) (w : World) : Calls Tryd.prog 143 #[.string s] w fun e w' => e = .returned (.bool q) ∧ Below w.heap.size w w' :=
  impl_IsName.calls s q w (by rw [impl_IsName.f, h])

theorem pre_call (A0 : Option Addr) (c0 : Nat) (l : List S116) (i : Nat) (ax : Addr) (nx : ByteArray) (q : Bool) (hq : (l.take i).any (nameIs nx) = q) (w : World) (hr0 : Kd.C k116 w A0 l.length l) (hi : i ≤ l.length) (h1 : w.cell? ax = some (.string nx)) (hl : l.length ≤ 1000000000) :
    Calls Tryd.prog 185 #[.slice A0 i c0, .func (.func 186) #[] #[.pointer (some ax)]] w fun e w' => e = .returned (.bool q) ∧ Below w.heap.size w w' := by
  have hlen : (l.take i).length = i := by rw [List.length_take]; omega
  have h := contains2_call A0 c0 (l.take i) ax nx q hq w (Kd.C_take hr0 hi) h1 (by omega)
  rw [hlen] at h
  exact h
theorem fresh_eq (l : List S116) (i : Nat) (hi : i ≤ l.length) : freshB l i = !((l.take i).any (nameIs (rd_T116 l (i : Int)).f0)) := by
  unfold freshB
  rw [Bool.eq_iff_iff, List.all_eq_true, Bool.not_eq_true', List.any_eq_false]
  constructor
  · intro h x hx
    obtain ⟨j, hj, rfl⟩ := List.getElem_of_mem hx
    have hj2 : j < i := by rw [List.length_take] at hj; omega
    have := h j (List.mem_range.2 hj2)
    rw [show rd_T116 l (j : Int) = l[j] by unfold rd_T116; rw [Int.toNat_natCast, List.getD_eq_getElem?_getD, List.getElem?_eq_getElem (by omega)]; rfl] at this
    rw [List.getElem_take]
    unfold nameIs
    simpa using this
  · intro h j hj
    have hj2 := List.mem_range.1 hj
    have := h (l[j]'(by omega)) (List.mem_take_iff_getElem.2 ⟨j, by omega, rfl⟩)
    rw [show rd_T116 l (j : Int) = l[j] by unfold rd_T116; rw [Int.toNat_natCast, List.getD_eq_getElem?_getD, List.getElem?_eq_getElem (by omega)]; rfl]
    unfold nameIs at this
    simpa using this
set_option maxHeartbeats 4000000 in
set_option maxRecDepth 100000 in
theorem validp_loop (A0 A1 : Option Addr) (c0 c1 : Nat) (l0 : List Int) (l1 : List S116) (w : World) (hr0 : Kd.C (Kd.int .i64) w A0 l0.length l0) (hc0 : l0.length ≤ c0) (hr1 : Kd.C k116 w A1 l1.length l1) (hc1 : l1.length ≤ c1) (hl0 : l0.length ≤ 1000000000) (hl1 : l1.length ≤ 1000000000) :
    Calls Tryd.prog 118 #[.slice A0 l0.length c0, .slice A1 l1.length c1] w fun e w' => e = .returned (.bool (pupsB l0 l1)) ∧ Below w.heap.size w w' := by
  have hu37 := Tryd.underlying37
  have hu27 := Tryd.underlying27
  have hu116 := Tryd.underlying116
  have HR0 := Lib.hid hr0
  clear hr0
  go_enter Tryd.func118, Tryd.ntmps118
  go_wp2
  go_loopw [9] (fun v wr => ∃ i : Nat, v = .int .i64 i ∧ i ≤ l1.length ∧ Hid (∀ j : Nat, j < i → pupAt l0 l1 j = true) ∧ Hid (Below w.heap.size w wr)) (fun v _ => l1.length - (intOf v).toNat)
  case atStart => exact ⟨0, rfl, by omega, Lib.hid (fun j hj => by omega), Lib.hid (Below.refl _ _)⟩
  case round =>
    obtain ⟨i, rfl, hle, HOK, HB⟩ := hrel
    by_cases hlt : i < l1.length
    · have hltz : (i : Int) < (l1.length : Int) := by omega
      obtain ⟨ad, A2, c2, e, z0, z1, z2, hc2, hr2⟩ := at_T116 hr1 (i : Int) (by omega) hltz
      cases e
      rw [Int.toNat_natCast] at z0 z1 z2
      replace z0 := (HB.out.cell (World.block_lt_of_cell? w _ z0)).trans z0
      replace z1 := (HB.out.cell (World.block_lt_of_cell? w _ z1)).trans z1
      replace z2 := (HB.out.cell (World.block_lt_of_cell? w _ z2)).trans z2
      obtain ⟨x, hx⟩ : ∃ x, x = rd_T116 l1 (i : Int) := ⟨_, rfl⟩
      have HX := Lib.hid hx
      rw [← hx] at z0 z1 z2 hc2 hr2
      clear hx
      have HR1 := Lib.hid hr1
      have HR2 := Lib.hid hr2
      clear hr1 hr2
      have HL2 : Hid (x.f2.length = l0.length → x.f2.length ≤ 1000000000) := Lib.hid (fun h => by omega)
      obtain ⟨V, hV⟩ : ∃ V, V = wr.alloc (.cells #[.string x.f0, .int .i64 x.f1, .slice A2 x.f2.length c2] 116) := ⟨_, rfl⟩
      have k0 : (wr.alloc (.cells #[.string x.f0, .int .i64 x.f1, .slice A2 x.f2.length c2] 116)).cell? ⟨wr.heap.size, 0, none⟩ = some (.string x.f0) := by simp
      have k1 : (wr.alloc (.cells #[.string x.f0, .int .i64 x.f1, .slice A2 x.f2.length c2] 116)).cell? ⟨wr.heap.size, 1, none⟩ = some (.int .i64 x.f1) := by simp
      have k2 : (wr.alloc (.cells #[.string x.f0, .int .i64 x.f1, .slice A2 x.f2.length c2] 116)).cell? ⟨wr.heap.size, 2, none⟩ = some (.slice A2 x.f2.length c2) := by simp
      have HA := Lib.hid (HB.out.alloc HB.out.size (.cells #[.string x.f0, .int .i64 x.f1, .slice A2 x.f2.length c2] 116))
      clear hV
      cases q1 : isName x.f0 with
      | false =>
        have hno := Lib.hid (pups_no (needs := l0) i hlt (by unfold pupAt; rw [← HX.out, q1]; rfl))
        go_wp2_with (first | (go_at_call 143; refine (vname_call _ _ q1 _).mono ?_; rintro e w1 ⟨rfl, hB1⟩; have n0 := (hB1.cell (p := ⟨wr.heap.size, 0, none⟩) (by simp)).trans k0; have n1 := (hB1.cell (p := ⟨wr.heap.size, 1, none⟩) (by simp)).trans k1; have n2 := (hB1.cell (p := ⟨wr.heap.size, 2, none⟩) (by simp)).trans k2; have HB1 := Lib.hid (HA.out.trans (hB1.mono HA.out.size)); have hg1 : wr.heap.size < w1.heap.size := Nat.lt_of_lt_of_le (by simp) hB1.size; clear hB1))
        go_ret
        exact ⟨by rw [hno.out]; rfl, HB1.out⟩
      | true =>
      cases q2 : decide (0 ≤ x.f1 ∧ x.f1 ≤ 5000) with
      | false =>
        have hno := Lib.hid (pups_no (needs := l0) i hlt (by unfold pupAt; rw [← HX.out, q1, q2]; rfl))
        go_wp2_with (first | (go_at_call 143; refine (vname_call _ _ q1 _).mono ?_; rintro e w1 ⟨rfl, hB1⟩; have n0 := (hB1.cell (p := ⟨wr.heap.size, 0, none⟩) (by simp)).trans k0; have n1 := (hB1.cell (p := ⟨wr.heap.size, 1, none⟩) (by simp)).trans k1; have n2 := (hB1.cell (p := ⟨wr.heap.size, 2, none⟩) (by simp)).trans k2; have HB1 := Lib.hid (HA.out.trans (hB1.mono HA.out.size)); have hg1 : wr.heap.size < w1.heap.size := Nat.lt_of_lt_of_le (by simp) hB1.size; clear hB1) | (go_at_call 95; refine (wi_call x.f1 0 5000 _ q2 _).mono ?_; rintro e w2 ⟨rfl, ⟨n, rfl⟩⟩))
        go_ret
        exact ⟨by rw [hno.out]; rfl, pw_below_drewN HB1.out _⟩
      | true =>
      by_cases q3 : x.f2.length = l0.length
      · have q3z : (((x.f2.length : Nat) : Int) != ((l0.length : Nat) : Int)) = false := by rw [q3]; simp
        replace HL2 := Lib.hid (HL2.out q3)
        have Q3 := Lib.hid q3
        cases q4 : x.f2.all (inB 0 5000) with
        | false =>
          have hno := Lib.hid (pups_no (needs := l0) i hlt (by unfold pupAt; rw [← HX.out, show daysB x.f2 = false from q4]; simp))
          clear q3
          go_wp2_with (first | (go_at_call 143; refine (vname_call _ _ q1 _).mono ?_; rintro e w1 ⟨rfl, hB1⟩; have n0 := (hB1.cell (p := ⟨wr.heap.size, 0, none⟩) (by simp)).trans k0; have n1 := (hB1.cell (p := ⟨wr.heap.size, 1, none⟩) (by simp)).trans k1; have n2 := (hB1.cell (p := ⟨wr.heap.size, 2, none⟩) (by simp)).trans k2; have HB1 := Lib.hid (HA.out.trans (hB1.mono HA.out.size)); have hg1 : wr.heap.size < w1.heap.size := Nat.lt_of_lt_of_le (by simp) hB1.size; clear hB1) | (go_at_call 95; refine (wi_call x.f1 0 5000 _ q2 _).mono ?_; rintro e w2 ⟨rfl, ⟨n, rfl⟩⟩) | (go_at_call 119; refine (all_call A2 c2 x.f2 0 5000 _ q4 _ (Kd.C_below HR2.out (pw_below_drewN HB1.out _)) HL2.out).mono ?_; rintro e w3 ⟨rfl, hB3⟩; have m0 := (hB3.cell (p := ⟨wr.heap.size, 0, none⟩) (by simpa using hg1)).trans (by simpa using n0); have HB3 := Lib.hid ((pw_below_drewN HB1.out _).trans (hB3.mono (pw_below_drewN HB1.out _).size)); clear hB3))
          go_ret
          exact ⟨by rw [hno.out]; rfl, HB3.out⟩
        | true =>
          clear q3
          cases q5 : (l1.take i).any (nameIs x.f0) with
          | true =>
            have hno := Lib.hid (pups_no (needs := l0) i hlt (by unfold pupAt; rw [fresh_eq l1 i (Nat.le_of_lt hlt), ← HX.out, q5]; simp))
            go_wp2_with (first | (go_at_call 143; refine (vname_call _ _ q1 _).mono ?_; rintro e w1 ⟨rfl, hB1⟩; have n0 := (hB1.cell (p := ⟨wr.heap.size, 0, none⟩) (by simp)).trans k0; have n1 := (hB1.cell (p := ⟨wr.heap.size, 1, none⟩) (by simp)).trans k1; have n2 := (hB1.cell (p := ⟨wr.heap.size, 2, none⟩) (by simp)).trans k2; have HB1 := Lib.hid (HA.out.trans (hB1.mono HA.out.size)); have hg1 : wr.heap.size < w1.heap.size := Nat.lt_of_lt_of_le (by simp) hB1.size; clear hB1) | (go_at_call 95; refine (wi_call x.f1 0 5000 _ q2 _).mono ?_; rintro e w2 ⟨rfl, ⟨n, rfl⟩⟩) | (go_at_call 119; refine (all_call A2 c2 x.f2 0 5000 _ q4 _ (Kd.C_below HR2.out (pw_below_drewN HB1.out _)) HL2.out).mono ?_; rintro e w3 ⟨rfl, hB3⟩; have m0 := (hB3.cell (p := ⟨wr.heap.size, 0, none⟩) (by simpa using hg1)).trans (by simpa using n0); have HB3 := Lib.hid ((pw_below_drewN HB1.out _).trans (hB3.mono (pw_below_drewN HB1.out _).size)); clear hB3) | (go_at_call 185; refine (pre_call (some ad) c1 l1 i ⟨wr.heap.size, 0, none⟩ x.f0 _ q5 _ (Kd.C_below HR1.out HB3.out) (Nat.le_of_lt hlt) m0 hl1).mono ?_; rintro e w4 ⟨rfl, hB4⟩; have HB4 := Lib.hid (HB3.out.trans (hB4.mono HB3.out.size)); clear hB4))
            go_ret
            exact ⟨by rw [hno.out]; rfl, HB4.out⟩
          | false =>
            have hyes := Lib.hid (show pupAt l0 l1 i = true by unfold pupAt; rw [fresh_eq l1 i (Nat.le_of_lt hlt), ← HX.out, q5, q1, q2, decide_eq_true Q3.out, show daysB x.f2 = true from q4]; rfl)
            go_wp2_with (first | (go_at_call 143; refine (vname_call _ _ q1 _).mono ?_; rintro e w1 ⟨rfl, hB1⟩; have n0 := (hB1.cell (p := ⟨wr.heap.size, 0, none⟩) (by simp)).trans k0; have n1 := (hB1.cell (p := ⟨wr.heap.size, 1, none⟩) (by simp)).trans k1; have n2 := (hB1.cell (p := ⟨wr.heap.size, 2, none⟩) (by simp)).trans k2; have HB1 := Lib.hid (HA.out.trans (hB1.mono HA.out.size)); have hg1 : wr.heap.size < w1.heap.size := Nat.lt_of_lt_of_le (by simp) hB1.size; clear hB1) | (go_at_call 95; refine (wi_call x.f1 0 5000 _ q2 _).mono ?_; rintro e w2 ⟨rfl, ⟨n, rfl⟩⟩) | (go_at_call 119; refine (all_call A2 c2 x.f2 0 5000 _ q4 _ (Kd.C_below HR2.out (pw_below_drewN HB1.out _)) HL2.out).mono ?_; rintro e w3 ⟨rfl, hB3⟩; have m0 := (hB3.cell (p := ⟨wr.heap.size, 0, none⟩) (by simpa using hg1)).trans (by simpa using n0); have HB3 := Lib.hid ((pw_below_drewN HB1.out _).trans (hB3.mono (pw_below_drewN HB1.out _).size)); clear hB3) | (go_at_call 185; refine (pre_call (some ad) c1 l1 i ⟨wr.heap.size, 0, none⟩ x.f0 _ q5 _ (Kd.C_below HR1.out HB3.out) (Nat.le_of_lt hlt) m0 hl1).mono ?_; rintro e w4 ⟨rfl, hB4⟩; have HB4 := Lib.hid (HB3.out.trans (hB4.mono HB3.out.size)); clear hB4))
            refine ⟨⟨i + 1, by simp, by omega, Lib.hid (fun j hj => ?_), HB4⟩, by simp only [intOf]; omega⟩
            by_cases e : j = i
            · rw [e]; exact hyes.out
            · exact HOK.out j (by omega)
      · have q3z : (((x.f2.length : Nat) : Int) == ((l0.length : Nat) : Int)) = false := beq_eq_false_iff_ne.2 (by omega)
        have hno := Lib.hid (pups_no (needs := l0) i hlt (by unfold pupAt; rw [← HX.out, q1, q2, decide_eq_false q3]; rfl))
        go_wp2_with (first | (go_at_call 143; refine (vname_call _ _ q1 _).mono ?_; rintro e w1 ⟨rfl, hB1⟩; have n0 := (hB1.cell (p := ⟨wr.heap.size, 0, none⟩) (by simp)).trans k0; have n1 := (hB1.cell (p := ⟨wr.heap.size, 1, none⟩) (by simp)).trans k1; have n2 := (hB1.cell (p := ⟨wr.heap.size, 2, none⟩) (by simp)).trans k2; have HB1 := Lib.hid (HA.out.trans (hB1.mono HA.out.size)); have hg1 : wr.heap.size < w1.heap.size := Nat.lt_of_lt_of_le (by simp) hB1.size; clear hB1) | (go_at_call 95; refine (wi_call x.f1 0 5000 _ q2 _).mono ?_; rintro e w2 ⟨rfl, ⟨n, rfl⟩⟩))
        go_ret
        exact ⟨by rw [hno.out]; rfl, pw_below_drewN HB1.out _⟩
    · have hi : i = l1.length := by omega
      subst hi
      have hno : ¬ ((l1.length : Nat) : Int) < (l1.length : Int) := by omega
      have hyes := Lib.hid (pups_yes HOK.out)
      clear hr1
      by_cases n1 : 1 ≤ l0.length
      · have n1z : (1 : Int) ≤ ((l0.length : Nat) : Int) := by omega
        by_cases n2 : l0.length ≤ 10
        · have n2z : ((l0.length : Nat) : Int) ≤ 10 := by omega
          cases q : l0.all (inB 1 5000) with
          | false =>
            have hf := Lib.hid (hyes.out.trans (by unfold needB; rw [show l0.all (fun x => decide (1 ≤ x ∧ x ≤ 5000)) = false from q]; first | done | rfl))
            go_wp2_with (go_at_call 119; refine (all_call A0 c0 l0 1 5000 _ q _ (Kd.C_below HR0.out HB.out) hl0).mono ?_; rintro e w1 ⟨rfl, hB1⟩)
            go_ret
            exact ⟨by rw [hf.out]; rfl, HB.out.trans (hB1.mono HB.out.size)⟩
          | true =>
            have hf := Lib.hid (hyes.out.trans (show _ = decide (l1.length ≤ 20) by unfold needB; rw [show l0.all (fun x => decide (1 ≤ x ∧ x ≤ 5000)) = true from q, decide_eq_true ⟨n1, n2⟩]; rfl))
            go_wp2_with (go_at_call 119; refine (all_call A0 c0 l0 1 5000 _ q _ (Kd.C_below HR0.out HB.out) hl0).mono ?_; rintro e w1 ⟨rfl, hB1⟩)
            go_ret
            exact ⟨by rw [hf.out]; simp; omega, HB.out.trans (hB1.mono HB.out.size)⟩
        · have n2z : ¬ ((l0.length : Nat) : Int) ≤ 10 := by omega
          have hf := Lib.hid (hyes.out.trans (show _ = false by unfold needB; rw [decide_eq_false (show ¬ (1 ≤ l0.length ∧ l0.length ≤ 10) by omega)]; simp))
          go_wp2
          go_ret
          exact ⟨by rw [hf.out]; first | rfl | (simp; omega), HB.out⟩
      · have n1z : ¬ (1 : Int) ≤ ((l0.length : Nat) : Int) := by omega
        have hf := Lib.hid (hyes.out.trans (show _ = false by unfold needB; rw [decide_eq_false (show ¬ (1 ≤ l0.length ∧ l0.length ≤ 10) by omega)]; simp))
        go_wp2
        go_ret
        exact ⟨by rw [hf.out]; first | rfl | (simp; omega), HB.out⟩

def impl_ValidPupils.f (l0 : List Int) (l1 : List S116) : Option Bool := if l0.length ≤ 1000000000 ∧ l1.length ≤ 1000000000 then some (pupsB l0 l1) else none
theorem impl_ValidPupils.calls (A0 : Option Addr) (c0 : Nat) (l0 : List Int) (A1 : Option Addr) (c1 : Nat) (l1 : List S116) (r : Bool) (w : World) (hr0 : Kd.C (Kd.int .i64) w A0 l0.length l0) (hc0 : l0.length ≤ c0) (hr1 : Kd.C k116 w A1 l1.length l1) (hc1 : l1.length ≤ c1) (h : impl_ValidPupils.f l0 l1 = some r) :
    Calls Tryd.prog 118 #[.slice A0 l0.length c0, .slice A1 l1.length c1] w fun e w' => e = .returned (.bool r) ∧ Below w.heap.size w w' := by
  unfold impl_ValidPupils.f at h
  split at h
  · rename_i hl
    cases h
    exact validp_loop A0 A1 c0 c1 l0 l1 w hr0 hc0 hr1 hc1 hl.1 hl.2
  · cases h
end Go.Proofs.YtdjdillppgijmaaDoor.Qp
