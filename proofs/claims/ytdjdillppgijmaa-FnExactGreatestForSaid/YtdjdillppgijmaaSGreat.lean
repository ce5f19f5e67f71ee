/- impl.GreatestFor: a range over slices.Backward: the last item whose price is within the money. -/
import Derived.Test.YtdjdillppgijmaaSBwd
set_option linter.unusedVariables false
set_option linter.unusedSimpArgs false
namespace Go.Proofs.Ytdjdillppgijmaa.Q
open Go.Sort Go.RowKit Go.Shelf Go.Proofs.YtdjdillppgijmaaW.PrintWords Go.Proofs.YtdjdillppgijmaaW.PrintLast Go.Proofs.YtdjdillppgijmaaW.PrintMore
attribute [local go_sem] Oper.semAt_some

theorem within_eq (a b c : Int) : impl_within.f a b c = some (decide (b ≤ a ∧ a ≤ c)) := by
  unfold impl_within.f
  by_cases h : a ≥ b
  · rw [if_pos h]; congr 1; by_cases h2 : a ≤ c <;> simp [h2]; omega
  · rw [if_neg h]; congr 1; symm; apply decide_eq_false; omega

/-- What is found. -/
def found (zs : List S35) (a1 : Int) (a2 : Bool) : Int × Int :=
  match (upto zs zs.length).find? (fun p => decide (priceB p.2 a2 ≤ a1)) with
  | some p => (p.2.f0, 0)
  | none => (0, 3)

theorem valid_call (k : Nat) (A0 : Option Addr) (c0 : Nat) (l0 : List S35) (v : Bool) (w : World) (hr0 : Kd.C k35 w A0 l0.length l0) (hc0 : l0.length ≤ c0) (h : impl_ValidPrices.f k l0 = some v) (d : Nat) (os : Array Obj) :
    Calls Try.prog 14 #[.slice A0 l0.length c0] (grow (redrawn w d) os) fun e w' => e = .returned (.bool v) ∧ Below (grow (redrawn w d) os).heap.size (grow (redrawn w d) os) w' :=
  impl_ValidPrices.calls k A0 c0 l0 v _ (Kd.C_below hr0 (below_regrown w d os)) hc0 h

theorem within_call (a b c : Int) (q : Bool) (h : decide (b ≤ a ∧ a ≤ c) = q) (w : World) : Calls Try.prog 15 #[.int .i64 a, .int .i64 b, .int .i64 c] w fun e w' => e = .returned (.bool q) ∧ Below w.heap.size w w' :=
  (impl_within.calls a b c q w (by rw [within_eq, h])).mono fun e w' ⟨h1, h2⟩ => ⟨h1, h2.below⟩
def codeB (v q : Bool) : Int := if v = true then (if q = true then 0 else 2) else 1
theorem check_call (v q : Bool) (w : World) : Calls Try.prog 13 #[.bool v, .bool q] w fun e w' => e = .returned (.int .i64 (codeB v q)) ∧ Below w.heap.size w w' :=
  (impl_check.calls v q (codeB v q) w (by unfold impl_check.f codeB; cases v <;> cases q <;> rfl)).mono fun e w' ⟨h1, h2⟩ => ⟨h1, h2.below⟩

def noneB (a1 : Int) (a2 : Bool) (pre : List (Int × S35)) : Prop := ∀ p ∈ pre, a1 < priceB p.2 a2
def hitB (a1 : Int) (a2 : Bool) (pre : List (Int × S35)) (z : Int) : Prop := ∃ ini last, pre = ini ++ [last] ∧ noneB a1 a2 ini ∧ priceB last.2 a2 ≤ a1 ∧ z = last.2.f0
theorem none_snoc {a1 : Int} {a2 : Bool} {pre : List (Int × S35)} {x : Int × S35} (h : noneB a1 a2 pre) (hx : a1 < priceB x.2 a2) : noneB a1 a2 (pre ++ [x]) := fun p hp => by
  rcases List.mem_append.1 hp with h1 | h1
  · exact h p h1
  · rw [List.mem_singleton.1 h1]; exact hx
theorem hit_snoc {a1 : Int} {a2 : Bool} {pre : List (Int × S35)} {x : Int × S35} (h : noneB a1 a2 pre) (hx : priceB x.2 a2 ≤ a1) : hitB a1 a2 (pre ++ [x]) x.2.f0 := ⟨pre, x, rfl, h, hx, rfl⟩
theorem keeps_below {B : Nat} {W w' : World} (h : RowKit.Below W.heap.size W w') : KeepsFrom B W w' := ⟨h.size, fun k o _ hk _ => (h.block k (Array.getElem?_eq_some_iff.1 hk).1).trans hk⟩
theorem found_none {zs : List S35} {a1 : Int} {a2 : Bool} (h : noneB a1 a2 (upto zs zs.length)) : found zs a1 a2 = (0, 3) := by
  unfold found
  have : (upto zs zs.length).find? (fun p => decide (priceB p.2 a2 ≤ a1)) = none := List.find?_eq_none.2 fun p hp => by
    have := h p hp
    simp; omega
  rw [this]
theorem upto_add (zs : List S35) (k d : Nat) : ∃ r, upto zs (k + d) = upto zs k ++ r := by
  induction d with
  | zero => exact ⟨[], by simp⟩
  | succ d ih =>
    obtain ⟨r, hr⟩ := ih
    exact ⟨r ++ [bw zs (k + d)], by rw [show k + (d + 1) = (k + d) + 1 by omega, upto_succ, hr, List.append_assoc]⟩
theorem found_hit {zs : List S35} {a1 : Int} {a2 : Bool} {k : Nat} {z : Int} (hk : k ≤ zs.length) (h : hitB a1 a2 (upto zs k) z) : found zs a1 a2 = (z, 0) := by
  obtain ⟨ini, last, e, hn, hp, rfl⟩ := h
  obtain ⟨r, hr⟩ := upto_add zs k (zs.length - k)
  rw [show k + (zs.length - k) = zs.length by omega, e] at hr
  unfold found
  have h1 : ini.find? (fun p => decide (priceB p.2 a2 ≤ a1)) = none := List.find?_eq_none.2 fun p hq => by
    have := hn p hq
    simp; omega
  rw [hr, List.append_assoc, List.find?_append, h1]
  simp [hp]
/-- What is answered. -/
def resB (v q : Bool) (l0 : List S35) (a1 : Int) (a2 : Bool) : Int × Int := if v = true then (if q = true then found l0 a1 a2 else (0, 2)) else (0, 1)
theorem two {a b x y : Int} (h : (a, b) = (x, y)) : a = x ∧ b = y := by injection h with h1 h2; exact ⟨h1, h2⟩

set_option maxRecDepth 100000 in
set_option maxHeartbeats 4000000 in
theorem greatest_calls (k : Nat) (A0 : Option Addr) (c0 : Nat) (l0 : List S35) (a1 : Int) (a2 : Bool) (v q : Bool) (x y : Int) (w : World) (hv : impl_ValidPrices.f k l0 = some v) (hq : decide ((0 : Int) ≤ a1 ∧ a1 ≤ 10000000) = q) (hxy : resB v q l0 a1 a2 = (x, y)) (hr0 : Kd.C k35 w A0 l0.length l0) (hc0 : l0.length ≤ c0) (hl : l0.length ≤ 1000000000) :
    Calls Try.prog 7 #[.slice A0 l0.length c0, .int .i64 a1, .bool a2] w fun e w' => e = .returned (.tuple #[.int .i64 x, .int .i64 y]) ∧ Below w.heap.size w w' := by
  refine (callsIn_wide (n := 9)).1 ?_
  refine callsIn_of_wp_marks Try.func7 rfl trivial ?_ rfl
  simp only [Try.ntmps7, List.size_toArray, List.length_cons, List.length_nil, Nat.reduceAdd, Nat.reduceSub, Array.replicate_succ, Array.replicate_zero, List.push_toArray, List.append_toArray, List.nil_append, List.cons_append]
  refine wpIn_wide.2 ?_
  go_wp2
  have hB1 : Below w.heap.size w ((((w.alloc (.cells #[.int .i64 a1] 2)).alloc (.cells #[.bool a2] 4)).alloc (.cells #[.int .i64 0] 2)).alloc (.cells #[.int .i64 0] 2)) :=
    ((((Below.refl w.heap.size w).alloc (Nat.le_refl _) _).alloc (by simp) _).alloc (by simp; omega) _).alloc (by simp; omega) _
  have b4 := (((Boxed.new w 2 (.int .i64 a1)).alloc (.cells #[.bool a2] 4)).alloc (.cells #[.int .i64 0] 2)).alloc (.cells #[.int .i64 0] 2)
  have b5 := ((Boxed.new (w.alloc (.cells #[.int .i64 a1] 2)) 4 (.bool a2)).alloc (.cells #[.int .i64 0] 2)).alloc (.cells #[.int .i64 0] 2)
  have b6 := (Boxed.new ((w.alloc (.cells #[.int .i64 a1] 2)).alloc (.cells #[.bool a2] 4)) 2 (.int .i64 0)).alloc (.cells #[.int .i64 0] 2)
  have b7 := Boxed.new (((w.alloc (.cells #[.int .i64 a1] 2)).alloc (.cells #[.bool a2] 4)).alloc (.cells #[.int .i64 0] 2)) 2 (.int .i64 0)
  simp only [World.size_alloc] at b5 b6 b7
  have hr1 := Kd.C_below hr0 hB1
  generalize ((((w.alloc (.cells #[.int .i64 a1] 2)).alloc (.cells #[.bool a2] 4)).alloc (.cells #[.int .i64 0] 2)).alloc (.cells #[.int .i64 0] 2)) = W1 at hB1 b4 b5 b6 b7 hr1 ⊢
  have z4 := cell_regrown b4.cell
  refine wp_region_quiet_below (by kernel_rfl) (by kernel_rfl) ?_
  repeat (go_big_quiet_step ((first | exact Calls.regrown_of (valid_call k A0 c0 l0 v _ hr1 hc0 hv _ _) | exact Calls.regrown_of (within_call _ _ _ _ hq _) | exact Calls.regrown_of (check_call _ _ _))))
  refine wpQuiet_nil ?_
  intro _ hw'
  obtain ⟨⟨dq, osq⟩, hw''⟩ := hw'
  subst hw''
  have hB2 := hB1.trans ((below_regrown W1 dq osq).mono hB1.size)
  have c6 : Boxed (grow (redrawn W1 dq) osq) (w.heap.size + 1 + 1) 2 (.int .i64 0) := ((below_regrown W1 dq osq).block _ b6.lt).trans b6
  have c7 : Boxed (grow (redrawn W1 dq) osq) (w.heap.size + 1 + 1 + 1) 2 (.int .i64 0) := ((below_regrown W1 dq osq).block _ b7.lt).trans b7
  have c4 : Boxed (grow (redrawn W1 dq) osq) w.heap.size 2 (.int .i64 a1) := ((below_regrown W1 dq osq).block _ b4.lt).trans b4
  have c5 : Boxed (grow (redrawn W1 dq) osq) (w.heap.size + 1) 4 (.bool a2) := ((below_regrown W1 dq osq).block _ b5.lt).trans b5
  generalize grow (redrawn W1 dq) osq = W2 at hB2 c4 c5 c6 c7 ⊢
  have g6 := c6.cell
  have g7 := c7.cell
  have i6 := c6.frozen
  have i7 := c7.frozen
  cases v with
  | false =>
      have hcode : codeB false q = 1 := rfl
      rw [hcode]
      obtain ⟨rfl, rfl⟩ := two hxy
      go_wp2
      have d6 := (c6.set (.int .i64 0)).other (show w.heap.size + 1 + 1 ≠ w.heap.size + 1 + 1 + 1 by omega) (.int .i64 1)
      have d7 := (c7.other (show w.heap.size + 1 + 1 + 1 ≠ w.heap.size + 1 + 1 by omega) (.int .i64 0)).set (.int .i64 1)
      have hB3 := (hB2.setCell (p := ⟨w.heap.size + 1 + 1, 0, none⟩) (by show w.heap.size ≤ w.heap.size + 1 + 1; omega) (.int .i64 0)).setCell (p := ⟨w.heap.size + 1 + 1 + 1, 0, none⟩) (by show w.heap.size ≤ w.heap.size + 1 + 1 + 1; omega) (.int .i64 1)
      have e6 := d6.cell
      have e7 := d7.cell
      refine ⟨.tuple #[.int .i64 0, .int .i64 1], ?_, rfl, hB3⟩
      simp [results, Try.f7, go_sem, e6, e7]
  | true =>
    cases q with
    | false =>
      have hcode : codeB true false = 2 := rfl
      rw [hcode]
      obtain ⟨rfl, rfl⟩ := two hxy
      go_wp2
      have d6 := (c6.set (.int .i64 0)).other (show w.heap.size + 1 + 1 ≠ w.heap.size + 1 + 1 + 1 by omega) (.int .i64 2)
      have d7 := (c7.other (show w.heap.size + 1 + 1 + 1 ≠ w.heap.size + 1 + 1 by omega) (.int .i64 0)).set (.int .i64 2)
      have hB3 := (hB2.setCell (p := ⟨w.heap.size + 1 + 1, 0, none⟩) (by show w.heap.size ≤ w.heap.size + 1 + 1; omega) (.int .i64 0)).setCell (p := ⟨w.heap.size + 1 + 1 + 1, 0, none⟩) (by show w.heap.size ≤ w.heap.size + 1 + 1 + 1; omega) (.int .i64 2)
      have e6 := d6.cell
      have e7 := d7.cell
      refine ⟨.tuple #[.int .i64 0, .int .i64 2], ?_, rfl, hB3⟩
      simp [results, Try.f7, go_sem, e6, e7]
    | true =>
      have hcode : codeB true true = 0 := rfl
      rw [hcode]
      go_wp2
      have bN := Boxed.new W2 26 (.slice A0 l0.length c0)
      have hB3 : Below w.heap.size w (W2.alloc (.cells #[.slice A0 l0.length c0] 26)) := hB2.alloc hB2.size _
      have d4 := c4.alloc (.cells #[.slice A0 l0.length c0] 26)
      have d5 := c5.alloc (.cells #[.slice A0 l0.length c0] 26)
      have d6 := c6.alloc (.cells #[.slice A0 l0.length c0] 26)
      have d7 := c7.alloc (.cells #[.slice A0 l0.length c0] 26)
      have hr3 := Kd.C_below hr0 hB3
      have hBN : Below W2.heap.size W2 (W2.alloc (.cells #[.slice A0 l0.length c0] 26)) := (Below.refl _ W2).alloc (Nat.le_refl _) _
      have hlt : W2.heap.size < (W2.alloc (.cells #[.slice A0 l0.length c0] 26)).heap.size := by simp
      generalize W2.alloc (.cells #[.slice A0 l0.length c0] 26) = W3 at bN hB3 d4 d5 d6 d7 hr3 hBN hlt ⊢
      generalize W2.heap.size = Bs at bN hBN hlt ⊢
      refine (wpIn_wide (n := 9)).1 ?_
      refine wpIn_rangeFunc_ownH rfl (by omega) (gf := 20) (lb := #[.pointer (some ⟨Bs, 0, none⟩)]) rfl trivial (enters_of Try.func20 (by kernel_rfl) rfl)
        (bwd_stops Fence.wide (9 - 1) trivial rfl (by omega) Bs W3 A0 c0 l0 hl hr3 bN.cell) belowK_t (belowK_b (Nat.le_refl _)) (Below.refl _ _) (fun _ => rfl)
        (fun pre W => noneB a1 a2 pre ∧ RowKit.Below W3.heap.size W3 W)
        (fun c pre W => (c = .ret ∧ ∃ z, hitB a1 a2 pre z ∧ Boxed W (w.heap.size + 1 + 1) 2 (.int .i64 z) ∧ Boxed W (w.heap.size + 1 + 1 + 1) 2 (.int .i64 0)) ∧ Below w.heap.size w W)
        (OwnFrom.and (ownFrom_pure _ (fun pre : List (Int × S35) => noneB a1 a2 pre)) (ownFrom_below (Nat.le_refl _) (Nat.le_refl _)))
        (fun c => OwnFrom.and (Own.from (fun s A B row hs hg hr => by
          obtain ⟨hc, z, e1, e4, e5⟩ := hs
          exact ⟨hc, z, e1, boxed_own _ 2 (fun _ : Unit => .int .i64 z) () A B row e4 hg hr, boxed_own _ 2 (fun _ : Unit => .int .i64 0) () A B row e5 hg hr⟩) _) (ownFrom_below (Nat.le_refl _) hB3.size))
        ⟨(fun p hp => by cases hp), Below.refl _ _⟩
        (fun x a' W => ∃ Bx, W3.heap.size ≤ Bx ∧ W.heap[Bx]? = some (.cells #[.int .i64 x.2.f0, .int .i64 x.2.f1, .int .i64 x.2.f2] 35 (0, 0)) ∧
          a' = { tmps := #[.slice A0 l0.length c0, .int .i64 a1, .bool a2, undef, .pointer (some ⟨w.heap.size, 0, none⟩), .pointer (some ⟨w.heap.size + 1, 0, none⟩), .pointer (some ⟨w.heap.size + 1 + 1, 0, none⟩), .pointer (some ⟨w.heap.size + 1 + 1 + 1, 0, none⟩), .int .i64 0, undef, .pointer (some ⟨Bx, 0, none⟩), .slice A0 l0.length c0, .bool true, .int .i64 a1, .bool true, .int .i64 0, .int .i64 0, .bool false, undef, .slice A0 l0.length c0, .func (.func 20) #[] #[.pointer (some ⟨Bs, 0, none⟩)], .int .i64 x.1, .agg #[.int .i64 x.2.f0, .int .i64 x.2.f1, .int .i64 x.2.f2], undef, undef, undef, undef, undef, undef, undef], defers := [] })
        (fun x a' => fun s X Y row hs hg hr => by
          obtain ⟨Bx, h1, h2, h3⟩ := hs
          exact ⟨Bx, h1, (hg.block Bx (Array.getElem?_eq_some_iff.1 h2).1 (fun e' => by obtain ⟨_, o, ho, hc⟩ := hr Bx e'.symm; rw [h2] at ho; cases ho; cases hc)).trans h2, h3⟩)
        ?assign ?body ?done ?stop
      case assign =>
        rintro l pre x W K ⟨hp, hBW⟩ hK
        gi_wp2
        exact hK _ _ ((KeepsOthers.alloc _ _).from _) ((Below.refl _ W).alloc hBW.size _) ⟨hp, hBW.alloc hBW.size _⟩ ⟨W.heap.size, hBW.size, World.alloc_heap_new W _, rfl⟩
      case body =>
        rintro l pre x a' W hl' ⟨r, hr⟩ ⟨hp, hBW⟩ ⟨Bx, hBx, bX, rfl⟩ hlen
        have m4 : W.cell? ⟨w.heap.size, 0, none⟩ = some (.int .i64 a1) := (hBW.cell d4.lt).trans d4.cell
        have m5 : W.cell? ⟨w.heap.size + 1, 0, none⟩ = some (.bool a2) := (hBW.cell d5.lt).trans d5.cell
        have k6 : Boxed W (w.heap.size + 1 + 1) 2 (.int .i64 0) := (hBW.block _ d6.lt).trans d6
        have k7 : Boxed W (w.heap.size + 1 + 1 + 1) 2 (.int .i64 0) := (hBW.block _ d7.lt).trans d7
        have m6 := k6.cell
        have m7 := k7.cell
        have f6 := k6.frozen
        have f7 := k7.frozen
        have x0 : W.cell? ⟨Bx, 0, none⟩ = some (.int .i64 x.2.f0) := by simp [World.cell?, bX]
        have x1 : W.cell? ⟨Bx, 1, none⟩ = some (.int .i64 x.2.f1) := by simp [World.cell?, bX]
        have x2 : W.cell? ⟨Bx, 2, none⟩ = some (.int .i64 x.2.f2) := by simp [World.cell?, bX]
        have h1' : 1 ≤ 9 - 1 - 1 := by omega
        have hu35 := Try.underlying35
        have hpr : impl_priceOf.f x.2.f0 x.2.f1 x.2.f2 a2 = some (priceB x.2 a2) := by unfold impl_priceOf.f priceB; cases a2 <;> rfl
        have hb4 := World.block_lt_of_cell? W _ m4
        have hb0 := World.block_lt_of_cell? W _ x0
        gi_wp2
        have hmix : Try.prog.follows .mixedOrders = true := by kernel_rfl
        gi_region_with_o (refine ⟨trivial, ?_⟩; gi_at_call 17; refine (CallsIn.inRound l (callsIn_wide.2 (impl_priceOf.calls _ _ _ _ _ _ hpr))).mono ?_; rintro e w' ⟨rfl, hBp⟩; replace hBp : RowKit.Below W.heap.size W w' := ⟨hBp.os, hBp.tape, hBp.output, hBp.size, hBp.block⟩; have y4 := (hBp.cell hb4).trans m4; have y0 := (hBp.cell hb0).trans x0; have y1 := (hBp.cell (p := ⟨Bx, 1, none⟩) hb0).trans x1; have y2 := (hBp.cell (p := ⟨Bx, 2, none⟩) hb0).trans x2; have kk6 : Boxed w' (w.heap.size + 1 + 1) 2 (.int .i64 0) := (hBp.block _ k6.lt).trans k6; have kk7 : Boxed w' (w.heap.size + 1 + 1 + 1) 2 (.int .i64 0) := (hBp.block _ k7.lt).trans k7; have y6 := Boxed.cell kk6; have y7 := Boxed.cell kk7; have g6' := Boxed.frozen kk6; have g7' := Boxed.frozen kk7)
        all_goals gi_wp2
        all_goals (try go_bits)
        all_goals have hBw : RowKit.Below w.heap.size w W := hB3.trans (hBW.mono hB3.size)
        all_goals have hBv := hBw.trans (hBp.mono hBw.size)
        all_goals first
          | exact ⟨keeps_below hBp, hBp.mono hBW.size, none_snoc hp (by assumption), hBW.trans (hBp.mono hBW.size)⟩
          | exact ⟨((keeps_below hBp).trans ((KeepsOthers.setCell _ _ _).from _)).trans ((KeepsOthers.setCell _ _ _).from _), ⟨rfl, x.2.f0, hit_snoc hp (by assumption), (kk6.set _).other (by omega) _, (kk7.other (by omega) _).set _⟩,
              (hBv.setCell (p := ⟨w.heap.size + 1 + 1, 0, none⟩) (by show w.heap.size ≤ w.heap.size + 1 + 1; omega) _).setCell (p := ⟨w.heap.size + 1 + 1 + 1, 0, none⟩) (by show w.heap.size ≤ w.heap.size + 1 + 1 + 1; omega) _⟩
      case done =>
        rintro D ys W hD rfl ⟨hn, hBW⟩ hK
        have hBw : RowKit.Below w.heap.size w W := hB3.trans (hBW.mono hB3.size)
        have k6 : Boxed W (w.heap.size + 1 + 1) 2 (.int .i64 0) := (hBW.block _ d6.lt).trans d6
        have k7 : Boxed W (w.heap.size + 1 + 1 + 1) 2 (.int .i64 0) := (hBW.block _ d7.lt).trans d7
        have m6 := k6.cell
        have m7 := k7.cell
        have f6 := k6.frozen
        have f7 := k7.frozen
        obtain ⟨rfl, rfl⟩ := two ((found_none hn).symm.trans hxy)
        gi_wp2
        go_wp2
        have hK' := (KeepsOthers.setCell (W.setCell ⟨w.heap.size + 1 + 1, 0, none⟩ (.int .i64 0)) ⟨w.heap.size + 1 + 1 + 1, 0, none⟩ (.int .i64 3)).same D _ ((KeepsOthers.setCell W ⟨w.heap.size + 1 + 1, 0, none⟩ (.int .i64 0)).same D _ hK rfl) rfl
        refine ⟨by simp, .inl ⟨_, _, rfl, run_takeDeferred hK', ?_⟩⟩
        have u6 := (k6.set (.int .i64 0)).other (show w.heap.size + 1 + 1 ≠ w.heap.size + 1 + 1 + 1 by omega) (.int .i64 3)
        have u7 := (k7.other (show w.heap.size + 1 + 1 + 1 ≠ w.heap.size + 1 + 1 by omega) (.int .i64 0)).set (.int .i64 3)
        have hB9 := (hBw.setCell (p := ⟨w.heap.size + 1 + 1, 0, none⟩) (by show w.heap.size ≤ w.heap.size + 1 + 1; omega) (.int .i64 0)).setCell (p := ⟨w.heap.size + 1 + 1 + 1, 0, none⟩) (by show w.heap.size ≤ w.heap.size + 1 + 1 + 1; omega) (.int .i64 3)
        have e6 := Boxed.cell (boxed_own _ 2 (fun _ : Unit => .int .i64 0) () _ _ (some D) u6 (grownBy_putObj' _ D (.deferred none)) (fun r e => by cases e; exact ⟨_, hK', rfl⟩))
        have e7 := Boxed.cell (boxed_own _ 2 (fun _ : Unit => .int .i64 3) () _ _ (some D) u7 (grownBy_putObj' _ D (.deferred none)) (fun r e => by cases e; exact ⟨_, hK', rfl⟩))
        refine ⟨.tuple #[.int .i64 0, .int .i64 3], ?_, rfl, hB9.trans (belowK_b (w := w) (Nat.le_refl _) _ D _ _ (Nat.le_trans hB3.size hD) hK' rfl rfl)⟩
        simp [results, Try.f7, go_sem, e6, e7]
      case stop =>
        rintro D c pre W hD ⟨k, hk, rfl⟩ ⟨⟨rfl, z, hz, k6, k7⟩, hBw⟩ hK
        obtain ⟨rfl, rfl⟩ := two ((found_hit hk hz).symm.trans hxy)
        gi_wp2
        refine ⟨by simp, .inl ⟨_, _, rfl, run_takeDeferred hK, ?_⟩⟩
        have e6 := Boxed.cell (boxed_own _ 2 (fun _ : Unit => .int .i64 z) () _ _ (some D) k6 (grownBy_putObj' _ D (.deferred none)) (fun r e => by cases e; exact ⟨_, hK, rfl⟩))
        have e7 := Boxed.cell (boxed_own _ 2 (fun _ : Unit => .int .i64 0) () _ _ (some D) k7 (grownBy_putObj' _ D (.deferred none)) (fun r e => by cases e; exact ⟨_, hK, rfl⟩))
        refine ⟨.tuple #[.int .i64 z, .int .i64 0], ?_, rfl, hBw.trans (belowK_b (w := w) (Nat.le_refl _) _ D _ _ (Nat.le_trans hB3.size hD) hK rfl rfl)⟩
        simp [results, Try.f7, go_sem, e6, e7]
end Go.Proofs.Ytdjdillppgijmaa.Q
