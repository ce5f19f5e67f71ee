/- The reference's walk over sets of items: what becomes of its state. -/
import Derived.Test.YtdjdillppgijmaaDoorSWalkA
import Derived.Deep.Cut
import Derived.Deep.LoopGhost
set_option linter.unusedVariables false
set_option linter.unusedSimpArgs false
namespace Go.Proofs.YtdjdillppgijmaaDoor.Qs
open Go.RowKit Go.Proofs.YtdjdillppgijmaaDoorW.PrintWords Go.Proofs.YtdjdillppgijmaaDoorW.PrintLast Go.Proofs.YtdjdillppgijmaaDoorW.PrintMore Go.Proofs.YtdjdillppgijmaaDoor.Pl

/-! ### Worlds -/
theorem bel_drew (w : World) : RowKit.Below w.heap.size w w.drew := (RowKit.Below.refl _ w).drew
theorem bel_alloc (w : World) (o : Obj) : RowKit.Below w.heap.size w (w.alloc o) := (RowKit.Below.refl _ w).alloc (Nat.le_refl _) o
theorem bel_trans {a b c : World} (h : RowKit.Below a.heap.size a b) (k : RowKit.Below b.heap.size b c) : RowKit.Below a.heap.size a c := h.trans (k.mono h.size)
theorem bel_drawn {w w' : World} (h : ∃ n, w' = w.drewN n) : RowKit.Below w.heap.size w w' := by
  obtain ⟨n, rfl⟩ := h
  exact pw_below_drewN (RowKit.Below.refl _ w) n
theorem keep_cell {w w' : World} {a : Addr} {v : Value} (hB : RowKit.Below w.heap.size w w') (h : w.cell? a = some v) : w'.cell? a = some v := (hB.cell (World.block_lt_of_cell? w _ h)).trans h
theorem heap_keep {w w' : World} {k : Nat} {o : Obj} (hB : RowKit.Below w.heap.size w w') (h : w.heap[k]? = some o) : w'.heap[k]? = some o := (hB.block k (Array.getElem?_eq_some_iff.1 h).1).trans h
theorem own_calls (At : Option Addr) (ct : Nat) (set : List Int) (wr w : World) (hB : RowKit.Below wr.heap.size wr w) (hset : Kd.C (Kd.int .i64) wr At set.length set) (hct : set.length ≤ ct) (hsl : set.length ≤ 1000) :
    Calls Tryd.prog 105 #[.slice At set.length ct] w fun e w' => ∃ v0_ : Value, e = .returned v0_ ∧ Kd.R (Kd.int .i64) 2 w' w.heap.size (fun _ => True) v0_ set ∧ RowKit.Below w.heap.size w w' :=
  spec_l00Own.calls At ct set set w (Kd.C_below hset hB) hct (by unfold spec_l00Own.f; rw [Option.bind_some, if_pos (by simp; omega), List.nil_append])
/-- Nothing that lay there has turned but block g. -/
def Turn1 (g : Nat) (w w' : World) : Prop := w.heap.size ≤ w'.heap.size ∧ ∀ k, k < w.heap.size → k ≠ g → w'.heap[k]? = w.heap[k]?
theorem turn_trans {g : Nat} {a b c d : World} (h : Turn1 g a b) (k : Turn1 g c d) (hs : b.heap.size ≤ c.heap.size) (hB : RowKit.Below b.heap.size b c) : Turn1 g a d :=
  ⟨by have := h.1; have := k.1; omega, fun q hq hne => by have := h.1; rw [k.2 q (by omega) hne, hB.block q (by omega), h.2 q hq hne]⟩
/-- A row of numbers of another block than g. -/
theorem row_turn {g : Nat} {w w' : World} {A : Option Addr} {n : Nat} {xs : List Int} (h : Kd.C (Kd.int .i64) w A n xs) (ht : Turn1 g w w') (hne : ∀ ad, A = some ad → ad.block ≠ g) : Kd.C (Kd.int .i64) w' A n xs := by
  obtain ⟨h1, h2, h3⟩ := h
  refine ⟨h1, h2, fun h0 => ?_⟩
  obtain ⟨ad, e, hc⟩ := h3 h0
  refine ⟨ad, e, fun j p hj => ?_⟩
  obtain ⟨c, c1, c2, c3⟩ := hc j p hj
  refine ⟨c, c1, c2, fun q u hu => ?_⟩
  have h5 := c3 q u hu
  have hlt := World.block_lt_of_cell? w _ h5
  have hb := ht.2 _ hlt (by
    have := hne ad e
    unfold Addr.add
    split <;> exact this)
  simp only [World.cell?] at h5 ⊢
  rw [hb]
  exact h5

/-- A row of numbers of the call's own, of another block than g. -/
abbrev Own1 (w : World) (b g : Nat) (v : Value) (xs : List Int) : Prop := Kd.R (Kd.int .i64) 2 w b (fun k => k ≠ g) v xs
theorem own_turn {g b : Nat} {w w' : World} {v : Value} {xs : List Int} (h : Own1 w b g v xs) (ht : Turn1 g w w') : Own1 w' b g v xs := Kd.R_step h (fun k ho hk => ht.2 k hk ho)
theorem own_far {g b b1 : Nat} {w : World} {v : Value} {xs : List Int} (h : Kd.R (Kd.int .i64) 2 w b1 (fun _ => True) v xs) (hb : b ≤ b1) (hg : g < b1) : Own1 w b g v xs := Kd.R_lower (Kd.R_mono (Kd.R_bound h) (fun k hk => by have := hk.2.1; omega)) hb

/-- The state as it lies in memory. -/
def WState (w : World) (b g : Nat) (L Sh : Value) (budget : Int) (st : List Int × Int) : Prop :=
  ∃ Ab cb, Own1 w b g (.slice Ab st.1.length cb) st.1 ∧ w.heap[g]? = some (.cells #[L, Sh, .int .i64 budget, .slice Ab st.1.length cb, .int .i64 st.2] 125 (0, 0)) ∧ Kd.C (Kd.int .i64) w Ab st.1.length st.1 ∧ st.1.length ≤ cb ∧ ∀ ad, Ab = some ad → ad.block ≠ g
theorem WState.below {w w' : World} {b g : Nat} {L Sh : Value} {budget : Int} {st : List Int × Int} (h : WState w b g L Sh budget st) (hB : RowKit.Below w.heap.size w w') : WState w' b g L Sh budget st := by
  obtain ⟨Ab, cb, h0, h1, h2, h3, h4⟩ := h
  exact ⟨Ab, cb, Kd.R_below h0 hB, heap_keep hB h1, Kd.C_below h2 hB, h3, h4⟩

set_option maxHeartbeats 16000000 in
set_option maxRecDepth 1000000 in
theorem walk_calls (l0 : List S34) (A0 : Option Addr) (c0 : Nat) (sh : List Int) (As : Option Addr) (cs : Nat) (budget : Int) (g : Nat) (w0 : World) (hr0 : Kd.C k34 w0 A0 l0.length l0) (hsh : Kd.C (Kd.int .i64) w0 As sh.length sh) (hg : w0.heap.size ≤ g)
    (hmem : ∀ x ∈ sh, 0 ≤ x ∧ x < l0.length ∧ (rd_T34 l0 x).f1 < (rd_T34 l0 x).f2 ∧ 0 ≤ (rd_T34 l0 x).f1 ∧ (rd_T34 l0 x).f2 ≤ 100000 ∧ (0 ≤ (rd_T34 l0 x).f3 ∧ (rd_T34 l0 x).f3 ≤ 1000000) ∧ (0 ≤ need l0 x ∧ need l0 x ≤ 100000000000))
    (hb : 0 ≤ budget ∧ budget ≤ 100000000) (hn : sh.length ≤ 10) (N : Nat) :
    ∀ (set : List Int) (At : Option Addr) (ct frm : Nat) (cost : Int) (st : List Int × Int) (w : World), sh.length - frm < N → frm ≤ sh.length → set.length ≤ 1000 - sh.length + frm → (0 ≤ cost ∧ cost ≤ 200000000000) → RowKit.Below w0.heap.size w0 w → g < w.heap.size →
    WState w w0.heap.size g (.slice A0 l0.length c0) (.slice As sh.length cs) budget st → Own1 w w0.heap.size g (.slice At set.length ct) set →
    Calls Tryd.prog 113 #[.pointer (some ⟨g, 0, none⟩), .slice At set.length ct, .int .i64 frm, .int .i64 cost] w fun e w' => e = .returned (.tuple #[]) ∧ RowKit.Below w0.heap.size w0 w' ∧ Turn1 g w w' ∧ WState w' w0.heap.size g (.slice A0 l0.length c0) (.slice As sh.length cs) budget (visit (need l0) budget (sh.drop frm) set cost st) := by
  induction N with
  | zero => intro set At ct frm cost st w h; omega
  | succ N ih =>
  intro set At ct frm cost st w hN hfr hsl0 hcost hB0 hgw hW hsetR
  have hset := (Kd.R_reads' hsetR).2.2
  have hct := (Kd.R_reads' hsetR).2.1
  have hAt : ∀ ad, At = some ad → ad.block ≠ g := fun ad e => hsetR.1 _ (by rw [e]; rfl)
  have HSETR := Lib.hid hsetR
  clear hsetR
  have hmix : Tryd.prog.follows .mixedOrders = true := by kernel_rfl
  have hsl : set.length ≤ 1000 := by omega
  have hu125 := Tryd.underlying125
  have hu27 := Tryd.underlying27
  have hu24 := Tryd.underlying24
  have IH : Hid _ := Lib.hid ih
  clear ih
  have MEM := Lib.hid hmem
  clear hmem
  obtain ⟨Ab, cb, hbr, hst, hbest, hcb, hAb⟩ := hW
  have HBR := Lib.hid hbr
  clear hbr
  have q0 : w.cell? ⟨g, 0, none⟩ = some (.slice A0 l0.length c0) := by simp [World.cell?, hst]
  have q1 : w.cell? ⟨g, 1, none⟩ = some (.slice As sh.length cs) := by simp [World.cell?, hst]
  have q2 : w.cell? ⟨g, 2, none⟩ = some (.int .i64 budget) := by simp [World.cell?, hst]
  have q3 : w.cell? ⟨g, 3, none⟩ = some (.slice Ab st.1.length cb) := by simp [World.cell?, hst]
  have q4 : w.cell? ⟨g, 4, none⟩ = some (.int .i64 st.2) := by simp [World.cell?, hst]
  have r3 : w.frozen? ⟨g, 3, none⟩ = false := by simp [World.frozen?, hst]
  have r4 : w.frozen? ⟨g, 4, none⟩ = false := by simp [World.frozen?, hst]
  have HST := Lib.hid hst
  have HBEST := Lib.hid hbest
  have HSET0 := Lib.hid hset
  have HB0 := Lib.hid hB0
  have HAB := Lib.hid hAb
  have HAT := Lib.hid hAt
  clear hst hbest hset hB0 hAb hAt
  have hT0 : Turn1 g w w := ⟨Nat.le_refl _, fun _ _ _ => rfl⟩
  have HT0 := Lib.hid hT0
  clear hT0
  by_cases hc : budget < cost
  · have hv : visit (need l0) budget (sh.drop frm) set cost st = st := by unfold visit; rw [if_pos hc]
    have HV := Lib.hid hv
    clear hv
    go_enter Tryd.func113, Tryd.ntmps113
    go_wp2
    (try simp only [Exit.inBlock, Exit.then]); refine bodyPost_ret (results_none rfl _ _ _) rfl ?_
    exact ⟨rfl, HB0.out, HT0.out, by rw [HV.out]; exact ⟨Ab, cb, HBR.out, HST.out, HBEST.out, hcb, HAB.out⟩⟩
  · have hv : visit (need l0) budget (sh.drop frm) set cost st = subs (need l0) budget (sh.drop frm) set cost (keepB st set cost) := by unfold visit; rw [if_neg hc]
    have HV := Lib.hid hv
    clear hv
    have hkept : ∀ w1, w1 = (w.setCell ⟨g, 3, none⟩ (.slice At set.length ct)).setCell ⟨g, 4, none⟩ (.int .i64 cost) → RowKit.Below w0.heap.size w0 w1 ∧ Turn1 g w w1 ∧ WState w1 w0.heap.size g (.slice A0 l0.length c0) (.slice As sh.length cs) budget (set, cost) ∧ Kd.C (Kd.int .i64) w1 At set.length set ∧ g < w1.heap.size := by
      rintro w1 rfl
      have ht : Turn1 g w ((w.setCell ⟨g, 3, none⟩ (.slice At set.length ct)).setCell ⟨g, 4, none⟩ (.int .i64 cost)) := ⟨by simp, fun k hk hne => by rw [RowKit.Below.heap_setCell _ ⟨g, 4, none⟩ _ k hne, RowKit.Below.heap_setCell _ ⟨g, 3, none⟩ _ k hne]⟩
      have hs := row_turn HSET0.out ht HAT.out
      refine ⟨(HB0.out.setCell (p := ⟨g, 3, none⟩) hg _).setCell (p := ⟨g, 4, none⟩) hg _, ht, ⟨At, ct, own_turn HSETR.out ht, ?_, hs, hct, HAT.out⟩, hs, by simpa using hgw⟩
      have h1 := Rw.heap_setOne (o := 3) (.slice At set.length ct) HST.out
      have h2 := Rw.heap_setOne (o := 4) (.int .i64 cost) h1
      simpa using h2
    have HKEPT : Hid _ := Lib.hid hkept
    clear hkept
    have hsame : ∀ w1, w1 = w → RowKit.Below w0.heap.size w0 w1 ∧ Turn1 g w w1 ∧ WState w1 w0.heap.size g (.slice A0 l0.length c0) (.slice As sh.length cs) budget st ∧ Kd.C (Kd.int .i64) w1 At set.length set ∧ g < w1.heap.size := by
      rintro w1 rfl
      exact ⟨HB0.out, HT0.out, ⟨Ab, cb, HBR.out, HST.out, HBEST.out, hcb, HAB.out⟩, HSET0.out, hgw⟩
    have HSAME : Hid _ := Lib.hid hsame
    clear hsame
    have hc1 : cost ≤ budget := by omega
    have hways : (keepB st set cost = (set, cost) ∧ st.1.length < set.length) ∨ (keepB st set cost = (set, cost) ∧ set.length = st.1.length ∧ cost < st.2) ∨ (keepB st set cost = st ∧ set.length = st.1.length ∧ ¬ cost < st.2) ∨ (keepB st set cost = st ∧ set.length < st.1.length) := by
      unfold keepB
      by_cases h1 : st.1.length < set.length
      · exact .inl ⟨if_pos (.inl h1), h1⟩
      · by_cases h2 : set.length = st.1.length
        · by_cases h3 : cost < st.2
          · exact .inr (.inl ⟨if_pos (.inr ⟨h2, h3⟩), h2, h3⟩)
          · exact .inr (.inr (.inl ⟨if_neg (by omega), h2, h3⟩))
        · exact .inr (.inr (.inr ⟨if_neg (by omega), by omega⟩))
    rcases hways with ⟨hk, h1⟩ | ⟨hk, h2, h3⟩ | ⟨hk, h2, h3⟩ | ⟨hk, h1⟩
    case' inl =>
      have HK := Lib.hid hk
      clear hk
      have t1 : (st.1.length : Int) < (set.length : Int) := by omega
      go_enter Tryd.func113, Tryd.ntmps113
      go_upto_region 4 with (fail)
      have hnow := HKEPT.out _ rfl
      rw [← HK.out] at hnow
      generalize (w.setCell ⟨g, 3, none⟩ (.slice At set.length ct)).setCell ⟨g, 4, none⟩ (.int .i64 cost) = w1 at hnow ⊢
    case' inr.inl =>
      have HK := Lib.hid hk
      clear hk
      have t1 : ¬ (st.1.length : Int) < (set.length : Int) := by omega
      have t2 : (set.length : Int) = (st.1.length : Int) := by omega
      have t2b : ((set.length : Int) == (st.1.length : Int)) = true := by simpa using t2
      have T2 := Lib.hid t2
      clear t2 h2
      go_enter Tryd.func113, Tryd.ntmps113
      go_upto_region 4 with (fail)
      have hnow := HKEPT.out _ rfl
      rw [← HK.out] at hnow
      generalize (w.setCell ⟨g, 3, none⟩ (.slice At set.length ct)).setCell ⟨g, 4, none⟩ (.int .i64 cost) = w1 at hnow ⊢
    case' inr.inr.inl =>
      have HK := Lib.hid hk
      clear hk
      have t1 : ¬ (st.1.length : Int) < (set.length : Int) := by omega
      have t2b : ((set.length : Int) == (st.1.length : Int)) = true := by simp; omega
      clear h2
      go_enter Tryd.func113, Tryd.ntmps113
      go_upto_region 4 with (fail)
      obtain ⟨w1, hw1⟩ : ∃ w1, w1 = w := ⟨_, rfl⟩
      have hnow := HSAME.out w1 hw1
      rw [← HK.out] at hnow
      rw [← hw1]
      clear hw1
    case' inr.inr.inr =>
      have HK := Lib.hid hk
      clear hk
      have t1 : ¬ (st.1.length : Int) < (set.length : Int) := by omega
      have t2b : ((set.length : Int) == (st.1.length : Int)) = false := by simp; omega
      have t2c : ¬ (set.length : Int) = (st.1.length : Int) := by omega
      go_enter Tryd.func113, Tryd.ntmps113
      go_upto_region 4 with (fail)
      obtain ⟨w1, hw1⟩ : ∃ w1, w1 = w := ⟨_, rfl⟩
      have hnow := HSAME.out w1 hw1
      rw [← HK.out] at hnow
      rw [← hw1]
      clear hw1
    all_goals
      clear q0 q1 q2 q3 q4 r3 r4
      obtain ⟨hB1, hT1, hW1, _, _⟩ := hnow
      have HB1 := Lib.hid hB1
      have HT1 := Lib.hid hT1
      have HW1 := Lib.hid hW1
      clear hB1 hT1 hW1
      go_wp2
      go_loopg [8] (sh.length - frm) (fun gk v8 wr => ∃ (i : Nat) (sx : List Int × Int), v8 = .int .i64 i ∧ frm ≤ i ∧ i ≤ sh.length ∧ sh.length - i ≤ gk ∧ Hid (RowKit.Below w0.heap.size w0 wr) ∧ Hid (Turn1 g w wr) ∧ Hid (WState wr w0.heap.size g (.slice A0 l0.length c0) (.slice As sh.length cs) budget sx) ∧ Hid (subs (need l0) budget (sh.drop i) set cost sx = subs (need l0) budget (sh.drop frm) set cost (keepB st set cost)))
      case atStart => exact ⟨frm, _, rfl, Nat.le_refl _, hfr, Nat.le_refl _, HB1, HT1, HW1, Lib.hid rfl⟩
      case round =>
        clear HB1 HT1 HW1
        obtain ⟨i, sx, rfl, hfi, hi, hgk, HB, HT, HW, HS⟩ := hrel
        obtain ⟨Ab2, cb2, _, hst2, hbest2, hcb2, hAb2⟩ := HW.out
        have hst0 : wr.cell? ⟨g, 0, none⟩ = some (.slice A0 l0.length c0) := by simp [World.cell?, hst2]
        have hst1 : wr.cell? ⟨g, 1, none⟩ = some (.slice As sh.length cs) := by simp [World.cell?, hst2]
        have hgr : g < wr.heap.size := World.block_lt_of_cell? wr _ hst0
        clear hst2 hbest2 hcb2 hAb2
        by_cases hlt : i < sh.length
        · have hltz : (i : Int) < (sh.length : Int) := by omega
          obtain ⟨x, hx⟩ : ∃ x, x = sh[i] := ⟨_, rfl⟩
          have hrd : rd sh (i : Int) = x := by rw [hx, rdi_nat, List.getD_eq_getElem?_getD, List.getElem?_eq_getElem hlt]; rfl
          have hdrop : sh.drop i = x :: sh.drop (i + 1) := by rw [hx]; exact List.drop_eq_getElem_cons hlt
          have HDROP := Lib.hid hdrop
          obtain ⟨m1, m2, m3, m4, m5, m6, m7⟩ := MEM.out x (by rw [hx]; exact List.getElem_mem _)
          obtain ⟨ads, e, hshi0⟩ := Kd.at_int hsh (i : Int) (by omega) hltz
          cases e
          rw [hrd, Int.toNat_natCast] at hshi0
          have hshi := (HB.out.cell (World.block_lt_of_cell? w0 _ hshi0)).trans hshi0
          obtain ⟨adl, e, _, hi1, hi2, hi3⟩ := at_T34 hr0 x m1 m2
          cases e
          replace hi1 := (HB.out.cell (World.block_lt_of_cell? w0 _ hi1)).trans hi1
          replace hi2 := (HB.out.cell (World.block_lt_of_cell? w0 _ hi2)).trans hi2
          replace hi3 := (HB.out.cell (World.block_lt_of_cell? w0 _ hi3)).trans hi3
          obtain ⟨m, hm⟩ : ∃ m, m = need l0 x := ⟨_, rfl⟩
          have HM := Lib.hid hm
          have HRF : Hid (∀ W, RowKit.Below wr.heap.size wr W → Calls Tryd.prog 182 #[.pointer (some (adl.add (x.toNat * 4)))] W fun e w' => e = .returned (.int .i64 m) ∧ ∃ n, w' = W.drewN n) := Lib.hid (fun W hW => by
            rw [hm]
            exact refill_at _ _ _ _ W (keep_cell hW hi1) (keep_cell hW hi2) (keep_cell hW hi3) m3 m4 m5 m6 m7)
          rw [← hm] at m7
          have hset := row_turn HSET0.out HT.out HAT.out
          have HSET : Hid (Kd.C (Kd.int .i64) wr At set.length set) := Lib.hid hset
          have hlen1 : (set ++ [x]).length = set.length + 1 := by simp
          have w1' : wrap64 ((i : Int) + 1) = ((i + 1 : Nat) : Int) := succ_nat i (by omega)
          have w2' : wrap64 (cost + m) = cost + m := w64 (by omega) (by omega)
          have W1 := Lib.hid w1'
          have W2 := Lib.hid w2'
          clear w1' w2'
          have HIH : Hid (∀ A70 c70 w7, RowKit.Below wr.heap.size wr w7 → Kd.R (Kd.int .i64) 2 w7 wr.heap.size (fun _ => True) (.slice A70 (set ++ [x]).length c70) (set ++ [x]) →
              Calls Tryd.prog 113 #[.pointer (some ⟨g, 0, none⟩), .slice A70 (set ++ [x]).length c70, .int .i64 (wrap64 ((i : Int) + 1)), .int .i64 (wrap64 (cost + m))] w7 fun e w' => e = .returned (.tuple #[]) ∧ (RowKit.Below w0.heap.size w0 w' ∧ Turn1 g w7 w' ∧ WState w' w0.heap.size g (.slice (some adl) l0.length c0) (.slice (some ads) sh.length cs) budget (visit (need l0) budget (sh.drop (i + 1)) (set ++ [x]) (cost + m) sx))) := Lib.hid (fun A70 c70 w7 hB7 hR7 => by
            rw [W1.out, W2.out]
            refine IH.out (set ++ [x]) A70 c70 (i + 1) (cost + m) sx w7 (by omega) (by omega) (by omega) ⟨by omega, by omega⟩ (HB.out.trans (hB7.mono HB.out.size)) (by have := hB7.size; omega) (HW.out.below hB7) (own_far hR7 HB.out.size hgr))
          have p1 : (0 ≤ (i : Int)) = True := eq_true (by omega)
          have p2 : ((i : Int) < (sh.length : Int)) = True := eq_true hltz
          have p3 : (0 ≤ x) = True := eq_true m1
          have p4 : (x < (l0.length : Int)) = True := eq_true m2
          clear hx hrd hdrop hshi0 hi1 hi2 hi3 hm m3 m4 m5 m6 hset
          go_wp2
          refine start_ (n := 30) (S := fun w' => w'.cell? ⟨g, 0, none⟩ = some (.slice (some adl) l0.length c0) ∧ w'.cell? ⟨g, 1, none⟩ = some (.slice (some ads) sh.length cs) ∧ w'.cell? (ads.add i) = some (.int .i64 x) ∧ RowKit.Below wr.heap.size wr w') (ds := [29]) #[false, false, false, false, false, false, false, false, false, false, false, false, false, false, false, false, false, false, false, false, false, false, false, false, false, false, false, false, false, false] (by kernel_rfl) rfl rfl ⟨hst0, hst1, hshi, bel_drew wr⟩ (fun hHeld => ?_)
          refine pure_ (i := 0) (N := some 59) (v := ?_) (a' := ?_) #[true, false, false, false, false, false, false, false, false, false, false, false, false, false, false, false, false, false, false, false, false, false, false, false, false, false, false, false, false, false] rfl rfl (by kernel_rfl) (fun _ _ _ h => h) (Or.inl ⟨by rfl, ?_⟩) ?_ ?_
          rotate_left
          · intro w'
            go_simp
            with_reducible rfl
          rotate_left
          · simp only [Act.put, List.setIfInBounds_toArray, List.set_cons_zero, List.set_cons_succ, i64_w, i32_w]
            rfl
          refine pure_ (i := 1) (N := some 60) (v := ?_) (a' := ?_) #[true, true, false, false, false, false, false, false, false, false, false, false, false, false, false, false, false, false, false, false, false, false, false, false, false, false, false, false, false, false] rfl rfl (by kernel_rfl) (fun _ _ _ h => h) (Or.inl ⟨by rfl, ?_⟩) ?_ ?_
          rotate_left
          · intro w'
            go_simp
            with_reducible rfl
          rotate_left
          · simp only [Act.put, List.setIfInBounds_toArray, List.set_cons_zero, List.set_cons_succ, i64_w, i32_w]
            rfl
          refine pure_ (i := 3) (N := some 62) (v := ?_) (a' := ?_) #[true, true, false, true, false, false, false, false, false, false, false, false, false, false, false, false, false, false, false, false, false, false, false, false, false, false, false, false, false, false] rfl rfl (by kernel_rfl) (fun _ _ _ h => h) (Or.inl ⟨by rfl, ?_⟩) ?_ ?_
          rotate_left
          · intro w'
            go_simp
            with_reducible rfl
          rotate_left
          · simp only [Act.put, List.setIfInBounds_toArray, List.set_cons_zero, List.set_cons_succ, i64_w, i32_w]
            rfl
          refine pure_ (i := 4) (N := some 63) (v := ?_) (a' := ?_) #[true, true, false, true, true, false, false, false, false, false, false, false, false, false, false, false, false, false, false, false, false, false, false, false, false, false, false, false, false, false] rfl rfl (by kernel_rfl) (fun _ _ _ h => h) (Or.inl ⟨by rfl, ?_⟩) ?_ ?_
          rotate_left
          · intro w'
            go_simp
            with_reducible rfl
          rotate_left
          · simp only [Act.put, List.setIfInBounds_toArray, List.set_cons_zero, List.set_cons_succ, i64_w, i32_w]
            rfl
          refine pure_ (i := 5) (N := some 64) (v := ?_) (a' := ?_) #[true, true, false, true, true, true, false, false, false, false, false, false, false, false, false, false, false, false, false, false, false, false, false, false, false, false, false, false, false, false] rfl rfl (by kernel_rfl) (fun _ _ _ h => h) (Or.inl ⟨by rfl, ?_⟩) ?_ ?_
          rotate_left
          · intro w'
            go_simp
            with_reducible rfl
          rotate_left
          · simp only [Act.put, List.setIfInBounds_toArray, List.set_cons_zero, List.set_cons_succ, i64_w, i32_w]
            rfl
          refine pure_ (i := 7) (N := some 66) (v := ?_) (a' := ?_) #[true, true, false, true, true, true, false, true, false, false, false, false, false, false, false, false, false, false, false, false, false, false, false, false, false, false, false, false, false, false] rfl rfl (by kernel_rfl) (fun _ _ _ h => h) (Or.inl ⟨by rfl, ?_⟩) ?_ ?_
          rotate_left
          · intro w'
            go_simp
            with_reducible rfl
          rotate_left
          · simp only [Act.put, List.setIfInBounds_toArray, List.set_cons_zero, List.set_cons_succ, i64_w, i32_w]
            rfl
          refine pure_ (i := 12) (N := some 71) (v := ?_) (a' := ?_) #[true, true, false, true, true, true, false, true, false, false, false, false, true, false, false, false, false, false, false, false, false, false, false, false, false, false, false, false, false, false] rfl rfl (by kernel_rfl) (fun _ _ _ h => h) (Or.inl ⟨by rfl, ?_⟩) ?_ ?_
          rotate_left
          · intro w'
            go_simp
            with_reducible rfl
          rotate_left
          · simp only [Act.put, List.setIfInBounds_toArray, List.set_cons_zero, List.set_cons_succ, i64_w, i32_w]
            rfl
          refine pure_ (i := 13) (N := some 72) (v := ?_) (a' := ?_) #[true, true, false, true, true, true, false, true, false, false, false, false, true, true, false, false, false, false, false, false, false, false, false, false, false, false, false, false, false, false] rfl rfl (by kernel_rfl) (fun _ _ _ h => h) (Or.inl ⟨by rfl, ?_⟩) ?_ ?_
          rotate_left
          · intro w'
            go_simp
            with_reducible rfl
          rotate_left
          · simp only [Act.put, List.setIfInBounds_toArray, List.set_cons_zero, List.set_cons_succ, i64_w, i32_w]
            rfl
          refine pure_ (i := 14) (N := some 73) (v := ?_) (a' := ?_) #[true, true, false, true, true, true, false, true, false, false, false, false, true, true, true, false, false, false, false, false, false, false, false, false, false, false, false, false, false, false] rfl rfl (by kernel_rfl) (fun _ _ _ h => h) (Or.inl ⟨by rfl, ?_⟩) ?_ ?_
          rotate_left
          · intro w'
            go_simp
            with_reducible rfl
          rotate_left
          · simp only [Act.put, List.setIfInBounds_toArray, List.set_cons_zero, List.set_cons_succ, i64_w, i32_w]
            rfl
          refine pure_ (i := 15) (N := some 74) (v := ?_) (a' := ?_) #[true, true, false, true, true, true, false, true, false, false, false, false, true, true, true, true, false, false, false, false, false, false, false, false, false, false, false, false, false, false] rfl rfl (by kernel_rfl) (fun _ _ _ h => h) (Or.inl ⟨by rfl, ?_⟩) ?_ ?_
          rotate_left
          · intro w'
            go_simp
            with_reducible rfl
          rotate_left
          · simp only [Act.put, List.setIfInBounds_toArray, List.set_cons_zero, List.set_cons_succ, i64_w, i32_w]
            rfl
          refine pure_ (i := 16) (N := some 75) (v := ?_) (a' := ?_) #[true, true, false, true, true, true, false, true, false, false, false, false, true, true, true, true, true, false, false, false, false, false, false, false, false, false, false, false, false, false] rfl rfl (by kernel_rfl) (fun _ _ _ h => h) (Or.inl ⟨by rfl, ?_⟩) ?_ ?_
          rotate_left
          · intro w'
            go_simp
            with_reducible rfl
          rotate_left
          · simp only [Act.put, List.setIfInBounds_toArray, List.set_cons_zero, List.set_cons_succ, i64_w, i32_w]
            rfl
          refine pure_ (i := 17) (N := some 76) (v := ?_) (a' := ?_) #[true, true, false, true, true, true, false, true, false, false, false, false, true, true, true, true, true, true, false, false, false, false, false, false, false, false, false, false, false, false] rfl rfl (by kernel_rfl) (fun _ _ _ h => h) (Or.inl ⟨by rfl, ?_⟩) ?_ ?_
          rotate_left
          · intro w'
            go_simp
            with_reducible rfl
          rotate_left
          · simp only [Act.put, List.setIfInBounds_toArray, List.set_cons_zero, List.set_cons_succ, i64_w, i32_w]
            rfl
          refine pure_ (i := 19) (N := some 78) (v := ?_) (a' := ?_) #[true, true, false, true, true, true, false, true, false, false, false, false, true, true, true, true, true, true, false, true, false, false, false, false, false, false, false, false, false, false] rfl rfl (by kernel_rfl) (fun _ _ _ h => h) (Or.inl ⟨by rfl, ?_⟩) ?_ ?_
          rotate_left
          · intro w'
            go_simp
            with_reducible rfl
          rotate_left
          · simp only [Act.put, List.setIfInBounds_toArray, List.set_cons_zero, List.set_cons_succ, i64_w, i32_w]
            rfl
          refine pure_ (i := 20) (N := some 79) (v := ?_) (a' := ?_) #[true, true, false, true, true, true, false, true, false, false, false, false, true, true, true, true, true, true, false, true, true, false, false, false, false, false, false, false, false, false] rfl rfl (by kernel_rfl) (fun _ _ _ h => h) (Or.inl ⟨by rfl, ?_⟩) ?_ ?_
          rotate_left
          · intro w'
            go_simp
            with_reducible rfl
          rotate_left
          · simp only [Act.put, List.setIfInBounds_toArray, List.set_cons_zero, List.set_cons_succ, i64_w, i32_w]
            rfl
          refine pure_ (i := 21) (N := some 80) (v := ?_) (a' := ?_) #[true, true, false, true, true, true, false, true, false, false, false, false, true, true, true, true, true, true, false, true, true, true, false, false, false, false, false, false, false, false] rfl rfl (by kernel_rfl) (fun _ _ _ h => h) (Or.inl ⟨by rfl, ?_⟩) ?_ ?_
          rotate_left
          · intro w'
            go_simp
            with_reducible rfl
          rotate_left
          · simp only [Act.put, List.setIfInBounds_toArray, List.set_cons_zero, List.set_cons_succ, i64_w, i32_w]
            rfl
          refine pure_ (i := 23) (N := some 82) (v := ?_) (a' := ?_) #[true, true, false, true, true, true, false, true, false, false, false, false, true, true, true, true, true, true, false, true, true, true, false, true, false, false, false, false, false, false] rfl rfl (by kernel_rfl) (fun _ _ _ h => h) (Or.inl ⟨by rfl, ?_⟩) ?_ ?_
          rotate_left
          · intro w'
            go_simp
            with_reducible rfl
          rotate_left
          · simp only [Act.put, List.setIfInBounds_toArray, List.set_cons_zero, List.set_cons_succ, i64_w, i32_w]
            rfl
          refine take_ (i := 6) (N := some 65) (v := ?_) (a' := ?_) #[true, true, false, true, true, true, true, true, false, false, false, false, true, true, true, true, true, true, false, true, true, true, false, true, false, false, false, false, false, false] rfl rfl (by kernel_rfl) (fun _ _ _ h => h) (Or.inl ⟨by rfl, ?_⟩) hHeld ?_ ?_
          rotate_left
          · rintro w' ⟨s0, s1, s2, s3⟩
            go_simp
            with_reducible rfl
          rotate_left
          · simp only [Act.put, List.setIfInBounds_toArray, List.set_cons_zero, List.set_cons_succ, i64_w, i32_w]
            rfl
          refine pure_ (i := 8) (N := some 67) (v := ?_) (a' := ?_) #[true, true, false, true, true, true, true, true, true, false, false, false, true, true, true, true, true, true, false, true, true, true, false, true, false, false, false, false, false, false] rfl rfl (by kernel_rfl) (fun _ _ _ h => h) (Or.inl ⟨by rfl, ?_⟩) ?_ ?_
          rotate_left
          · intro w'
            go_simp
            with_reducible rfl
          rotate_left
          · simp only [Act.put, List.setIfInBounds_toArray, List.set_cons_zero, List.set_cons_succ, i64_w, i32_w]
            rfl
          refine take_ (i := 9) (N := some 68) (v := ?_) (a' := ?_) #[true, true, false, true, true, true, true, true, true, true, false, false, true, true, true, true, true, true, false, true, true, true, false, true, false, false, false, false, false, false] rfl rfl (by kernel_rfl) (fun _ _ _ h => h) (Or.inl ⟨by rfl, ?_⟩) hHeld ?_ ?_
          rotate_left
          · rintro w' ⟨s0, s1, s2, s3⟩
            go_simp
            with_reducible rfl
          rotate_left
          · simp only [Act.put, List.setIfInBounds_toArray, List.set_cons_zero, List.set_cons_succ, i64_w, i32_w]
            rfl
          refine take_ (i := 18) (N := some 77) (v := ?_) (a' := ?_) #[true, true, false, true, true, true, true, true, true, true, false, false, true, true, true, true, true, true, true, true, true, true, false, true, false, false, false, false, false, false] rfl rfl (by kernel_rfl) (fun _ _ _ h => h) (Or.inl ⟨by rfl, ?_⟩) hHeld ?_ ?_
          rotate_left
          · rintro w' ⟨s0, s1, s2, s3⟩
            go_simp
            with_reducible rfl
          rotate_left
          · simp only [Act.put, List.setIfInBounds_toArray, List.set_cons_zero, List.set_cons_succ, i64_w, i32_w]
            rfl
          refine take_ (i := 22) (N := some 81) (v := ?_) (a' := ?_) #[true, true, false, true, true, true, true, true, true, true, false, false, true, true, true, true, true, true, true, true, true, true, true, true, false, false, false, false, false, false] rfl rfl (by kernel_rfl) (fun _ _ _ h => h) (Or.inl ⟨by rfl, ?_⟩) hHeld ?_ ?_
          rotate_left
          · rintro w' ⟨s0, s1, s2, s3⟩
            go_simp
            with_reducible rfl
          rotate_left
          · simp only [Act.put, List.setIfInBounds_toArray, List.set_cons_zero, List.set_cons_succ, i64_w, i32_w]
            rfl
          refine pure_ (i := 24) (N := some 83) (v := ?_) (a' := ?_) #[true, true, false, true, true, true, true, true, true, true, false, false, true, true, true, true, true, true, true, true, true, true, true, true, true, false, false, false, false, false] rfl rfl (by kernel_rfl) (fun _ _ _ h => h) (Or.inl ⟨by rfl, ?_⟩) ?_ ?_
          rotate_left
          · intro w'
            go_simp
            with_reducible rfl
          rotate_left
          · simp only [Act.put, List.setIfInBounds_toArray, List.set_cons_zero, List.set_cons_succ, i64_w, i32_w]
            rfl
          refine take_ (i := 25) (N := some 84) (v := ?_) (a' := ?_) #[true, true, false, true, true, true, true, true, true, true, false, false, true, true, true, true, true, true, true, true, true, true, true, true, true, true, false, false, false, false] rfl rfl (by kernel_rfl) (fun _ _ _ h => h) (Or.inl ⟨by rfl, ?_⟩) hHeld ?_ ?_
          rotate_left
          · rintro w' ⟨s0, s1, s2, s3⟩
            go_simp
            with_reducible rfl
          rotate_left
          · simp only [Act.put, List.setIfInBounds_toArray, List.set_cons_zero, List.set_cons_succ, i64_w, i32_w]
            rfl
          refine pure_ (i := 26) (N := some 85) (v := ?_) (a' := ?_) #[true, true, false, true, true, true, true, true, true, true, false, false, true, true, true, true, true, true, true, true, true, true, true, true, true, true, true, false, false, false] rfl rfl (by kernel_rfl) (fun _ _ _ h => h) (Or.inl ⟨by rfl, ?_⟩) ?_ ?_
          rotate_left
          · intro w'
            go_simp
            with_reducible rfl
          rotate_left
          · simp only [Act.put, List.setIfInBounds_toArray, List.set_cons_zero, List.set_cons_succ, i64_w, i32_w]
            rfl
          refine two_ (i := 2) (j := 10) (Ni := some 61) (Nj := some 69) #[true, true, true, true, true, true, true, true, true, true, false, false, true, true, true, true, true, true, true, true, true, true, true, true, true, true, true, false, false, false] #[true, true, false, true, true, true, true, true, true, true, true, false, true, true, true, true, true, true, true, true, true, true, true, true, true, true, true, false, false, false] rfl rfl rfl rfl (by kernel_rfl) (by decide) (by decide) (fun K hK => ?_) (fun K hK => ?_)
          · skip
            refine goes_ Tryd.func105 (by kernel_rfl) rfl #[.slice At set.length ct] (by rfl) rfl rfl (by simp only [List.map_toArray, List.map_cons, List.map_nil]; rfl) ?_
            with_reducible refine (own_calls At ct set wr _ hHeld.2.2.2 HSET.out hct hsl).mono ?_
            rintro e w3 ⟨v61, rfl, ho3, hb3⟩
            refine ⟨_, rfl, ?_⟩
            have hB := bel_trans hHeld.2.2.2 hb3
            have ho4 := Kd.R_lower ho3 hHeld.2.2.2.size
            refine hK.out _ _ ⟨(keep_cell hB hst0), (keep_cell hB hst1), (keep_cell hB hshi), hB⟩ (fun hHeld => ?_)
            clear hK K
            refine norm_ (a' := ?_) ?_ ?_
            rotate_left
            · show Act.put _ (some 61) _ = _
              simp only [Act.put, List.setIfInBounds_toArray, List.set_cons_zero, List.set_cons_succ, i64_w, i32_w]
              rfl
            refine one_ (i := 10) (N := some 69) #[true, true, true, true, true, true, true, true, true, true, true, false, true, true, true, true, true, true, true, true, true, true, true, true, true, true, true, false, false, false] rfl rfl (by kernel_rfl) (by decide) (fun K hK => ?_)
            refine value_ (w1 := ?_) (v := ?_) (by rfl) rfl ?_ ?_
            rotate_left 2
            · go_simp
              constructor
              · rfl
              · rfl
            have hb4 := bel_alloc w3 (.cells #[.int .i64 x] 2)
            have hB := bel_trans hHeld.2.2.2 hb4
            have ho5 := Kd.R_below ho4 hb4
            have hh5 := heap_alloc_new w3 (.cells #[.int .i64 x] 2)
            refine hK.out _ _ ⟨(keep_cell hB hst0), (keep_cell hB hst1), (keep_cell hB hshi), hB⟩ (fun hHeld => ?_)
            clear hK K
            refine norm_ (a' := ?_) ?_ ?_
            rotate_left
            · show Act.put _ (some 69) _ = _
              simp only [Act.put, List.setIfInBounds_toArray, List.set_cons_zero, List.set_cons_succ, i64_w, i32_w]
              rfl
            refine one_ (i := 11) (N := some 70) #[true, true, true, true, true, true, true, true, true, true, true, true, true, true, true, true, true, true, true, true, true, true, true, true, true, true, true, false, false, false] rfl rfl (by kernel_rfl) (by decide) (fun K hK => ?_)
            obtain ⟨v70, w6, hrun6, ho6, hB⟩ := Rw.append_one wr _ hHeld.2.2.2 v61 set ho5 _ x hh5 (by omega)
            refine Rw.append_ (w1 := w6) (v1 := v70) (by rfl) rfl _ _ 27 27 rfl _ _ rfl rfl (hrun6 _) ?_
            refine hK.out _ _ ⟨(keep_cell hB hst0), (keep_cell hB hst1), (keep_cell hB hshi), hB⟩ (fun hHeld => ?_)
            clear hK K
            refine norm_ (a' := ?_) ?_ ?_
            rotate_left
            · show Act.put _ (some 70) _ = _
              simp only [Act.put, List.setIfInBounds_toArray, List.set_cons_zero, List.set_cons_succ, i64_w, i32_w]
              rfl
            refine one_ (i := 27) (N := some 86) #[true, true, true, true, true, true, true, true, true, true, true, true, true, true, true, true, true, true, true, true, true, true, true, true, true, true, true, true, false, false] rfl rfl (by kernel_rfl) (by decide) (fun K hK => ?_)
            refine goes_ Tryd.func182 (by kernel_rfl) rfl #[.pointer (some (adl.add (x.toNat * 4)))] (by rfl) rfl rfl (by simp only [List.map_toArray, List.map_cons, List.map_nil]; rfl) ?_
            with_reducible refine (HRF.out _ hHeld.2.2.2).mono ?_
            rintro e w7 ⟨rfl, hd7⟩
            refine ⟨_, rfl, ?_⟩
            have hb7 := bel_drawn hd7
            have hB := bel_trans hHeld.2.2.2 hb7
            have ho7 := Kd.R_below ho6 hb7
            refine hK.out _ _ ⟨(keep_cell hB hst0), (keep_cell hB hst1), (keep_cell hB hshi), hB⟩ (fun hHeld => ?_)
            clear hK K
            refine norm_ (a' := ?_) ?_ ?_
            rotate_left
            · show Act.put _ (some 86) _ = _
              simp only [Act.put, List.setIfInBounds_toArray, List.set_cons_zero, List.set_cons_succ, i64_w, i32_w]
              rfl
            refine pure_ (i := 28) (N := some 87) (v := ?_) (a' := ?_) #[true, true, true, true, true, true, true, true, true, true, true, true, true, true, true, true, true, true, true, true, true, true, true, true, true, true, true, true, true, false] rfl rfl (by kernel_rfl) (fun _ _ _ h => h) (Or.inl ⟨by rfl, ?_⟩) ?_ ?_
            rotate_left
            · intro w'
              go_simp
              with_reducible rfl
            rotate_left
            · simp only [Act.put, List.setIfInBounds_toArray, List.set_cons_zero, List.set_cons_succ, i64_w, i32_w]
              rfl
            refine last_ (i := 29) (N := some 88) #[true, true, true, true, true, true, true, true, true, true, true, true, true, true, true, true, true, true, true, true, true, true, true, true, true, true, true, true, true, true] rfl rfl (by kernel_rfl) (by decide) (fun K hK => ?_)
            obtain ⟨A70, c70, e70⟩ := Kd.R_slice ho7
            subst e70
            have hih := HIH.out A70 c70 w7 hHeld.2.2.2 ho7
            refine goes_ Tryd.func113 (by kernel_rfl) rfl #[.pointer (some ⟨g, 0, none⟩), .slice A70 (set ++ [x]).length c70, .int .i64 (wrap64 ((i : Int) + 1)), .int .i64 (wrap64 (cost + m))] (by rfl) rfl rfl (by simp only [List.map_toArray, List.map_cons, List.map_nil]; rfl) ?_
            with_reducible refine (hih).mono ?_
            rintro e w9 ⟨rfl, hpost⟩
            refine ⟨_, rfl, ?_⟩
            refine hK.out _ _ ?_
            clear hK K
            refine norm_ (a' := ?_) ?_ ?_
            rotate_left
            · show Act.put _ (some 88) _ = _
              simp only [Act.put, List.setIfInBounds_toArray, List.set_cons_zero, List.set_cons_succ, i64_w, i32_w]
              rfl
            refine done_ (by kernel_rfl) ?_
            try go_wp2
            obtain ⟨hB0, hTn, hW⟩ := hpost
            have HB9 := Lib.hid hB0
            have HT9 := Lib.hid (turn_trans HT.out hTn (by have := hHeld.2.2.2.size; omega) hHeld.2.2.2)
            have HW9 := Lib.hid hW
            clear hB0 hTn hW
            go_roundg (sh.length - (i + 1))
            case measure => omega
            case rel => exact ⟨i + 1, _, by first | rfl | go_num | (congr 1; omega), by omega, by omega, Nat.le_refl _, HB9, HT9, HW9, Lib.hid (by rw [← HS.out, HDROP.out, HM.out]; rfl)⟩
          · skip
            refine value_ (w1 := ?_) (v := ?_) (by rfl) rfl ?_ ?_
            rotate_left 2
            · go_simp
              constructor
              · rfl
              · rfl
            have hb4 := bel_alloc wr.drew (.cells #[.int .i64 x] 2)
            have hB := bel_trans hHeld.2.2.2 hb4
            have hh4 := heap_alloc_new wr.drew (.cells #[.int .i64 x] 2)
            refine hK.out _ _ ⟨(keep_cell hB hst0), (keep_cell hB hst1), (keep_cell hB hshi), hB⟩ (fun hHeld => ?_)
            clear hK K
            refine norm_ (a' := ?_) ?_ ?_
            rotate_left
            · show Act.put _ (some 69) _ = _
              simp only [Act.put, List.setIfInBounds_toArray, List.set_cons_zero, List.set_cons_succ, i64_w, i32_w]
              rfl
            refine one_ (i := 2) (N := some 61) #[true, true, true, true, true, true, true, true, true, true, true, false, true, true, true, true, true, true, true, true, true, true, true, true, true, true, true, false, false, false] rfl rfl (by kernel_rfl) (by decide) (fun K hK => ?_)
            refine goes_ Tryd.func105 (by kernel_rfl) rfl #[.slice At set.length ct] (by rfl) rfl rfl (by simp only [List.map_toArray, List.map_cons, List.map_nil]; rfl) ?_
            with_reducible refine (own_calls At ct set wr _ hHeld.2.2.2 HSET.out hct hsl).mono ?_
            rintro e w3 ⟨v61, rfl, ho3, hb3⟩
            refine ⟨_, rfl, ?_⟩
            have hB := bel_trans hHeld.2.2.2 hb3
            have ho5 := Kd.R_lower ho3 hHeld.2.2.2.size
            have hh5 := heap_keep hb3 hh4
            refine hK.out _ _ ⟨(keep_cell hB hst0), (keep_cell hB hst1), (keep_cell hB hshi), hB⟩ (fun hHeld => ?_)
            clear hK K
            refine norm_ (a' := ?_) ?_ ?_
            rotate_left
            · show Act.put _ (some 61) _ = _
              simp only [Act.put, List.setIfInBounds_toArray, List.set_cons_zero, List.set_cons_succ, i64_w, i32_w]
              rfl
            refine one_ (i := 11) (N := some 70) #[true, true, true, true, true, true, true, true, true, true, true, true, true, true, true, true, true, true, true, true, true, true, true, true, true, true, true, false, false, false] rfl rfl (by kernel_rfl) (by decide) (fun K hK => ?_)
            obtain ⟨v70, w6, hrun6, ho6, hB⟩ := Rw.append_one wr _ hHeld.2.2.2 v61 set ho5 _ x hh5 (by omega)
            refine Rw.append_ (w1 := w6) (v1 := v70) (by rfl) rfl _ _ 27 27 rfl _ _ rfl rfl (hrun6 _) ?_
            refine hK.out _ _ ⟨(keep_cell hB hst0), (keep_cell hB hst1), (keep_cell hB hshi), hB⟩ (fun hHeld => ?_)
            clear hK K
            refine norm_ (a' := ?_) ?_ ?_
            rotate_left
            · show Act.put _ (some 70) _ = _
              simp only [Act.put, List.setIfInBounds_toArray, List.set_cons_zero, List.set_cons_succ, i64_w, i32_w]
              rfl
            refine one_ (i := 27) (N := some 86) #[true, true, true, true, true, true, true, true, true, true, true, true, true, true, true, true, true, true, true, true, true, true, true, true, true, true, true, true, false, false] rfl rfl (by kernel_rfl) (by decide) (fun K hK => ?_)
            refine goes_ Tryd.func182 (by kernel_rfl) rfl #[.pointer (some (adl.add (x.toNat * 4)))] (by rfl) rfl rfl (by simp only [List.map_toArray, List.map_cons, List.map_nil]; rfl) ?_
            with_reducible refine (HRF.out _ hHeld.2.2.2).mono ?_
            rintro e w7 ⟨rfl, hd7⟩
            refine ⟨_, rfl, ?_⟩
            have hb7 := bel_drawn hd7
            have hB := bel_trans hHeld.2.2.2 hb7
            have ho7 := Kd.R_below ho6 hb7
            refine hK.out _ _ ⟨(keep_cell hB hst0), (keep_cell hB hst1), (keep_cell hB hshi), hB⟩ (fun hHeld => ?_)
            clear hK K
            refine norm_ (a' := ?_) ?_ ?_
            rotate_left
            · show Act.put _ (some 86) _ = _
              simp only [Act.put, List.setIfInBounds_toArray, List.set_cons_zero, List.set_cons_succ, i64_w, i32_w]
              rfl
            refine pure_ (i := 28) (N := some 87) (v := ?_) (a' := ?_) #[true, true, true, true, true, true, true, true, true, true, true, true, true, true, true, true, true, true, true, true, true, true, true, true, true, true, true, true, true, false] rfl rfl (by kernel_rfl) (fun _ _ _ h => h) (Or.inl ⟨by rfl, ?_⟩) ?_ ?_
            rotate_left
            · intro w'
              go_simp
              with_reducible rfl
            rotate_left
            · simp only [Act.put, List.setIfInBounds_toArray, List.set_cons_zero, List.set_cons_succ, i64_w, i32_w]
              rfl
            refine last_ (i := 29) (N := some 88) #[true, true, true, true, true, true, true, true, true, true, true, true, true, true, true, true, true, true, true, true, true, true, true, true, true, true, true, true, true, true] rfl rfl (by kernel_rfl) (by decide) (fun K hK => ?_)
            obtain ⟨A70, c70, e70⟩ := Kd.R_slice ho7
            subst e70
            have hih := HIH.out A70 c70 w7 hHeld.2.2.2 ho7
            refine goes_ Tryd.func113 (by kernel_rfl) rfl #[.pointer (some ⟨g, 0, none⟩), .slice A70 (set ++ [x]).length c70, .int .i64 (wrap64 ((i : Int) + 1)), .int .i64 (wrap64 (cost + m))] (by rfl) rfl rfl (by simp only [List.map_toArray, List.map_cons, List.map_nil]; rfl) ?_
            with_reducible refine (hih).mono ?_
            rintro e w9 ⟨rfl, hpost⟩
            refine ⟨_, rfl, ?_⟩
            refine hK.out _ _ ?_
            clear hK K
            refine norm_ (a' := ?_) ?_ ?_
            rotate_left
            · show Act.put _ (some 88) _ = _
              simp only [Act.put, List.setIfInBounds_toArray, List.set_cons_zero, List.set_cons_succ, i64_w, i32_w]
              rfl
            refine done_ (by kernel_rfl) ?_
            try go_wp2
            obtain ⟨hB0, hTn, hW⟩ := hpost
            have HB9 := Lib.hid hB0
            have HT9 := Lib.hid (turn_trans HT.out hTn (by have := hHeld.2.2.2.size; omega) hHeld.2.2.2)
            have HW9 := Lib.hid hW
            clear hB0 hTn hW
            go_roundg (sh.length - (i + 1))
            case measure => omega
            case rel => exact ⟨i + 1, _, by first | rfl | go_num | (congr 1; omega), by omega, by omega, Nat.le_refl _, HB9, HT9, HW9, Lib.hid (by rw [← HS.out, HDROP.out, HM.out]; rfl)⟩
        · have hltz : ¬ (i : Int) < (sh.length : Int) := by omega
          have hdr : sh.drop i = [] := List.drop_eq_nil_of_le (by omega)
          have HDR := Lib.hid hdr
          clear hdr
          go_wp2
          go_end0
          refine ⟨rfl, HB.out, HT.out, ?_⟩
          have := HS.out
          rw [HDR.out] at this
          rw [HV.out, ← this]
          exact HW.out
end Go.Proofs.YtdjdillppgijmaaDoor.Qs
