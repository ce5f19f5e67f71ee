/- The law FnExactPractise answers true. -/
import Derived.Test.YtdjdillppgijmaaDoorSPrac
set_option linter.unusedVariables false
set_option linter.unusedSimpArgs false
namespace Go.Proofs.YtdjdillppgijmaaDoor.Qp
open Go.RowKit Go.Proofs.YtdjdillppgijmaaDoorW.PrintWords Go.Proofs.YtdjdillppgijmaaDoorW.PrintLast Go.Proofs.YtdjdillppgijmaaDoorW.PrintMore

theorem c22 {w : World} (l : List S114) (t : Int) (ht : Ev (fun k => laws_szPupilS.f k l 1048576) t) (A0 : Option Addr) (c0 : Nat) (hr0 : Kd.C k114 w A0 l.length l) (hc0 : l.length ≤ c0) :
    Calls Tryd.prog 22 #[.slice A0 l.length c0, .int .i64 1048576] w fun e w' => e = .returned (.int .i64 t) ∧ Below w.heap.size w w' := by
  obtain ⟨k, hk⟩ := ht.rounds
  exact laws_szPupilS.calls k A0 c0 l 1048576 t w hr0 hc0 hk

theorem m30 {w : World} (L : List S116) (a : Nat) (hn : L.length ≤ 1000000000) (he : endP a L ≤ 1000000000) (q : Int) (hq : q = ((endP a L : Nat) : Int)) (v : Value) (lo hi : Nat) (W : World) (hB : Below w.heap.size w W) (h0 : SP W w.heap.size lo hi v L) :
    Calls Tryd.prog 30 #[v, .int .i64 a] W fun e w' => e = .returned (.int .i64 q) ∧ SP w' w.heap.size lo hi v (marksP a L) ∧ Below w.heap.size w w' ∧ Kept W w' (fun k => lo ≤ k ∧ k < hi) := by
  rw [hq]
  exact markp_call L v a _ w W hB h0 hn he
theorem h31 {w : World} (L : List S116) (a : Nat) (hn : L.length ≤ 1000000000) (he : endP a L ≤ 1000000000) (q : Int) (hq : q = ((endP a L : Nat) : Int)) (A0 : Option Addr) (c0 n lo hi : Nat) (W : World) (h0 : SP W w.heap.size lo hi (.slice A0 n c0) (marksP a L)) :
    Calls Tryd.prog 31 #[.slice A0 n c0, .int .i64 a] W fun e w' => e = .returned (.int .i64 q) ∧ Below W.heap.size W w' := by
  rw [hq]
  exact c31 L a hn he A0 c0 n lo hi W h0
set_option maxHeartbeats 8000000 in
set_option maxRecDepth 100000 in
theorem practise_main (N : List Int) (l : List S114) (A0 A1 : Option Addr) (c0 c1 : Nat) (a2 a3 a4 : Int) (w : World) (hr0 : Kd.C (Kd.int .i64) w A0 N.length N) (hc0 : N.length ≤ c0) (hr1 : Kd.C k114 w A1 l.length l) (hc1 : l.length ≤ c1)
    (hn0 : ¬ (1048576 : Int) < (N.length : Int)) (t : Int) (ht : Ev (fun k => laws_szPupilS.f k l 1048576) t) (ht0 : ¬ t < 0) (hl : l.length ≤ 1048576) (htot : tot114 l ≤ 1048576) :
    Calls Tryd.prog 4 #[.slice A0 N.length c0, .slice A1 l.length c1, .int .i64 a2, .int .i64 a3, .int .i64 a4] w fun e w' => e = .returned (.bool true) ∧ Below w.heap.size w w' := by
  have hd : ∀ x ∈ l, x.f2.length ≤ 1000000000 := fun x hx => by
    have h := totP_mem (l.map convP) (convP x) (List.mem_map_of_mem hx)
    rw [tot_conv] at h
    have h2 : (convP x).f2.length = x.f2.length := rfl
    omega
  obtain ⟨L, hL⟩ : ∃ L, L = l.map convP := ⟨_, rfl⟩
  have hLl : L.length ≤ 1048576 := by rw [hL, List.length_map]; exact hl
  have hLd : ∀ x ∈ L, x.f2.length ≤ 1000000000 := by
    rw [hL]
    intro x hx
    obtain ⟨y, hy, rfl⟩ := List.mem_map.1 hx
    exact hd y hy
  obtain ⟨⟨r1, r2⟩, hsp, him, hr20, hr10⟩ := practise_both N L (by omega) (by omega) a2 a3 a4
  replace hr20 : r1.length ≤ 20 := hr20
  replace hr10 : ∀ x ∈ r1, x.f2.length ≤ 10 := hr10
  have hrd : ∀ x ∈ r1, x.f2.length ≤ 1000000000 := fun x hx => by have := hr10 x hx; omega
  have hLend : endP (1 + N.length) L ≤ 1000000000 := by rw [endP_eq, hL, tot_conv, List.length_map]; omega
  have htr : totP r1 ≤ r1.length * 10 := by
    clear hsp him hr20 hrd
    induction r1 with
    | nil => simp [totP]
    | cons x r ih =>
      have h1 := hr10 x (List.mem_cons_self)
      have h2 := ih (fun y hy => hr10 y (List.mem_cons_of_mem _ hy))
      simp only [totP, List.length_cons]
      omega
  have hrend : endP 1 r1 ≤ 1000000000 := by rw [endP_eq]; omega
  have C22 := Lib.hid (c22 l t ht A1 c1 hr1 hc1)
  have C24 := Lib.hid (c24 N A0 c0 hr0 hc0 (by omega))
  have C25 := Lib.hid (c25 l A1 c1 hr1 hc1 (by omega) hd)
  rw [← hL] at C25
  obtain ⟨q1, hq1⟩ : ∃ q1 : Int, q1 = ((endP (1 + N.length) L : Nat) : Int) := ⟨_, rfl⟩
  obtain ⟨q2, hq2⟩ : ∃ q2 : Int, q2 = ((endP 1 r1 : Nat) : Int) := ⟨_, rfl⟩
  have hq1n : ¬ q1 < 0 := by omega
  have hq2n : ¬ q2 < 0 := by omega
  have HQ1 := Lib.hid hq1
  have HQ2 := Lib.hid hq2
  have HSP := Lib.hid hsp
  have HIM := Lib.hid him
  have HLD := Lib.hid hLd
  have HRD := Lib.hid hrd
  have HB0 := Lib.hid (Below.refl w.heap.size w)
  clear hr0 hr1 hd hL hsp him hr10 hrd htr hq1 hq2 hLd htot ht
  go_enter Tryd.func4, Tryd.ntmps4
  go_wp2_with (first
    | (go_at_call 22; refine (C22.out).mono ?_; rintro e w1 ⟨rfl, hb⟩
       have HB1 := Lib.hid hb; clear hb)
    | (have _ := HB21; go_at_call 31; refine (h31 (w := w) r1 1 (by omega) hrend q2 HQ2.out _ _ _ _ _ _ S7.out).mono ?_; rintro e w22 ⟨rfl, hb⟩
       have HB22 := Lib.hid (trans_bel HB21.out hb)
       have HM22 : Hid (w21.heap.size ≤ w22.heap.size) := Lib.hid hb.size
       clear S7
       clear hb)
    | (have _ := HB20; go_at_call 27; refine (c27 (w := w) r1 (by omega) HRD.out _ _ _ _ _ _ _ _ _ S20.out S4.out).mono ?_; rintro e w21 ⟨rfl, hb⟩
       have HB21 := Lib.hid (trans_bel HB20.out hb)
       have HM21 : Hid (w20.heap.size ≤ w21.heap.size) := Lib.hid hb.size
       clear S4
       have n_ := Lib.hid (Kd.S_below S7.out hb); clear S7; have S7 := n_; clear n_
       clear S20
       clear hb)
    | (have _ := HB19; go_at_call 26; refine (c26 N L a2 a3 a4 (r1, r2) HIM.out _ _ _ _ _ _ _ _ _ HB19.out R18.out S19.out).mono ?_; rintro e w20 ⟨A20, k20, rfl, hR, hb⟩
       have HB20 := Lib.hid (trans_bel HB19.out hb)
       have HM20 : Hid (w19.heap.size ≤ w20.heap.size) := Lib.hid hb.size
       have n_ := Lib.hid (Kd.S_below S4.out hb); clear S4; have S4 := n_; clear n_
       have n_ := Lib.hid (Kd.S_below S7.out hb); clear S7; have S7 := n_; clear n_
       clear R18
       clear S19
       have S20 := Lib.hid hR
       clear hR hb)
    | (have _ := HB18; go_at_call 25; refine (C25.out _ HB18.out).mono ?_; rintro e w19 ⟨A19, k19, rfl, hR, hb⟩
       have HB19 := Lib.hid (trans_bel HB18.out hb)
       have HM19 : Hid (w18.heap.size ≤ w19.heap.size) := Lib.hid hb.size
       have n_ := Lib.hid (Kd.S_below S4.out hb); clear S4; have S4 := n_; clear n_
       have n_ := Lib.hid (Kd.S_below S7.out hb); clear S7; have S7 := n_; clear n_
       have n_ := Lib.hid (Kd.R_below R18.out hb); clear R18; have R18 := n_; clear n_
       have S19 := Lib.hid hR
       clear hR hb)
    | (have _ := HB17; go_at_call 24; refine (C24.out _ HB17.out).mono ?_; rintro e w18 ⟨A18, k18, rfl, hR, hb⟩
       have HB18 := Lib.hid (trans_bel HB17.out hb)
       have HM18 : Hid (w17.heap.size ≤ w18.heap.size) := Lib.hid hb.size
       have n_ := Lib.hid (Kd.S_below S4.out hb); clear S4; have S4 := n_; clear n_
       have n_ := Lib.hid (Kd.S_below S7.out hb); clear S7; have S7 := n_; clear n_
       have R18 := Lib.hid hR
       clear hR hb)
    | (have _ := HB16; go_at_call 31; refine (h31 (w := w) r1 1 (by omega) hrend q2 HQ2.out _ _ _ _ _ _ S7.out).mono ?_; rintro e w17 ⟨rfl, hb⟩
       have HB17 := Lib.hid (trans_bel HB16.out hb)
       have HM17 : Hid (w16.heap.size ≤ w17.heap.size) := Lib.hid hb.size
       have n_ := Lib.hid (Kd.S_below S4.out hb); clear S4; have S4 := n_; clear n_
       have n_ := Lib.hid (Kd.S_below S7.out hb); clear S7; have S7 := n_; clear n_
       clear hb)
    | (have _ := HB15; go_at_call 30; refine (m30 r1 1 (by omega) hrend q2 HQ2.out _ _ _ _ HB15.out S7.out).mono ?_; rintro e w16 ⟨rfl, hR, hb2, hk⟩
       have HB16 := Lib.hid hb2
       have HM16 : Hid (w15.heap.size ≤ w16.heap.size) := Lib.hid hk.1
       have n_ := Lib.hid (Kd.S_kept S4.out hk (fun k h1 h2 => by have := HM5.out; have := HM6.out; omega)); clear S4; have S4 := n_; clear n_
       have n_ := Lib.hid hR; clear S7; have S7 := n_; clear n_
       clear hb2 hk hR)
    | (have _ := HB14; go_at_call 27; refine (c27 (w := w) r1 (by omega) HRD.out _ _ _ _ _ _ _ _ _ S7.out S4.out).mono ?_; rintro e w15 ⟨rfl, hb⟩
       have HB15 := Lib.hid (trans_bel HB14.out hb)
       have HM15 : Hid (w14.heap.size ≤ w15.heap.size) := Lib.hid hb.size
       have n_ := Lib.hid (Kd.S_below S4.out hb); clear S4; have S4 := n_; clear n_
       have n_ := Lib.hid (Kd.S_below S7.out hb); clear S7; have S7 := n_; clear n_
       clear hb)
    | (have _ := HB13; go_at_call 30; refine (m30 L (1 + N.length) (by omega) hLend q1 HQ1.out _ _ _ _ HB13.out S6.out).mono ?_; rintro e w14 ⟨rfl, _, hb2, hk⟩
       have HB14 := Lib.hid hb2
       have HM14 : Hid (w13.heap.size ≤ w14.heap.size) := Lib.hid hk.1
       have n_ := Lib.hid (Kd.S_kept S4.out hk (fun k h1 h2 => by have := HM5.out; omega)); clear S4; have S4 := n_; clear n_
       clear S6
       have n_ := Lib.hid (Kd.S_kept S7.out hk (fun k h1 h2 => by  omega)); clear S7; have S7 := n_; clear n_
       clear hb2 hk)
    | (have _ := HB12; go_at_call 29; refine (c29 N (by omega) _ _ _ _ _ HB12.out R5.out).mono ?_; rintro e w13 ⟨rfl, hb2, hk⟩
       have HB13 := Lib.hid hb2
       have HM13 : Hid (w12.heap.size ≤ w13.heap.size) := Lib.hid hk.1
       have n_ := Lib.hid (Kd.S_kept S4.out hk (fun k h1 h2 => by  omega)); clear S4; have S4 := n_; clear n_
       clear R5
       have n_ := Lib.hid (Kd.S_kept S6.out hk (fun k h1 h2 => by  omega)); clear S6; have S6 := n_; clear n_
       have n_ := Lib.hid (Kd.S_kept S7.out hk (fun k h1 h2 => by have := HM6.out; omega)); clear S7; have S7 := n_; clear n_
       clear hb2 hk)
    | (have _ := HB11; go_at_call 27; refine (c27 (w := w) L (by omega) HLD.out _ _ _ _ _ _ _ _ _ S6.out S11.out).mono ?_; rintro e w12 ⟨rfl, hb⟩
       have HB12 := Lib.hid (trans_bel HB11.out hb)
       have HM12 : Hid (w11.heap.size ≤ w12.heap.size) := Lib.hid hb.size
       have n_ := Lib.hid (Kd.S_below S4.out hb); clear S4; have S4 := n_; clear n_
       have n_ := Lib.hid (Kd.R_below R5.out hb); clear R5; have R5 := n_; clear n_
       have n_ := Lib.hid (Kd.S_below S6.out hb); clear S6; have S6 := n_; clear n_
       have n_ := Lib.hid (Kd.S_below S7.out hb); clear S7; have S7 := n_; clear n_
       clear S11
       clear hb)
    | (have _ := HB10; go_at_call 25; refine (C25.out _ HB10.out).mono ?_; rintro e w11 ⟨A11, k11, rfl, hR, hb⟩
       have HB11 := Lib.hid (trans_bel HB10.out hb)
       have HM11 : Hid (w10.heap.size ≤ w11.heap.size) := Lib.hid hb.size
       have n_ := Lib.hid (Kd.S_below S4.out hb); clear S4; have S4 := n_; clear n_
       have n_ := Lib.hid (Kd.R_below R5.out hb); clear R5; have R5 := n_; clear n_
       have n_ := Lib.hid (Kd.S_below S6.out hb); clear S6; have S6 := n_; clear n_
       have n_ := Lib.hid (Kd.S_below S7.out hb); clear S7; have S7 := n_; clear n_
       have S11 := Lib.hid hR
       clear hR hb)
    | (have _ := HB9; go_at_call 28; refine (c28 (w := w) N (by omega) _ _ _ _ _ _ _ _ _ R5.out R9.out).mono ?_; rintro e w10 ⟨rfl, hb⟩
       have HB10 := Lib.hid (trans_bel HB9.out hb)
       have HM10 : Hid (w9.heap.size ≤ w10.heap.size) := Lib.hid hb.size
       have n_ := Lib.hid (Kd.S_below S4.out hb); clear S4; have S4 := n_; clear n_
       have n_ := Lib.hid (Kd.R_below R5.out hb); clear R5; have R5 := n_; clear n_
       have n_ := Lib.hid (Kd.S_below S6.out hb); clear S6; have S6 := n_; clear n_
       have n_ := Lib.hid (Kd.S_below S7.out hb); clear S7; have S7 := n_; clear n_
       clear R9
       clear hb)
    | (have _ := HB8; go_at_call 24; refine (C24.out _ HB8.out).mono ?_; rintro e w9 ⟨A9, k9, rfl, hR, hb⟩
       have HB9 := Lib.hid (trans_bel HB8.out hb)
       have HM9 : Hid (w8.heap.size ≤ w9.heap.size) := Lib.hid hb.size
       have n_ := Lib.hid (Kd.S_below S4.out hb); clear S4; have S4 := n_; clear n_
       have n_ := Lib.hid (Kd.R_below R5.out hb); clear R5; have R5 := n_; clear n_
       have n_ := Lib.hid (Kd.S_below S6.out hb); clear S6; have S6 := n_; clear n_
       have n_ := Lib.hid (Kd.S_below S7.out hb); clear S7; have S7 := n_; clear n_
       have R9 := Lib.hid hR
       clear hR hb)
    | (have _ := HB7; go_at_call 27; refine (c27 (w := w) r1 (by omega) HRD.out _ _ _ _ _ _ _ _ _ S7.out S4.out).mono ?_; rintro e w8 ⟨rfl, hb⟩
       have HB8 := Lib.hid (trans_bel HB7.out hb)
       have HM8 : Hid (w7.heap.size ≤ w8.heap.size) := Lib.hid hb.size
       have n_ := Lib.hid (Kd.S_below S4.out hb); clear S4; have S4 := n_; clear n_
       have n_ := Lib.hid (Kd.R_below R5.out hb); clear R5; have R5 := n_; clear n_
       have n_ := Lib.hid (Kd.S_below S6.out hb); clear S6; have S6 := n_; clear n_
       have n_ := Lib.hid (Kd.S_below S7.out hb); clear S7; have S7 := n_; clear n_
       clear hb)
    | (have _ := HB6; go_at_call 26; refine (c26 N L a2 a3 a4 (r1, r2) HIM.out _ _ _ _ _ _ _ _ _ HB6.out R5.out S6.out).mono ?_; rintro e w7 ⟨A7, k7, rfl, hR, hb⟩
       have HB7 := Lib.hid (trans_bel HB6.out hb)
       have HM7 : Hid (w6.heap.size ≤ w7.heap.size) := Lib.hid hb.size
       have n_ := Lib.hid (Kd.S_below S4.out hb); clear S4; have S4 := n_; clear n_
       have n_ := Lib.hid (Kd.R_below R5.out hb); clear R5; have R5 := n_; clear n_
       have n_ := Lib.hid (Kd.S_below S6.out hb); clear S6; have S6 := n_; clear n_
       have S7 := Lib.hid hR
       clear hR hb)
    | (have _ := HB5; go_at_call 25; refine (C25.out _ HB5.out).mono ?_; rintro e w6 ⟨A6, k6, rfl, hR, hb⟩
       have HB6 := Lib.hid (trans_bel HB5.out hb)
       have HM6 : Hid (w5.heap.size ≤ w6.heap.size) := Lib.hid hb.size
       have n_ := Lib.hid (Kd.S_below S4.out hb); clear S4; have S4 := n_; clear n_
       have n_ := Lib.hid (Kd.R_below R5.out hb); clear R5; have R5 := n_; clear n_
       have S6 := Lib.hid hR
       clear hR hb)
    | (have _ := HB4; go_at_call 24; refine (C24.out _ HB4.out).mono ?_; rintro e w5 ⟨A5, k5, rfl, hR, hb⟩
       have HB5 := Lib.hid (trans_bel HB4.out hb)
       have HM5 : Hid (w4.heap.size ≤ w5.heap.size) := Lib.hid hb.size
       have n_ := Lib.hid (Kd.S_below S4.out hb); clear S4; have S4 := n_; clear n_
       have R5 := Lib.hid hR
       clear hR hb)
    | (have _ := HB3; go_at_call 23; refine (c23 N L a2 a3 a4 (r1, r2) HSP.out _ _ _ _ _ _ _ _ _ HB3.out R2.out S3.out).mono ?_; rintro e w4 ⟨A4, k4, rfl, hR, hb⟩
       have HB4 := Lib.hid (trans_bel HB3.out hb)
       have HM4 : Hid (w3.heap.size ≤ w4.heap.size) := Lib.hid hb.size
       clear R2
       clear S3
       have S4 := Lib.hid hR
       clear hR hb)
    | (have _ := HB2; go_at_call 25; refine (C25.out _ HB2.out).mono ?_; rintro e w3 ⟨A3, k3, rfl, hR, hb⟩
       have HB3 := Lib.hid (trans_bel HB2.out hb)
       have HM3 : Hid (w2.heap.size ≤ w3.heap.size) := Lib.hid hb.size
       have n_ := Lib.hid (Kd.R_below R2.out hb); clear R2; have R2 := n_; clear n_
       have S3 := Lib.hid hR
       clear hR hb)
    | (go_at_call 24; refine (C24.out _ HB1.out).mono ?_; rintro e w2 ⟨A2, k2, rfl, hR, hb⟩
       have HB2 := Lib.hid (trans_bel HB1.out hb)
       have HM2 : Hid (w1.heap.size ≤ w2.heap.size) := Lib.hid hb.size
       have R2 := Lib.hid hR
       clear hR hb))
  go_ret
  exact ⟨rfl, HB22.out⟩

set_option maxHeartbeats 4000000 in
set_option maxRecDepth 100000 in
theorem practise_law (N : List Int) (l : List S114) (A0 A1 : Option Addr) (c0 c1 : Nat) (a2 a3 a4 : Int) (w : World) (hr0 : Kd.C (Kd.int .i64) w A0 N.length N) (hc0 : N.length ≤ c0) (hr1 : Kd.C k114 w A1 l.length l) (hc1 : l.length ≤ c1)
    (hs : ∀ x ∈ l, x.f0.size ≤ 9223372036854775807) :
    Calls Tryd.prog 4 #[.slice A0 N.length c0, .slice A1 l.length c1, .int .i64 a2, .int .i64 a3, .int .i64 a4] w fun e w' => e = .returned (.bool true) ∧ Below w.heap.size w w' := by
  by_cases hn0 : (1048576 : Int) < (N.length : Int)
  · clear hr0 hr1
    go_enter Tryd.func4, Tryd.ntmps4
    go_wp2
    go_ret
    exact ⟨rfl, Below.refl _ _⟩
  · have hs2 : ∀ x ∈ l, x.f0.size ≤ 9223372036854775807 ∧ x.f2.length ≤ 9223372036854775807 := fun x hx => by
      refine ⟨hs x hx, ?_⟩
      obtain ⟨i, hi, rfl⟩ := List.getElem_of_mem hx
      obtain ⟨ad, A2, k2, _, _, _, _, _, h2⟩ := at_T114 hr1 (i : Int) (by omega) (by omega)
      have := h2.2.1
      rwa [rd114 l i hi] at this
    obtain ⟨t, ht, ht2⟩ := szp_ev l hr1.2.1 hs2 1048576 (by omega) (by omega)
    by_cases ht0 : t < 0
    · have C22 := c22 l t ht A1 c1 hr1 hc1
      clear hr0 hr1 ht ht2
      go_enter Tryd.func4, Tryd.ntmps4
      go_wp2_with (go_at_call 22; refine C22.mono ?_; rintro e w1 ⟨rfl, hb⟩)
      go_ret
      exact ⟨rfl, hb⟩
    · obtain ⟨h1, h2⟩ := ht2 (by omega)
      exact practise_main N l A0 A1 c0 c1 a2 a3 a4 w hr0 hc0 hr1 hc1 hn0 t ht ht0 h1 h2
end Go.Proofs.YtdjdillppgijmaaDoor.Qp
