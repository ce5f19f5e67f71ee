/- earliestDue: the numbers of at most 40 orders by the days on which they are due, those of one day in their order. -/
import Derived.Test.YtdjdillppgijmaaDoorSDueA
import Derived.Deep.Cut
set_option linter.unusedVariables false
set_option linter.unusedSimpArgs false
namespace Go.Proofs.YtdjdillppgijmaaDoor.Qo
open Go.Shelf Go.Lib Go.Sort Go.RowKit Go.Proofs.YtdjdillppgijmaaDoorW.PrintWords Go.Proofs.YtdjdillppgijmaaDoorW.PrintLast Go.Proofs.YtdjdillppgijmaaDoorW.PrintMore

/-! ### The sort of no element -/
set_option maxHeartbeats 4000000 in
theorem ins_zero (p : Option Addr) (cap : Nat) (fv : Value) (w : World) : Calls Tryd.prog 230 #[.slice p 0 cap, .int .i64 0, .int .i64 0, fv] w fun e w' => e = .returned (.tuple #[]) ∧ w' = w := by
  go_enter Tryd.func230, Tryd.ntmps230
  go_wp2
  go_loopg [8] (0 : Nat) (fun g1 v wr => v = .int .i64 1 ∧ wr = w)
  case atStart => exact ⟨rfl, rfl⟩
  case round =>
    obtain ⟨rfl, rfl⟩ := hrel
    go_wp2
    go_end0
    exact ⟨rfl, rfl⟩
set_option maxHeartbeats 4000000 in
theorem stable_zero (p : Option Addr) (cap : Nat) (fv : Value) (w : World) : Calls Tryd.prog 218 #[.slice p 0 cap, .int .i64 0, fv] w fun e w' => e = .returned (.tuple #[]) ∧ w' = w := by
  have hcall := ins_zero p cap fv
  go_enter Tryd.func218, Tryd.ntmps218
  go_wp2
  go_loopg [7, 8] (0 : Nat) (fun g1 va vb wr => va = .int .i64 0 ∧ vb = .int .i64 20 ∧ wr = w)
  case atStart => exact ⟨rfl, rfl, rfl⟩
  case round =>
    obtain ⟨rfl, rfl, rfl⟩ := hrel
    go_wp2_with (go_at_call 230; refine (hcall _).mono ?_; rintro e w1 ⟨rfl, rfl⟩)
    go_loopg [6] (0 : Nat) (fun g1 va wr2 => va = .int .i64 20 ∧ wr2 = w1)
    case atStart => exact ⟨rfl, rfl⟩
    case round =>
      obtain ⟨rfl, rfl⟩ := hrel
      go_wp2
      go_end0
      exact ⟨rfl, rfl⟩
set_option maxHeartbeats 4000000 in
theorem sort_zero (p : Option Addr) (cap : Nat) (fv : Value) (w : World) : Calls Tryd.prog 194 #[.slice p 0 cap, fv] w fun e w' => e = .returned (.tuple #[]) ∧ w' = w := by
  have hcall := stable_zero p cap fv
  go_enter Tryd.func194, Tryd.ntmps194
  go_wp2_with (go_at_call 218; refine (hcall _).mono ?_; rintro e w1 ⟨rfl, rfl⟩)
  go_end0
  exact ⟨rfl, rfl⟩

/-! ### The sort of some -/
theorem less_lays (l : List S149) (m : Nat) (hm : l.length = m + 1) (A0 : Option Addr) (c0 B g : Nat) (w0 W : World) (hr : Kd.C k149 w0 A0 l.length l) (hB0 : Below w0.heap.size w0 W) (hg : w0.heap.size ≤ g) (hb : W.cell? ⟨B, 0, none⟩ = some (.slice A0 l.length c0)) (hBg : g ≠ B) (hd : dayOk l) :
    CmpLays1 Tryd.prog 195 #[.pointer (some ⟨B, 0, none⟩)] (encF (m := m)) (cfF (keyO l)) g 0 (m + 1) W := by
  intro n os dk hs x y
  have hlt := World.block_lt_of_cell? W _ hb
  refine (less_call l A0 c0 B x.val y.val _ ?_ (Kd.C_below hr (below_sort dk hB0 hg)) hd (by have := x.isLt; omega) (by have := y.isLt; omega)).mono ?_
  · have := heap_sort_other (enc := encF (m := m)) (n := n) (os := os) dk hlt hBg
    simp only [World.cell?] at hb ⊢
    rw [this]
    exact hb
  · rintro e w' ⟨he, q, hq⟩
    exact ⟨he, q, #[], by rw [hq, grow_empty]⟩

set_option maxHeartbeats 4000000 in
theorem sort_some (l : List S149) (m : Nat) (hm : l.length = m + 1) (h40 : l.length ≤ 40) (A0 : Option Addr) (c0 B base : Nat) (v : Value) (ok : Nat → Prop) (w0 W : World) (hr : Kd.C k149 w0 A0 l.length l) (hB0 : Below w0.heap.size w0 W) (hd : dayOk l)
    (hbs : w0.heap.size ≤ base) (hBb : B < base) (hv : Kd.R (Kd.int .i64) 2 W base ok v ((List.range (m + 1)).map (fun i : Nat => (i : Int)))) (hb : W.cell? ⟨B, 0, none⟩ = some (.slice A0 l.length c0)) :
    Calls Tryd.prog 194 #[v, .func (.func 195) #[] #[.pointer (some ⟨B, 0, none⟩)]] W fun e w' => e = .returned (.tuple #[]) ∧ Kd.R (Kd.int .i64) 2 w' base ok v ((dueTo (keyO l) (m + 1)).map (fun i : Nat => (i : Int))) ∧ Below w0.heap.size w0 w' := by
  rcases int_open hv with ⟨_, h0⟩ | ⟨g, cap, cur, rfl, hbase, hokg, hg, h1, h2, h3, h4⟩
  · have := congrArg List.length h0
    simp at this
  rw [List.length_map, List.length_range] at h1 h4 ⊢
  have hgl : g < W.heap.size := (Array.getElem?_eq_some_iff.1 hg).1
  have hH : Holds (encF (m := m)) W g 0 (rowF m) := by
    intro j hj
    rw [rowF_size] at hj
    have h5 : (cur.toList.take ((m + 1) * 1))[j]? = some (encF (rowF m)[j]!) := by
      rw [h4, ← row_ints, List.getElem?_map, Array.getElem?_toList]
      rw [getElem!_pos _ j (by rw [rowF_size]; exact hj)]
      simp [rowF_size, hj]
    rw [List.getElem?_take_of_lt (by omega), Array.getElem?_toList] at h5
    refine ⟨by simp [World.cell?, hg, h5], by simp [World.frozen?, hg]⟩
  have hcall := stable_calls (encF (m := m)) (cfF (keyO l)) (dueF (keyO l)) (swo_due _) 195 #[.pointer (some ⟨B, 0, none⟩)] g 0 cap (rowF m) W W (enters_of Tryd.func195 (by kernel_rfl) rfl)
    (by rw [rowF_size]; exact less_lays l m hm A0 c0 B g w0 W hr hB0 (by omega) hb (by omega) hd) ⟨fun _ => rfl, hH, hgl⟩ (SW.start hH) (by rw [rowF_size]; omega) (rising_due _)
  rw [rowF_size] at hcall
  have hq : ∀ w', RowNow (encF (m := m)) W g 0 (Sorted (dueF (keyO l)) (rowF m)) w' → Kd.R (Kd.int .i64) 2 w' base ok (.slice (some ⟨g, 0, none⟩) (m + 1) cap) ((dueTo (keyO l) (m + 1)).map (fun i : Nat => (i : Int))) ∧ Below w0.heap.size w0 w' := by
    rintro w' ⟨d', hs, n, os, rfl⟩
    have hsz : d'.size = m + 1 := hs.1.1.trans rowF_size
    have hl := dueTo_length (keyO l) (m + 1)
    refine ⟨?_, below_sort d' hB0 (by omega)⟩
    have ht := take_put (encF (m := m)) cur d' (by omega)
    rw [hsz] at ht
    have := int_mk (w := sortWorld (encF (m := m)) W g 0 n d' os) (base := base) (ok := ok) (xs := (dueTo (keyO l) (m + 1)).map (fun i : Nat => (i : Int))) g cap _ hbase hokg (heap_sort d' hg) (by rw [List.length_map, hl]; exact h1) h2 (by simp [putCells, h3]) (by
      rw [List.length_map, hl, Nat.mul_one, ht, ← sorted_due _ d' hs, List.map_map, List.map_map]
      rfl)
    rwa [List.length_map, hl] at this
  clear hH hv hr hb hB0
  have HQ : Aside _ := hq
  clear hq
  go_enter Tryd.func194, Tryd.ntmps194
  go_wp2_with (go_at_call 218; refine hcall.mono ?_; rintro e w1 ⟨rfl, hS⟩)
  go_end0
  exact ⟨rfl, HQ.out _ hS⟩

/-! ### The whole -/
def dayB (l : List S149) : Bool := (List.range l.length).all (fun i => decide (0 ≤ keyO l i) && decide (keyO l i ≤ 20000))
theorem dayB_iff (l : List S149) : dayB l = true ↔ dayOk l := by
  unfold dayB dayOk
  simp only [List.all_eq_true, List.mem_range, Bool.and_eq_true, decide_eq_true_eq]
def dueList (l : List S149) : List Int := (dueTo (keyO l) l.length).map (fun i : Nat => (i : Int))
def impl_earliestDue.f (l0 : List S149) : Option (List Int) := if l0.length ≤ 40 ∧ dayB l0 = true then some (dueList l0) else none
def upTo (i : Nat) : List Int := (List.range i).map (fun i : Nat => (i : Int))
theorem upTo_succ (i : Nat) : upTo (i + 1) = upTo i ++ [(i : Int)] := by unfold upTo; rw [List.range_succ, List.map_append]; rfl
theorem upTo_length (i : Nat) : (upTo i).length = i := by unfold upTo; simp

set_option maxHeartbeats 8000000 in
set_option maxRecDepth 100000 in
theorem impl_earliestDue.calls (A0 : Option Addr) (c0 : Nat) (l0 : List S149) (r : List Int) (w : World) (hr0 : Kd.C k149 w A0 l0.length l0) (hc0 : l0.length ≤ c0) (h : impl_earliestDue.f l0 = some r) :
    Calls Tryd.prog 138 #[.slice A0 l0.length c0] w fun e w' => ∃ v0_ : Value, e = .returned (v0_) ∧ Kd.R (Kd.int .i64) 2 w' w.heap.size (fun _ => True) v0_ r ∧ Below w.heap.size w w' := by
  unfold impl_earliestDue.f at h
  split at h
  case isFalse => cases h
  case isTrue hc =>
  obtain ⟨h40, hd0⟩ := hc
  have hd := (dayB_iff l0).1 hd0
  clear hd0
  obtain rfl := Option.some.inj h
  clear h
  have HD : Aside _ := hd
  have HR0 := Aside0.mk hr0
  clear hr0 hd
  obtain ⟨n, hn⟩ : ∃ n, n = l0.length := ⟨_, rfl⟩
  go_enter Tryd.func138, Tryd.ntmps138
  go_upto_region 1 with (fail)
  have hB0 : RowKit.Below w.heap.size w (w.alloc (.cells #[.slice A0 l0.length c0] 62)) := (RowKit.Below.refl _ _).alloc (Nat.le_refl _) _
  have hbx : (w.alloc (.cells #[.slice A0 l0.length c0] 62)).cell? ⟨w.heap.size, 0, none⟩ = some (.slice A0 l0.length c0) := by simp
  have hsz : (w.alloc (.cells #[.slice A0 l0.length c0] 62)).heap.size = w.heap.size + 1 := by simp
  have HSZ : Hid ((w.alloc (.cells #[.slice A0 l0.length c0] 62)).heap.size = w.heap.size + 1) := Lib.hid hsz
  clear hsz
  generalize w.alloc (.cells #[.slice A0 l0.length c0] 62) = W0 at hB0 hbx HSZ ⊢
  obtain ⟨B, hBd⟩ : ∃ B, B = w.heap.size := ⟨_, rfl⟩
  rw [← hBd] at hbx ⊢
  have HBd : Hid (B = w.heap.size) := Lib.hid hBd
  have HBX : Hid (W0.cell? ⟨B, 0, none⟩ = some (.slice A0 l0.length c0)) := Lib.hid hbx
  have hlB : B < W0.heap.size := World.block_lt_of_cell? W0 _ hbx
  have HB0 := Aside0.mk hB0
  clear hB0 hbx hBd
  have HB := Aside0.mk (Below.refl W0.heap.size W0)
  go_wp2_with (first | ((with_reducible refine gate_dst (N := 5) rfl ?_); refine Kd.R_lit (Kd.int .i64) (w0 := W0) W0.heap.size 2 ?hg (N := 5) ?hd (xs := ([] : List Int)) (inner := []) (ok := fun _ => True) (okp := fun _ => True) ?hr ?hp (fun _ hk => hk) trivial HB.out (Nat.le_refl _) (by simp) ?_; (case hd => rfl); (case hg => rfl); (case hr => first | (go_simp; done) | (go_simp; rfl)); (case hp => exact (Reps.none _ _)); intro v155 w2 ho3 hb hg_ hnew_; clear hg_ hnew_ HB; have HO := Aside0.mk ho3; have HB := Aside0.mk hb; have hbx2 := (hb.cell (p := ⟨B, 0, none⟩) hlB).trans HBX.out; clear ho3 hb))
  go_loopg [3, 4, 8] n (fun kq v3 v4 v8 w' => ∃ i : Nat, v8 = .int .i64 i ∧ i ≤ n ∧ n - i ≤ kq ∧ Aside0 (Kd.R (Kd.int .i64) 2 w' W0.heap.size (fun _ => True) v3 (upTo i)) ∧ Aside0 (Below W0.heap.size W0 w'))
  case atStart => exact ⟨0, rfl, Nat.zero_le _, Nat.le_refl _, HO, HB⟩
  case round =>
    clear HO HB hbx2
    obtain ⟨i, rfl, hin, hq, HO, HB⟩ := hrel
    by_cases hlt : i < n
    · have hltz : (i : Int) < (l0.length : Int) := by omega
      have hlen := upTo_length i
      have HU : Hid (upTo (i + 1) = upTo i ++ [(i : Int)]) := Lib.hid (upTo_succ i)
      go_wp2_with (first | ((with_reducible refine gate_builtin (b := .append) (xs := #[.tmp 11, .tmp 13]) rfl ?_); at_builtin; refine Kd.R_append (Kd.int .i64) (w0 := W0) W0.heap.size rfl (.tmp 11) (.tmp 13) 27 2 (.int .i64 0) 8 rfl Tryd.underlying27 info2 rfl (by decide) (by omega) u3 (upTo i) (i : Int) [.int .i64 (i : Int)] (fun _ => True) (fun _ => False) rfl rfl ?aP (fun _ hk => hk.elim) ?aF ?aO ?aB ?aS ?aL ?_; (case aP => exact rfl); (case aB => exact (by repeat (first | (with_reducible first | exact HB.out | apply below_alloc | apply pw_below_drewN | apply below_drew1) | exact HB.out))); (case aF => exact (fun _ _ => trivial)); (case aO => exact (by (with_reducible repeat (first | apply Kd.R_alloc | apply Kd.R_drewN | apply Kd.R_drew)); exact HO.out)); (case aS => exact (below_size (by repeat (first | (with_reducible first | exact HB.out | apply below_alloc | apply pw_below_drewN | apply below_drew1) | exact HB.out)))); (case aL => rw [hlen]; omega); intro v210 w8 ho hb hg hat; rw [← HU.out] at ho; clear HB HO; have HB := Aside0.mk hb; have HO := Aside0.mk ho; clear ho hb hg hat))
      go_roundg (n - (i + 1))
      case measure => omega
      case rel => exact ⟨i + 1, by first | rfl | go_num, by omega, Nat.le_refl _, HO, HB⟩
    · have hltz : ¬ (i : Int) < (l0.length : Int) := by omega
      obtain rfl : i = n := by omega
      have hbx3 := (HB.out.cell (p := ⟨B, 0, none⟩) hlB).trans HBX.out
      have hB9 : RowKit.Below w.heap.size w wr := HB0.out.trans (HB.out.mono HB0.out.size)
      cases i with
      | zero =>
        have hrl : dueList l0 = upTo 0 := by unfold dueList; rw [← hn]; rfl
        have hrow := Kd.R_lower HO.out HB0.out.size
        rw [← hrl] at hrow
        have hlz : ¬ (0 : Int) < (l0.length : Int) := by omega
        have hv : ∃ p cap, u3 = .slice p 0 cap := by
          rcases int_open HO.out with ⟨e, _⟩ | ⟨g, cap, cur, e, _⟩
          · exact ⟨none, 0, e⟩
          · exact ⟨_, cap, e⟩
        obtain ⟨p, cap, rfl⟩ := hv
        have hcall := sort_zero p cap (.func (.func 195) #[] #[.pointer (some ⟨B, 0, none⟩)])
        have HRW := Aside0.mk hrow
        have HB9 := Aside0.mk hB9
        clear hrow hB9 hrl hn
        go_wp2_with (go_at_call 194; refine (hcall _).mono ?_; rintro e w9 ⟨rfl, rfl⟩)
        go_ret
        exact ⟨_, rfl, HRW.out, HB9.out⟩
      | succ m =>
        have hcall := sort_some l0 m hn.symm h40 A0 c0 B W0.heap.size u3 (fun _ => True) w wr HR0.out hB9 HD.out HB0.out.size hlB HO.out hbx3
        rw [hn] at hcall
        clear hB9
        go_wp2_with (go_at_call 194; refine hcall.mono ?_; rintro e w9 ⟨rfl, hR, hB⟩)
        go_ret
        exact ⟨_, rfl, Kd.R_lower hR HB0.out.size, hB⟩
end Go.Proofs.YtdjdillppgijmaaDoor.Qo
