/- What writes into a row of apprentices and their days: what becomes of the row. -/
import Derived.Test.YtdjdillppgijmaaDoorQpx3
import Derived.Test.YtdjdillppgijmaaDoorPlMarkP
import Derived.Lib.Hide
set_option linter.unusedVariables false
set_option linter.unusedSimpArgs false
namespace Go.Proofs.YtdjdillppgijmaaDoor.Qp
open Go.RowKit Go.Proofs.YtdjdillppgijmaaDoorW.PrintWords Go.Proofs.YtdjdillppgijmaaDoorW.PrintLast Go.Proofs.YtdjdillppgijmaaDoorW.PrintMore

theorem rd116_nat (l : List S116) (i : Nat) : rd_T116 l (i : Int) = l.getD i z116 := by unfold rd_T116; rw [Int.toNat_natCast]
section
variable {W : World} {b g n cap : Nat} {P : Nat → Prop} {ys : List S116}
theorem put_name (h : Kd.S k116 116 W b P (.slice (some ⟨g, 0, none⟩) n cap) ys) (i : Nat) (hi : i < n) (t : ByteArray) :
    W.frozen? ⟨g, i * 3, none⟩ = false ∧ (∃ u, W.cell? ⟨g, i * 3, none⟩ = some u) ∧ Kd.S k116 116 (W.setCell ⟨g, i * 3, none⟩ (.string t)) b P (.slice (some ⟨g, 0, none⟩) n cap) (ys.set i ⟨t, (rd_T116 ys i).f1, (rd_T116 ys i).f2⟩) ∧ W.grownBy (W.setCell ⟨g, i * 3, none⟩ (.string t)) (some g) := by
  obtain ⟨oki, c, hcl, hM, hcc, hfr, hoki, hH⟩ := Kd.S_elem h z116 (i : Int) (by omega) (by omega)
  obtain ⟨v2, rfl, g2⟩ := k116_openM hM
  have HS := Kd.H_seg hH (by omega) (by omega) (seg := [.string t]) (j := 0) (show 1 ≤ 3 by decide) (fun q hq => by rw [List.mem_singleton.1 hq]; rfl)
  rw [Int.toNat_natCast] at HS hcc hfr
  have hx := hcc 0 _ rfl
  have hf := hfr 0
  rw [Int.toNat_natCast] at hH g2
  refine ⟨hf, ⟨_, hx⟩, ?_, HS.2⟩
  have := Kd.H_back HS.1 (k116_mkM _ b oki ⟨t, (rd_T116 ys i).f1, (rd_T116 ys i).f2⟩ (v2 := v2) (by
    rw [rd116_nat]
    exact Kd.R_grown g2 HS.2 (fun k hk e => (hoki k hk).2 (by injection e)))) (fun _ hk => hk)
  rw [Int.toNat_natCast] at this
  exact this
theorem put_first (h : Kd.S k116 116 W b P (.slice (some ⟨g, 0, none⟩) n cap) ys) (i : Nat) (hi : i < n) (t : Int) :
    W.frozen? ⟨g, i * 3 + 1, none⟩ = false ∧ (∃ u, W.cell? ⟨g, i * 3 + 1, none⟩ = some u) ∧ Kd.S k116 116 (W.setCell ⟨g, i * 3 + 1, none⟩ (.int .i64 t)) b P (.slice (some ⟨g, 0, none⟩) n cap) (ys.set i ⟨(rd_T116 ys i).f0, t, (rd_T116 ys i).f2⟩) ∧ W.grownBy (W.setCell ⟨g, i * 3 + 1, none⟩ (.int .i64 t)) (some g) := by
  obtain ⟨oki, c, hcl, hM, hcc, hfr, hoki, hH⟩ := Kd.S_elem h z116 (i : Int) (by omega) (by omega)
  obtain ⟨v2, rfl, g2⟩ := k116_openM hM
  have HS := Kd.H_seg hH (by omega) (by omega) (seg := [.int .i64 t]) (j := 1) (show 2 ≤ 3 by decide) (fun q hq => by rw [List.mem_singleton.1 hq]; rfl)
  rw [Int.toNat_natCast] at HS hcc hfr
  have hx := hcc 1 _ rfl
  have hf := hfr 1
  rw [Int.toNat_natCast] at hH g2
  refine ⟨hf, ⟨_, hx⟩, ?_, HS.2⟩
  have := Kd.H_back HS.1 (k116_mkM _ b oki ⟨(rd_T116 ys i).f0, t, (rd_T116 ys i).f2⟩ (v2 := v2) (by
    rw [rd116_nat]
    exact Kd.R_grown g2 HS.2 (fun k hk e => (hoki k hk).2 (by injection e)))) (fun _ hk => hk)
  rw [Int.toNat_natCast, rd116_nat] at this
  rw [rd116_nat]
  exact this
theorem put_days (h : Kd.S k116 116 W b P (.slice (some ⟨g, 0, none⟩) n cap) ys) (i : Nat) (hi : i < n) :
    ∃ (v2 : Value) (oki : Nat → Prop), W.cell? ⟨g, i * 3 + 2, none⟩ = some v2 ∧ (∀ k, oki k → P k ∧ k ≠ g) ∧ Kd.R (Kd.int .i64) 2 W b oki v2 (rd_T116 ys i).f2 ∧
      ∀ (W' : World) (d : List Int) (ok' : Nat → Prop), Kept W W' oki → Kd.R (Kd.int .i64) 2 W' b ok' v2 d → Kd.S k116 116 W' b P (.slice (some ⟨g, 0, none⟩) n cap) (ys.set i ⟨(rd_T116 ys i).f0, (rd_T116 ys i).f1, d⟩) := by
  obtain ⟨oki, c, hcl, hM, hcc, hfr, hoki, hH⟩ := Kd.S_elem h z116 (i : Int) (by omega) (by omega)
  obtain ⟨v2, rfl, g2⟩ := k116_openM hM
  rw [Int.toNat_natCast] at hcc g2
  refine ⟨v2, oki, hcc 2 _ rfl, hoki, by rw [rd116_nat]; exact g2, fun W' d ok' hk hR => ?_⟩
  have := Kd.H_back (Kd.H_kept hH hk (fun k _ hn => hn)) (k116_mkM W' b oki ⟨(rd_T116 ys i).f0, (rd_T116 ys i).f1, d⟩ (v2 := v2) ⟨g2.1, hR.2⟩) (fun _ hk => hk)
  rw [Int.toNat_natCast] at this
  exact this
end

theorem rd_set116 (l : List S116) (i : Nat) (hi : i < l.length) (x : S116) : rd_T116 (l.set i x) (i : Int) = x := by
  rw [rd116_nat, List.getD_eq_getElem?_getD, List.getElem?_set_self hi]; rfl
theorem rd_lt116 (l : List S116) (i : Nat) (hi : i < l.length) : rd_T116 l (i : Int) = l[i] := by
  rw [rd116_nat, List.getD_eq_getElem?_getD, List.getElem?_eq_getElem hi]; rfl
/-- What the loop has so far. -/
noncomputable def partP (a : Nat) (l : List S116) (i : Nat) : List S116 := marksP a (l.take i) ++ l.drop i
theorem partP_length (a : Nat) (l : List S116) (i : Nat) (hi : i ≤ l.length) : (partP a l i).length = l.length := by
  unfold partP; rw [List.length_append, marksP_length, List.length_take, List.length_drop]; omega
theorem partP_rd (a : Nat) (l : List S116) (i : Nat) (hi : i < l.length) : rd_T116 (partP a l i) (i : Int) = l[i] := by
  have h1 : (marksP a (l.take i)).length = i := by rw [marksP_length, List.length_take]; omega
  rw [rd_lt116 _ i (by rw [partP_length _ _ _ (by omega)]; omega)]
  unfold partP
  rw [List.getElem_append_right (by omega)]
  simp [h1]
theorem partP_next (a : Nat) (l : List S116) (i : Nat) (hi : i < l.length) : (partP a l i).set i (mkp (endP a (l.take i)) l[i]) = partP a l (i + 1) := by
  have h1 : (marksP a (l.take i)).length = i := by rw [marksP_length, List.length_take]; omega
  unfold partP
  rw [List.set_append_right _ _ (by omega), h1, Nat.sub_self, List.drop_eq_getElem_cons hi, List.set_cons_zero, List.take_succ_eq_append_getElem hi, marksP_append, List.append_assoc]
  rfl
theorem endP_next (a : Nat) (l : List S116) (i : Nat) (hi : i < l.length) : endP a (l.take (i + 1)) = endP a (l.take i) + (2 + l[i].f2.length) := by
  rw [List.take_succ_eq_append_getElem hi, endP_append]; rfl
theorem endP_take (a : Nat) (l : List S116) (i : Nat) : endP a (l.take i) ≤ endP a l := by
  have := endP_append (l.take i) (l.drop i) a
  rw [List.take_append_drop] at this
  rw [this]
  exact endP_le _ _

theorem third_cell {w : World} {g o : Nat} {u v : Value} : ((w.setCell ⟨g, o, none⟩ u).setCell ⟨g, o + 1, none⟩ v).cell? ⟨g, o + 2, none⟩ = w.cell? ⟨g, o + 2, none⟩ := by
  rw [World.cell?_setCell_other _ ⟨g, o + 1, none⟩ ⟨g, o + 2, none⟩ _ (by simp), World.cell?_setCell_other _ ⟨g, o, none⟩ ⟨g, o + 2, none⟩ _ (by simp)]
theorem days_call (w0 w : World) (oki : Nat → Prop) (v : Value) (d : List Int) (q : Nat) (hB : Below w0.heap.size w0 w) (hR : Kd.R (Kd.int .i64) 2 w w0.heap.size oki v d) (hd : d.length ≤ 1000000000) (hq : q ≤ 1000000000) :
    Calls Tryd.prog 29 #[v, .int .i64 ((q + 2 : Nat) : Int)] w fun e w' => e = .returned (.int .i64 ((q + 2 + d.length : Nat) : Int)) ∧ Kd.R (Kd.int .i64) 2 w' w0.heap.size (fun k_ => (oki k_ ∨ w.heap.size ≤ k_)) v (marksi (q + 2) d.length) ∧ Below w0.heap.size w0 w' ∧ Kept w w' oki := by
  obtain ⟨k2, hk2⟩ := (marki_ev d (q + 2) hd (by omega)).rounds
  exact (laws_markInt64S.calls k2 oki v d _ _ _ w0 w hB hR hk2).mono fun e w' h => h
set_option maxHeartbeats 4000000 in
set_option maxRecDepth 100000 in
theorem markp_loop (l : List S116) (g cap a : Nat) (P : Nat → Prop) (w0 w : World) (hB : Below w0.heap.size w0 w) (ho : Kd.S k116 116 w w0.heap.size P (.slice (some ⟨g, 0, none⟩) l.length cap) l) (hg : P g) (hl : l.length ≤ 1000000000) (he : endP a l ≤ 1000000000) :
    Calls Tryd.prog 30 #[.slice (some ⟨g, 0, none⟩) l.length cap, .int .i64 a] w fun e w' => e = .returned (.int .i64 (endP a l : Nat)) ∧ Kd.S k116 116 w' w0.heap.size P (.slice (some ⟨g, 0, none⟩) l.length cap) (marksP a l) ∧ Below w0.heap.size w0 w' ∧ Kept w w' P := by
  have hu37 := Tryd.underlying37
  have hu116 := Tryd.underlying116
  have hu27 := Tryd.underlying27
  have HS0 := Lib.hid ho
  have HB0 := Lib.hid hB
  clear ho hB
  go_enter Tryd.func30, Tryd.ntmps30
  go_wp2
  go_loopw [1, 5] (fun v1 v5 wr => ∃ i : Nat, v5 = .int .i64 i ∧ v1 = .int .i64 (endP a (l.take i) : Nat) ∧ i ≤ l.length ∧ Hid (Kd.S k116 116 wr w0.heap.size P (.slice (some ⟨g, 0, none⟩) l.length cap) (partP a l i)) ∧ Hid (Below w0.heap.size w0 wr) ∧ Hid (Kept w wr P)) (fun _ v5 _ => l.length - (intOf v5).toNat)
  case atStart => exact ⟨0, rfl, rfl, by omega, HS0, HB0, Lib.hid (Kept.refl _ _)⟩
  case round =>
    obtain ⟨i, rfl, rfl, hle, HS, HB, HK⟩ := hrel
    by_cases hlt : i < l.length
    · have hltz : (i : Int) < (l.length : Int) := by omega
      obtain ⟨x, hx⟩ : ∃ x, x = l[i] := ⟨_, rfl⟩
      obtain ⟨q, hq⟩ : ∃ q, q = endP a (l.take i) := ⟨_, rfl⟩
      have hq1 : q ≤ 1000000000 := by rw [hq]; have := endP_take a l i; omega
      have hx1 : x.f2.length ≤ 1000000000 := by
        have h1 := endP_next a l i hlt
        have h2 := endP_take a l (i + 1)
        rw [hx]; omega
      have HQ := Lib.hid hq
      have HX := Lib.hid hx
      rw [← hq]
      clear hq hx
      obtain ⟨k1, hk1⟩ := (mt_ev (q : Int) (by omega) (by omega)).rounds
      have hgw0 : w0.heap.size ≤ g := Kd.S_base HS.out g rfl
      have e1 : wrap64 ((q : Int) + 1) = ((q + 1 : Nat) : Int) := nx q (by omega)
      have e2 : wrap64 (((q + 1 : Nat) : Int) + 1) = ((q + 2 : Nat) : Int) := nx (q + 1) (by omega)
      have hTEXT := Lib.hid (laws_markText.calls k1 (q : Int) (mt q) wr hk1)
      have hrow : (partP a l i).length = l.length := partP_length a l i hle
      have hrow2 : ∀ z, i < ((partP a l i).set i z).length := fun z => by rw [List.length_set, hrow]; exact hlt
      have ptT : (0 ≤ (i : Int)) = True := eq_true (by omega)
      have ptL : ((i : Int) < (l.length : Int)) = True := eq_true hltz
      go_wp2_with (first
        | (go_at_call 111; refine (hTEXT.out).mono ?_; rintro e w1 ⟨rfl, hB1⟩
           have S1 := Kd.S_below HS.out hB1
           have BB1 := Lib.hid (HB.out.trans (hB1.mono HB.out.size))
           have KK1 := Lib.hid (HK.out.below hB1)
           clear hB1
           obtain ⟨fz0, ⟨u0, c0⟩, S2, G2⟩ := put_name S1 i (by omega) (mt q)
           obtain ⟨fz1, ⟨u1, c1⟩, _, _⟩ := put_first S1 i (by omega) 0
           obtain ⟨_, _, S3, G3⟩ := put_first S2 i (by omega) ((q + 1 : Nat) : Int)
           obtain ⟨v2, oki, c2, hoki, R2, hput⟩ := put_days S3 i (by omega)
           simp only [rd_set116 _ i (hrow2 _), rd_set116 _ i (show i < (partP a l i).length by rw [hrow]; exact hlt), List.set_set, partP_rd a l i hlt, ← HX.out] at R2 hput
           obtain ⟨A2, cc2, rfl⟩ := Kd.R_slice R2
           have HPUT := Lib.hid hput
           have HR2 := Lib.hid R2
           have HOKI := Lib.hid hoki
           have HG : Hid (g < w1.heap.size) := Lib.hid (World.block_lt_of_cell? w1 _ c0)
           have c2x : w1.cell? ⟨g, i * 3 + 2, none⟩ = some (.slice A2 x.f2.length cc2) := third_cell.symm.trans c2
           clear S1 S2 S3 G2 G3 c2 hput R2 hoki)
        | (go_at_call 29; refine (days_call w0 _ oki (.slice A2 x.f2.length cc2) x.f2 q (below_set (below_set BB1.out hgw0) hgw0) HR2.out hx1 hq1).mono ?_; rintro e w4 ⟨rfl, R4, B4, K4⟩
           have S4 := Lib.hid (HPUT.out w4 (marksi (q + 2) x.f2.length) _ K4 R4)
           have HB4 := Lib.hid B4
           have HK4 := Lib.hid (((KK1.out.setCell (p := ⟨g, i * 3, none⟩) (.inl hg) (.string (mt q))).setCell (p := ⟨g, i * 3 + 1, none⟩) (.inl hg) (.int .i64 ((q + 1 : Nat) : Int))).then_ K4 (fun k hk => .inl (HOKI.out k hk).1))
           clear R4 B4 K4))
      refine ⟨⟨i + 1, by simp, ?_, by omega, Lib.hid ?_, HB4, HK4⟩, by simp only [intOf]; omega⟩
      · rw [endP_next a l i hlt, ← HQ.out, ← HX.out]
        congr 1
        omega
      · rw [← partP_next a l i hlt, ← HQ.out, ← HX.out]
        exact S4.out
    · have hi : i = l.length := by omega
      subst hi
      have hno : ¬ ((l.length : Nat) : Int) < (l.length : Int) := by omega
      go_wp2
      go_ret
      have e1 : l.take l.length = l := List.take_length
      have e2 : partP a l l.length = marksP a l := by unfold partP; rw [e1, List.drop_length, List.append_nil]
      have h := HS.out
      rw [e2] at h
      exact ⟨by first | rfl | (rw [e1]; rfl), h, HB.out, HK.out⟩

theorem markp_call (l : List S116) (v : Value) (a : Nat) (P : Nat → Prop) (w0 w : World) (hB : Below w0.heap.size w0 w) (ho : Kd.S k116 116 w w0.heap.size P v l) (hl : l.length ≤ 1000000000) (he : endP a l ≤ 1000000000) :
    Calls Tryd.prog 30 #[v, .int .i64 a] w fun e w' => e = .returned (.int .i64 (endP a l : Nat)) ∧ Kd.S k116 116 w' w0.heap.size P v (marksP a l) ∧ Below w0.heap.size w0 w' ∧ Kept w w' P := by
  cases l with
  | nil =>
    obtain ⟨A, c, rfl⟩ := Kd.S_slice ho
    have hB0 := Lib.hid hB
    have hS0 := Lib.hid ho
    clear hB ho
    rw [List.length_nil]
    go_enter Tryd.func30, Tryd.ntmps30
    go_wp2
    go_loopw [1, 5] (fun v1 v5 wr => v5 = .int .i64 0 ∧ v1 = .int .i64 a ∧ wr = w) (fun _ v5 _ => 0)
    case atStart => exact ⟨rfl, rfl, rfl⟩
    case round =>
      obtain ⟨rfl, rfl, rfl⟩ := hrel
      go_wp2
      go_ret
      exact ⟨rfl, hS0.out, hB0.out, Kept.refl _ _⟩
  | cons x l =>
    obtain ⟨g, cap, rfl, _, _, _⟩ := Kd.S_form ho (by simp)
    exact markp_loop (x :: l) g cap a P w0 w hB ho ((Kd.S_R ho).1 g rfl) hl he
end Go.Proofs.YtdjdillppgijmaaDoor.Qp
