/- slices.Insert of one item, where there is no room. -/
import Derived.Test.YtdjdillppgijmaaDoorInsRow
set_option linter.unusedVariables false
set_option linter.unusedSimpArgs false
namespace Go.Proofs.YtdjdillppgijmaaDoor.Qs
open Go.RowKit Go.Lib Go.Proofs.YtdjdillppgijmaaDoorW.PrintWords Go.Proofs.YtdjdillppgijmaaDoorW.PrintLast Go.Proofs.YtdjdillppgijmaaDoorW.PrintMore

theorem info34' : ∃ i0, Tryd.prog.info? 34 = some i0 ∧ i0.zero = some (.agg #[.string ⟨#[]⟩, .int .i64 0, .int .i64 0, .int .i64 0]) ∧ i0.size = 4 ∧ i0.bytes = 40 := info_parts info34
def zc (k : Nat) : Array Value := Builtin.zeroCells (Value.agg #[.string ⟨#[]⟩, .int .i64 0, .int .i64 0, .int .i64 0]).cells k
theorem zc_size (k : Nat) : (zc k).size = k * 4 := by simp [zc, Builtin.zeroCells, Value.cells]

theorem below_setRow {B : Nat} {a w : World} (h : RowKit.Below B a w) {g : Nat} (hg : B ≤ g) (c : Array Value) : RowKit.Below B a (w.setRow g c) :=
  h.trans ⟨rfl, rfl, rfl, by simp [World.setRow], fun k hk => setRow_other w g k c (by omega)⟩
theorem grow_list (n i : Nat) (hi : i < n) (cs vs z1 R0 R1 R2 t2 : List Value) (hcl : cs.length = n * 4) (hvl : vs.length = 4) (h0 : R0 = cs.take (i * 4) ++ z1) (h1 : R1 = R0.take (i * 4) ++ vs ++ R0.drop (i * 4 + vs.length))
    (h2 : R2 = R1.take ((i + 1) * 4) ++ cs.drop (i * 4) ++ t2) : R2.take ((n + 1) * 4) = cs.take (i * 4) ++ vs ++ cs.drop (i * 4) := by
  have hl : (cs.take (i * 4)).length = i * 4 := by rw [List.length_take]; omega
  have e0 : R0.take (i * 4) = cs.take (i * 4) := by rw [h0]; exact List.take_left' hl
  have e1 : R1.take ((i + 1) * 4) = cs.take (i * 4) ++ vs := by rw [h1, e0]; exact List.take_left' (by rw [List.length_append, hl, hvl]; omega)
  rw [h2, e1]
  exact List.take_left' (by rw [List.length_append, List.length_append, hl, hvl, List.length_drop]; omega)
/-- What a new row leaves. -/
def GrowPost (w : World) (n : Nat) (want : List Value) (e : Ending) (w' : World) : Prop :=
  ∃ (G : Nat) (ROW : Array Value), e = .returned (.slice (some ⟨w.heap.size, 0, none⟩) (n + 1) G) ∧ n + 1 ≤ G ∧ G ≤ maxLen ∧ ROW.size = G * 4 ∧ ROW.toList.take ((n + 1) * 4) = want ∧ RowKit.Below w.heap.size w w' ∧ w'.heap[w.heap.size]? = some (.cells ROW 34 (0, 0))
set_option maxHeartbeats 4000000 in
set_option maxRecDepth 100000 in
/-- In the middle, no room: a new row. -/
theorem ins_grow (g gv cap capv n i : Nat) (cur curv : Array Value) (cs vs : List Value) (w : World) (hi : i < n) (hnc : n ≤ cap) (hroom : cap < n + 1) (hbig : n ≤ 1000000000)
    (hg : w.heap[g]? = some (.cells cur 34 (0, 0))) (hgv : w.heap[gv]? = some (.cells curv 34 (0, 0))) (hsz : cur.size = cap * 4) (hszv : 4 ≤ curv.size)
    (hcl : cs.length = n * 4) (htk : cur.toList.take (n * 4) = cs) (hvl : vs.length = 4) (htv : curv.toList.take 4 = vs) (h1c : ∀ v ∈ cs, v.oneCell' = true) (h1v : ∀ v ∈ vs, v.oneCell' = true) :
    Calls Tryd.prog 128 #[.slice (some ⟨g, 0, none⟩) n cap, .int .i64 i, .slice (some ⟨gv, 0, none⟩) 1 capv] w fun e w' => GrowPost w n (cs.take (i * 4) ++ vs ++ cs.drop (i * 4)) e w' := by
  have hu24 := Tryd.underlying24
  have hu3 := Tryd.underlying3
  obtain ⟨i0, hi0, hz0, hzs, hzb⟩ := info34'
  have hz1 : ¬ ((1 : Int) = 0) := by omega
  have hz2 : ¬ ((i : Int) = (n : Int)) := by omega
  have hz3 : (cap : Int) < (n : Int) + 1 := by omega
  have hcs : ∀ j v, cs[j]? = some v → w.cell? ⟨g, j, none⟩ = some v := fun j v h => by
    rw [cell_row (o := 0) hg]; rw [← htk, List.getElem?_take] at h; split at h
    · exact h
    · cases h
  have hvs : ∀ j v, vs[j]? = some v → w.cell? ⟨gv, j, none⟩ = some v := fun j v h => by
    rw [cell_row (o := 0) hgv]; rw [← htv, List.getElem?_take] at h; split at h
    · exact h
    · cases h
  have hkk : (n : Int) + 1 - (i : Int) = ((n + 1 - i : Nat) : Int) := by omega
  have hik : i + (n + 1 - i) = n + 1 := by omega
  have hold : (Builtin.firstCells i0.size i (.slice (some ⟨g, 0, none⟩) i cap)).run Tryd.prog w.drew = .ok (cs.take (i * 4)).toArray w.drew := by
    rw [hzs]
    exact run_firstCells_some w.drew 4 i ⟨g, 0, none⟩ i cap (cs.take (i * 4)) (by rw [List.length_take]; omega) (fun j v hj => by
      rw [Addr.add_lit, Nat.zero_add]
      rw [List.getElem?_take] at hj
      split at hj
      · exact hcs j v hj
      · cases hj)
  obtain ⟨G, hG⟩ : ∃ G, G = grownCap w (n + 1) cap 34 := ⟨_, rfl⟩
  have hGn : n + 1 ≤ G := by rw [hG]; exact grownCap_ge w _ _ _
  have hGm : G ≤ maxLen := by rw [hG]; exact grownCap_le_maxLen w (n + 1) cap 34 (by unfold maxLen; omega)
  have hG63 : G ≤ 9223372036854775807 := by have := hGm; unfold maxLen at this; omega
  have hrz : ∀ ty, (Builtin.append_ #[24, 3] ty #[.slice (some ⟨g, 0, none⟩) i cap, .int .i64 ((n : Int) + 1 - (i : Int))]).run Tryd.prog w =
      .ok (.slice (some ⟨w.heap.size, 0, none⟩) (n + 1) G) (w.drew.alloc (.cells ((cs.take (i * 4)).toArray ++ zc (n + 1 - i) ++ zc (G - (n + 1))) 34)) := fun ty => by
    have h := Lib.run_append_grow_zeros w 24 3 ty 34 i0 _ .i64 .i64 hu24 hu3 hi0 hz0 (some ⟨g, 0, none⟩) i cap (cs.take (i * 4)) hold (n + 1 - i) (by omega) (by omega) (by omega) (by omega) (by rw [hzb]; omega) (by rw [hzb, hik]; exact growslice_fits hroom (by omega))
    rw [hik, ← hG] at h
    rw [hkk]
    exact h
  have HG := Lib.hid hG
  clear hG
  obtain ⟨ROW0, hROW0⟩ : ∃ R : Array Value, R = (cs.take (i * 4)).toArray ++ zc (n + 1 - i) ++ zc (G - (n + 1)) := ⟨_, rfl⟩
  rw [← hROW0] at hrz
  have hRs : ROW0.size = G * 4 := by rw [hROW0]; simp [zc_size]; rw [hcl]; omega
  obtain ⟨ROW1, hROW1⟩ : ∃ R : Array Value, R = (ROW0.toList.take (i * 4) ++ vs ++ ROW0.toList.drop (i * 4 + vs.length)).toArray := ⟨_, rfl⟩
  have hRs1 : ROW1.size = G * 4 := by rw [hROW1]; simp; rw [hvl]; omega
  have hgw : g < w.heap.size := (Array.getElem?_eq_some_iff.1 hg).1
  have hgvw : gv < w.heap.size := (Array.getElem?_eq_some_iff.1 hgv).1
  have hdl : (cs.drop (i * 4)).length = (n - i) * 4 := by rw [List.length_drop, hcl]; omega
  obtain ⟨ROW2, hROW2⟩ : ∃ R : Array Value, R = (ROW1.toList.take ((i + 1) * 4) ++ cs.drop (i * 4) ++ ROW1.toList.drop ((i + 1) * 4 + (cs.drop (i * 4)).length)).toArray := ⟨_, rfl⟩
  have hRs2 : ROW2.size = G * 4 := by rw [hROW2]; simp; rw [hcl]; omega
  have hcpA : ∀ ty dc, (Builtin.copy_ #[24, 24] ty #[.slice (some ⟨w.heap.size, i * 4, none⟩) (n + 1 - i) dc, .slice (some ⟨gv, 0, none⟩) 1 capv]).run Tryd.prog (w.alloc (.cells ROW0 34)).drew =
      .ok (goInt (Nat.min 1 (n + 1 - i))) ((w.alloc (.cells ROW0 34)).drew.setRow w.heap.size ROW1) := fun ty dc => by
    rw [hROW1]
    exact run_copy4 _ _ _ ty w.heap.size (i * 4) (n + 1 - i) dc ⟨gv, 0, none⟩ 1 capv ROW0 34 vs hu24 (heap_alloc_new w _) (by rw [hvl]; simp only [Nat.min_def]; split <;> omega)
      (fun j v hj => by rw [Addr.add_lit, Nat.zero_add]; exact (World.cell?_alloc_past (w := w) _ gv j hgvw).trans (hvs j v hj)) (by rw [hvl, hRs]; omega) h1v
  have hcpB : ∀ ty dc sc, (Builtin.copy_ #[24, 24] ty #[.slice (some ⟨w.heap.size, (i + 1) * 4, none⟩) (n - i) dc, .slice (some ⟨g, i * 4, none⟩) (n - i) sc]).run Tryd.prog ((w.alloc (.cells ROW0 34)).drew.setRow w.heap.size ROW1).drew =
      .ok (goInt (Nat.min (n - i) (n - i))) (((w.alloc (.cells ROW0 34)).drew.setRow w.heap.size ROW1).drew.setRow w.heap.size ROW2) := fun ty dc sc => by
    rw [hROW2]
    exact run_copy4 _ _ _ ty w.heap.size ((i + 1) * 4) (n - i) dc ⟨g, i * 4, none⟩ (n - i) sc ROW1 34 (cs.drop (i * 4)) hu24 (setRow_heap (w.alloc (.cells ROW0 34)).drew w.heap.size ROW0 _ 34 _ (heap_alloc_new w _)) (by rw [hdl]; simp only [Nat.min_def]; split <;> omega)
      (fun j v hj => by
        rw [Addr.add_lit]
        refine ((cell_setRow_ne (w := (w.alloc (.cells ROW0 34)).drew) ROW1 (show g ≠ w.heap.size by omega)).trans (World.cell?_alloc_past (w := w) _ g _ hgw)).trans (hcs (i * 4 + j) v (by rwa [List.getElem?_drop] at hj)))
      (by rw [hdl, hRs1]; omega) (fun v hv => h1c v (List.mem_of_mem_drop hv))
  have H0 := Lib.hid hROW0
  have H1 := Lib.hid hROW1
  have H2 := Lib.hid hROW2
  have hw1 : IntKind.i64.wrap ((i : Int) + 1) = (i : Int) + 1 := by rw [IntKind.wrap_i64]; omega
  have hb1 : (0 : Int) ≤ (i : Int) + 1 := by omega
  have hin : i ≤ n := by omega
  have htn : ((i : Int) + 1).toNat = i + 1 := by omega
  have hb3 : (i : Int) ≤ (n : Int) := by omega
  have hb5 : (n + 1 - (i + 1)) = n - i := by omega
  have hGi : ¬ (G = i) := by omega
  have hGim : ¬ (G = i + 1) := by omega
  have hci : ¬ (cap = i) := by omega
  have mixed : Tryd.prog.follows .mixedOrders = true := by kernel_rfl
  clear hkk hik hold hROW0 hROW1 hROW2
  go_enter Tryd.func128, Tryd.ntmps128
  go_wp2_with (first
    | (at_builtin; refine Lib.wpList_append_run _ rfl _ _ _ _ rfl _ _ rfl rfl _ _ (hrz _) ?_)
    | (at_builtin; refine wpList_copy_runI _ rfl _ _ 24 24 rfl _ _ rfl rfl (hcpA _ _) ?_))
  go_region_law_o (refine step_copy_runI rfl _ _ 24 24 rfl _ _ (by simp [Act.eval, Act.put]) (by simp [Act.eval, Act.put]) (hcpB _ _ _) ?_)
  go_wp2
  go_ret
  refine ⟨G, ROW2, rfl, hGn, hGm, hRs2, ?_, ?_, ?_⟩
  · exact grow_list n i hi cs vs ((zc (n + 1 - i)).toList ++ (zc (G - (n + 1))).toList) ROW0.toList ROW1.toList ROW2.toList _ hcl hvl (by rw [H0.out]; simp) (by rw [H1.out]) (by rw [H2.out])
  · exact below_setRow (below_setRow ((Below.refl w.heap.size w).alloc (Nat.le_refl _) _).drew (Nat.le_refl _) _).drew (Nat.le_refl _) _
  · exact setRow_heap ((w.alloc (.cells ROW0 34)).drew.setRow w.heap.size ROW1).drew w.heap.size ROW1 _ 34 _ (setRow_heap (w.alloc (.cells ROW0 34)).drew w.heap.size ROW0 _ 34 _ (heap_alloc_new w _))
end Go.Proofs.YtdjdillppgijmaaDoor.Qs
