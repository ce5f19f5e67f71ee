/- slices.Insert of one item at the end of a row. -/
import Derived.Test.YtdjdillppgijmaaDoorInsNew
set_option linter.unusedVariables false
set_option linter.unusedSimpArgs false
namespace Go.Proofs.YtdjdillppgijmaaDoor.Qs
open Go.RowKit Go.Lib Go.Proofs.YtdjdillppgijmaaDoorW.PrintWords Go.Proofs.YtdjdillppgijmaaDoorW.PrintLast Go.Proofs.YtdjdillppgijmaaDoorW.PrintMore

theorem src4 (gv capv : Nat) (curv : Array Value) (vs : List Value) (w : World) (hgv : w.heap[gv]? = some (.cells curv 34 (0, 0))) (hvl : vs.length = 4) (htv : curv.toList.take 4 = vs) (h1v : ∀ v ∈ vs, v.oneCell' = true) :
    Src Tryd.prog 4 24 (.slice (some ⟨gv, 0, none⟩) 1 capv) 1 vs w := Src.ofSlice w Tryd.underlying24 ⟨gv, 0, none⟩ 1 capv vs (by rw [hvl]) (fun j u h => by
    rw [Addr.add_lit, Nat.zero_add, cell_row (o := 0) hgv]; rw [← htv, List.getElem?_take] at h; split at h
    · exact h
    · cases h) h1v
theorem run_append_room4 (g gv n cap capv : Nat) (cur curv : Array Value) (vs : List Value) (w : World) (hroom : n + 1 ≤ cap) (hg : w.heap[g]? = some (.cells cur 34 (0, 0))) (hgv : w.heap[gv]? = some (.cells curv 34 (0, 0))) (hsz : cur.size = cap * 4)
    (hvl : vs.length = 4) (htv : curv.toList.take 4 = vs) (h1v : ∀ v ∈ vs, v.oneCell' = true) (ty : TypeId) :
    (Builtin.append_ #[24, 24] ty #[.slice (some ⟨g, 0, none⟩) n cap, .slice (some ⟨gv, 0, none⟩) 1 capv]).run Tryd.prog w =
      .ok (.slice (some ⟨g, 0, none⟩) (n + 1) cap) (w.setRow g (cur.toList.take (n * 4) ++ vs ++ cur.toList.drop (n * 4 + vs.length)).toArray) := by
  obtain ⟨i0, hi0, hz0, hzs, hzb⟩ := info34'
  have hs : Src Tryd.prog i0.size 24 (.slice (some ⟨gv, 0, none⟩) 1 capv) 1 vs w := by rw [hzs]; exact src4 gv capv curv vs w hgv hvl htv h1v
  have hst := run_storeCells_at Tryd.prog g (n * 4) 34 vs 0 cur w hg (by rw [hvl, hsz]; omega) h1v
  have hk := Tryd.underlying24
  have hlen := hs.len
  have hcells := hs.cells
  rw [hzs] at hcells
  simp only [Nat.add_zero] at hst
  simp [Builtin.append_, run_underlying hk, sizeOf, typeInfo, hi0, hlen, hroom, hzs, hcells, Addr.add_lit, hst]

set_option maxHeartbeats 4000000 in
set_option maxRecDepth 100000 in
theorem ins_end_room (g gv cap capv n : Nat) (cur curv : Array Value) (vs : List Value) (w : World) (hroom : n + 1 ≤ cap) (hc63 : cap ≤ 9223372036854775807)
    (hg : w.heap[g]? = some (.cells cur 34 (0, 0))) (hgv : w.heap[gv]? = some (.cells curv 34 (0, 0))) (hsz : cur.size = cap * 4)
    (hvl : vs.length = 4) (htv : curv.toList.take 4 = vs) (h1v : ∀ v ∈ vs, v.oneCell' = true) :
    Calls Tryd.prog 128 #[.slice (some ⟨g, 0, none⟩) n cap, .int .i64 n, .slice (some ⟨gv, 0, none⟩) 1 capv] w fun e w' =>
      e = .returned (.slice (some ⟨g, 0, none⟩) (n + 1) cap) ∧ w' = w.setRow g (cur.toList.take (n * 4) ++ vs ++ cur.toList.drop (n * 4 + vs.length)).toArray := by
  have hu24 := Tryd.underlying24
  have hz1 : ¬ ((1 : Int) = 0) := by omega
  have hb4 : ¬ (cap = n) := by omega
  have hrun := run_append_room4 g gv n cap capv cur curv vs w hroom hg hgv hsz hvl htv h1v
  go_enter Tryd.func128, Tryd.ntmps128
  go_wp2_with (at_builtin; refine Lib.wpList_append_run _ rfl _ _ _ _ rfl _ _ rfl rfl _ _ (hrun _) ?_)
  go_ret
  exact ⟨rfl, by simp [hvl]⟩

set_option maxHeartbeats 4000000 in
set_option maxRecDepth 100000 in
theorem ins_end_grow (base : Option Addr) (gv cap capv n : Nat) (curv : Array Value) (cs vs : List Value) (w : World) (hnc : n ≤ cap) (hroom : cap < n + 1) (hbig : n ≤ 1000000000)
    (hgv : w.heap[gv]? = some (.cells curv 34 (0, 0))) (hcl : cs.length = n * 4) (hb : (base = none ∧ n = 0 ∧ cap = 0) ∨ ∃ g cur, base = some ⟨g, 0, none⟩ ∧ w.heap[g]? = some (.cells cur 34 (0, 0)) ∧ cur.toList.take (n * 4) = cs)
    (hvl : vs.length = 4) (htv : curv.toList.take 4 = vs) (h1v : ∀ v ∈ vs, v.oneCell' = true) :
    Calls Tryd.prog 128 #[.slice base n cap, .int .i64 n, .slice (some ⟨gv, 0, none⟩) 1 capv] w fun e w' => GrowPost w n (cs ++ vs) e w' := by
  have hu24 := Tryd.underlying24
  obtain ⟨i0, hi0, hz0, hzs, hzb⟩ := info34'
  have hz1 : ¬ ((1 : Int) = 0) := by omega
  have hs : Src Tryd.prog i0.size 24 (.slice (some ⟨gv, 0, none⟩) 1 capv) 1 vs w := by rw [hzs]; exact src4 gv capv curv vs w hgv hvl htv h1v
  have hold : (Builtin.firstCells i0.size n (.slice base n cap)).run Tryd.prog w.drew = .ok cs.toArray w.drew := by
    rw [hzs]
    rcases hb with ⟨rfl, rfl, rfl⟩ | ⟨g, cur, rfl, hg, htk⟩
    · have h0 : cs = [] := List.length_eq_zero_iff.1 (by simpa using hcl)
      rw [h0]
      exact run_firstCells_none w.drew 4 0 0 0
    · exact run_firstCells_some w.drew 4 n ⟨g, 0, none⟩ n cap cs (by rw [hcl]) (fun j v h => by
        rw [Addr.add_lit, Nat.zero_add]
        refine (cell_row (w := w) (o := 0) hg j).trans ?_
        rw [← htk, List.getElem?_take] at h; split at h
        · exact h
        · cases h)
  obtain ⟨G, hG⟩ : ∃ G, G = grownCap w (n + 1) cap 34 := ⟨_, rfl⟩
  have hGn : n + 1 ≤ G := by rw [hG]; exact grownCap_ge w _ _ _
  have hGm : G ≤ maxLen := by rw [hG]; exact grownCap_le_maxLen w (n + 1) cap 34 (by unfold maxLen; omega)
  have hrun : ∀ ty, (Builtin.append_ #[24, 24] ty #[.slice base n cap, .slice (some ⟨gv, 0, none⟩) 1 capv]).run Tryd.prog w =
      .ok (.slice (some ⟨w.heap.size, 0, none⟩) (n + 1) G) (w.drew.alloc (.cells ((cs ++ vs).toArray ++ zc (G - (n + 1))) 34)) := fun ty => by
    have h := run_append_grow_src (w := w) 24 24 ty 34 i0 _ hu24 hi0 hz0 base n cap cs hold _ 1 vs hs hroom (by omega) (by rw [hzb]; exact growslice_fits hroom (by omega))
    rw [← hG] at h
    exact h
  have HG := Lib.hid hG
  obtain ⟨ROW, hROW⟩ : ∃ R : Array Value, R = (cs ++ vs).toArray ++ zc (G - (n + 1)) := ⟨_, rfl⟩
  rw [← hROW] at hrun
  have HR := Lib.hid hROW
  have hRs : ROW.size = G * 4 := by rw [hROW]; simp [zc_size]; rw [hcl, hvl]; omega
  clear hG hROW hold
  rcases hb with ⟨rfl, rfl, rfl⟩ | ⟨g, cur, rfl, hg, htk⟩
  all_goals
    go_enter Tryd.func128, Tryd.ntmps128
    go_wp2_with (at_builtin; refine Lib.wpList_append_run _ rfl _ _ _ _ rfl _ _ rfl rfl _ _ (hrun _) ?_)
    go_ret
    refine ⟨G, ROW, rfl, hGn, hGm, hRs, ?_, ?_, ?_⟩
    · rw [HR.out, Array.toList_append, List.toList_toArray]
      exact List.take_left' (by have h1 := hcl; have h2 := hvl; rw [List.length_append]; omega)
    · exact ((Below.refl w.heap.size w).drew).alloc (Nat.le_refl _) _
    · exact heap_alloc_new w _
end Go.Proofs.YtdjdillppgijmaaDoor.Qs
