/- slices.Insert of one item into a row of items (four cells each): the four ways, cell by cell. -/
import Derived.Test.YtdjdillppgijmaaDoorQsx0
import Derived.Shelf.Spec.SlicesInsertGrow
import Derived.Laws.CopyRow
import Derived.Lib.Hide
set_option linter.unusedVariables false
set_option linter.unusedSimpArgs false
namespace Go.Proofs.YtdjdillppgijmaaDoor.Qs
open Go.RowKit Go.Lib Go.Proofs.YtdjdillppgijmaaDoorW.PrintWords Go.Proofs.YtdjdillppgijmaaDoorW.PrintLast Go.Proofs.YtdjdillppgijmaaDoorW.PrintMore

theorem size34 : (Tryd.prog.info? 34).map (·.size) = some 4 := by kernel_rfl
/-- copy, where an element has four cells. -/
theorem run_copy4 (w : World) (dT sT ty : TypeId) (g o dLen dCap : Nat) (a : Addr) (sLen sCap : Nat) (cur : Array Value) (t : TypeId) (cs : List Value)
    (hu : Tryd.prog.underlying dT = some (.slice 34)) (hg : w.heap[g]? = some (.cells cur t (0, 0))) (hn : cs.length = Nat.min sLen dLen * 4)
    (hsrc : ∀ j v, cs[j]? = some v → w.cell? (a.add j) = some v) (hfit : o + cs.length ≤ cur.size) (h1 : ∀ v ∈ cs, v.oneCell' = true) :
    (Builtin.copy_ #[dT, sT] ty #[.slice (some ⟨g, o, none⟩) dLen dCap, .slice (some a) sLen sCap]).run Tryd.prog w =
      .ok (goInt (Nat.min sLen dLen)) (w.setRow g (cur.toList.take o ++ cs ++ cur.toList.drop (o + cs.length)).toArray) := by
  have hl := run_loadCells_list (P := Tryd.prog) w a cs hsrc
  have hst := run_storeCells_at Tryd.prog g o t cs 0 cur w hg (by simpa using hfit) h1
  have hs := size34
  cases hq : Tryd.prog.info? 34 with
  | none => simp [hq] at hs
  | some i =>
    have hi : i.size = 4 := by simpa [hq] using hs
    simp [Builtin.copy_, run_underlying hu, Builtin.lenOf, Builtin.firstCells, sizeOf, typeInfo, hq, hi, ← hn, hl, hst]

theorem run_size34 (w : World) : (sizeOf 34).run Tryd.prog w = .ok 4 w := by
  have hs := size34
  cases hq : Tryd.prog.info? 34 with
  | none => simp [hq] at hs
  | some i =>
    have hi : i.size = 4 := by simpa [hq] using hs
    simp [sizeOf, typeInfo, hq, hi]
theorem cell_row {w : World} {g o : Nat} {cur : Array Value} {t : TypeId} {fz : Nat × Nat} (hg : w.heap[g]? = some (.cells cur t fz)) (j : Nat) : w.cell? ⟨g, j, none⟩ = cur.toList[j]? := by simp [World.cell?, hg]

theorem cell_setRow_ne {w : World} {g gv j : Nat} (cur : Array Value) (h : gv ≠ g) : (w.setRow g cur).cell? ⟨gv, j, none⟩ = w.cell? ⟨gv, j, none⟩ := by
  simp [World.cell?, World.setRow, Array.getElem?_modify, Ne.symm h]
theorem shift_list (n i cap : Nat) (hi : i < n) (hroom : n + 1 ≤ cap) (cur cs vs : List Value) (hsz : cur.length = cap * 4) (hcl : cs.length = n * 4) (htk : cur.take (n * 4) = cs) (hvl : vs.length = 4) :
    List.take (i * 4) (List.take ((i + 1) * 4) cur ++ List.drop (i * 4) cs ++ List.drop ((i + 1) * 4 + (List.drop (i * 4) cs).length) cur) ++ vs ++
      List.drop (i * 4 + vs.length) (List.take ((i + 1) * 4) cur ++ List.drop (i * 4) cs ++ List.drop ((i + 1) * 4 + (List.drop (i * 4) cs).length) cur) =
    List.take (i * 4) cs ++ vs ++ (List.drop (i * 4) cs ++ List.drop ((n + 1) * 4) cur) := by
  have h1 : List.take (i * 4) (List.take ((i + 1) * 4) cur ++ List.drop (i * 4) cs ++ List.drop ((i + 1) * 4 + (List.drop (i * 4) cs).length) cur) = List.take (i * 4) cs := by
    rw [List.append_assoc, List.take_append_of_le_length (by rw [List.length_take]; omega), List.take_take, ← htk, List.take_take]
    congr 1; omega
  have h2 : List.drop (i * 4 + vs.length) (List.take ((i + 1) * 4) cur ++ List.drop (i * 4) cs ++ List.drop ((i + 1) * 4 + (List.drop (i * 4) cs).length) cur) = List.drop (i * 4) cs ++ List.drop ((n + 1) * 4) cur := by
    rw [List.append_assoc, List.drop_left' (by rw [List.length_take]; omega)]
    congr 2
    rw [List.length_drop]; omega
  rw [h1, h2]
set_option maxHeartbeats 4000000 in
set_option maxRecDepth 100000 in
theorem ins_shift (g gv cap capv n i : Nat) (cur curv : Array Value) (cs vs : List Value) (w : World) (hi : i < n) (hroom : n + 1 ≤ cap) (hc63 : cap ≤ 9223372036854775807)
    (hg : w.heap[g]? = some (.cells cur 34 (0, 0))) (hgv : w.heap[gv]? = some (.cells curv 34 (0, 0))) (hne : gv ≠ g) (hsz : cur.size = cap * 4) (hszv : 4 ≤ curv.size)
    (hcl : cs.length = n * 4) (htk : cur.toList.take (n * 4) = cs) (hvl : vs.length = 4) (htv : curv.toList.take 4 = vs) (h1c : ∀ v ∈ cs, v.oneCell' = true) (h1v : ∀ v ∈ vs, v.oneCell' = true) :
    Calls Tryd.prog 128 #[.slice (some ⟨g, 0, none⟩) n cap, .int .i64 i, .slice (some ⟨gv, 0, none⟩) 1 capv] w fun e w' =>
      e = .returned (.slice (some ⟨g, 0, none⟩) (n + 1) cap) ∧ ∃ d, w' = { w with drawn := d }.setRow g (cs.take (i * 4) ++ vs ++ (cs.drop (i * 4) ++ cur.toList.drop ((n + 1) * 4))).toArray := by
  have hu24 := Tryd.underlying24
  have hz1 : ¬ ((1 : Int) = 0) := by omega
  have hz2 : ¬ ((i : Int) = (n : Int)) := by omega
  have hcs : ∀ j v, cs[j]? = some v → w.cell? ⟨g, j, none⟩ = some v := fun j v h => by
    rw [cell_row (o := 0) hg]; rw [← htk, List.getElem?_take] at h; split at h
    · exact h
    · cases h
  have hvs : ∀ j v, vs[j]? = some v → w.cell? ⟨gv, j, none⟩ = some v := fun j v h => by
    rw [cell_row (o := 0) hgv]; rw [← htv, List.getElem?_take] at h; split at h
    · exact h
    · cases h
  have hsa : w.shape? gv = some (34, curv.size) := by simp [World.shape?, hgv]
  have hsb : w.shape? g = some (34, cur.size) := by simp [World.shape?, hg]
  have hfa : w.frozen? ⟨gv, 0, none⟩ = false := by simp [World.frozen?, hgv]
  have hfe : w.frozen? ⟨gv, curv.size, none⟩ = false := by simp [World.frozen?, hgv]
  have hov : ∀ lb cb, (callFunc 189 #[.slice (some ⟨gv, 0, none⟩) 1 capv, .slice (some ⟨g, (i + 1) * 4, none⟩) lb cb]).run Tryd.prog w = .ok (.value (.bool false)) w := fun lb cb => by
    rw [run_callFunc_extern Tryd.func189 (by kernel_rfl) (by kernel_rfl) (by kernel_rfl) (e := Extern.SlicesOverlaps.overlaps #[24, 24] #[4]) (by kernel_rfl),
      run_overlaps_apart w 24 4 34 hu24 4 run_size34 ⟨gv, 0, none⟩ ⟨g, (i + 1) * 4, none⟩ 1 capv lb cb hne 34 34 _ _ hsa hsb (by omega) hfa hfe]
    rfl
  have hdl : (cs.drop (i * 4)).length = (n - i) * 4 := by rw [List.length_drop, hcl]; omega
  have hcp1 : ∀ ty dc sc, (Builtin.copy_ #[24, 24] ty #[.slice (some ⟨g, (i + 1) * 4, none⟩) (n - i) dc, .slice (some ⟨g, i * 4, none⟩) (n + 1 - i) sc]).run Tryd.prog w.drew =
      .ok (goInt (Nat.min (n + 1 - i) (n - i))) (w.drew.setRow g (cur.toList.take ((i + 1) * 4) ++ cs.drop (i * 4) ++ cur.toList.drop ((i + 1) * 4 + (cs.drop (i * 4)).length)).toArray) := fun ty dc sc =>
    run_copy4 w.drew _ _ ty g ((i + 1) * 4) (n - i) dc ⟨g, i * 4, none⟩ (n + 1 - i) sc cur 34 (cs.drop (i * 4)) hu24 hg (by rw [hdl]; simp only [Nat.min_def]; split <;> omega)
      (fun j v hj => by rw [Addr.add_lit]; exact hcs (i * 4 + j) v (by rwa [List.getElem?_drop] at hj)) (by rw [hdl, hsz]; omega) (fun v hv => h1c v (List.mem_of_mem_drop hv))
  obtain ⟨cur1, hcur1⟩ : ∃ c, c = (cur.toList.take ((i + 1) * 4) ++ cs.drop (i * 4) ++ cur.toList.drop ((i + 1) * 4 + (cs.drop (i * 4)).length)).toArray := ⟨_, rfl⟩
  rw [← hcur1] at hcp1
  have hs1 : cur1.size = cur.size := by
    rw [hcur1]; simp; rw [hcl]; omega
  have hg1 : ∀ d, ({ w with drawn := d }.setRow g cur1).heap[g]? = some (.cells cur1 34 (0, 0)) := fun d => setRow_heap _ g cur _ 34 _ hg
  have hgv1 : ∀ j v, vs[j]? = some v → (w.drew.setRow g cur1).cell? ⟨gv, j, none⟩ = some v := fun j v h => by
    rw [cell_setRow_ne _ hne]; exact hvs j v h
  have hcp2 : ∀ ty dc, (Builtin.copy_ #[24, 24] ty #[.slice (some ⟨g, i * 4, none⟩) (n + 1 - i) dc, .slice (some ⟨gv, 0, none⟩) 1 capv]).run Tryd.prog (w.drew.setRow g cur1) =
      .ok (goInt (Nat.min 1 (n + 1 - i))) ((w.drew.setRow g cur1).setRow g (cur1.toList.take (i * 4) ++ vs ++ cur1.toList.drop (i * 4 + vs.length)).toArray) := fun ty dc =>
    run_copy4 _ _ _ ty g (i * 4) (n + 1 - i) dc ⟨gv, 0, none⟩ 1 capv cur1 34 vs hu24 (hg1 (w.drawn + 1)) (by rw [hvl]; simp only [Nat.min_def]; split <;> omega)
      (fun j v hj => by rw [Addr.add_lit, Nat.zero_add]; exact hgv1 j v hj) (by rw [hvl, hs1, hsz]; omega) h1v
  have mixed : Tryd.prog.follows .mixedOrders = true := by kernel_rfl
  have hw1 : IntKind.i64.wrap ((i : Int) + 1) = (i : Int) + 1 := by rw [IntKind.wrap_i64]; omega
  have hb1 : (0 : Int) ≤ (i : Int) + 1 := by omega
  have hin : i ≤ n := by omega
  have htn : ((i : Int) + 1).toNat = i + 1 := by omega
  have hb2 : ¬ (cap = i + 1) := by omega
  have hb3 : (i : Int) ≤ (n : Int) + 1 := by omega
  have hb4 : ¬ (cap = i) := by omega
  have hb5 : (n + 1 - (i + 1)) = n - i := by omega
  have HC1 := Lib.hid hcur1
  clear hcur1 hg1 hcs hvs hsa hsb hfa hfe hdl hgv1 htv h1c h1v hszv hs1
  go_enter Tryd.func128, Tryd.ntmps128
  go_wp2_with (simp only [hov])
  go_region_law_o (refine step_copy_runI rfl _ _ 24 24 rfl _ _ (by simp [Act.eval, Act.put]) (by simp [Act.eval, Act.put]) (hcp1 _ _ _) ?_)
  go_wp2_with (at_builtin; refine wpList_copy_runI _ rfl _ _ 24 24 rfl _ _ rfl rfl (hcp2 _ _) ?_)
  go_ret
  refine ⟨rfl, w.drawn + 1, ?_⟩
  rw [setRow_setRow, ← List.append_assoc, HC1.out, List.toList_toArray]
  exact congrArg (fun l : List Value => w.drew.setRow g l.toArray) (by have h := shift_list n i cap hi hroom cur.toList cs vs (by simpa using hsz) hcl htk hvl; rwa [hvl] at h)

end Go.Proofs.YtdjdillppgijmaaDoor.Qs
