/- slices.Clone of a row of numbers: a new row. -/
import Derived.Test.YtdjdillppgijmaaDoorPlRows
import Derived.Test.YtdjdillppgijmaaDoorQpx0
import Derived.Lib.Hide
import Derived.Lib.SliceRun
set_option linter.unusedVariables false
set_option linter.unusedSimpArgs false
namespace Go.Proofs.YtdjdillppgijmaaDoor.Qp
open Go.RowKit Go.Lib Go.Proofs.YtdjdillppgijmaaDoorW.PrintWords Go.Proofs.YtdjdillppgijmaaDoorW.PrintLast Go.Proofs.YtdjdillppgijmaaDoorW.PrintMore

theorem reads_ints {w : World} {ad : Addr} {xs : List Int} (h : Kd.C (Kd.int .i64) w (some ad) xs.length xs) : ∀ j u, (xs.map (Value.int .i64))[j]? = some u → w.cell? (ad.add j) = some u := by
  intro j u hu
  have hj : j < xs.length := by
    have := (List.getElem?_eq_some_iff.1 hu).1
    rwa [List.length_map] at this
  obtain ⟨ad', e, hc⟩ := Kd.at_int h (j : Int) (by omega) (by omega)
  cases e
  rw [Int.toNat_natCast] at hc
  rw [List.getElem?_map, List.getElem?_eq_getElem hj] at hu
  cases hu
  rw [hc]
  unfold rd
  rw [Int.toNat_natCast, List.getD_eq_getElem?_getD, List.getElem?_eq_getElem hj]
  rfl
theorem ints_one (xs : List Int) : ∀ u ∈ xs.map (Value.int .i64), u.oneCell' = true := by
  intro u hu
  obtain ⟨x, _, rfl⟩ := List.mem_map.1 hu
  rfl

def slices_Clone_int64_int64.f (l0 : List Int) : Option (List Int) := if l0.length ≤ 1000000000 then some l0 else none
set_option maxHeartbeats 4000000 in
set_option maxRecDepth 100000 in
theorem clonei_some (ad : Addr) (c0 : Nat) (l0 : List Int) (w : World) (hr0 : Kd.C (Kd.int .i64) w (some ad) l0.length l0) (hl9 : l0.length ≤ 1000000000) :
    Calls Tryd.prog 109 #[.slice (some ad) l0.length c0] w fun e w' => ∃ v0_ : Value, e = .returned v0_ ∧ Kd.R (Kd.int .i64) 2 w' w.heap.size (fun _ => True) v0_ l0 ∧ Below w.heap.size w w' := by
  have hu27 := Tryd.underlying27
  have hnil : ∀ W, (binOp .eql 27 (.slice (some ad) l0.length c0) (.slice none 0 0)).run Tryd.prog W = .ok (.bool false) W := fun W => Lib.run_eql_slice_nil W 27 2 (some ad) l0.length c0 0 0 hu27
  obtain ⟨i0, hi0, hz0, hzs, hzb⟩ := info_parts Rw.info2
  have hl : (l0.map (Value.int .i64)).length = l0.length * 1 := by simp
  have hcell := reads_ints hr0
  have hcell1 : ∀ j u, (l0.map (Value.int .i64))[j]? = some u → (w.alloc (.cells #[] 2)).cell? (ad.add j) = some u := fun j u hu => (((Below.refl w.heap.size w).alloc (Nat.le_refl _) (.cells #[] 2)).cell (World.block_lt_of_cell? w _ (hcell j u hu))).trans (hcell j u hu)
  have hs : Src Tryd.prog i0.size 27 (.slice (some ad) l0.length c0) l0.length (l0.map (Value.int .i64)) (w.alloc (.cells #[] 2)) := by rw [hzs]; exact Src.ofSlice _ hu27 ad l0.length c0 _ hl hcell1 (ints_one l0)
  have hb0 : Below w.heap.size w (w.alloc (.cells #[] 2)) := (Below.refl w.heap.size w).alloc (Nat.le_refl _) _
  by_cases h0 : l0.length = 0
  · have hE : l0 = [] := List.length_eq_zero_iff.1 h0
    subst hE
    have hrun : ∀ ty, (Builtin.append_ #[27, 27] ty #[.slice (some ⟨w.heap.size, 0, none⟩) 0 0, .slice (some ad) 0 c0]).run Tryd.prog (w.alloc (.cells #[] 2)) =
        .ok (.slice (some ⟨w.heap.size, 0, none⟩) 0 0) (w.alloc (.cells #[] 2)) := fun ty =>
      run_append_room_src (w := w.alloc (.cells #[] 2)) 27 27 ty 2 i0 hu27 hi0 w.heap.size 0 0 0 _ 0 [] hs (Nat.le_refl _) (fun j hj => by cases hj) (fun j hj => by cases hj)
    clear hs hcell hcell1
    simp only [List.length_nil] at hnil
    rw [List.length_nil]
    go_enter Tryd.func109, Tryd.ntmps109
    go_wp2_with (at_builtin; refine Lib.wpList_append_run _ rfl _ _ _ _ rfl _ _ rfl rfl _ _ (hrun _) ?_)
    go_ret
    refine ⟨_, rfl, ?_, hb0⟩
    exact Rw.int_mk (base := w.heap.size) (ok := fun _ => True) (xs := []) w.heap.size 0 #[] (Nat.le_refl _) trivial (heap_alloc_new w _) (Nat.le_refl _) (Nat.zero_le _) rfl rfl
  · have hold : (Builtin.firstCells i0.size 0 (.slice (some ⟨w.heap.size, 0, none⟩) 0 0)).run Tryd.prog (w.alloc (.cells #[] 2)).drew = .ok ([] : List Value).toArray (w.alloc (.cells #[] 2)).drew := by
      rw [hzs]
      exact run_firstCells_some _ 1 0 ⟨w.heap.size, 0, none⟩ 0 0 [] rfl (fun j v h => by cases h)
    obtain ⟨G, hG⟩ : ∃ G, G = grownCap (w.alloc (.cells #[] 2)) (0 + l0.length) 0 2 := ⟨_, rfl⟩
    have hGn : l0.length ≤ G := by have := grownCap_ge (w.alloc (.cells #[] 2)) (0 + l0.length) 0 2; omega
    have hGm : G ≤ maxLen := by rw [hG]; exact grownCap_le_maxLen _ (0 + l0.length) 0 2 (by unfold maxLen; omega)
    have hrun : ∀ ty, (Builtin.append_ #[27, 27] ty #[.slice (some ⟨w.heap.size, 0, none⟩) 0 0, .slice (some ad) l0.length c0]).run Tryd.prog (w.alloc (.cells #[] 2)) =
        .ok (.slice (some ⟨(w.alloc (.cells #[] 2)).heap.size, 0, none⟩) l0.length G) ((w.alloc (.cells #[] 2)).drew.alloc (.cells ((l0.map (Value.int .i64)).toArray ++ Builtin.zeroCells (Value.cells (.int .i64 0)) (G - l0.length)) 2)) := fun ty => by
      have h := run_append_grow_src (w := w.alloc (.cells #[] 2)) 27 27 ty 2 i0 _ hu27 hi0 hz0 (some ⟨w.heap.size, 0, none⟩) 0 0 [] hold _ l0.length (l0.map (Value.int .i64)) hs (by omega) (by omega) (by rw [hzb]; exact growslice_fits (by omega) (by omega))
      rw [← hG, List.nil_append, Nat.zero_add] at h
      exact h
    obtain ⟨ROW, hROW⟩ : ∃ R : Array Value, R = (l0.map (Value.int .i64)).toArray ++ Builtin.zeroCells (Value.cells (.int .i64 0)) (G - l0.length) := ⟨_, rfl⟩
    rw [← hROW] at hrun
    have HR := Lib.hid hROW
    have hRs : ROW.size = G * 1 := by rw [hROW, Array.size_append, Rw.zero_cells]; simp; omega
    clear hG hROW hold hcell hcell1 hs
    go_enter Tryd.func109, Tryd.ntmps109
    go_wp2_with (at_builtin; refine Lib.wpList_append_run _ rfl _ _ _ _ rfl _ _ rfl rfl _ _ (hrun _) ?_)
    go_ret
    refine ⟨_, rfl, ?_, (hb0.drew).alloc hb0.size _⟩
    have hR := Rw.int_mk (base := w.heap.size) (ok := fun _ => True) (xs := l0) (w.alloc (.cells #[] 2)).heap.size G ROW hb0.size trivial (heap_alloc_new (w.alloc (.cells #[] 2)).drew _) hGn hGm hRs (by rw [HR.out, Array.toList_append, List.toList_toArray]; exact List.take_left' (by simp))
    rw [World.size_alloc] at hR
    exact hR

set_option maxHeartbeats 4000000 in
set_option maxRecDepth 100000 in
theorem slices_Clone_int64_int64.calls (A0 : Option Addr) (c0 : Nat) (l0 : List Int) (r : List Int) (w : World) (hr0 : Kd.C (Kd.int .i64) w A0 l0.length l0) (hc0 : l0.length ≤ c0) (h : slices_Clone_int64_int64.f l0 = some r) :
    Calls Tryd.prog 109 #[.slice A0 l0.length c0] w fun e w' => ∃ v0_ : Value, e = .returned v0_ ∧ Kd.R (Kd.int .i64) 2 w' w.heap.size (fun _ => True) v0_ r ∧ Below w.heap.size w w' := by
  unfold slices_Clone_int64_int64.f at h
  split at h
  case isFalse => cases h
  case isTrue hc =>
  obtain rfl := Option.some.inj h
  cases A0 with
  | some ad => exact clonei_some ad c0 l0 w hr0 hc
  | none =>
    have hE : l0 = [] := by
      by_cases h0 : 0 < l0.length
      · obtain ⟨ad, e, _⟩ := hr0.2.2 h0
        cases e
      · exact List.length_eq_zero_iff.1 (by omega)
    subst hE
    have hu27 := Tryd.underlying27
    have hnil : ∀ W, (binOp .eql 27 (.slice none 0 c0) (.slice none 0 0)).run Tryd.prog W = .ok (.bool true) W := fun W => Lib.run_eql_slice_nil W 27 2 none 0 c0 0 0 hu27
    go_enter Tryd.func109, Tryd.ntmps109
    go_wp2
    go_ret
    exact ⟨_, rfl, Kd.R_nil _ _ _ _ _, Below.refl _ _⟩
end Go.Proofs.YtdjdillppgijmaaDoor.Qp
