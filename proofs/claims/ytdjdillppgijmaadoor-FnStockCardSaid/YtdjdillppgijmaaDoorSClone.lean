/- slices.Clone of a row of items that is not empty: a new row. -/
import Derived.Test.YtdjdillppgijmaaDoorSInsert
set_option linter.unusedVariables false
set_option linter.unusedSimpArgs false
namespace Go.Proofs.YtdjdillppgijmaaDoor.Qs
open Go.RowKit Go.Lib Go.Proofs.YtdjdillppgijmaaDoorW.PrintWords Go.Proofs.YtdjdillppgijmaaDoorW.PrintLast Go.Proofs.YtdjdillppgijmaaDoorW.PrintMore

theorem reads_flat {w : World} {A : Option Addr} {xs : List S34} (h : Kd.C k34 w A xs.length xs) (h0 : 0 < xs.length) : ∃ ad, A = some ad ∧ ∀ j u, (flat4 xs)[j]? = some u → w.cell? (ad.add j) = some u := by
  obtain ⟨_, _, hc⟩ := h
  obtain ⟨ad, e, hc⟩ := hc h0
  refine ⟨ad, e, fun j u hu => ?_⟩
  have hj : j < xs.length * 4 := by
    have := (List.getElem?_eq_some_iff.1 hu).1
    rwa [flat4_length] at this
  have hq : j / 4 < xs.length := by omega
  obtain ⟨c, _, hK, hcell⟩ := hc (j / 4) _ (List.getElem?_eq_getElem hq)
  have hce : c = enc4 xs[j / 4] := k34_open hK
  have h2 := flat4_get xs (j / 4) _ (List.getElem?_eq_getElem hq)
  have := hcell (j % 4) u (by
    rw [hce, ← h2, List.getElem?_take_of_lt (by omega), List.getElem?_drop, show j / 4 * 4 + j % 4 = j by omega]
    exact hu)
  rwa [show j / 4 * k34.sz + j % 4 = j by show j / 4 * 4 + j % 4 = j; omega] at this

theorem reads_flat0 {w : World} {ad : Addr} {xs : List S34} (h : Kd.C k34 w (some ad) xs.length xs) : ∀ j u, (flat4 xs)[j]? = some u → w.cell? (ad.add j) = some u := by
  by_cases h0 : 0 < xs.length
  · obtain ⟨ad', e, hc⟩ := reads_flat h h0
    obtain rfl := Option.some.inj e
    exact hc
  · have : xs = [] := List.length_eq_zero_iff.1 (by omega)
    subst this
    exact fun j u hu => by cases hu

def impl_Item_126.f (l0 : List S34) : Option (List S34) := if l0.length ≤ 1000000000 then some l0 else none
set_option maxHeartbeats 4000000 in
set_option maxRecDepth 100000 in
theorem clone_some (ad : Addr) (c0 : Nat) (l0 : List S34) (w : World) (hr0 : Kd.C k34 w (some ad) l0.length l0) (hl9 : l0.length ≤ 1000000000) :
    Calls Tryd.prog 126 #[.slice (some ad) l0.length c0] w fun e w' => ∃ v0_ : Value, e = .returned v0_ ∧ Kd.R k34 34 w' w.heap.size (fun _ => True) v0_ l0 ∧ Below w.heap.size w w' := by
  have hu24 := Tryd.underlying24
  have hnil : ∀ W, (binOp .eql 24 (.slice (some ad) l0.length c0) (.slice none 0 0)).run Tryd.prog W = .ok (.bool false) W := fun W => Lib.run_eql_slice_nil W 24 34 (some ad) l0.length c0 0 0 hu24
  obtain ⟨i0, hi0, hz0, hzs, hzb⟩ := info34'
  have hl := flat4_length l0
  have hcell := reads_flat0 hr0
  have hcell1 : ∀ j u, (flat4 l0)[j]? = some u → (w.alloc (.cells #[] 34)).cell? (ad.add j) = some u := fun j u hu => (((Below.refl w.heap.size w).alloc (Nat.le_refl _) (.cells #[] 34)).cell (World.block_lt_of_cell? w _ (hcell j u hu))).trans (hcell j u hu)
  have hs : Src Tryd.prog i0.size 24 (.slice (some ad) l0.length c0) l0.length (flat4 l0) (w.alloc (.cells #[] 34)) := by rw [hzs]; exact Src.ofSlice _ hu24 ad l0.length c0 (flat4 l0) hl hcell1 (flat4_one l0)
  have hb0 : Below w.heap.size w (w.alloc (.cells #[] 34)) := (Below.refl w.heap.size w).alloc (Nat.le_refl _) _
  by_cases h0 : l0.length = 0
  · have hE : l0 = [] := List.length_eq_zero_iff.1 h0
    subst hE
    have hrun : ∀ ty, (Builtin.append_ #[24, 24] ty #[.slice (some ⟨w.heap.size, 0, none⟩) 0 0, .slice (some ad) 0 c0]).run Tryd.prog (w.alloc (.cells #[] 34)) =
        .ok (.slice (some ⟨w.heap.size, 0, none⟩) 0 0) (w.alloc (.cells #[] 34)) := fun ty =>
      run_append_room_src (w := w.alloc (.cells #[] 34)) 24 24 ty 34 i0 hu24 hi0 w.heap.size 0 0 0 _ 0 [] hs (Nat.le_refl _) (fun j hj => by cases hj) (fun j hj => by cases hj)
    clear hs hcell hcell1
    simp only [List.length_nil] at hnil
    rw [List.length_nil]
    go_enter Tryd.func126, Tryd.ntmps126
    go_wp2_with (at_builtin; refine Lib.wpList_append_run _ rfl _ _ _ _ rfl _ _ rfl rfl _ _ (hrun _) ?_)
    go_ret
    refine ⟨_, rfl, ?_, hb0⟩
    exact row_mk (base := w.heap.size) (ok := fun _ => True) (xs := []) w.heap.size 0 #[] (Nat.le_refl _) trivial (heap_alloc_new w _) (Nat.le_refl _) (Nat.zero_le _) rfl rfl
  · have hold : (Builtin.firstCells i0.size 0 (.slice (some ⟨w.heap.size, 0, none⟩) 0 0)).run Tryd.prog (w.alloc (.cells #[] 34)).drew = .ok ([] : List Value).toArray (w.alloc (.cells #[] 34)).drew := by
      rw [hzs]
      exact run_firstCells_some _ 4 0 ⟨w.heap.size, 0, none⟩ 0 0 [] rfl (fun j v h => by cases h)
    obtain ⟨G, hG⟩ : ∃ G, G = grownCap (w.alloc (.cells #[] 34)) (0 + l0.length) 0 34 := ⟨_, rfl⟩
    have hGn : l0.length ≤ G := by have := grownCap_ge (w.alloc (.cells #[] 34)) (0 + l0.length) 0 34; omega
    have hGm : G ≤ maxLen := by rw [hG]; exact grownCap_le_maxLen _ (0 + l0.length) 0 34 (by unfold maxLen; omega)
    have hrun : ∀ ty, (Builtin.append_ #[24, 24] ty #[.slice (some ⟨w.heap.size, 0, none⟩) 0 0, .slice (some ad) l0.length c0]).run Tryd.prog (w.alloc (.cells #[] 34)) =
        .ok (.slice (some ⟨(w.alloc (.cells #[] 34)).heap.size, 0, none⟩) l0.length G) ((w.alloc (.cells #[] 34)).drew.alloc (.cells ((flat4 l0).toArray ++ zc (G - l0.length)) 34)) := fun ty => by
      have h := run_append_grow_src (w := w.alloc (.cells #[] 34)) 24 24 ty 34 i0 _ hu24 hi0 hz0 (some ⟨w.heap.size, 0, none⟩) 0 0 [] hold _ l0.length (flat4 l0) hs (by omega) (by omega) (by rw [hzb]; exact growslice_fits (by omega) (by omega))
      rw [← hG, List.nil_append, Nat.zero_add] at h
      exact h
    obtain ⟨ROW, hROW⟩ : ∃ R : Array Value, R = (flat4 l0).toArray ++ zc (G - l0.length) := ⟨_, rfl⟩
    rw [← hROW] at hrun
    have HR := Lib.hid hROW
    have hRs : ROW.size = G * 4 := by rw [hROW]; simp [zc_size]; rw [hl]; omega
    clear hG hROW hold hcell hcell1 hs
    go_enter Tryd.func126, Tryd.ntmps126
    go_wp2_with (at_builtin; refine Lib.wpList_append_run _ rfl _ _ _ _ rfl _ _ rfl rfl _ _ (hrun _) ?_)
    go_ret
    refine ⟨_, rfl, ?_, (hb0.drew).alloc hb0.size _⟩
    have hR := row_mk (base := w.heap.size) (ok := fun _ => True) (xs := l0) (w.alloc (.cells #[] 34)).heap.size G ROW hb0.size trivial (heap_alloc_new (w.alloc (.cells #[] 34)).drew _) hGn hGm hRs (by rw [HR.out, Array.toList_append, List.toList_toArray]; exact List.take_left' hl)
    rw [World.size_alloc] at hR
    exact hR

set_option maxHeartbeats 4000000 in
set_option maxRecDepth 100000 in
theorem impl_Item_126.calls (A0 : Option Addr) (c0 : Nat) (l0 : List S34) (r : List S34) (w : World) (hr0 : Kd.C k34 w A0 l0.length l0) (hc0 : l0.length ≤ c0) (h : impl_Item_126.f l0 = some r) :
    Calls Tryd.prog 126 #[.slice A0 l0.length c0] w fun e w' => ∃ v0_ : Value, e = .returned v0_ ∧ Kd.R k34 34 w' w.heap.size (fun _ => True) v0_ r ∧ Below w.heap.size w w' := by
  unfold impl_Item_126.f at h
  split at h
  case isFalse => cases h
  case isTrue hc =>
  obtain rfl := Option.some.inj h
  cases A0 with
  | some ad => exact clone_some ad c0 l0 w hr0 hc
  | none =>
    have hE : l0 = [] := by
      by_cases h0 : 0 < l0.length
      · obtain ⟨ad, e, _⟩ := reads_flat hr0 h0
        cases e
      · exact List.length_eq_zero_iff.1 (by omega)
    subst hE
    have hu24 := Tryd.underlying24
    have hnil : ∀ W, (binOp .eql 24 (.slice none 0 c0) (.slice none 0 0)).run Tryd.prog W = .ok (.bool true) W := fun W => Lib.run_eql_slice_nil W 24 34 none 0 c0 0 0 hu24
    go_enter Tryd.func126, Tryd.ntmps126
    go_wp2
    go_ret
    exact ⟨_, rfl, Kd.R_nil _ _ _ _ _, Below.refl _ _⟩
end Go.Proofs.YtdjdillppgijmaaDoor.Qs
