/- slices.Delete of a part of a row of numbers that is the call's own. -/
import Derived.Test.YtdjdillppgijmaaDoorSDueA
import Derived.Test.YtdjdillppgijmaaDoorShelfDel
import Derived.Shelf.SlicesE.Delete
set_option linter.unusedVariables false
set_option linter.unusedSimpArgs false
namespace Go.Proofs.YtdjdillppgijmaaDoor.Qo
open Go.Shelf Go.Lib Go.Sort Go.RowKit Go.Proofs.YtdjdillppgijmaaDoorW.PrintWords Go.Proofs.YtdjdillppgijmaaDoorW.PrintLast Go.Proofs.YtdjdillppgijmaaDoorW.PrintMore

def slices_Delete_int64_int64.f (l0 : List Int) (a1 a2 : Int) : Option (List Int) :=
  if 0 ≤ a1 ∧ a1 < a2 ∧ a2 ≤ l0.length then some (l0.take a1.toNat ++ l0.drop a2.toNat) else none

theorem slices_Delete_int64_int64.calls (P0_ : Nat → Prop) (u9000_ : Value) (l0 : List Int) (a1 a2 : Int) (r : List Int) (w0 w : World) (hB : RowKit.Below w0.heap.size w0 w) (ho0 : Kd.R (Kd.int .i64) 2 w w0.heap.size P0_ u9000_ l0) (h : slices_Delete_int64_int64.f l0 a1 a2 = some r) :
    Calls Tryd.prog 148 #[u9000_, .int .i64 a1, .int .i64 a2] w fun e w' => ∃ v0_ : Value, e = .returned v0_ ∧ Kd.R (Kd.int .i64) 2 w' w0.heap.size (fun k_ => (P0_ k_ ∨ w.heap.size ≤ k_)) v0_ r ∧ RowKit.Below w0.heap.size w0 w' ∧ Kept w w' (fun k_ => P0_ k_) := by
  unfold slices_Delete_int64_int64.f at h
  split at h
  case isFalse => cases h
  case isTrue hc =>
  obtain ⟨hc0, hc1, hc2⟩ := hc
  obtain rfl := Option.some.inj h
  obtain ⟨i, rfl⟩ : ∃ i : Nat, a1 = i := ⟨a1.toNat, by omega⟩
  obtain ⟨j, rfl⟩ : ∃ j : Nat, a2 = j := ⟨a2.toNat, by omega⟩
  rw [Int.toNat_natCast, Int.toNat_natCast]
  rcases int_open ho0 with ⟨rfl, rfl⟩ | ⟨g, cap, cur, rfl, hbase, hokg, hg, h1, h2, h3, h4⟩
  · simp at hc2; omega
  have hH : Holds (Value.int .i64) w g 0 l0.toArray := by
    intro k hk
    have hk' : k < l0.length := by simpa using hk
    have h5 : (cur.toList.take (l0.length * 1))[k]? = some (Value.int .i64 l0.toArray[k]!) := by
      rw [h4, List.getElem?_map, getElem!_pos _ k hk]
      simp [hk']
    rw [List.getElem?_take_of_lt (by omega), Array.getElem?_toList] at h5
    exact ⟨by simp [World.cell?, hg, h5], by simp [World.frozen?, hg]⟩
  have hi0 : Tryd.prog.info? 2 = some (Tryd.prog.info? 2).get! := by kernel_rfl
  have hcon := AnyE.slices_Delete Tryd.delI (Value.int .i64) (fun _ => rfl) (0 : Int) Tryd.zeroValue2 _ hi0 (by kernel_rfl) g 0 cap i j l0.toArray w hH (by simpa using h1) (by unfold maxLen at h2; omega) (by omega) (by simpa using (show j ≤ l0.length by omega))
  have hl : (l0.take i ++ l0.drop j).length = l0.length - (j - i) := by rw [List.length_append, List.length_take, List.length_drop]; omega
  refine hcon.mono ?_
  rintro e w' ⟨rfl, q, rfl⟩
  obtain ⟨d', hd'⟩ : ∃ d' : Array Int, d' = (l0.take i ++ l0.drop j ++ List.replicate (j - i) (0 : Int)).toArray := ⟨_, rfl⟩
  have hds : d'.size = l0.length := by rw [hd']; simp; omega
  have hw : putRow (Value.int .i64) (Sort.ahead w q) g 0 d' = sortWorld (Value.int .i64) w g 0 q d' #[] := by unfold sortWorld; rw [grow_empty]
  have hfin : Kd.R (Kd.int .i64) 2 (putRow (Value.int .i64) (Sort.ahead w q) g 0 d') w0.heap.size (fun k_ => (P0_ k_ ∨ w.heap.size ≤ k_)) (.slice (some ⟨g, 0, none⟩) (l0.length - (j - i)) cap) (l0.take i ++ l0.drop j) ∧ RowKit.Below w0.heap.size w0 (putRow (Value.int .i64) (Sort.ahead w q) g 0 d') ∧ Kept w (putRow (Value.int .i64) (Sort.ahead w q) g 0 d') (fun k_ => P0_ k_) := by
    rw [hw]
    refine ⟨?_, below_sort d' hB hbase, ⟨?_, fun k hk hs => heap_sort_other d' hk (fun e => hs (e ▸ hokg))⟩⟩
    · have ht := take_put (Value.int .i64) cur d' (by omega)
      rw [hds] at ht
      have := int_mk (w := sortWorld (Value.int .i64) w g 0 q d' #[]) (base := w0.heap.size) (ok := fun k_ => (P0_ k_ ∨ w.heap.size ≤ k_)) (xs := l0.take i ++ l0.drop j) g cap _ hbase (.inl hokg) (heap_sort d' hg) (by omega) h2 (by simp [putCells, h3]) (by
        rw [Nat.mul_one]
        have h9 := congrArg (List.take (l0.take i ++ l0.drop j).length) ht
        rw [List.take_take, Nat.min_eq_left (by omega)] at h9
        rw [h9, hd', List.toList_toArray, ← List.map_take, List.take_left' rfl])
      rwa [hl] at this
    · unfold sortWorld; rw [size_grow, Sort.size_putRow]; show w.heap.size ≤ w.heap.size + _; omega
  rw [hd'] at hfin
  refine ⟨_, rfl, ?_⟩
  have e1 : l0.toArray.size = l0.length := by simp
  rw [e1]
  exact hfin
end Go.Proofs.YtdjdillppgijmaaDoor.Qo
