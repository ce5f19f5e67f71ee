/- Rows of numbers of the call's own, as their blocks; an append of one number from wherever it lies. -/
import Derived.Test.YtdjdillppgijmaaDoorProg
import Derived.Test.YtdjdillppgijmaaDoorWWords
import Derived.Test.YtdjdillppgijmaaDoorWMore
import Derived.Deep.AppendSrc
import Derived.Sort.Row
import Derived.Laws.Rows
import Derived.Lib.AppendZeros
set_option linter.unusedVariables false
set_option linter.unusedSimpArgs false
namespace Go.Proofs.YtdjdillppgijmaaDoor.Rw
open Go.Lib Go.RowKit Go.Proofs.YtdjdillppgijmaaDoorW.PrintWords Go.Proofs.YtdjdillppgijmaaDoorW.PrintLast Go.Proofs.YtdjdillppgijmaaDoorW.PrintMore

theorem reps_int {w : World} {base : Nat} {ok : Nat → Prop} (xs : List Int) : Reps ((Kd.int .i64).M w base ok) 1 xs (xs.map (Value.int .i64)) := by
  refine ⟨by simp, fun j p hp => ?_⟩
  obtain ⟨hj, rfl⟩ := List.getElem?_eq_some_iff.1 hp
  show ((xs.map (Value.int .i64)).drop (j * 1)).take 1 = [Value.int .i64 xs[j]]
  rw [Nat.mul_one, List.drop_eq_getElem_cons (by simpa using hj)]
  simp
theorem reps_int_eq {w : World} {base : Nat} {ok : Nat → Prop} {xs : List Int} {cs : List Value} (h : Reps ((Kd.int .i64).M w base ok) 1 xs cs) : cs = xs.map (Value.int .i64) := by
  obtain ⟨hl, h⟩ := h
  apply List.ext_getElem?
  intro k
  by_cases hk : k < xs.length
  · have := h k _ (List.getElem?_eq_getElem hk)
    replace this : (cs.drop (k * 1)).take 1 = [Value.int .i64 xs[k]] := this
    have h0 : cs.drop k = cs[k]'(by omega) :: cs.drop (k + 1) := List.drop_eq_getElem_cons _
    rw [Nat.mul_one, h0] at this
    have h5 : cs[k]'(by omega) = Value.int .i64 xs[k] := (List.cons.inj this).1
    simp [List.getElem?_eq_getElem (show k < cs.length by omega), h5, hk]
  · rw [List.getElem?_eq_none (by omega), List.getElem?_eq_none (by simp; omega)]
/-- An own row of numbers, as its block. -/
theorem int_open {w : World} {base : Nat} {ok : Nat → Prop} {v : Value} {xs : List Int} (h : Kd.R (Kd.int .i64) 2 w base ok v xs) :
    (v = .slice none 0 0 ∧ xs = []) ∨ ∃ g cap cur, v = .slice (some ⟨g, 0, none⟩) xs.length cap ∧ base ≤ g ∧ ok g ∧ w.heap[g]? = some (.cells cur 2 (0, 0)) ∧ xs.length ≤ cap ∧ cap ≤ maxLen ∧ cur.size = cap * 1 ∧ cur.toList.take (xs.length * 1) = xs.map (Value.int .i64) := by
  obtain ⟨hok, inner, ⟨hl, ho⟩, hr⟩ := h
  have hf := reps_int_eq hr
  rcases ho with ⟨hv, hn⟩ | ⟨g, cap, cur, hv, hb, hg, h1, h2, h3, h4⟩
  · exact .inl ⟨hv, List.length_eq_zero_iff.1 hn⟩
  · exact .inr ⟨g, cap, cur, hv, hb, hok g (by rw [hv]; rfl), hg, h1, h2, h3, by rw [← hf]; exact h4⟩
theorem int_mk {w : World} {base : Nat} {ok : Nat → Prop} {xs : List Int} (g cap : Nat) (cur : Array Value) (hb : base ≤ g) (hok : ok g) (hg : w.heap[g]? = some (.cells cur 2 (0, 0))) (h1 : xs.length ≤ cap) (h2 : cap ≤ maxLen) (h3 : cur.size = cap * 1) (h4 : cur.toList.take (xs.length * 1) = xs.map (Value.int .i64)) :
    Kd.R (Kd.int .i64) 2 w base ok (.slice (some ⟨g, 0, none⟩) xs.length cap) xs :=
  ⟨fun k hk => (by have e : g = k := by simpa [Value.ownBlock] using hk
                   rwa [← e]), xs.map (Value.int .i64), ⟨by rw [List.length_map]; exact (Nat.mul_one _).symm, .inr ⟨g, cap, cur, rfl, hb, hg, h1, h2, h3, h4⟩⟩, reps_int xs⟩

theorem info2 : (Tryd.prog.info? 2).map (fun i => (i.zero, i.size, i.bytes)) = some (some (.int .i64 0), 1, 8) := by kernel_rfl
theorem zero_cells (n : Nat) : (Builtin.zeroCells (Value.cells (.int .i64 0)) n).size = n := by simp [Builtin.zeroCells, Value.cells]
theorem heap_setOne {w : World} {g o : Nat} {cur : Array Value} {t : TypeId} (v : Value) (hg : w.heap[g]? = some (.cells cur t (0, 0))) : (w.setCell ⟨g, o, none⟩ v).heap[g]? = some (.cells (cur.setIfInBounds o v) t (0, 0)) := by
  rw [Go.Sort.setCell_eq]
  simp [Go.Sort.mapBlock, Go.Sort.onCells, Array.getElem?_modify, hg]
theorem append_one (Wb w : World) (HB : Below Wb.heap.size Wb w) (v : Value) (xs : List Int) (HO : Kd.R (Kd.int .i64) 2 w Wb.heap.size (fun _ => True) v xs) (b : Nat) (x : Int) (hb : w.heap[b]? = some (.cells #[.int .i64 x] 2 (0, 0))) (hl : xs.length ≤ 1000000) :
    ∃ v1 w1, (∀ ty, (Builtin.append_ #[27, 27] ty #[v, .slice (some ⟨b, 0, none⟩) 1 1]).run Tryd.prog w = .ok v1 w1) ∧ Kd.R (Kd.int .i64) 2 w1 Wb.heap.size (fun _ => True) v1 (xs ++ [x]) ∧ Below Wb.heap.size Wb w1 := by
  obtain ⟨i0, hi0, hz0, hzs, hzb⟩ := info_parts info2
  have hu27 := Tryd.underlying27
  have hsrc : ∀ W : World, W.heap[b]? = some (.cells #[.int .i64 x] 2 (0, 0)) → Src Tryd.prog i0.size 27 (.slice (some ⟨b, 0, none⟩) 1 1) 1 [.int .i64 x] W := fun W hW => by
    refine Src.ofSlice _ hu27 ⟨b, 0, none⟩ 1 1 _ (by rw [hzs]; rfl) (fun j u hj => ?_) (fun u hu => ?_)
    · cases j with
      | zero => cases hj; rw [Addr.add_lit]; simp [World.cell?, hW]
      | succ j => cases hj
    · simp at hu; subst hu; rfl
  have grow : ∀ (olds : List Value) (base : Option Addr) (cap : Nat), olds = xs.map (Value.int .i64) → cap < xs.length + 1 → (Builtin.firstCells i0.size xs.length (.slice base xs.length cap)).run Tryd.prog w.drew = .ok olds.toArray w.drew →
      ∃ v1 w1, (∀ ty, (Builtin.append_ #[27, 27] ty #[.slice base xs.length cap, .slice (some ⟨b, 0, none⟩) 1 1]).run Tryd.prog w = .ok v1 w1) ∧ Kd.R (Kd.int .i64) 2 w1 Wb.heap.size (fun _ => True) v1 (xs ++ [x]) ∧ Below Wb.heap.size Wb w1 := by
    intro olds base cap ho hcap hold
    obtain ⟨G, hG⟩ : ∃ G, G = grownCap w (xs.length + 1) cap 2 := ⟨_, rfl⟩
    have hGn : xs.length + 1 ≤ G := by rw [hG]; exact grownCap_ge w (xs.length + 1) cap 2
    have hGm : G ≤ maxLen := by rw [hG]; exact grownCap_le_maxLen _ (xs.length + 1) cap 2 (by unfold maxLen; omega)
    refine ⟨_, _, fun ty => run_append_grow_src (w := w) 27 27 ty 2 i0 _ hu27 hi0 hz0 base xs.length cap olds hold _ 1 _ (hsrc w hb) hcap (by omega) (by rw [hzb]; exact growslice_fits (by omega) (by omega)), ?_, HB.drew.alloc HB.drew.size _⟩
    rw [← hG]
    have hlen : (xs ++ [x]).length = xs.length + 1 := by simp
    have := int_mk (w := w.drew.alloc (.cells ((olds ++ [Value.int .i64 x]).toArray ++ Builtin.zeroCells (Value.cells (.int .i64 0)) (G - (xs.length + 1))) 2)) (base := Wb.heap.size) (ok := fun _ => True) (xs := xs ++ [x]) w.heap.size G _ HB.size trivial (heap_alloc_new w.drew _) (by rw [hlen]; exact hGn) hGm (by rw [Array.size_append, zero_cells, ho]; simp; omega) (by
      rw [hlen, Nat.mul_one, ho, Array.toList_append, List.toList_toArray, List.map_append]
      exact List.take_left' (by simp))
    rw [hlen] at this
    exact this
  rcases int_open HO with ⟨rfl, rfl⟩ | ⟨g, cap, cur, rfl, hbase, _, hg, h1, h2, h3, h4⟩
  · exact grow [] none 0 rfl (by simp) (run_firstCells_none w.drew i0.size 0 0 0)
  · by_cases hroom : xs.length + 1 ≤ cap
    · have hoff : 0 + xs.length * i0.size = xs.length := by rw [hzs]; omega
      have hr := fun ty => run_append_room_src (w := w) 27 27 ty 2 i0 hu27 hi0 g 0 xs.length cap _ 1 _ (hsrc w hb) hroom (fun j hj => by
        simp at hj; subst hj
        rw [hoff]
        simp [World.cell?, hg]; omega) (fun j hj => by simp [World.frozen?, hg])
      rw [hoff] at hr
      refine ⟨_, _, hr, ?_, ?_⟩
      · show Kd.R (Kd.int .i64) 2 (w.setCell ⟨g, xs.length, none⟩ (.int .i64 x)) Wb.heap.size (fun _ => True) (.slice (some ⟨g, 0, none⟩) (xs.length + 1) cap) (xs ++ [x])
        have hlen : (xs ++ [x]).length = xs.length + 1 := by simp
        have := int_mk (w := w.setCell ⟨g, xs.length, none⟩ (.int .i64 x)) (base := Wb.heap.size) (ok := fun _ => True) (xs := xs ++ [x]) g cap _ hbase trivial (heap_setOne (.int .i64 x) hg) (by rw [hlen]; exact hroom) h2 (by simpa using h3) (by
          rw [hlen, Nat.mul_one, Array.toList_setIfInBounds, List.take_succ_eq_append_getElem (by simp; omega), List.take_set_of_le (Nat.le_refl _)]
          rw [Nat.mul_one] at h4
          rw [h4, List.map_append]
          simp)
        rw [hlen] at this
        exact this
      · exact HB.setCell (p := ⟨g, xs.length, none⟩) hbase _
    · refine grow _ (some ⟨g, 0, none⟩) cap rfl (by omega) (run_firstCells_some w.drew i0.size xs.length ⟨g, 0, none⟩ xs.length cap _ (by rw [List.length_map, hzs]; omega) (fun j u hj => ?_))
      have hj2 : j < xs.length := by have := (List.getElem?_eq_some_iff.1 hj).1; simpa using this
      have h5 : (cur.toList.take (xs.length * 1))[j]? = some u := by rw [h4]; exact hj
      rw [List.getElem?_take_of_lt (by omega), Array.getElem?_toList] at h5
      show (w.drew).cell? (Addr.add ⟨g, 0, none⟩ j) = some u
      rw [Addr.add_lit]
      show w.cell? ⟨g, 0 + j, none⟩ = some u
      simp [World.cell?, hg, h5]
/-- A step of a region that draws its order: an append whose run is known. -/
theorem append_ {P : Program} {ops : Array Oper} {oi : Oper} {N : Option Tmp} {a : Act} {w w1 : World} {v1 : Value} {K : Act → World → Prop} {Q : Exit → Act → World → Prop} (hw : Region.wanted oi (yielded ops a.tmps) = true) (hN : oi.dst = N) (s x : Operand) (t tn : TypeId)
    (ho : oi.op = .call { callee := .builtin .append, args := #[s, x], argTypes := #[t, tn] }) (vs vx : Value) (hs : a.eval s = vs) (hx : a.eval x = vx)
    (hr : (Builtin.append_ #[t, tn] oi.type #[vs, vx]).run P w = .ok v1 w1) (h : K (a.put N v1) w1) : if Region.wanted oi (yielded ops a.tmps) = true then Oper.wp P oi a w K Q else K (a.put N undef) w := by
  rw [if_pos hw]
  subst hN
  exact Lib.wp_append_run w s x t tn ho vs vx hs hx v1 w1 hr h
end Go.Proofs.YtdjdillppgijmaaDoor.Rw
