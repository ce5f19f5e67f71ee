/- earliestDue's comparison, and its row before and behind the sort. -/
import Derived.Test.YtdjdillppgijmaaDoorSStab
import Derived.Test.YtdjdillppgijmaaDoorPlSort
import Derived.Test.YtdjdillppgijmaaDoorQox0
import Derived.Sort.OwnSorted
set_option linter.unusedVariables false
set_option linter.unusedSimpArgs false
namespace Go.Proofs.YtdjdillppgijmaaDoor.Qo
open Go.Shelf Go.Lib Go.Sort Go.RowKit Go.Proofs.YtdjdillppgijmaaDoorW.PrintWords Go.Proofs.YtdjdillppgijmaaDoorW.PrintLast Go.Proofs.YtdjdillppgijmaaDoorW.PrintMore

/-- The day on which an order is due. -/
def keyO (l : List S149) (i : Nat) : Int := (rd_T149 l (i : Int)).f3
def dayOk (l : List S149) : Prop := ∀ i : Nat, i < l.length → 0 ≤ keyO l i ∧ keyO l i ≤ 20000

/-! ### The comparison -/
set_option maxHeartbeats 4000000 in
set_option maxRecDepth 100000 in
theorem less_call (l : List S149) (A0 : Option Addr) (c0 B x y : Nat) (W : World) (hb : W.cell? ⟨B, 0, none⟩ = some (.slice A0 l.length c0)) (hr : Kd.C k149 W A0 l.length l) (hd : dayOk l) (hx : x < l.length) (hy : y < l.length) :
    Calls Tryd.prog 195 #[.int .i64 x, .int .i64 y, .pointer (some ⟨B, 0, none⟩)] W fun e w' => e = .returned (.int .i64 (keyO l x - keyO l y)) ∧ ∃ n, w' = W.drewN n := by
  have hu149 := Tryd.underlying149
  have h1 := hd x hx
  have h2 := hd y hy
  obtain ⟨ad, e, _, _, _, hx3⟩ := at_T149 hr (x : Int) (by omega) (by omega)
  cases e
  obtain ⟨ad2, e, _, _, _, hy3⟩ := at_T149 hr (y : Int) (by omega) (by omega)
  cases e
  rw [show (rd_T149 l (x : Int)).f3 = keyO l x from rfl] at hx3
  rw [show (rd_T149 l (y : Int)).f3 = keyO l y from rfl] at hy3
  simp only [Int.toNat_natCast] at hx3 hy3
  have hsub : IntKind.i64.wrap (keyO l x - keyO l y) = keyO l x - keyO l y := by rw [IntKind.wrap_i64]; omega
  generalize keyO l x = kx at *
  generalize keyO l y = ky at *
  have p1 : (0 : Int) ≤ (x : Int) := by omega
  have p2 : (x : Int) < (l.length : Int) := by omega
  have p3 : (0 : Int) ≤ (y : Int) := by omega
  have p4 : (y : Int) < (l.length : Int) := by omega
  clear hr hd h1 h2
  go_enter Tryd.func195, Tryd.ntmps195
  go_wp2
  go_quiet (fail)
  go_wp2
  go_ret
  exact ⟨rfl, _, rfl⟩

/-! ### The sort's words at numbers below m + 1 -/
variable {m : Nat}
def encF (i : Fin (m + 1)) : Value := .int .i64 (i.val : Int)
def cfF (key : Nat → Int) (x y : Fin (m + 1)) : Int := key x.val - key y.val
def dueF (key : Nat → Int) (x y : Fin (m + 1)) : Bool := dueB key x.val y.val
theorem swo_due (key : Nat → Int) : SWO (dueF (m := m) key) := by
  refine ⟨fun x => ?_, fun x y z h1 h2 => ?_, fun x y z h1 h2 => ?_⟩
  · unfold dueF; rw [dueB_no]; unfold dueLt; omega
  · unfold dueF at *; rw [dueB_iff] at *; unfold dueLt at *; omega
  · unfold dueF at *; rw [dueB_no] at *; unfold dueLt at *; omega
def rowF (m : Nat) : Array (Fin (m + 1)) := Array.ofFn id
theorem rowF_size : (rowF m).size = m + 1 := by unfold rowF; simp
theorem rowF_get (j : Nat) (h : j < m + 1) : (rowF m)[j]! = ⟨j, h⟩ := by
  unfold rowF
  rw [getElem!_pos _ j (by simpa using h)]
  simp
theorem rising_due (key : Nat → Int) : Rising (ltOf (cfF key)) (dueF key) (rowF m) := by
  intro i j hij hj
  rw [rowF_size] at hj
  rw [rowF_get j hj, rowF_get i (by omega)]
  show decide (key j - key i < 0) = decide (key j < key i ∨ key j = key i ∧ j < i)
  rw [Bool.eq_iff_iff]
  simp only [decide_eq_true_eq]
  omega
theorem row_ints : (rowF m).toList.map encF = ((List.range (m + 1)).map (fun i : Nat => (i : Int))).map (Value.int .i64) := by
  apply List.ext_getElem?
  intro k
  by_cases h : k < m + 1
  · have h2 := rowF_get k h
    rw [getElem!_pos _ k (by rw [rowF_size]; exact h)] at h2
    simp [h, rowF_size, h2, encF]
  · rw [List.getElem?_eq_none (by simp [rowF_size]; omega), List.getElem?_eq_none (by simp; omega)]

/-- What is sorted is the order by days. -/
theorem sorted_due (key : Nat → Int) (d' : Array (Fin (m + 1))) (h : Sorted (dueF key) (rowF m) d') : d'.toList.map (·.val) = dueTo key (m + 1) := by
  obtain ⟨⟨hs, _, hp⟩, ho⟩ := h
  rw [rowF_size] at hs hp ho
  have e1 : ∀ z : Array (Fin (m + 1)), z.size = m + 1 → z.extract 0 (m + 1) = z := fun z hz => by
    apply Array.ext
    · simp [hz]
    · intro i h1 h2; simp
  rw [e1 _ hs, e1 _ rowF_size] at hp
  have hv : (rowF m).toList.map (·.val) = List.range (m + 1) := by
    apply List.ext_getElem?
    intro k
    by_cases h : k < m + 1
    · have h2 := rowF_get k h
      rw [getElem!_pos _ k (by rw [rowF_size]; exact h)] at h2
      simp [h, rowF_size, h2]
    · rw [List.getElem?_eq_none (by simp [rowF_size]; omega), List.getElem?_eq_none (by simp; omega)]
  have hp2 : (d'.toList.map (·.val)).Perm (List.range (m + 1)) := by rw [← hv]; exact hp.map _
  refine due_unique key (m + 1) _ hp2 ?_
  have hnd : (d'.toList.map (·.val)).Nodup := hp2.nodup_iff.2 List.nodup_range
  rw [List.pairwise_iff_getElem]
  intro i j hi hj hij
  have hne : (d'.toList.map (·.val))[i] ≠ (d'.toList.map (·.val))[j] := (List.pairwise_iff_getElem.1 hnd) i j hi hj hij
  simp only [List.length_map, Array.length_toList] at hi hj
  have h2 := ho i j (Nat.zero_le _) hij (by omega)
  rw [getElem!_pos _ i (by omega), getElem!_pos _ j (by omega)] at h2
  unfold dueF at h2
  rw [dueB_no] at h2
  simp only [List.getElem_map, Array.getElem_toList] at hne ⊢
  unfold dueLt at *
  omega

/-! ### The row in memory -/
theorem heap_sort {α : Type} [Inhabited α] {enc : α → Value} {w : World} {g n : Nat} {os : Array Obj} {cur : Array Value} {e : TypeId} {fr : Nat × Nat} (d : Array α) (hb : w.heap[g]? = some (.cells cur e fr)) :
    (sortWorld enc w g 0 n d os).heap[g]? = some (.cells (putCells enc 0 d cur) e fr) := by
  have hg : g < w.heap.size := (Array.getElem?_eq_some_iff.1 hb).1
  unfold sortWorld
  rw [heap_grow_old _ _ (by simpa using hg)]
  simp [putRow, mapBlock, Sort.ahead, Array.getElem?_modify, hb, onCells]
theorem heap_sort_other {α : Type} [Inhabited α] {enc : α → Value} {w : World} {g n k : Nat} {os : Array Obj} (d : Array α) (hk : k < w.heap.size) (hne : g ≠ k) : (sortWorld enc w g 0 n d os).heap[k]? = w.heap[k]? := by
  unfold sortWorld
  rw [heap_grow_old _ _ (by simpa using hk)]
  simp [putRow, mapBlock, Sort.ahead, Array.getElem?_modify, hne]
theorem below_sort {α : Type} [Inhabited α] {enc : α → Value} {w0 w : World} {g n : Nat} {os : Array Obj} (d : Array α) (hB : Below w0.heap.size w0 w) (hg : w0.heap.size ≤ g) : Below w0.heap.size w0 (sortWorld enc w g 0 n d os) :=
  ⟨hB.os, hB.tape, hB.output, by unfold sortWorld; rw [size_grow, Sort.size_putRow]; have := hB.size; show w0.heap.size ≤ w.heap.size + _; omega, fun k hk => by rw [heap_sort_other d (Nat.lt_of_lt_of_le hk hB.size) (by omega)]; exact hB.block k hk⟩
theorem take_put {α : Type} [Inhabited α] (enc : α → Value) (cur : Array Value) (d : Array α) (h : d.size ≤ cur.size) : (putCells enc 0 d cur).toList.take d.size = d.toList.map enc := by
  apply List.ext_getElem?
  intro j
  by_cases hj : j < d.size
  · rw [List.getElem?_take_of_lt hj, Array.getElem?_toList]
    simp [putCells, hj, show j < cur.size by omega]
  · rw [List.getElem?_take_eq_none (by omega), List.getElem?_eq_none (by simp; omega)]
theorem reps_int {w : World} {base : Nat} {ok : Nat → Prop} (xs : List Int) : Reps ((Kd.int .i64).M w base ok) 1 xs (xs.map (Value.int .i64)) := by
  refine ⟨by simp, fun j p hp => ?_⟩
  obtain ⟨hj, rfl⟩ := List.getElem?_eq_some_iff.1 hp
  show ((xs.map (Value.int .i64)).drop (j * 1)).take 1 = [Value.int .i64 xs[j]]
  rw [Nat.mul_one, List.drop_eq_getElem_cons (by simpa using hj)]
  simp
theorem reps_int_eq {w : World} {base : Nat} {ok : Nat → Prop} {xs : List Int} {cs : List Value} (h : Reps ((Kd.int .i64).M w base ok) 1 xs cs) : cs = xs.map (Value.int .i64) := by
  obtain ⟨hl, h⟩ := h
  apply List.ext_getElem?
  intro k
  by_cases hk : k < xs.length
  · have := h k _ (List.getElem?_eq_getElem hk)
    replace this : (cs.drop (k * 1)).take 1 = [Value.int .i64 xs[k]] := this
    have h0 : cs.drop k = cs[k]'(by omega) :: cs.drop (k + 1) := List.drop_eq_getElem_cons _
    rw [Nat.mul_one, h0] at this
    have h5 : cs[k]'(by omega) = Value.int .i64 xs[k] := (List.cons.inj this).1
    simp [List.getElem?_eq_getElem (show k < cs.length by omega), h5, hk]
  · rw [List.getElem?_eq_none (by omega), List.getElem?_eq_none (by simp; omega)]
/-- An own row of numbers, as its block. -/
theorem int_open {w : World} {base : Nat} {ok : Nat → Prop} {v : Value} {xs : List Int} (h : Kd.R (Kd.int .i64) 2 w base ok v xs) :
    (v = .slice none 0 0 ∧ xs = []) ∨ ∃ g cap cur, v = .slice (some ⟨g, 0, none⟩) xs.length cap ∧ base ≤ g ∧ ok g ∧ w.heap[g]? = some (.cells cur 2 (0, 0)) ∧ xs.length ≤ cap ∧ cap ≤ maxLen ∧ cur.size = cap * 1 ∧ cur.toList.take (xs.length * 1) = xs.map (Value.int .i64) := by
  obtain ⟨hok, inner, ⟨hl, ho⟩, hr⟩ := h
  have hf := reps_int_eq hr
  rcases ho with ⟨hv, hn⟩ | ⟨g, cap, cur, hv, hb, hg, h1, h2, h3, h4⟩
  · exact .inl ⟨hv, List.length_eq_zero_iff.1 hn⟩
  · exact .inr ⟨g, cap, cur, hv, hb, hok g (by rw [hv]; rfl), hg, h1, h2, h3, by rw [← hf]; exact h4⟩
theorem int_mk {w : World} {base : Nat} {ok : Nat → Prop} {xs : List Int} (g cap : Nat) (cur : Array Value) (hb : base ≤ g) (hok : ok g) (hg : w.heap[g]? = some (.cells cur 2 (0, 0))) (h1 : xs.length ≤ cap) (h2 : cap ≤ maxLen) (h3 : cur.size = cap * 1) (h4 : cur.toList.take (xs.length * 1) = xs.map (Value.int .i64)) :
    Kd.R (Kd.int .i64) 2 w base ok (.slice (some ⟨g, 0, none⟩) xs.length cap) xs :=
  ⟨fun k hk => (by have e : g = k := by simpa [Value.ownBlock] using hk
                   rwa [← e]), xs.map (Value.int .i64), ⟨by rw [List.length_map]; exact (Nat.mul_one _).symm, .inr ⟨g, cap, cur, rfl, hb, hg, h1, h2, h3, h4⟩⟩, reps_int xs⟩
end Go.Proofs.YtdjdillppgijmaaDoor.Qo
