/- slices.Insert of one item: the row that came in is the call's own, and a row comes back. -/
import Derived.Test.YtdjdillppgijmaaDoorInsEnd
set_option linter.unusedVariables false
set_option linter.unusedSimpArgs false
namespace Go.Proofs.YtdjdillppgijmaaDoor.Qs
open Go.RowKit Go.Lib Go.Proofs.YtdjdillppgijmaaDoorW.PrintWords Go.Proofs.YtdjdillppgijmaaDoorW.PrintLast Go.Proofs.YtdjdillppgijmaaDoorW.PrintMore

def enc4 (x : S34) : List Value := [.string x.f0, .int .i64 x.f1, .int .i64 x.f2, .int .i64 x.f3]
def flat4 (l : List S34) : List Value := l.flatMap enc4
theorem flat4_length (l : List S34) : (flat4 l).length = l.length * 4 := by
  induction l with
  | nil => rfl
  | cons x l ih => unfold flat4 at *; rw [List.flatMap_cons, List.length_append, ih, List.length_cons]; simp [enc4]; omega
theorem flat4_append (a b : List S34) : flat4 (a ++ b) = flat4 a ++ flat4 b := by unfold flat4; rw [List.flatMap_append]
theorem flat4_one (l : List S34) : ∀ v ∈ flat4 l, v.oneCell' = true := fun v hv => by
  obtain ⟨x, _, hx⟩ := List.mem_flatMap.1 hv
  simp [enc4] at hx
  rcases hx with rfl | rfl | rfl | rfl <;> rfl
theorem flat4_take (l : List S34) (i : Nat) : flat4 (l.take i) = (flat4 l).take (i * 4) := by
  by_cases h : i ≤ l.length
  · conv => rhs; rw [← List.take_append_drop i l, flat4_append]
    rw [List.take_left' (by rw [flat4_length, List.length_take]; congr 1; omega)]
  · rw [List.take_of_length_le (by omega), List.take_of_length_le (by rw [flat4_length]; omega)]
theorem flat4_drop (l : List S34) (i : Nat) : flat4 (l.drop i) = (flat4 l).drop (i * 4) := by
  by_cases h : i ≤ l.length
  · conv => rhs; rw [← List.take_append_drop i l, flat4_append]
    rw [List.drop_left' (by rw [flat4_length, List.length_take]; congr 1; omega)]
  · rw [List.drop_of_length_le (by omega), List.drop_of_length_le (by rw [flat4_length]; omega)]; rfl
theorem flat4_get (l : List S34) (j : Nat) (p : S34) (h : l[j]? = some p) : ((flat4 l).drop (j * 4)).take 4 = enc4 p := by
  obtain ⟨hj, rfl⟩ := List.getElem?_eq_some_iff.1 h
  rw [← flat4_drop, List.drop_eq_getElem_cons hj]
  unfold flat4
  rw [List.flatMap_cons]
  exact List.take_left' rfl
theorem reps_flat {R : S34 → List Value → Prop} (hR : ∀ p c, R p c → c = enc4 p) (ps : List S34) : ∀ cs : List Value, Reps R 4 ps cs → cs = flat4 ps := by
  intro cs h
  apply List.ext_getElem?
  intro k
  have hl := h.1
  by_cases hk : k < ps.length * 4
  · have hj : k / 4 < ps.length := by omega
    have h1 := hR _ _ (h.2 (k / 4) _ (List.getElem?_eq_getElem hj))
    have h2 := flat4_get ps (k / 4) _ (List.getElem?_eq_getElem hj)
    have e : ((cs.drop (k / 4 * 4)).take 4)[k % 4]? = (((flat4 ps).drop (k / 4 * 4)).take 4)[k % 4]? := by rw [h1, h2]
    rw [List.getElem?_take_of_lt (by omega), List.getElem?_take_of_lt (by omega), List.getElem?_drop, List.getElem?_drop] at e
    rwa [show k / 4 * 4 + k % 4 = k by omega] at e
  · rw [List.getElem?_eq_none (by omega), List.getElem?_eq_none (by rw [flat4_length]; omega)]
/-- An own row of items, as its block. -/
theorem row_open {w : World} {base : Nat} {ok : Nat → Prop} {v : Value} {xs : List S34} (h : Kd.R k34 34 w base ok v xs) :
    (v = .slice none 0 0 ∧ xs = []) ∨ ∃ g cap cur, v = .slice (some ⟨g, 0, none⟩) xs.length cap ∧ base ≤ g ∧ ok g ∧ w.heap[g]? = some (.cells cur 34 (0, 0)) ∧ xs.length ≤ cap ∧ cap ≤ maxLen ∧ cur.size = cap * 4 ∧ cur.toList.take (xs.length * 4) = flat4 xs := by
  obtain ⟨hok, inner, ⟨hl, ho⟩, hr⟩ := h
  have hf := reps_flat (fun p c hc => k34_openM hc) xs inner hr
  rcases ho with ⟨hv, hn⟩ | ⟨g, cap, cur, hv, hb, hg, h1, h2, h3, h4⟩
  · exact .inl ⟨hv, List.length_eq_zero_iff.1 hn⟩
  · exact .inr ⟨g, cap, cur, hv, hb, hok g (by rw [hv]; rfl), hg, h1, h2, h3, by rw [← hf]; exact h4⟩
theorem row_mk {w : World} {base : Nat} {ok : Nat → Prop} {xs : List S34} (g cap : Nat) (cur : Array Value) (hb : base ≤ g) (hok : ok g) (hg : w.heap[g]? = some (.cells cur 34 (0, 0))) (h1 : xs.length ≤ cap) (h2 : cap ≤ maxLen) (h3 : cur.size = cap * 4) (h4 : cur.toList.take (xs.length * 4) = flat4 xs) :
    Kd.R k34 34 w base ok (.slice (some ⟨g, 0, none⟩) xs.length cap) xs := by
  refine ⟨fun k hk => ?_, flat4 xs, ⟨flat4_length xs, .inr ⟨g, cap, cur, rfl, hb, hg, h1, h2, h3, h4⟩⟩, flat4_length xs, fun j p hp => ?_⟩
  · have e : g = k := by simpa [Value.ownBlock] using hk
    rwa [← e]
  · have := flat4_get xs j p hp
    show k34.M w base _ p (((flat4 xs).drop (j * 4)).take 4)
    rw [this]
    exact k34_mkM w base _ p

def impl_Item_128.f (l0 : List S34) (a1 : Int) (l2 : List S34) : Option (List S34) :=
  if 0 ≤ a1 ∧ a1 ≤ l0.length ∧ l2.length = 1 ∧ l0.length ≤ 1000000000 then some (l0.take a1.toNat ++ l2 ++ l0.drop a1.toNat) else none

theorem kept_setRow {w W : World} {S : Nat → Prop} (h : Kept w W S) {g : Nat} (hg : S g) (c : Array Value) : Kept w (W.setRow g c) S :=
  ⟨by have := h.1; simpa [World.setRow] using this, fun i hi hs => (setRow_other W g i c (fun e => hs (e ▸ hg))).trans (h.2 i hi hs)⟩
theorem heap_drawn (w : World) (d : Nat) : ({ w with drawn := d } : World).heap = w.heap := rfl

theorem impl_Item_128.calls (P0_ : Nat → Prop) (u9000_ : Value) (l0 : List S34) (a1 : Int) (P2_ : Nat → Prop) (u9001_ : Value) (l2 : List S34) (r : List S34) (w0 w : World) (hB : Below w0.heap.size w0 w) (ho0 : Kd.R k34 34 w w0.heap.size P0_ u9000_ l0) (hp0_2 : ∀ k_, P0_ k_ → ¬ P2_ k_) (ho2 : Kd.R k34 34 w w0.heap.size P2_ u9001_ l2) (hp2_0 : ∀ k_, P2_ k_ → ¬ P0_ k_) (h : impl_Item_128.f l0 a1 l2 = some r) :
    Calls Tryd.prog 128 #[u9000_, .int .i64 a1, u9001_] w fun e w' => ∃ v0_ : Value, e = .returned v0_ ∧ Kd.R k34 34 w' w0.heap.size (fun k_ => ((P0_ k_ ∨ P2_ k_) ∨ w.heap.size ≤ k_)) v0_ r ∧ Below w0.heap.size w0 w' ∧ Kept w w' (fun k_ => P0_ k_ ∨ P2_ k_) := by
  unfold impl_Item_128.f at h
  split at h
  case isFalse => cases h
  case isTrue hc =>
  obtain ⟨hc0, hc1, hc2, hc3⟩ := hc
  obtain rfl := Option.some.inj h
  obtain ⟨i, rfl⟩ : ∃ i : Nat, a1 = i := ⟨a1.toNat, by omega⟩
  rw [Int.toNat_natCast]
  have hi : i ≤ l0.length := by omega
  rcases row_open ho2 with ⟨_, rfl⟩ | ⟨gv, capv, curv, rfl, hbv, hPv, hgv, hv1, hv2, hv3, hv4⟩
  · cases hc2
  rw [hc2] at hv1 hv4 ⊢
  have hvl : (flat4 l2).length = 4 := by rw [flat4_length, hc2]
  have htv : curv.toList.take 4 = flat4 l2 := hv4
  have hszv : 4 ≤ curv.size := by omega
  have h1v := flat4_one l2
  have h1c := flat4_one l0
  have hcl := flat4_length l0
  have t1 : (flat4 l0).take (l0.length * 4) = flat4 l0 := List.take_of_length_le (by rw [hcl]; exact Nat.le_refl _)
  have t2 : (flat4 l0).drop (l0.length * 4) = [] := List.drop_of_length_le (by rw [hcl]; exact Nat.le_refl _)
  have hrl : (l0.take i ++ l2 ++ l0.drop i).length = l0.length + 1 := by rw [List.length_append, List.length_append, List.length_take, List.length_drop, hc2]; omega
  have hfr : flat4 (l0.take i ++ l2 ++ l0.drop i) = (flat4 l0).take (i * 4) ++ flat4 l2 ++ (flat4 l0).drop (i * 4) := by rw [flat4_append, flat4_append, flat4_take, flat4_drop]
  have hgrow : ∀ e w', GrowPost w l0.length ((flat4 l0).take (i * 4) ++ flat4 l2 ++ (flat4 l0).drop (i * 4)) e w' → ∃ v0_ : Value, e = .returned v0_ ∧ Kd.R k34 34 w' w0.heap.size (fun k_ => ((P0_ k_ ∨ P2_ k_) ∨ w.heap.size ≤ k_)) v0_ (l0.take i ++ l2 ++ l0.drop i) ∧ Below w0.heap.size w0 w' ∧ Kept w w' (fun k_ => P0_ k_ ∨ P2_ k_) := by
    rintro e w' ⟨G, ROW, rfl, g1, g2, g3, g4, g5, g6⟩
    refine ⟨_, rfl, ?_, hB.trans (g5.mono hB.size), Kept.of_below g5 _⟩
    have := row_mk (base := w0.heap.size) (ok := fun k_ => ((P0_ k_ ∨ P2_ k_) ∨ w.heap.size ≤ k_)) (xs := l0.take i ++ l2 ++ l0.drop i) w.heap.size G ROW hB.size (.inr (Nat.le_refl _)) g6 (by rw [hrl]; exact g1) g2 g3 (by rw [hrl, hfr]; exact g4)
    rwa [hrl] at this
  rcases row_open ho0 with ⟨rfl, rfl⟩ | ⟨g, cap, cur, rfl, hb0, hP0, hg, h1, h2, h3, h4⟩
  · obtain rfl : i = 0 := by simpa using hi
    refine (ins_end_grow none gv 0 capv 0 curv [] (flat4 l2) w (Nat.le_refl _) (by omega) (by omega) hgv rfl (.inl ⟨rfl, rfl, rfl⟩) hvl htv h1v).mono fun e w' hp => ?_
    refine hgrow e w' ?_
    simpa [flat4] using hp
  · have hne : gv ≠ g := fun e => hp0_2 g hP0 (e ▸ hPv)
    have hc63 : cap ≤ 9223372036854775807 := by unfold maxLen at h2; omega
    have hroomy : ∀ (d : Nat) (c : List Value), c.length = cap * 4 → c.take ((l0.length + 1) * 4) = (flat4 l0).take (i * 4) ++ flat4 l2 ++ (flat4 l0).drop (i * 4) → l0.length + 1 ≤ cap →
        Kd.R k34 34 (({ w with drawn := d } : World).setRow g c.toArray) w0.heap.size (fun k_ => ((P0_ k_ ∨ P2_ k_) ∨ w.heap.size ≤ k_)) (.slice (some ⟨g, 0, none⟩) (l0.length + 1) cap) (l0.take i ++ l2 ++ l0.drop i) ∧ Below w0.heap.size w0 (({ w with drawn := d } : World).setRow g c.toArray) ∧ Kept w (({ w with drawn := d } : World).setRow g c.toArray) (fun k_ => P0_ k_ ∨ P2_ k_) := by
      intro d c hcs hct hrm
      have hg' : (({ w with drawn := d } : World).setRow g c.toArray).heap[g]? = some (.cells c.toArray 34 (0, 0)) := setRow_heap _ g cur _ 34 _ hg
      refine ⟨?_, below_setRow (w := { w with drawn := d }) ⟨hB.os, hB.tape, hB.output, hB.size, hB.block⟩ hb0 _, kept_setRow (W := { w with drawn := d }) ⟨Nat.le_refl _, fun _ _ _ => rfl⟩ (.inl hP0) _⟩
      have := row_mk (base := w0.heap.size) (ok := fun k_ => ((P0_ k_ ∨ P2_ k_) ∨ w.heap.size ≤ k_)) (xs := l0.take i ++ l2 ++ l0.drop i) g cap c.toArray hb0 (.inl (.inl hP0)) hg' (by rw [hrl]; exact hrm) h2 (by simpa using hcs) (by rw [hrl, hfr]; exact hct)
      rwa [hrl] at this
    by_cases hroom : l0.length + 1 ≤ cap
    · by_cases hlt : i < l0.length
      · refine (ins_shift g gv cap capv l0.length i cur curv (flat4 l0) (flat4 l2) w hlt hroom hc63 hg hgv hne h3 hszv hcl h4 hvl htv h1c h1v).mono ?_
        rintro e w' ⟨rfl, d, rfl⟩
        refine ⟨_, rfl, hroomy d _ ?_ ?_ hroom⟩
        · simp; rw [hcl, hvl, h3]; omega
        · rw [← List.append_assoc]
          exact List.take_left' (by rw [List.length_append, List.length_append, List.length_take, List.length_drop, hcl, hvl]; omega)
      · obtain rfl : i = l0.length := by omega
        refine (ins_end_room g gv cap capv l0.length cur curv (flat4 l2) w hroom hc63 hg hgv h3 hvl htv h1v).mono ?_
        rintro e w' ⟨rfl, rfl⟩
        refine ⟨_, rfl, hroomy w.drawn _ ?_ ?_ hroom⟩
        · simp; rw [hvl, h3]; omega
        · rw [h4, t1, t2, List.append_nil]
          exact List.take_left' (by rw [List.length_append, hcl, hvl]; omega)
    · by_cases hlt : i < l0.length
      · exact (ins_grow g gv cap capv l0.length i cur curv (flat4 l0) (flat4 l2) w hlt h1 (by omega) hc3 hg hgv h3 hszv hcl h4 hvl htv h1c h1v).mono hgrow
      · obtain rfl : i = l0.length := by omega
        refine (ins_end_grow (some ⟨g, 0, none⟩) gv cap capv l0.length curv (flat4 l0) (flat4 l2) w h1 (by omega) hc3 hgv hcl (.inr ⟨g, cur, rfl, hg, h4⟩) hvl htv h1v).mono fun e w' hp => hgrow e w' ?_
        rw [t1, t2, List.append_nil]
        exact hp
end Go.Proofs.YtdjdillppgijmaaDoor.Qs
