/- A parameter that is a slice of numbers, or of apprentices, read off the memory. -/
import Derived.Test.YtdjdillppgijmaaDoorQpx0
import Derived.WalkKit
import Derived.ProofKit
import Derived.OpenShut
import Derived.Deep.Slices
import Derived.Deep.Fields
import Derived.Deep.Strs
import Derived.ChangeSame
set_option linter.unusedVariables false
namespace Go.Proofs.YtdjdillppgijmaaDoor.OpenPupils
open Go.ChangeShapes Go.WideShapes Go.ChangeAt Go.RowKit Go.Deep

theorem row_of {α : Type} (d : Go.Proofs.YtdjdillppgijmaaDoorW.PrintWords.Kd α) (z : α) (w : World) (ad : Addr) (len : Nat) (hl : len ≤ 9223372036854775807) (Q : α → Prop)
    (H : ∀ i, i < len → ∃ x c, c.length = d.sz ∧ d.K w x c ∧ Q x ∧ ∀ j u, c[j]? = some u → w.cell? (ad.add (i * d.sz + j)) = some u) :
    ∃ zs : List α, zs.length = len ∧ d.C w (some ad) len zs ∧ ∀ x ∈ zs, Q x := by
  refine ⟨(List.range len).map fun i => if h : i < len then Classical.choose (H i h) else z, by simp, ⟨by simp, hl, fun _ => ⟨ad, rfl, fun j p hp => ?_⟩⟩, fun x hx => ?_⟩
  · rw [List.getElem?_map] at hp
    obtain ⟨i, hi, rfl⟩ := Option.map_eq_some_iff.1 hp
    obtain ⟨hlt, rfl⟩ := List.getElem?_eq_some_iff.1 hi
    rw [List.length_range] at hlt
    rw [List.getElem_range, dif_pos hlt]
    obtain ⟨c, h1, h2, _, h3⟩ := Classical.choose_spec (H j hlt)
    exact ⟨c, h1, h2, h3⟩
  · obtain ⟨i, hi, rfl⟩ := List.mem_map.1 hx
    have hlt := List.mem_range.1 hi
    rw [dif_pos hlt]
    obtain ⟨c, _, _, h, _⟩ := Classical.choose_spec (H i hlt)
    exact h
section
variable {H : Type} {enc : TypeId × Value → H} {w : World} {base : Nat} {spare : Nat → Bool} {held : Bool}
set_option maxRecDepth 100000 in
theorem ints_cells {t fuel : Nat} {cs : List Value} {x : DataW H × List MemPlace} (ht : Tryd.prog.underlying t = some (.slice 2)) (h : DataW.trod enc Tryd.prog w base spare held fuel t cs = some x) :
    ∃ A n c, ∃ zs : List Int, cs = [.slice A n c] ∧ zs.length = n ∧ n ≤ c ∧ (Go.Proofs.YtdjdillppgijmaaDoorW.PrintWords.Kd.int .i64).C w A n zs := by
  rcases open_slice ht h with ⟨hcs, _⟩ | ⟨ad, l, c, m, n, D, Pl, hcs, _, hl, hm, hmm, _, hi⟩
  · exact ⟨none, 0, 0, [], hcs, rfl, Nat.le_refl _, ⟨rfl, by decide, fun h => absurd h (Nat.lt_irrefl 0)⟩⟩
  · obtain ⟨zs, h1, h2, _⟩ := row_of (Go.Proofs.YtdjdillppgijmaaDoorW.PrintWords.Kd.int .i64) 0 w ad l (Nat.le_trans hl hm) (fun _ => True) fun i hlt => by
      obtain ⟨cs, hc, htr⟩ := hi i (by rw [hmm]; split <;> omega)
      obtain ⟨_, hlen, hat⟩ := World.cells?_some hc
      have e1 : Tryd.prog.cellsOf 2 = 1 := by kernel_rfl
      rw [e1] at hat hlen
      obtain ⟨n1, g1, _, _⟩ := DataW.trod_int Tryd.underlying2 (show DataW.trod enc Tryd.prog w base spare held n 2 cs = some (D i, Pl i) from htr)
      subst g1
      refine ⟨n1, [.int .i64 n1], rfl, rfl, trivial, fun j u hu => ?_⟩
      match j, hu with
      | 0, hu =>
        cases hu
        have f0 := hat 0 (by omega)
        rw [Go.Deep.add_add] at f0
        exact f0
      | j + 1, hu => cases hu
    exact ⟨some ad, l, c, zs, hcs, h1, hl, h2⟩
set_option maxRecDepth 100000 in
theorem ints_open {t fuel : Nat} {a : Option Addr} {len cap : Nat} {x : DataW H × List MemPlace} (ht : Tryd.prog.underlying t = some (.slice 2)) (h : DataW.trod enc Tryd.prog w base spare held fuel t [.slice a len cap] = some x) :
    ∃ zs : List Int, zs.length = len ∧ len ≤ cap ∧ (Go.Proofs.YtdjdillppgijmaaDoorW.PrintWords.Kd.int .i64).C w a len zs := by
  obtain ⟨A, n, c, zs, hcs, h1, h2, h3⟩ := ints_cells ht h
  simp at hcs
  obtain ⟨rfl, rfl, rfl⟩ := hcs
  exact ⟨zs, h1, h2, h3⟩
set_option maxRecDepth 100000 in
theorem pupils_open {t fuel : Nat} {a : Option Addr} {len cap : Nat} {x : DataW H × List MemPlace} (ht : Tryd.prog.underlying t = some (.slice 114)) (h : DataW.trod enc Tryd.prog w base spare held fuel t [.slice a len cap] = some x) :
    ∃ zs : List Qp.S114, zs.length = len ∧ len ≤ cap ∧ Go.Proofs.YtdjdillppgijmaaDoorW.PrintWords.Kd.C Qp.k114 w a len zs ∧ ∀ z ∈ zs, z.f0.size ≤ 9223372036854775807 := by
  rcases open_slice ht h with ⟨hcs, _⟩ | ⟨ad, l, c, m, n, D, Pl, hcs, _, hl, hm, hmm, _, hi⟩
  · simp at hcs
    obtain ⟨rfl, rfl, rfl⟩ := hcs
    exact ⟨[], rfl, Nat.le_refl _, ⟨rfl, by decide, fun h => absurd h (Nat.lt_irrefl 0)⟩, fun z hz => by cases hz⟩
  · simp at hcs
    obtain ⟨rfl, rfl, rfl⟩ := hcs
    obtain ⟨zs, h1, h2, h3⟩ := row_of Qp.k114 Qp.z114 w ad len (Nat.le_trans hl hm) (fun x => x.f0.size ≤ maxLen) fun i hlt => by
      obtain ⟨cs, hc, htr⟩ := hi i (by rw [hmm]; split <;> omega)
      obtain ⟨ys, nn, _, _, hlen, hyl, hf⟩ := DataW.trod_struct Tryd.underlying114 htr
      obtain ⟨_, _, hat⟩ := World.cells?_some hc
      have e4 : Tryd.prog.cellsOf 114 = 3 := by kernel_rfl
      have e1 : Tryd.prog.cellsOf 2 = 1 := by kernel_rfl
      have e9 : Tryd.prog.cellsOf 9 = 1 := by kernel_rfl
      have e27 : Tryd.prog.cellsOf 27 = 1 := by kernel_rfl
      rw [e4] at hlen hat
      match ys, hyl with
      | [y0, y1, y2], _ =>
        match cs, hlen with
        | [u0, u1, u2], _ =>
          have t0 : DataW.trod enc Tryd.prog w base spare held nn 9 (([u0, u1, u2].drop 0).take (Tryd.prog.cellsOf 9)) = some y0 := hf 0 _ rfl
          have t1 : DataW.trod enc Tryd.prog w base spare held nn 2 (([u0, u1, u2].drop 1).take (Tryd.prog.cellsOf 2)) = some y1 := hf 1 _ rfl
          have t2 : DataW.trod enc Tryd.prog w base spare held nn 27 (([u0, u1, u2].drop 2).take (Tryd.prog.cellsOf 27)) = some y2 := hf 2 _ rfl
          rw [e9] at t0
          rw [e1] at t1
          rw [e27] at t2
          obtain ⟨s, g0, _, hs⟩ := DataW.trod_string Tryd.underlying9 (show DataW.trod enc Tryd.prog w base spare held nn 9 [u0] = some y0 from t0)
          obtain ⟨n1, g1, _, _⟩ := DataW.trod_int Tryd.underlying2 (show DataW.trod enc Tryd.prog w base spare held nn 2 [u1] = some y1 from t1)
          obtain ⟨A2, n2, c2, ds, g2, hd1, hd2, hd3⟩ := ints_cells Tryd.underlying27 (show DataW.trod enc Tryd.prog w base spare held nn 27 [u2] = some y2 from t2)
          simp at g0 g1 g2
          subst g0 g1 g2
          subst hd1
          have f0 := hat 0 (by omega)
          have f1 := hat 1 (by omega)
          have f2 := hat 2 (by omega)
          rw [Go.Deep.add_add] at f0 f1 f2
          refine ⟨⟨s, n1, ds⟩, [.string s, .int .i64 n1, .slice A2 ds.length c2], rfl, Qp.k114_mk w ⟨s, n1, ds⟩ hd2 hd3, hs, fun j u hu => ?_⟩
          match j, hu with
          | 0, hu => cases hu; exact f0
          | 1, hu => cases hu; exact f1
          | 2, hu => cases hu; exact f2
          | j + 3, hu => cases hu
    exact ⟨zs, h1, hl, h2, fun z hz => by have := h3 z hz; unfold maxLen at this; omega⟩
end
end Go.Proofs.YtdjdillppgijmaaDoor.OpenPupils
