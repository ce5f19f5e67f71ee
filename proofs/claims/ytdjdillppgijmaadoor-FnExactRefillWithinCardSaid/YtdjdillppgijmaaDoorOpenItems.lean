/- A parameter that is a slice of items, read off the memory. -/
import Derived.Test.YtdjdillppgijmaaDoorQsx0
import Derived.WalkKit
import Derived.ProofKit
import Derived.OpenShut
import Derived.Deep.Slices
import Derived.Deep.Fields
import Derived.Deep.Strs
import Derived.ChangeSame
set_option linter.unusedVariables false
namespace Go.Proofs.YtdjdillppgijmaaDoor.OpenItems
open Go.ChangeShapes Go.WideShapes Go.ChangeAt Go.RowKit Go.Deep

def rdI (w : World) (a : Addr) : Int := match w.cell? a with | some (.int _ n) => n | _ => 0
theorem rdI_of {w : World} {a : Addr} {k : IntKind} {n : Int} (h : w.cell? a = some (.int k n)) : rdI w a = n := by unfold rdI; rw [h]
def rdB (w : World) (a : Addr) : ByteArray := match w.cell? a with | some (.string s) => s | _ => ⟨#[]⟩
theorem rdB_of {w : World} {a : Addr} {s : ByteArray} (h : w.cell? a = some (.string s)) : rdB w a = s := by unfold rdB; rw [h]
def rowOf (w : World) (a : Addr) (len : Nat) : List Qs.S122 := (List.range len).map fun i => ⟨rdB w (a.add (i * 4)), rdI w (a.add (i * 4 + 1)), rdI w (a.add (i * 4 + 2)), rdI w (a.add (i * 4 + 3))⟩
theorem rowOf_reads (w : World) (a : Addr) (len : Nat) (hl : len ≤ maxLen) (h : ∀ i, i < len → ∃ s n1 n2 n3, w.cell? (a.add (i * 4)) = some (.string s) ∧ s.size ≤ maxLen ∧ w.cell? (a.add (i * 4 + 1)) = some (.int .i64 n1) ∧ w.cell? (a.add (i * 4 + 2)) = some (.int .i64 n2) ∧ w.cell? (a.add (i * 4 + 3)) = some (.int .i64 n3)) :
    Go.Proofs.YtdjdillppgijmaaDoorW.PrintWords.Kd.C Qs.k122 w (some a) len (rowOf w a len) ∧ ∀ x ∈ rowOf w a len, x.f0.size ≤ maxLen := by
  refine ⟨⟨by simp [rowOf], hl, fun _ => ⟨a, rfl, fun j p hp => ?_⟩⟩, fun x hx => ?_⟩
  · unfold rowOf at hp
    rw [List.getElem?_map] at hp
    obtain ⟨i, hi, rfl⟩ := Option.map_eq_some_iff.1 hp
    obtain ⟨hlt, rfl⟩ := List.getElem?_eq_some_iff.1 hi
    rw [List.length_range] at hlt
    obtain ⟨s, n1, n2, n3, h0, _, h1, h2, h3⟩ := h j hlt
    rw [List.getElem_range] at *
    rw [rdB_of h0, rdI_of h1, rdI_of h2, rdI_of h3]
    refine ⟨_, rfl, Qs.k122_mk w _, fun i u hu => ?_⟩
    match i, hu with
    | 0, hu => cases hu; exact h0
    | 1, hu => cases hu; exact h1
    | 2, hu => cases hu; exact h2
    | 3, hu => cases hu; exact h3
    | n + 4, hu => cases hu
  · unfold rowOf at hx
    obtain ⟨i, hi, rfl⟩ := List.mem_map.1 hx
    obtain ⟨s, n1, n2, n3, h0, hs, h1, h2, h3⟩ := h i (List.mem_range.1 hi)
    show (rdB w (a.add (i * 4))).size ≤ maxLen
    rw [rdB_of h0]; exact hs
section
variable {H : Type} {enc : TypeId × Value → H} {w : World} {base : Nat} {spare : Nat → Bool} {held : Bool}
set_option maxRecDepth 100000 in
theorem items_open {t fuel : Nat} {a : Option Addr} {len cap : Nat} {x : DataW H × List MemPlace} (ht : Tryd.prog.underlying t = some (.slice 122)) (h : DataW.trod enc Tryd.prog w base spare held fuel t [.slice a len cap] = some x) :
    ∃ zs : List Qs.S122, zs.length = len ∧ len ≤ cap ∧ Go.Proofs.YtdjdillppgijmaaDoorW.PrintWords.Kd.C Qs.k122 w a len zs ∧ ∀ z ∈ zs, z.f0.size ≤ 9223372036854775807 := by
  rcases open_slice ht h with ⟨hcs, _⟩ | ⟨ad, l, c, m, n, D, Pl, hcs, _, hl, hm, hmm, _, hi⟩
  · simp at hcs
    obtain ⟨rfl, rfl, rfl⟩ := hcs
    exact ⟨[], rfl, Nat.le_refl _, ⟨rfl, by decide, fun h => absurd h (Nat.lt_irrefl 0)⟩, fun z hz => by cases hz⟩
  · simp at hcs
    obtain ⟨rfl, rfl, rfl⟩ := hcs
    have hr := rowOf_reads w ad len (Nat.le_trans hl hm) fun i hlt => by
      obtain ⟨cs, hc, htr⟩ := hi i (by rw [hmm]; split <;> omega)
      obtain ⟨ys, nn, _, _, hlen, hyl, hf⟩ := DataW.trod_struct Tryd.underlying122 htr
      obtain ⟨_, _, hat⟩ := World.cells?_some hc
      have e4 : Tryd.prog.cellsOf 122 = 4 := by kernel_rfl
      have e1 : Tryd.prog.cellsOf 2 = 1 := by kernel_rfl
      have e9 : Tryd.prog.cellsOf 9 = 1 := by kernel_rfl
      rw [e4] at hlen hat
      match ys, hyl with
      | [y0, y1, y2, y3], _ =>
        match cs, hlen with
        | [u0, u1, u2, u3], _ =>
          have t0 : DataW.trod enc Tryd.prog w base spare held nn 9 (([u0, u1, u2, u3].drop 0).take (Tryd.prog.cellsOf 9)) = some y0 := hf 0 _ rfl
          have t1 : DataW.trod enc Tryd.prog w base spare held nn 2 (([u0, u1, u2, u3].drop 1).take (Tryd.prog.cellsOf 2)) = some y1 := hf 1 _ rfl
          have t2 : DataW.trod enc Tryd.prog w base spare held nn 2 (([u0, u1, u2, u3].drop 2).take (Tryd.prog.cellsOf 2)) = some y2 := hf 2 _ rfl
          have t3 : DataW.trod enc Tryd.prog w base spare held nn 2 (([u0, u1, u2, u3].drop 3).take (Tryd.prog.cellsOf 2)) = some y3 := hf 3 _ rfl
          rw [e9] at t0
          rw [e1] at t1 t2 t3
          obtain ⟨s, g0, _, hs⟩ := DataW.trod_string Tryd.underlying9 (show DataW.trod enc Tryd.prog w base spare held nn 9 [u0] = some y0 from t0)
          obtain ⟨n1, g1, _, _⟩ := DataW.trod_int Tryd.underlying2 (show DataW.trod enc Tryd.prog w base spare held nn 2 [u1] = some y1 from t1)
          obtain ⟨n2, g2, _, _⟩ := DataW.trod_int Tryd.underlying2 (show DataW.trod enc Tryd.prog w base spare held nn 2 [u2] = some y2 from t2)
          obtain ⟨n3, g3, _, _⟩ := DataW.trod_int Tryd.underlying2 (show DataW.trod enc Tryd.prog w base spare held nn 2 [u3] = some y3 from t3)
          simp at g0 g1 g2 g3
          subst g0 g1 g2 g3
          have f0 := hat 0 (by omega)
          have f1 := hat 1 (by omega)
          have f2 := hat 2 (by omega)
          have f3 := hat 3 (by omega)
          rw [Go.Deep.add_add] at f0 f1 f2 f3
          exact ⟨s, n1, n2, n3, f0, hs, f1, f2, f3⟩
    exact ⟨rowOf w ad len, by simp [rowOf], hl, hr.1, fun z hz => by have := hr.2 z hz; unfold maxLen at this; omega⟩
end
end Go.Proofs.YtdjdillppgijmaaDoor.OpenItems
