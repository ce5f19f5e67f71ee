/- The law FnExactPractise: its calls, each from any world that keeps what lay there when it began. -/
import Derived.Test.YtdjdillppgijmaaDoorSMarkP
import Derived.Test.YtdjdillppgijmaaDoorPlPupC
import Derived.Lib.Hide
set_option linter.unusedVariables false
set_option linter.unusedSimpArgs false
namespace Go.Proofs.YtdjdillppgijmaaDoor.Qp
open Go.RowKit Go.Proofs.YtdjdillppgijmaaDoorW.PrintWords Go.Proofs.YtdjdillppgijmaaDoorW.PrintLast Go.Proofs.YtdjdillppgijmaaDoorW.PrintMore

/-- A row of numbers whose block lies between two sizes. -/
abbrev RI (w : World) (b lo hi : Nat) (v : Value) (xs : List Int) : Prop := Kd.R (Kd.int .i64) 2 w b (fun k => lo ≤ k ∧ k < hi) v xs
/-- A row of apprentices whose blocks lie between two sizes. -/
abbrev SP (w : World) (b lo hi : Nat) (v : Value) (xs : List S116) : Prop := Kd.S k116 116 w b (fun k => lo ≤ k ∧ k < hi) v xs
section
variable {w W W' : World} {lo hi : Nat} {v : Value} {xs : List Int} {ys : List S116} {A : Option Addr} {n c : Nat}
theorem ri_new (hB : Below w.heap.size w W) (h : Kd.R (Kd.int .i64) 2 W' W.heap.size (fun _ => True) v xs) : RI W' w.heap.size W.heap.size W'.heap.size v xs :=
  Kd.R_lower (Kd.R_mono (Kd.R_bound h) (fun k hk => ⟨hk.2.1, hk.2.2.1⟩)) hB.size
theorem sp_new (hB : Below w.heap.size w W) (h : Kd.S k116 116 W' W.heap.size (fun _ => True) v ys) : SP W' w.heap.size W.heap.size W'.heap.size v ys :=
  Kd.S_lower (Kd.S_mono (Kd.S_bound h) (fun k hk => ⟨hk.2.1, hk.2.2.1⟩)) hB.size
theorem trans_bel (hB : Below w.heap.size w W) (hb : Below W.heap.size W W') : Below w.heap.size w W' := hB.trans (hb.mono hB.size)
end
section
variable {w : World}
theorem c24 (N : List Int) (A0 : Option Addr) (c0 : Nat) (hr0 : Kd.C (Kd.int .i64) w A0 N.length N) (hc0 : N.length ≤ c0) (hn : N.length ≤ 1000000000) (W : World) (hB : Below w.heap.size w W) :
    Calls Tryd.prog 24 #[.slice A0 N.length c0] W fun e w' => ∃ A c, e = .returned (.slice A N.length c) ∧ RI w' w.heap.size W.heap.size w'.heap.size (.slice A N.length c) N ∧ Below W.heap.size W w' := by
  obtain ⟨k, hk⟩ := (toi_ev N hn).rounds
  refine (laws_toInt64S.calls k A0 c0 N N W (Kd.C_below hr0 hB) hc0 hk).mono ?_
  rintro e w' ⟨v, rfl, hR, hb⟩
  obtain ⟨A, c, rfl⟩ := Kd.R_slice hR
  exact ⟨A, c, rfl, ri_new hB hR, hb⟩
theorem c25 (l : List S114) (A0 : Option Addr) (c0 : Nat) (hr0 : Kd.C k114 w A0 l.length l) (hc0 : l.length ≤ c0) (hn : l.length ≤ 1000000000) (hd : ∀ x ∈ l, x.f2.length ≤ 1000000000) (W : World) (hB : Below w.heap.size w W) :
    Calls Tryd.prog 25 #[.slice A0 l.length c0] W fun e w' => ∃ A c, e = .returned (.slice A (l.map convP).length c) ∧ SP w' w.heap.size W.heap.size w'.heap.size (.slice A (l.map convP).length c) (l.map convP) ∧ Below W.heap.size W w' := by
  obtain ⟨k, hk⟩ := (top_ev l hn hd).rounds
  refine (laws_toPupilS.calls k A0 c0 l _ W (Kd.C_below hr0 hB) hc0 hk).mono ?_
  rintro e w' ⟨v, rfl, hS, hb⟩
  obtain ⟨A, c, rfl⟩ := Kd.S_slice hS
  exact ⟨A, c, rfl, sp_new hB hS, hb⟩
theorem c23 (N : List Int) (L : List S116) (a2 a3 a4 : Int) (r : List S116 × Int) (hr : Ev (fun k => spec_Practise.f k N L a2 a3 a4) r) (A0 A1 : Option Addr) (c0 c1 lo hi lo1 hi1 : Nat) (W : World) (hB : Below w.heap.size w W) (h0 : RI W w.heap.size lo hi (.slice A0 N.length c0) N) (h1 : SP W w.heap.size lo1 hi1 (.slice A1 L.length c1) L) :
    Calls Tryd.prog 23 #[.slice A0 N.length c0, .slice A1 L.length c1, .int .i64 a2, .int .i64 a3, .int .i64 a4] W fun e w' => ∃ A c, e = .returned (.tuple #[.slice A r.1.length c, .int .i64 r.2]) ∧ SP w' w.heap.size W.heap.size w'.heap.size (.slice A r.1.length c) r.1 ∧ Below W.heap.size W w' := by
  obtain ⟨k, hk⟩ := hr.rounds
  refine (spec_Practise.calls k A0 c0 N A1 c1 L a2 a3 a4 r.1 r.2 W (Kd.R_reads' h0).2.2 (Kd.R_reads' h0).2.1 (Kd.S_reads' h1).2.2 (Kd.S_reads' h1).2.1 hk).mono ?_
  rintro e w' ⟨v, rfl, hS, hb⟩
  obtain ⟨A, c, rfl⟩ := Kd.S_slice hS
  exact ⟨A, c, rfl, sp_new hB hS, hb⟩
theorem c26 (N : List Int) (L : List S116) (a2 a3 a4 : Int) (r : List S116 × Int) (hr : Ev (fun k => impl_Practise.f k N L a2 a3 a4) r) (A0 A1 : Option Addr) (c0 c1 lo hi lo1 hi1 : Nat) (W : World) (hB : Below w.heap.size w W) (h0 : RI W w.heap.size lo hi (.slice A0 N.length c0) N) (h1 : SP W w.heap.size lo1 hi1 (.slice A1 L.length c1) L) :
    Calls Tryd.prog 26 #[.slice A0 N.length c0, .slice A1 L.length c1, .int .i64 a2, .int .i64 a3, .int .i64 a4] W fun e w' => ∃ A c, e = .returned (.tuple #[.slice A r.1.length c, .int .i64 r.2]) ∧ SP w' w.heap.size W.heap.size w'.heap.size (.slice A r.1.length c) r.1 ∧ Below W.heap.size W w' := by
  obtain ⟨k, hk⟩ := hr.rounds
  refine (impl_Practise.calls k A0 c0 N A1 c1 L a2 a3 a4 r.1 r.2 W (Kd.R_reads' h0).2.2 (Kd.R_reads' h0).2.1 (Kd.S_reads' h1).2.2 (Kd.S_reads' h1).2.1 hk).mono ?_
  rintro e w' ⟨v, rfl, hS, hb⟩
  obtain ⟨A, c, rfl⟩ := Kd.S_slice hS
  exact ⟨A, c, rfl, sp_new hB hS, hb⟩
theorem c27 (L : List S116) (hn : L.length ≤ 1000000000) (hd : ∀ x ∈ L, x.f2.length ≤ 1000000000) (A0 A1 : Option Addr) (c0 c1 lo hi lo1 hi1 : Nat) (W : World) (h0 : SP W w.heap.size lo hi (.slice A0 L.length c0) L) (h1 : SP W w.heap.size lo1 hi1 (.slice A1 L.length c1) L) :
    Calls Tryd.prog 27 #[.slice A0 L.length c0, .slice A1 L.length c1] W fun e w' => e = .returned (.bool true) ∧ Below W.heap.size W w' := by
  obtain ⟨k, hk⟩ := (eqp_ev L hn hd).rounds
  exact laws_eqPupilS.calls k A0 c0 L A1 c1 L true W (Kd.S_reads' h0).2.2 (Kd.S_reads' h0).2.1 (Kd.S_reads' h1).2.2 (Kd.S_reads' h1).2.1 hk
theorem c28 (N : List Int) (hn : N.length ≤ 1000000000) (A0 A1 : Option Addr) (c0 c1 lo hi lo1 hi1 : Nat) (W : World) (h0 : RI W w.heap.size lo hi (.slice A0 N.length c0) N) (h1 : RI W w.heap.size lo1 hi1 (.slice A1 N.length c1) N) :
    Calls Tryd.prog 28 #[.slice A0 N.length c0, .slice A1 N.length c1] W fun e w' => e = .returned (.bool true) ∧ Below W.heap.size W w' := by
  obtain ⟨k, hk⟩ := (eqi_ev N hn).rounds
  exact (laws_eqInt64S.calls k A0 c0 N A1 c1 N true W (Kd.R_reads' h0).2.2 (Kd.R_reads' h0).2.1 (Kd.R_reads' h1).2.2 (Kd.R_reads' h1).2.1 hk).mono fun e w' ⟨h1, h2⟩ => ⟨h1, h2.below⟩
theorem c29 (N : List Int) (hn : N.length ≤ 1000000000) (A0 : Option Addr) (c0 lo hi : Nat) (W : World) (hB : Below w.heap.size w W) (h0 : RI W w.heap.size lo hi (.slice A0 N.length c0) N) :
    Calls Tryd.prog 29 #[.slice A0 N.length c0, .int .i64 1] W fun e w' => e = .returned (.int .i64 ((1 + N.length : Nat) : Int)) ∧ Below w.heap.size w w' ∧ Kept W w' (fun k => lo ≤ k ∧ k < hi) := by
  obtain ⟨k, hk⟩ := (marki_ev N 1 hn (by omega)).rounds
  exact (laws_markInt64S.calls k _ _ N 1 _ _ w W hB h0 hk).mono fun e w' ⟨h1, _, h2, h3⟩ => ⟨h1, h2, h3⟩
theorem c31 (L : List S116) (a : Nat) (hn : L.length ≤ 1000000000) (he : endP a L ≤ 1000000000) (A0 : Option Addr) (c0 n lo hi : Nat) (W : World) (h0 : SP W w.heap.size lo hi (.slice A0 n c0) (marksP a L)) :
    Calls Tryd.prog 31 #[.slice A0 n c0, .int .i64 a] W fun e w' => e = .returned (.int .i64 ((endP a L : Nat) : Int)) ∧ Below W.heap.size W w' := by
  obtain ⟨k, hk⟩ := (heldp_ev L a hn he).rounds
  obtain ⟨rfl, h1, h2⟩ := Kd.S_reads' h0
  exact laws_heldPupilS.calls k A0 c0 (marksP a L) a _ W h2 h1 hk
end
end Go.Proofs.YtdjdillppgijmaaDoor.Qp
