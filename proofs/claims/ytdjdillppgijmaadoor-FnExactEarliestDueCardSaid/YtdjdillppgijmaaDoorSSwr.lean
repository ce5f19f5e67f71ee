/- slices.swapRangeCmpFunc at int64: two parts of a row change places. -/
import Derived.Test.YtdjdillppgijmaaDoorProg
import Derived.Test.YtdjdillppgijmaaDoorPlSym
import Derived.Shelf.SlSortCmp.Insertion1
set_option linter.unusedVariables false
set_option linter.unusedSimpArgs false
namespace Go.Proofs.YtdjdillppgijmaaDoor
open Go.Shelf Go.RowKit Go.Lib Go.Sort
variable {α : Type} [Inhabited α]

/-- Some row as told lies in the world. -/
def RowNow (enc : α → Value) (w0 : World) (blk off : Nat) (Q : Array α → Prop) (w' : World) : Prop := ∃ d', Q d' ∧ SW enc w0 blk off d' w'
/-- A row whose cells are told, a permutation of what it held. -/
def Turned (lo hi : Nat) (d : Array α) (f : Nat → α) (d' : Array α) : Prop := d'.size = d.size ∧ PermIn lo hi d d' ∧ ∀ k, d'[k]! = f k

theorem Turned.swap {lo hi : Nat} {d d1 : Array α} {f f' : Nat → α} (h : Turned lo hi d f d1) (i j : Nat) (hi1 : lo ≤ i) (hi2 : i < hi) (hj1 : lo ≤ j) (hj2 : j < hi) (hs : hi ≤ d.size) (he : ∀ k, (swp d1 i j)[k]! = f' k) : Turned lo hi d f' (swp d1 i j) :=
  ⟨by rw [size_swp]; exact h.1, permIn_trans _ _ _ _ _ h.2.1 (swp_permIn d1 lo hi i j hi1 hi2 hj1 hj2 (by rw [h.1]; exact hs)), he⟩

set_option maxHeartbeats 16000000 in
set_option maxRecDepth 1000000 in
theorem swr_calls (enc : α → Value) (g : Nat) (cb : Array Value) (blk off cap a b n lo hi : Nat) (d0 d : Array α) (w0 w : World) (R : Row1 enc w0 blk off d0) (hs : d0.size = d.size) (S : SW enc w0 blk off d w) (hab : a + n ≤ b) (hlo : lo ≤ a) (hhi : b + n ≤ hi) (hb : hi ≤ d.size) (hsz : d.size < 4611686018427387904) :
    Calls Tryd.prog 251 #[.slice (some ⟨blk, off, none⟩) d.size cap, .int .i64 a, .int .i64 b, .int .i64 n, .func (.func g) #[] cb] w fun e w' => e = .returned (.tuple #[]) ∧ RowNow enc w0 blk off (Turned lo hi d (swrF (d[·]!) a b n)) w' := by
  have hmix : Tryd.prog.follows .mixedOrders = true := by kernel_rfl
  have hu2 := Tryd.underlying2
  have hu3 := Tryd.underlying3
  have hu27 := Tryd.underlying27
  have hcl0 := R.hO.cells
  simp only [Value.cells] at hcl0
  have hst := R.hO.store Tryd.prog
  have S0 : Aside (SW enc w0 blk off d w) := S
  clear S
  go_enter Tryd.func251, Tryd.ntmps251
  go_wp2
  go_loopg [10] n (fun g1 vi wr => ∃ (i : Nat) (dk : Array α), vi = .int .i64 i ∧ i ≤ n ∧ n - i ≤ g1 ∧ Aside (Turned lo hi d (swrF (d[·]!) a b i) dk) ∧ dk.size = d.size ∧ Aside (SW enc w0 blk off dk wr))
  case atStart => exact ⟨0, d, by go_num, by omega, by omega, ⟨rfl, permIn_refl _ _ _, fun k => by rw [swr_zero]⟩, rfl, S0⟩
  case round =>
    clear S0
    obtain ⟨i, dk, rfl, hin, hg1, HT, hsk, S1⟩ := hrel
    by_cases hlt : i < n
    · have hltz : (i : Int) < (n : Int) := by omega
      obtain ⟨iN, hiN⟩ : ∃ q, q = a + i := ⟨_, rfl⟩
      obtain ⟨jN, hjN⟩ : ∃ q, q = b + i := ⟨_, rfl⟩
      have ea : ((a : Int) + (i : Int)).toNat = iN := by omega
      have pa : (0 : Int) ≤ (a : Int) + (i : Int) := by omega
      have ba : (a : Int) + (i : Int) < (d.size : Int) := by omega
      have ra : IntKind.i64.wrap ((a : Int) + (i : Int)) = (a : Int) + (i : Int) := by rw [IntKind.wrap_i64]; omega
      have ec : ((b : Int) + (i : Int)).toNat = jN := by omega
      have pc : (0 : Int) ≤ (b : Int) + (i : Int) := by omega
      have bc : (b : Int) + (i : Int) < (d.size : Int) := by omega
      have rc : IntKind.i64.wrap ((b : Int) + (i : Int)) = (b : Int) + (i : Int) := by rw [IntKind.wrap_i64]; omega
      obtain ⟨x, hx⟩ : ∃ x, x = dk[a + i]! := ⟨_, rfl⟩
      obtain ⟨y, hy⟩ : ∃ x, x = dk[b + i]! := ⟨_, rfl⟩
      have S3 : Aside (SW enc w0 blk off (swp dk (a + i) (b + i)) ((wr.setCell ⟨blk, off + iN, none⟩ (enc y)).setCell ⟨blk, off + jN, none⟩ (enc x)).drew) := by rw [hiN, hjN, hx, hy]; exact S1.out.swapped R (a + i) (b + i) (by omega) (by omega)
      have T3 : Aside (Turned lo hi d (swrF (d[·]!) a b (i + 1)) (swp dk (a + i) (b + i))) := HT.out.swap (a + i) (b + i) (by omega) (by omega) (by omega) (by omega) hb (swr_step dk _ a b i (by omega) HT.out.2.2 (by omega))
      have ca := S1.out.c1 R (by omega) (a + i) (by omega)
      have cb := S1.out.c1 R (by omega) (b + i) (by omega)
      have fa := S1.out.f1 R (by omega) (a + i) (by omega)
      have fb := S1.out.f1 R (by omega) (b + i) (by omega)
      obtain ⟨u, cc⟩ := S1.out.c2 R (by omega) (a + i) (b + i) (by omega) (by omega) (enc y)
      rw [← hjN, ← hiN] at cc
      rw [← hx, ← hiN] at ca
      rw [← hy, ← hjN] at cb
      rw [← hiN] at fa
      rw [← hjN] at fb
      clear S1 HT hx hy hiN hjN
      go_wp2_with fail
      go_big_region_o
      clear ca cb cc fa fb
      generalize ((wr.setCell ⟨blk, off + iN, none⟩ (enc y)).setCell ⟨blk, off + jN, none⟩ (enc x)).drew = w2 at S3 ⊢
      clear ea ec
      go_wp2
      go_roundg (n - (i + 1))
      case measure => omega
      case rel => exact ⟨i + 1, swp dk (a + i) (b + i), by first | rfl | go_num, by omega, Nat.le_refl _, T3, by rw [size_swp]; exact hsk, S3⟩
    · have hltz : ¬ (i : Int) < (n : Int) := by omega
      obtain rfl : i = n := by omega
      go_wp2
      go_end0
      exact ⟨rfl, dk, HT, S1.out⟩
end Go.Proofs.YtdjdillppgijmaaDoor
