/- slices.rotateCmpFunc at int64: two parts side by side change places. -/
import Derived.Test.YtdjdillppgijmaaDoorSSwr
set_option linter.unusedVariables false
set_option linter.unusedSimpArgs false
namespace Go.Proofs.YtdjdillppgijmaaDoor
open Go.Shelf Go.RowKit Go.Lib Go.Sort
variable {α : Type} [Inhabited α]

/-- What is left to rotate in dk comes to what is asked of d. -/
def RotInv (lo hi a m b i j : Nat) (d dk : Array α) : Prop := dk.size = d.size ∧ PermIn lo hi d dk ∧ rotF (dk[·]!) (m - i) m (m + j) = rotF (d[·]!) a m b

theorem RotInv.gt {lo hi a m b i j : Nat} {d dk d2 : Array α} (h : RotInv lo hi a m b i j d dk) (hm : i ≤ m) (hij : j < i) (ht : Turned lo hi dk (swrF (dk[·]!) (m - i) m j) d2) : RotInv lo hi a m b (i - j) j d d2 := by
  obtain ⟨h1, h2, h3⟩ := h
  obtain ⟨t1, t2, t3⟩ := ht
  refine ⟨t1.trans h1, permIn_trans _ _ _ _ _ h2 t2, ?_⟩
  rw [show (fun x => d2[x]!) = swrF (dk[·]!) (m - i) m j from funext t3, show m - (i - j) = m - i + j by omega, rot_gt _ m i j hm hij]
  exact h3
theorem RotInv.lt {lo hi a m b i j : Nat} {d dk d2 : Array α} (h : RotInv lo hi a m b i j d dk) (hm : i ≤ m) (hij : i < j) (ht : Turned lo hi dk (swrF (dk[·]!) (m - i) (m + j - i) i) d2) : RotInv lo hi a m b i (j - i) d d2 := by
  obtain ⟨h1, h2, h3⟩ := h
  obtain ⟨t1, t2, t3⟩ := ht
  refine ⟨t1.trans h1, permIn_trans _ _ _ _ _ h2 t2, ?_⟩
  rw [show (fun x => d2[x]!) = swrF (dk[·]!) (m - i) (m + j - i) i from funext t3, rot_lt _ m i j hm hij]
  exact h3
theorem RotInv.eq {lo hi a m b i : Nat} {d dk d2 : Array α} (h : RotInv lo hi a m b i i d dk) (hm : i ≤ m) (ht : Turned lo hi dk (swrF (dk[·]!) (m - i) m i) d2) : Turned lo hi d (rotF (d[·]!) a m b) d2 := by
  obtain ⟨h1, h2, h3⟩ := h
  obtain ⟨t1, t2, t3⟩ := ht
  refine ⟨t1.trans h1, permIn_trans _ _ _ _ _ h2 t2, fun k => ?_⟩
  rw [t3, rot_eq _ m i hm, h3]

set_option maxHeartbeats 16000000 in
set_option maxRecDepth 1000000 in
theorem rot_calls (enc : α → Value) (g : Nat) (cb : Array Value) (blk off cap a m b lo hi : Nat) (d0 d : Array α) (w0 w : World) (R : Row1 enc w0 blk off d0) (hs : d0.size = d.size) (S : SW enc w0 blk off d w) (ham : a < m) (hmb : m < b) (hlo : lo ≤ a) (hhi : b ≤ hi) (hb : hi ≤ d.size) (hsz : d.size < 4611686018427387904) :
    Calls Tryd.prog 242 #[.slice (some ⟨blk, off, none⟩) d.size cap, .int .i64 a, .int .i64 m, .int .i64 b, .func (.func g) #[] cb] w fun e w' => e = .returned (.tuple #[]) ∧ RowNow enc w0 blk off (Turned lo hi d (rotF (d[·]!) a m b)) w' := by
  have hu2 := Tryd.underlying2
  have hu3 := Tryd.underlying3
  have hu27 := Tryd.underlying27
  have S0 : Aside (SW enc w0 blk off d w) := S
  clear S
  go_enter Tryd.func242, Tryd.ntmps242
  go_wp2
  go_loopg [10, 11] ((m - a) + (b - m)) (fun g1 vi vj wr => ∃ (i j : Nat) (dk : Array α), vi = .int .i64 i ∧ vj = .int .i64 j ∧ 0 < i ∧ 0 < j ∧ i ≤ m - a ∧ j ≤ b - m ∧ i + j ≤ g1 ∧ Aside (RotInv lo hi a m b i j d dk) ∧ dk.size = d.size ∧ Aside (SW enc w0 blk off dk wr))
  case atStart =>
    refine ⟨m - a, b - m, d, by first | go_num | (congr 1; omega), by first | go_num | (congr 1; omega), by omega, by omega, Nat.le_refl _, Nat.le_refl _, Nat.le_refl _, ⟨rfl, permIn_refl _ _ _, ?_⟩, rfl, S0⟩
    rw [show m - (m - a) = a by omega, show m + (b - m) = b by omega]
  case round =>
    clear S0
    obtain ⟨i, j, dk, rfl, rfl, hi0, hj0, him, hjm, hg1, HI, hsk, S1⟩ := hrel
    have ec1 : ((m - i : Nat) : Int) = (m : Int) - (i : Int) := by omega
    by_cases hne : i = j
    · subst hne
      have hcall := swr_calls enc g cb blk off cap (m - i) m i lo hi d0 dk w0 wr R (by omega) S1.out (by omega) (by omega) (by omega) (by omega) (by omega)
      rw [ec1, hsk] at hcall
      clear S1 ec1
      go_wp2_with (go_at_call 251; refine hcall.mono ?_; rintro e w1 ⟨rfl, S3⟩)
      go_end0
      obtain ⟨d2, ht, hS⟩ := S3
      exact ⟨rfl, d2, HI.out.eq (by omega) ht, hS⟩
    · have hne1 : decide ((i : Int) = (j : Int)) = false := decide_eq_false (by omega)
      have hne2 : ¬ (i : Int) = (j : Int) := by omega
      by_cases hgt : j < i
      · have hgtz : (j : Int) < (i : Int) := by omega
        have hcall := swr_calls enc g cb blk off cap (m - i) m j lo hi d0 dk w0 wr R (by omega) S1.out (by omega) (by omega) (by omega) (by omega) (by omega)
        rw [ec1, hsk] at hcall
        clear S1 ec1
        go_wp2_with (go_at_call 251; refine hcall.mono ?_; rintro e w1 ⟨rfl, S3⟩)
        obtain ⟨d2, ht, hS⟩ := S3
        have HS : Aside _ := hS
        have HT : Aside _ := ht
        clear hS ht hcall
        go_wp2
        go_roundg (i - j + j)
        case measure => omega
        case rel => exact ⟨i - j, j, d2, by first | go_num | (congr 1; omega), rfl, by omega, by omega, by omega, by omega, Nat.le_refl _, HI.out.gt (by omega) hgt HT.out, HT.out.1.trans hsk, HS⟩
      · have hgtz : ¬ (j : Int) < (i : Int) := by omega
        have ec2 : ((m + j - i : Nat) : Int) = (m : Int) + (j : Int) - (i : Int) := by omega
        have hcall := swr_calls enc g cb blk off cap (m - i) (m + j - i) i lo hi d0 dk w0 wr R (by omega) S1.out (by omega) (by omega) (by omega) (by omega) (by omega)
        rw [ec1, ec2, hsk] at hcall
        clear S1 ec1 ec2
        go_wp2_with (go_at_call 251; refine hcall.mono ?_; rintro e w1 ⟨rfl, S3⟩)
        obtain ⟨d2, ht, hS⟩ := S3
        have HS : Aside _ := hS
        have HT : Aside _ := ht
        clear hS ht hcall
        go_wp2
        go_roundg (i + (j - i))
        case measure => omega
        case rel => exact ⟨i, j - i, d2, rfl, by first | go_num | (congr 1; omega), by omega, by omega, by omega, by omega, Nat.le_refl _, HI.out.lt (by omega) (by omega) HT.out, HT.out.1.trans hsk, HS⟩
end Go.Proofs.YtdjdillppgijmaaDoor
