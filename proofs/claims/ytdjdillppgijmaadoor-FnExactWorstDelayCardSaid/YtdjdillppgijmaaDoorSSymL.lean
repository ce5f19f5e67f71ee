/- slices.symMergeCmpFunc at int64, where the left part is one element. -/
import Derived.Test.YtdjdillppgijmaaDoorSRot
set_option linter.unusedVariables false
set_option linter.unusedSimpArgs false
namespace Go.Proofs.YtdjdillppgijmaaDoor
open Go.Shelf Go.RowKit Go.Lib Go.Sort
variable {α : Type} [Inhabited α]

/-- Merged: a permutation of the part, sorted by T. -/
def Merged (T : α → α → Bool) (a b : Nat) (d d' : Array α) : Prop := d'.size = d.size ∧ PermIn a b d d' ∧ SortedIn T a b d'

set_option maxHeartbeats 16000000 in
set_option maxRecDepth 1000000 in
theorem sym_left (enc : α → Value) (cf : α → α → Int) (T : α → α → Bool) (hT : SWO T) (g : Nat) (cb : Array Value) (blk off cap a b : Nat) (d0 d : Array α) (w0 w : World)
    (eg : ∀ args w, (callFunc g args).run Tryd.prog w = .ok (.enter g args) w) (hcmp : CmpLays1 Tryd.prog g cb enc cf blk off d0.size w0) (R : Row1 enc w0 blk off d0) (hs : d0.size = d.size) (S : SW enc w0 blk off d w) (hmb : a + 1 < b) (hb : b ≤ d.size) (hsz : d.size < 4611686018427387904) (hM : Mix (ltOf cf) T a (a + 1) b d) :
    Calls Tryd.prog 231 #[.slice (some ⟨blk, off, none⟩) d.size cap, .int .i64 a, .int .i64 ((a : Int) + 1), .int .i64 b, .func (.func g) #[] cb] w fun e w' => e = .returned (.tuple #[]) ∧ RowNow enc w0 blk off (Merged T a b d) w' := by
  have hmix : Tryd.prog.follows .mixedOrders = true := by kernel_rfl
  have hu2 := Tryd.underlying2
  have hu3 := Tryd.underlying3
  have hu27 := Tryd.underlying27
  have hcl0 := R.hO.cells
  simp only [Value.cells] at hcl0
  have hst := R.hO.store Tryd.prog
  have HC : Aside _ := hcmp
  have HM : Aside _ := hM
  have S0 : Aside (SW enc w0 blk off d w) := S
  clear S hcmp hM
  have e1 : (a : Int) + 1 - (a : Int) = 1 := by omega
  go_enter Tryd.func231, Tryd.ntmps231
  go_wp2
  clear e1
  go_loopg [10, 11] (b - (a + 1)) (fun g1 vi vj wr => ∃ (i j : Nat), vi = .int .i64 i ∧ vj = .int .i64 j ∧ a + 1 ≤ i ∧ i ≤ j ∧ j ≤ b ∧ j - i ≤ g1 ∧ Aside ((a + 1 < i → (ltOf cf) d[i - 1]! d[a]! = true) ∧ (j < b → (ltOf cf) d[j]! d[a]! = false)) ∧ Aside (SW enc w0 blk off d wr))
  case atStart => exact ⟨a + 1, b, by first | go_num | (congr 1; omega), rfl, by omega, by omega, by omega, by omega, ⟨fun h => by omega, fun h => by omega⟩, S0⟩
  case round =>
    clear S0
    obtain ⟨i, j, rfl, rfl, hai, hij, hjb, hg1, HB, S1⟩ := hrel
    by_cases hlt : i < j
    · have hltz : (i : Int) < (j : Int) := by omega
      obtain ⟨h, hh⟩ : ∃ h : Nat, h = (i + j) / 2 := ⟨_, rfl⟩
      have eh : ((i : Int) + (j : Int)) / 2 = (h : Int) := by omega
      have hh1 : i ≤ h := by omega
      have hh2 : h < j := by omega
      clear hh
      go_wp2_with fail
      clear eh
      obtain ⟨x, hx⟩ : ∃ x, x = d[h]! := ⟨_, rfl⟩
      obtain ⟨y, hy⟩ : ∃ x, x = d[a]! := ⟨_, rfl⟩
      have la := S1.out.cl R (by omega) h (by omega)
      have lb := S1.out.cl R (by omega) a (by omega)
      rw [← hx] at la
      rw [← hy] at lb
      have pa : (0 : Int) ≤ (h : Int) := by omega
      have ba : (h : Int) < (d.size : Int) := by omega
      have pc : (0 : Int) ≤ (a : Int) := by omega
      have bc : (a : Int) < (d.size : Int) := by omega
      have hc := S1.out.cmp HC.out (by omega) x y
      cases hlv : (ltOf cf) x y with
      | true =>
        have hv : cf x y < 0 := of_decide_eq_true hlv
        have hd : decide (cf x y < 0) = true := decide_eq_true hv
        have HB2 : Aside ((a + 1 < h + 1 → (ltOf cf) d[h + 1 - 1]! d[a]! = true) ∧ (j < b → (ltOf cf) d[j]! d[a]! = false)) := ⟨fun _ => by rw [Nat.add_sub_cancel, ← hx, ← hy]; exact hlv, HB.out.2⟩
        clear hx hy hlv HB
        go_quiet_grown (first | (go_at_fn g; refine Calls.grown_of (hc _ _)))
        have S2 : Aside (SW enc w0 blk off d (grow (wr.drewN nq) osq)) := S1.out.grown nq osq
        clear la lb hc S1
        generalize grow (wr.drewN nq) osq = w2 at S2 ⊢
        clear nq osq
        go_wp2
        go_roundg (j - (h + 1))
        case measure => omega
        case rel => exact ⟨h + 1, j, by first | go_num | (congr 1; omega), rfl, by omega, by omega, hjb, Nat.le_refl _, HB2, S2⟩
      | false =>
        have hv : ¬ cf x y < 0 := of_decide_eq_false hlv
        have hd : decide (cf x y < 0) = false := decide_eq_false hv
        have HB2 : Aside ((a + 1 < i → (ltOf cf) d[i - 1]! d[a]! = true) ∧ (h < b → (ltOf cf) d[h]! d[a]! = false)) := ⟨HB.out.1, fun _ => by rw [← hx, ← hy]; exact hlv⟩
        clear hx hy hlv HB
        go_quiet_grown (first | (go_at_fn g; refine Calls.grown_of (hc _ _)))
        have S2 : Aside (SW enc w0 blk off d (grow (wr.drewN nq) osq)) := S1.out.grown nq osq
        clear la lb hc S1
        generalize grow (wr.drewN nq) osq = w2 at S2 ⊢
        clear nq osq
        go_wp2
        go_roundg (h - i)
        case measure => omega
        case rel => exact ⟨i, h, rfl, rfl, hai, hh1, by omega, Nat.le_refl _, HB2, S2⟩
    · have hltz : ¬ (i : Int) < (j : Int) := by omega
      obtain rfl : i = j := by omega
      go_wp2
      go_loopg [13] (i - 1 - a) (fun g1 vk wr2 => ∃ (k : Nat) (dk : Array α), vk = .int .i64 k ∧ a ≤ k ∧ k ≤ i - 1 ∧ i - 1 - k ≤ g1 ∧ Aside (Turned a b d (rotF (d[·]!) a (a + 1) (k + 1)) dk) ∧ dk.size = d.size ∧ Aside (SW enc w0 blk off dk wr2))
      case atStart => exact ⟨a, d, rfl, Nat.le_refl _, by omega, Nat.le_refl _, ⟨rfl, permIn_refl _ _ _, fun x => by rw [rot_right]⟩, rfl, S1⟩
      case round =>
        clear S1
        obtain ⟨k, dk, rfl, hak, hki, hg2, HTu, hsk, S1⟩ := hrel
        by_cases hk : k < i - 1
        · have hkz : (k : Int) < (i : Int) - 1 := by omega
          obtain ⟨iN, hiN⟩ : ∃ q, q = k := ⟨_, rfl⟩
          obtain ⟨jN, hjN⟩ : ∃ q, q = k + 1 := ⟨_, rfl⟩
          have ea : ((k : Int)).toNat = iN := by omega
          have pa : (0 : Int) ≤ (k : Int) := by omega
          have ba : (k : Int) < (d.size : Int) := by omega
          have ec : ((k : Int) + 1).toNat = jN := by omega
          have pc : (0 : Int) ≤ (k : Int) + 1 := by omega
          have bc : (k : Int) + 1 < (d.size : Int) := by omega
          have rc : IntKind.i64.wrap ((k : Int) + 1) = (k : Int) + 1 := by rw [IntKind.wrap_i64]; omega
          obtain ⟨x, hx⟩ : ∃ x, x = dk[k]! := ⟨_, rfl⟩
          obtain ⟨y, hy⟩ : ∃ x, x = dk[k + 1]! := ⟨_, rfl⟩
          have S3 : Aside (SW enc w0 blk off (swp dk k (k + 1)) ((wr.setCell ⟨blk, off + iN, none⟩ (enc y)).setCell ⟨blk, off + jN, none⟩ (enc x)).drew) := by rw [hiN, hjN, hx, hy]; exact S1.out.swapped R k (k + 1) (by omega) (by omega)
          have T3 : Aside (Turned a b d (rotF (d[·]!) a (a + 1) (k + 1 + 1)) (swp dk k (k + 1))) := HTu.out.swap k (k + 1) (by omega) (by omega) (by omega) (by omega) hb (up_step dk _ a k hak HTu.out.2.2 (by omega))
          have ca := S1.out.c1 R (by omega) k (by omega)
          have cb' := S1.out.c1 R (by omega) (k + 1) (by omega)
          have fa := S1.out.f1 R (by omega) k (by omega)
          have fb := S1.out.f1 R (by omega) (k + 1) (by omega)
          obtain ⟨u, cc⟩ := S1.out.c2 R (by omega) k (k + 1) (by omega) (by omega) (enc y)
          rw [← hjN, ← hiN] at cc
          rw [← hx, ← hiN] at ca
          rw [← hy, ← hjN] at cb'
          rw [← hiN] at fa
          rw [← hjN] at fb
          clear S1 HTu hx hy hiN hjN
          go_wp2_with fail
          go_big_region_o
          clear ca cb' cc fa fb
          generalize ((wr.setCell ⟨blk, off + iN, none⟩ (enc y)).setCell ⟨blk, off + jN, none⟩ (enc x)).drew = w2 at S3 ⊢
          clear ea ec
          go_wp2
          go_roundg (i - 1 - (k + 1))
          case measure => omega
          case rel => exact ⟨k + 1, swp dk k (k + 1), by first | rfl | go_num, by omega, by omega, Nat.le_refl _, T3, by rw [size_swp]; exact hsk, S3⟩
        · have hkz : ¬ (k : Int) < (i : Int) - 1 := by omega
          obtain rfl : k = i - 1 := by omega
          go_wp2
          (try simp only [Exit.inBlock, Exit.then]); refine bodyPost_ret (results_none rfl _ _ _) rfl ?_
          refine ⟨rfl, dk, ⟨hsk, HTu.out.2.1, sorted_up hT HM.out hai hjb HB.out.1 HB.out.2 (fun x => ?_)⟩, S1.out⟩
          rw [HTu.out.2.2 x, show i - 1 + 1 = i by omega]
end Go.Proofs.YtdjdillppgijmaaDoor
