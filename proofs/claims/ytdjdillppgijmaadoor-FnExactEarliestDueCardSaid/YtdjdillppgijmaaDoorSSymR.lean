/- slices.symMergeCmpFunc at int64, where the right part is one element. -/
import Derived.Test.YtdjdillppgijmaaDoorSSymL
set_option linter.unusedVariables false
set_option linter.unusedSimpArgs false
namespace Go.Proofs.YtdjdillppgijmaaDoor
open Go.Shelf Go.RowKit Go.Lib Go.Sort
variable {α : Type} [Inhabited α]


set_option maxHeartbeats 16000000 in
set_option maxRecDepth 1000000 in
theorem sym_right (enc : α → Value) (cf : α → α → Int) (T : α → α → Bool) (hT : SWO T) (g : Nat) (cb : Array Value) (blk off cap a m : Nat) (d0 d : Array α) (w0 w : World)
    (eg : ∀ args w, (callFunc g args).run Tryd.prog w = .ok (.enter g args) w) (hcmp : CmpLays1 Tryd.prog g cb enc cf blk off d0.size w0) (R : Row1 enc w0 blk off d0) (hs : d0.size = d.size) (S : SW enc w0 blk off d w) (ham : a + 1 < m) (hb : m + 1 ≤ d.size) (hsz : d.size < 4611686018427387904) (hM : Mix (ltOf cf) T a m (m + 1) d) :
    Calls Tryd.prog 231 #[.slice (some ⟨blk, off, none⟩) d.size cap, .int .i64 a, .int .i64 m, .int .i64 ((m : Int) + 1), .func (.func g) #[] cb] w fun e w' => e = .returned (.tuple #[]) ∧ RowNow enc w0 blk off (Merged T a (m + 1) d) w' := by
  have hmix : Tryd.prog.follows .mixedOrders = true := by kernel_rfl
  have hu2 := Tryd.underlying2
  have hu3 := Tryd.underlying3
  have hu27 := Tryd.underlying27
  have hcl0 := R.hO.cells
  simp only [Value.cells] at hcl0
  have hst := R.hO.store Tryd.prog
  have HC : Aside _ := hcmp
  have HM : Aside _ := hM
  have S0 : Aside (SW enc w0 blk off d w) := S
  clear S hcmp hM
  have e1 : (m : Int) + 1 - (m : Int) = 1 := by omega
  have e2 : ((m : Int) - (a : Int) == 1) = false := by simp; omega
  have e3 : ¬ (m : Int) - (a : Int) = 1 := by omega
  go_enter Tryd.func231, Tryd.ntmps231
  go_wp2
  clear e1 e2 e3
  go_loopg [14, 15] (m - a) (fun g1 vi vj wr => ∃ (i j : Nat), vi = .int .i64 i ∧ vj = .int .i64 j ∧ a ≤ i ∧ i ≤ j ∧ j ≤ m ∧ j - i ≤ g1 ∧ Aside ((a < i → (ltOf cf) d[m]! d[i - 1]! = false) ∧ (j < m → (ltOf cf) d[m]! d[j]! = true)) ∧ Aside (SW enc w0 blk off d wr))
  case atStart => exact ⟨a, m, rfl, rfl, by omega, by omega, by omega, by omega, ⟨fun h => by omega, fun h => by omega⟩, S0⟩
  case round =>
    clear S0
    obtain ⟨i, j, rfl, rfl, hai, hij, hjb, hg1, HB, S1⟩ := hrel
    by_cases hlt : i < j
    · have hltz : (i : Int) < (j : Int) := by omega
      obtain ⟨h, hh⟩ : ∃ h : Nat, h = (i + j) / 2 := ⟨_, rfl⟩
      have eh : ((i : Int) + (j : Int)) / 2 = (h : Int) := by omega
      have hh1 : i ≤ h := by omega
      have hh2 : h < j := by omega
      clear hh
      go_wp2_with fail
      clear eh
      obtain ⟨x, hx⟩ : ∃ x, x = d[m]! := ⟨_, rfl⟩
      obtain ⟨y, hy⟩ : ∃ x, x = d[h]! := ⟨_, rfl⟩
      have la := S1.out.cl R (by omega) m (by omega)
      have lb := S1.out.cl R (by omega) h (by omega)
      rw [← hx] at la
      rw [← hy] at lb
      have pa : (0 : Int) ≤ (h : Int) := by omega
      have ba : (h : Int) < (d.size : Int) := by omega
      have pc : (0 : Int) ≤ (m : Int) := by omega
      have bc : (m : Int) < (d.size : Int) := by omega
      have hc := S1.out.cmp HC.out (by omega) x y
      cases hlv : (ltOf cf) x y with
      | false =>
        have hv : ¬ cf x y < 0 := of_decide_eq_false hlv
        have hd : decide (cf x y < 0) = false := decide_eq_false hv
        have HB2 : Aside ((a < h + 1 → (ltOf cf) d[m]! d[h + 1 - 1]! = false) ∧ (j < m → (ltOf cf) d[m]! d[j]! = true)) := ⟨fun _ => by rw [Nat.add_sub_cancel, ← hx, ← hy]; exact hlv, HB.out.2⟩
        clear hx hy hlv HB
        go_quiet_grown (first | (go_at_fn g; refine Calls.grown_of (hc _ _)))
        have S2 : Aside (SW enc w0 blk off d (grow (wr.drewN nq) osq)) := S1.out.grown nq osq
        clear la lb hc S1
        generalize grow (wr.drewN nq) osq = w2 at S2 ⊢
        clear nq osq
        go_wp2
        go_roundg (j - (h + 1))
        case measure => omega
        case rel => exact ⟨h + 1, j, by first | go_num | (congr 1; omega), rfl, by omega, by omega, hjb, Nat.le_refl _, HB2, S2⟩
      | true =>
        have hv : cf x y < 0 := of_decide_eq_true hlv
        have hd : decide (cf x y < 0) = true := decide_eq_true hv
        have HB2 : Aside ((a < i → (ltOf cf) d[m]! d[i - 1]! = false) ∧ (h < m → (ltOf cf) d[m]! d[h]! = true)) := ⟨HB.out.1, fun _ => by rw [← hx, ← hy]; exact hlv⟩
        clear hx hy hlv HB
        go_quiet_grown (first | (go_at_fn g; refine Calls.grown_of (hc _ _)))
        have S2 : Aside (SW enc w0 blk off d (grow (wr.drewN nq) osq)) := S1.out.grown nq osq
        clear la lb hc S1
        generalize grow (wr.drewN nq) osq = w2 at S2 ⊢
        clear nq osq
        go_wp2
        go_roundg (h - i)
        case measure => omega
        case rel => exact ⟨i, h, rfl, rfl, hai, hh1, by omega, Nat.le_refl _, HB2, S2⟩
    · have hltz : ¬ (i : Int) < (j : Int) := by omega
      obtain rfl : i = j := by omega
      go_wp2
      go_loopg [17] (m - i) (fun g1 vk wr2 => ∃ (k : Nat) (dk : Array α), vk = .int .i64 k ∧ i ≤ k ∧ k ≤ m ∧ k - i ≤ g1 ∧ Aside (Turned a (m + 1) d (rotF (d[·]!) k m (m + 1)) dk) ∧ dk.size = d.size ∧ Aside (SW enc w0 blk off dk wr2))
      case atStart => exact ⟨m, d, rfl, by omega, by omega, Nat.le_refl _, ⟨rfl, permIn_refl _ _ _, fun x => by rw [rot_left _ _ _ (Nat.le_succ m)]⟩, rfl, S1⟩
      case round =>
        clear S1
        obtain ⟨k, dk, rfl, hak, hki, hg2, HTu, hsk, S1⟩ := hrel
        by_cases hk : i < k
        · obtain ⟨q, rfl⟩ : ∃ q, k = q + 1 := ⟨k - 1, by omega⟩
          have zq : ((q + 1 : Nat) : Int) = (q : Int) + 1 := by omega
          have hkz : (i : Int) < (q : Int) + 1 := by omega
          obtain ⟨iN, hiN⟩ : ∃ p, p = q + 1 := ⟨_, rfl⟩
          obtain ⟨jN, hjN⟩ : ∃ p, p = q + 1 - 1 := ⟨_, rfl⟩
          have ea : ((q : Int) + 1).toNat = iN := by omega
          have pa : (0 : Int) ≤ (q : Int) + 1 := by omega
          have ba : (q : Int) + 1 < (d.size : Int) := by omega
          have ra : IntKind.i64.wrap ((q : Int) + 1) = (q : Int) + 1 := by rw [IntKind.wrap_i64]; omega
          have ec : ((q : Int)).toNat = jN := by omega
          have pc : (0 : Int) ≤ (q : Int) := by omega
          have bc : (q : Int) < (d.size : Int) := by omega
          have rc : IntKind.i64.wrap ((q : Int)) = (q : Int) := by rw [IntKind.wrap_i64]; omega
          obtain ⟨x, hx⟩ : ∃ x, x = dk[q + 1]! := ⟨_, rfl⟩
          obtain ⟨y, hy⟩ : ∃ x, x = dk[q + 1 - 1]! := ⟨_, rfl⟩
          have S3 : Aside (SW enc w0 blk off (swp dk (q + 1) (q + 1 - 1)) ((wr.setCell ⟨blk, off + iN, none⟩ (enc y)).setCell ⟨blk, off + jN, none⟩ (enc x)).drew) := by rw [hiN, hjN, hx, hy]; exact S1.out.swapped R (q + 1) (q + 1 - 1) (by omega) (by omega)
          have T3 : Aside (Turned a (m + 1) d (rotF (d[·]!) (q + 1 - 1) m (m + 1)) (swp dk (q + 1) (q + 1 - 1))) := HTu.out.swap (q + 1) (q + 1 - 1) (by omega) (by omega) (by omega) (by omega) hb (down_step dk _ m (q + 1) (by omega) (by omega) HTu.out.2.2 (by omega))
          have ca := S1.out.c1 R (by omega) (q + 1) (by omega)
          have cb' := S1.out.c1 R (by omega) (q + 1 - 1) (by omega)
          have fa := S1.out.f1 R (by omega) (q + 1) (by omega)
          have fb := S1.out.f1 R (by omega) (q + 1 - 1) (by omega)
          obtain ⟨u, cc⟩ := S1.out.c2 R (by omega) (q + 1) (q + 1 - 1) (by omega) (by omega) (enc y)
          rw [← hjN, ← hiN] at cc
          rw [← hx, ← hiN] at ca
          rw [← hy, ← hjN] at cb'
          rw [← hiN] at fa
          rw [← hjN] at fb
          clear S1 HTu hx hy hiN hjN
          go_wp2_with fail
          go_big_region_o
          clear ca cb' cc fa fb
          generalize ((wr.setCell ⟨blk, off + iN, none⟩ (enc y)).setCell ⟨blk, off + jN, none⟩ (enc x)).drew = w2 at S3 ⊢
          clear ea ec
          go_wp2
          go_roundg (q - i)
          case measure => omega
          case rel => exact ⟨q, swp dk (q + 1) (q + 1 - 1), by first | rfl | go_num | (congr 1; omega), by omega, by omega, Nat.le_refl _, T3, by rw [size_swp]; exact hsk, S3⟩
        · have hkz : ¬ (i : Int) < (k : Int) := by omega
          obtain rfl : k = i := by omega
          go_wp2
          (try simp only [Exit.inBlock, Exit.then]); refine bodyPost_ret (results_none rfl _ _ _) rfl ?_
          exact ⟨rfl, dk, ⟨hsk, HTu.out.2.1, sorted_down hT HM.out hai hjb HB.out.1 HB.out.2 HTu.out.2.2⟩, S1.out⟩
end Go.Proofs.YtdjdillppgijmaaDoor
