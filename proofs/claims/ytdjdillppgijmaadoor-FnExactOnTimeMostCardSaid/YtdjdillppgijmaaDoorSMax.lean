/- slices.Max at int64: the greatest of some numbers. -/
import Derived.Test.YtdjdillppgijmaaDoorQox0
import Derived.Lib.Hide
set_option linter.unusedVariables false
set_option linter.unusedSimpArgs false
namespace Go.Proofs.YtdjdillppgijmaaDoor.Qo
open Go.RowKit Go.Proofs.YtdjdillppgijmaaDoorW.PrintWords Go.Proofs.YtdjdillppgijmaaDoorW.PrintLast Go.Proofs.YtdjdillppgijmaaDoorW.PrintMore
attribute [local go_sem] max2_int min2_int max_two min_two

/-- The greatest number up to a place. -/
def maxTo (l : List Int) : Nat → Int
  | 0 => rd l 0
  | i + 1 => mx (maxTo l i) (rd l ((i + 1 : Nat) : Int))
theorem ret_int {a b : Int} (h : a = b) : Ending.returned (.int .i64 a) = .returned (.int .i64 b) := by rw [h]
def slices_Max_int64_int64.f (l0 : List Int) : Option Int := if 0 < l0.length ∧ l0.length ≤ 1000000000 then some (maxTo l0 (l0.length - 1)) else none
set_option maxHeartbeats 4000000 in
set_option maxRecDepth 100000 in
theorem slices_Max_int64_int64.calls (A0 : Option Addr) (c0 : Nat) (l0 : List Int) (r : Int) (w : World) (hr0 : Kd.C (Kd.int .i64) w A0 l0.length l0) (hc0 : l0.length ≤ c0) (h : slices_Max_int64_int64.f l0 = some r) :
    Calls Tryd.prog 147 #[.slice A0 l0.length c0] w fun e w' => e = .returned (.int .i64 r) ∧ Drawn0 w w' := by
  unfold slices_Max_int64_int64.f at h
  split at h
  case isFalse => cases h
  case isTrue hc =>
  obtain ⟨h0, h9⟩ := hc
  obtain rfl := Option.some.inj h
  clear h
  obtain ⟨ad, e, hx⟩ := Kd.at_int hr0 0 (by omega) (by omega)
  cases e
  have h0z : ¬ (l0.length : Int) < 1 := by omega
  have h0y : (0 : Int) < (l0.length : Int) := by omega
  have hm0 : maxTo l0 0 = rd l0 0 := rfl
  have HM0 := Lib.hid hm0
  clear hm0
  have hx' : w.cell? ad = some (.int .i64 (rd l0 0)) := hx
  clear hx
  go_enter Tryd.func147, Tryd.ntmps147
  go_wp2
  go_loopg [3, 4] l0.length (fun g1 v3 v4 wr => ∃ j : Int, v4 = .int .i64 j ∧ 1 ≤ j ∧ j ≤ l0.length ∧ l0.length - j.toNat ≤ g1 ∧ v3 = .int .i64 (maxTo l0 (j.toNat - 1)) ∧ Hid (Drawn0 w wr))
  case atStart => exact ⟨1, rfl, by omega, by omega, by omega, by rw [show (1 : Int).toNat - 1 = 0 from rfl, HM0.out], Lib.hid (Drawn0.refl _)⟩
  case round =>
    obtain ⟨j, rfl, hj1, hj, hg, rfl, HD⟩ := hrel
    by_cases hlt : j < (l0.length : Int)
    · obtain ⟨ad2, e, hx⟩ := Kd.at_int hr0 j (by omega) hlt
      cases e
      have hx2 := (HD.out.below.cell (World.block_lt_of_cell? w _ hx)).trans hx
      have hs : Hid (maxTo l0 j.toNat = mx (maxTo l0 (j.toNat - 1)) (rd l0 j)) := Lib.hid (by
        obtain ⟨q, hq⟩ : ∃ q, j.toNat = q + 1 := ⟨j.toNat - 1, by omega⟩
        have hj2 : j = ((q + 1 : Nat) : Int) := by omega
        rw [hq, Nat.add_sub_cancel, hj2]
        rfl)
      clear hx hx'
      have hj0 : 0 ≤ j := by omega
      generalize rd l0 j = y at hx2 hs
      generalize maxTo l0 (j.toNat - 1) = m at hs ⊢
      go_wp2
      all_goals
        go_roundg (l0.length - (j + 1).toNat)
        case measure => omega
        case rel => exact ⟨j + 1, by first | rfl | go_num, by omega, by omega, Nat.le_refl _, by rw [show (j + 1).toNat - 1 = j.toNat by omega, hs.out]; first | rfl | (congr 1; unfold mx; omega), HD⟩
    · have hil : j.toNat - 1 = l0.length - 1 := by omega
      have HI := Lib.hid hil
      clear hil
      go_wp2
      go_ret
      exact ⟨ret_int (by rw [HI.out]), HD.out⟩
end Go.Proofs.YtdjdillppgijmaaDoor.Qo
