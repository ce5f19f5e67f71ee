/- impl.GreatestFor: a range over slices.Backward: the last item whose price is within the money. -/
import Derived.Test.YtdjdillppgijmaaQx0
import Derived.Test.YtdjdillppgijmaaQx3
import Derived.Lib.QuietBelow
import Derived.RangeFuncNested
import Derived.RangeFuncBound
import Derived.RangeFuncCalls
import Derived.RangeFuncLeaves
import Derived.Shelf.Abstract
import Derived.Shelf.RegionOpen
import Derived.WalkKit
import Derived.OwnWalkIn
import Derived.TacticsInMore
import Derived.LoopNIn
import Derived.LoopIn
import Derived.IntWalk
set_option linter.unusedVariables false
set_option linter.unusedSimpArgs false
namespace Go.Proofs.Ytdjdillppgijmaa.Q
open Go.RowKit Go.Shelf Go.Proofs.YtdjdillppgijmaaW.PrintWords Go.Proofs.YtdjdillppgijmaaW.PrintLast Go.Proofs.YtdjdillppgijmaaW.PrintMore
attribute [local go_sem] Oper.semAt_some

def priceB (x : S35) (sky : Bool) : Int := if sky = true then wrap64 (x.f1 + x.f2) else x.f1
/-- What comes, in its order: the places from the last one down, with what lies there. -/
def bw (zs : List S35) (j : Nat) : Int × S35 := ((zs.length : Int) - 1 - j, rd_T35 zs ((zs.length : Int) - 1 - j))
def upto (zs : List S35) (k : Nat) : List (Int × S35) := (List.range k).map (bw zs)
theorem upto_succ (zs : List S35) (k : Nat) : upto zs (k + 1) = upto zs k ++ [bw zs k] := by simp [upto, List.range_succ]
theorem upto_length (zs : List S35) (k : Nat) : (upto zs k).length = k := by simp [upto]
def enc2 (x : Int × S35) : Array Value := #[.int .i64 x.1, .agg #[.int .i64 x.2.f0, .int .i64 x.2.f1, .int .i64 x.2.f2]]

set_option maxRecDepth 100000 in
set_option maxHeartbeats 4000000 in
/-- slices.Backward's closure. -/
theorem bwd1_in (F : Fence) (n : Nat) (h20 : F.fn 20) (hro : F.round = none) (hn : 1 ≤ n) (l Bs : Nat) (w1 : World) (A0 : Option Addr) (c0 : Nat) (zs : List S35) (hz : zs.length ≤ 1000000000)
    (hr0 : Kd.C k35 w1 A0 zs.length zs) (hBs : w1.cell? ⟨Bs, 0, none⟩ = some (.slice A0 zs.length c0)) (J Jx : List (Int × S35) → World → Prop)
    (hY : ∀ pre x W, J pre W → pre.length < zs.length → YieldAt F (n - 1) Try.prog l #[.int .i64 x.1, .agg #[.int .i64 x.2.f0, .int .i64 x.2.f1, .int .i64 x.2.f2]] W fun e W' =>
      (e = .returned (.bool true) ∧ J (pre ++ [x]) W' ∧ Below w1.heap.size W W') ∨ (e = .returned (.bool false) ∧ Jx (pre ++ [x]) W'))
    (W : World) (hW : Below w1.heap.size w1 W) (h0 : J [] W) :
    CallsIn F n Try.prog 20 #[.func (.yield l) #[] #[], .pointer (some ⟨Bs, 0, none⟩)] W fun e W' => (∃ v, e = .returned v) ∧
      ((∃ ys, ys = upto zs zs.length ∧ J ys W') ∨ (∃ pre, (∃ k, k ≤ zs.length ∧ pre = upto zs k) ∧ Jx pre W')) := by
  have hBW := (hW.cell (World.block_lt_of_cell? w1 _ hBs)).trans hBs
  refine callsIn_of_wp Try.func20 rfl h20 ?_ hro
  simp only [Try.ntmps20, List.size_toArray, List.length_cons, List.length_nil, Nat.reduceAdd, Nat.reduceSub, Array.replicate_succ, Array.replicate_zero, List.push_toArray, List.append_toArray, List.nil_append, List.cons_append]
  have q1 : IntKind.i64.wrap ((zs.length : Int) - 1) = (zs.length : Int) - 1 := IntWalk.i64_in _ (by omega)
  gi_wp2
  gi_loopw [3] (fun i wr => ∃ k : Nat, k ≤ zs.length ∧ i = .int .i64 ((zs.length : Int) - 1 - k) ∧ J (upto zs k) wr ∧ Below w1.heap.size w1 wr)
    (fun i _ => (intOf i + 1).toNat)
  case atStart => exact ⟨0, Nat.zero_le _, by simp, h0, hW⟩
  case round =>
    obtain ⟨k, hk, rfl, hJs, hnx⟩ := hrel
    have hbx := (hnx.cell (World.block_lt_of_cell? w1 _ hBs)).trans hBs
    by_cases hlt : k < zs.length
    · obtain ⟨ad, e, hx0, hx1, hx2⟩ := at_T35 hr0 ((zs.length : Int) - 1 - k) (by omega) (by omega)
      cases e
      replace hx0 := (hnx.cell (World.block_lt_of_cell? w1 _ hx0)).trans hx0
      replace hx1 := (hnx.cell (World.block_lt_of_cell? w1 _ hx1)).trans hx1
      replace hx2 := (hnx.cell (World.block_lt_of_cell? w1 _ hx2)).trans hx2
      rw [show ((zs.length : Int) - 1 - k).toNat = zs.length - 1 - k by omega] at hx0 hx1 hx2
      obtain ⟨fn, tmps, assign, body, hy, hR⟩ := hY _ (bw zs k) wr hJs (by rw [upto_length]; exact hlt)
      dsimp only [bw] at hy
      have p0 : (0 : Int) ≤ (zs.length : Int) - 1 - k := by omega
      have p1 : (zs.length : Int) - 1 - k < zs.length := by omega
      have p2 : IntKind.i64.wrap ((zs.length : Int) - 1 - k - 1) = (zs.length : Int) - 1 - k - 1 := IntWalk.i64_in _ (by omega)
      gi_wp2
      refine hR.mono ?_
      rintro e W3 (⟨rfl, hJ3, hk3⟩ | ⟨rfl, hJx3⟩)
      · gi_wp2
        go_roundw
        case rel => exact ⟨k + 1, by omega, by simp; omega, by rw [upto_succ]; exact hJ3, hnx.trans hk3⟩
        case measure => simp [intOf]; omega
      · gi_wp2
        refine bodyPost_ret (results_none rfl _ _ _) rfl ?_
        exact ⟨⟨_, rfl⟩, .inr ⟨_, ⟨k + 1, by omega, (upto_succ _ _).symm⟩, hJx3⟩⟩
    · obtain rfl : k = zs.length := by omega
      have p0 : (zs.length : Int) - 1 - zs.length < 0 := by omega
      gi_wp2
      go_end0
      exact ⟨⟨_, rfl⟩, .inl ⟨_, rfl, hJs⟩⟩

set_option maxHeartbeats 1000000 in
/-- slices.Backward(s). -/
theorem bwd_in (F : Fence) (n : Nat) (h16 : F.fn 16) (hro : F.round = none) (a : Option Addr) (len cap : Nat) (w : World) :
    CallsIn F n Try.prog 16 #[.slice a len cap] w fun e w' => e = .returned (.func (.func 20) #[] #[.pointer (some ⟨w.heap.size, 0, none⟩)]) ∧ w' = w.alloc (.cells #[.slice a len cap] 26) := by
  refine callsIn_of_wp Try.func16 rfl h16 ?_ hro
  simp only [Try.ntmps16, List.size_toArray, List.length_cons, List.length_nil, Nat.reduceAdd, Nat.reduceSub, Array.replicate_succ, Array.replicate_zero, List.push_toArray, List.append_toArray, List.nil_append, List.cons_append]
  gi_wp2
  go_ret
  exact ⟨rfl, rfl⟩

/-- slices.Backward(s) hands back a value that stops. -/
theorem bwd_stops (F : Fence) (n : Nat) (h20 : F.fn 20) (hro : F.round = none) (hn : 1 ≤ n) (Bs : Nat) (w1 : World) (A0 : Option Addr) (c0 : Nat) (zs : List S35) (hz : zs.length ≤ 1000000000)
    (hr0 : Kd.C k35 w1 A0 zs.length zs) (hBs : w1.cell? ⟨Bs, 0, none⟩ = some (.slice A0 zs.length c0)) :
    SeqStopsK F n Try.prog 20 #[.pointer (some ⟨Bs, 0, none⟩)] (fun x : Int × S35 => #[Value.int .i64 x.1, Value.agg #[.int .i64 x.2.f0, .int .i64 x.2.f1, .int .i64 x.2.f2]]) (Below w1.heap.size) (fun ys => ys = upto zs zs.length)
      (fun pre => ∃ k, k ≤ zs.length ∧ pre = upto zs k) zs.length w1 := fun l J Jx W hW _ _ hY h0 =>
  bwd1_in F n h20 hro hn l Bs w1 A0 c0 zs hz hr0 hBs J Jx hY W hW h0
end Go.Proofs.Ytdjdillppgijmaa.Q
