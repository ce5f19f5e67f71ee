/- slices.swapRangeCmpFunc, rotateCmpFunc, symMergeCmpFunc at int64: merging two sorted parts of a row in place. -/
import Derived.Test.YtdjdillppgijmaaDoorProg
import Derived.Test.YtdjdillppgijmaaDoorPlSort
import Derived.Shelf.SlSortCmp.Insertion1
import Derived.Deep.Cut
import Derived.Lib.Hide
set_option linter.unusedVariables false
set_option linter.unusedSimpArgs false
namespace Go.Proofs.YtdjdillppgijmaaDoor
open Go.Shelf Go.RowKit Go.Lib Go.Sort
variable {α : Type} [Inhabited α]

/-! ### two parts of a row change places -/
/-- Some row as told lies in the world. -/
def RowNow (enc : α → Value) (w0 : World) (blk off : Nat) (Q : Array α → Prop) (w' : World) : Prop := ∃ d', Q d' ∧ SW enc w0 blk off d' w'
/-- A row whose cells are told, a permutation of what it held. -/
def Turned (lo hi : Nat) (d : Array α) (f : Nat → α) (d' : Array α) : Prop := d'.size = d.size ∧ PermIn lo hi d d' ∧ ∀ k, d'[k]! = f k

theorem Turned.swap {lo hi : Nat} {d d1 : Array α} {f f' : Nat → α} (h : Turned lo hi d f d1) (i j : Nat) (hi1 : lo ≤ i) (hi2 : i < hi) (hj1 : lo ≤ j) (hj2 : j < hi) (hs : hi ≤ d.size) (he : ∀ k, (swp d1 i j)[k]! = f' k) : Turned lo hi d f' (swp d1 i j) :=
  ⟨by rw [size_swp]; exact h.1, permIn_trans _ _ _ _ _ h.2.1 (swp_permIn d1 lo hi i j hi1 hi2 hj1 hj2 (by rw [h.1]; exact hs)), he⟩

set_option maxHeartbeats 16000000 in
set_option maxRecDepth 1000000 in
theorem swr_calls (enc : α → Value) (g : Nat) (cb : Array Value) (blk off cap a b n lo hi : Nat) (d0 d : Array α) (w0 w : World) (R : Row1 enc w0 blk off d0) (hs : d0.size = d.size) (S : SW enc w0 blk off d w) (hab : a + n ≤ b) (hlo : lo ≤ a) (hhi : b + n ≤ hi) (hb : hi ≤ d.size) (hsz : d.size < 4611686018427387904) :
    Calls Tryd.prog 251 #[.slice (some ⟨blk, off, none⟩) d.size cap, .int .i64 a, .int .i64 b, .int .i64 n, .func (.func g) #[] cb] w fun e w' => e = .returned (.tuple #[]) ∧ RowNow enc w0 blk off (Turned lo hi d (swrF (d[·]!) a b n)) w' := by
  have hmix : Tryd.prog.follows .mixedOrders = true := by kernel_rfl
  have hu2 := Tryd.underlying2
  have hu3 := Tryd.underlying3
  have hu27 := Tryd.underlying27
  have hcl0 := R.hO.cells
  simp only [Value.cells] at hcl0
  have hst := R.hO.store Tryd.prog
  have S0 : Aside (SW enc w0 blk off d w) := S
  clear S
  go_enter Tryd.func251, Tryd.ntmps251
  go_wp2
  go_loopg [10] n (fun g1 vi wr => ∃ (i : Nat) (dk : Array α), vi = .int .i64 i ∧ i ≤ n ∧ n - i ≤ g1 ∧ Aside (Turned lo hi d (swrF (d[·]!) a b i) dk) ∧ dk.size = d.size ∧ Aside (SW enc w0 blk off dk wr))
  case atStart => exact ⟨0, d, by go_num, by omega, by omega, ⟨rfl, permIn_refl _ _ _, fun k => by rw [swr_zero]⟩, rfl, S0⟩
  case round =>
    clear S0
    obtain ⟨i, dk, rfl, hin, hg1, HT, hsk, S1⟩ := hrel
    by_cases hlt : i < n
    · have hltz : (i : Int) < (n : Int) := by omega
      obtain ⟨iN, hiN⟩ : ∃ q, q = a + i := ⟨_, rfl⟩
      obtain ⟨jN, hjN⟩ : ∃ q, q = b + i := ⟨_, rfl⟩
      have ea : ((a : Int) + (i : Int)).toNat = iN := by omega
      have pa : (0 : Int) ≤ (a : Int) + (i : Int) := by omega
      have ba : (a : Int) + (i : Int) < (d.size : Int) := by omega
      have ra : IntKind.i64.wrap ((a : Int) + (i : Int)) = (a : Int) + (i : Int) := by rw [IntKind.wrap_i64]; omega
      have ec : ((b : Int) + (i : Int)).toNat = jN := by omega
      have pc : (0 : Int) ≤ (b : Int) + (i : Int) := by omega
      have bc : (b : Int) + (i : Int) < (d.size : Int) := by omega
      have rc : IntKind.i64.wrap ((b : Int) + (i : Int)) = (b : Int) + (i : Int) := by rw [IntKind.wrap_i64]; omega
      obtain ⟨x, hx⟩ : ∃ x, x = dk[a + i]! := ⟨_, rfl⟩
      obtain ⟨y, hy⟩ : ∃ x, x = dk[b + i]! := ⟨_, rfl⟩
      have S3 : Aside (SW enc w0 blk off (swp dk (a + i) (b + i)) ((wr.setCell ⟨blk, off + iN, none⟩ (enc y)).setCell ⟨blk, off + jN, none⟩ (enc x)).drew) := by rw [hiN, hjN, hx, hy]; exact S1.out.swapped R (a + i) (b + i) (by omega) (by omega)
      have T3 : Aside (Turned lo hi d (swrF (d[·]!) a b (i + 1)) (swp dk (a + i) (b + i))) := HT.out.swap (a + i) (b + i) (by omega) (by omega) (by omega) (by omega) hb (swr_step dk _ a b i (by omega) HT.out.2.2 (by omega))
      have ca := S1.out.c1 R (by omega) (a + i) (by omega)
      have cb := S1.out.c1 R (by omega) (b + i) (by omega)
      have fa := S1.out.f1 R (by omega) (a + i) (by omega)
      have fb := S1.out.f1 R (by omega) (b + i) (by omega)
      obtain ⟨u, cc⟩ := S1.out.c2 R (by omega) (a + i) (b + i) (by omega) (by omega) (enc y)
      rw [← hjN, ← hiN] at cc
      rw [← hx, ← hiN] at ca
      rw [← hy, ← hjN] at cb
      rw [← hiN] at fa
      rw [← hjN] at fb
      clear S1 HT hx hy hiN hjN
      go_wp2_with fail
      go_big_region_o
      clear ca cb cc fa fb
      generalize ((wr.setCell ⟨blk, off + iN, none⟩ (enc y)).setCell ⟨blk, off + jN, none⟩ (enc x)).drew = w2 at S3 ⊢
      clear ea ec
      go_wp2
      go_roundg (n - (i + 1))
      case measure => omega
      case rel => exact ⟨i + 1, swp dk (a + i) (b + i), by first | rfl | go_num, by omega, Nat.le_refl _, T3, by rw [size_swp]; exact hsk, S3⟩
    · have hltz : ¬ (i : Int) < (n : Int) := by omega
      obtain rfl : i = n := by omega
      go_wp2
      go_end0
      exact ⟨rfl, dk, HT, S1.out⟩

/-! ### two parts side by side change places -/
/-- What is left to rotate in dk comes to what is asked of d. -/
def RotInv (lo hi a m b i j : Nat) (d dk : Array α) : Prop := dk.size = d.size ∧ PermIn lo hi d dk ∧ rotF (dk[·]!) (m - i) m (m + j) = rotF (d[·]!) a m b

theorem RotInv.gt {lo hi a m b i j : Nat} {d dk d2 : Array α} (h : RotInv lo hi a m b i j d dk) (hm : i ≤ m) (hij : j < i) (ht : Turned lo hi dk (swrF (dk[·]!) (m - i) m j) d2) : RotInv lo hi a m b (i - j) j d d2 := by
  obtain ⟨h1, h2, h3⟩ := h
  obtain ⟨t1, t2, t3⟩ := ht
  refine ⟨t1.trans h1, permIn_trans _ _ _ _ _ h2 t2, ?_⟩
  rw [show (fun x => d2[x]!) = swrF (dk[·]!) (m - i) m j from funext t3, show m - (i - j) = m - i + j by omega, rot_gt _ m i j hm hij]
  exact h3
theorem RotInv.lt {lo hi a m b i j : Nat} {d dk d2 : Array α} (h : RotInv lo hi a m b i j d dk) (hm : i ≤ m) (hij : i < j) (ht : Turned lo hi dk (swrF (dk[·]!) (m - i) (m + j - i) i) d2) : RotInv lo hi a m b i (j - i) d d2 := by
  obtain ⟨h1, h2, h3⟩ := h
  obtain ⟨t1, t2, t3⟩ := ht
  refine ⟨t1.trans h1, permIn_trans _ _ _ _ _ h2 t2, ?_⟩
  rw [show (fun x => d2[x]!) = swrF (dk[·]!) (m - i) (m + j - i) i from funext t3, rot_lt _ m i j hm hij]
  exact h3
theorem RotInv.eq {lo hi a m b i : Nat} {d dk d2 : Array α} (h : RotInv lo hi a m b i i d dk) (hm : i ≤ m) (ht : Turned lo hi dk (swrF (dk[·]!) (m - i) m i) d2) : Turned lo hi d (rotF (d[·]!) a m b) d2 := by
  obtain ⟨h1, h2, h3⟩ := h
  obtain ⟨t1, t2, t3⟩ := ht
  refine ⟨t1.trans h1, permIn_trans _ _ _ _ _ h2 t2, fun k => ?_⟩
  rw [t3, rot_eq _ m i hm, h3]

set_option maxHeartbeats 16000000 in
set_option maxRecDepth 1000000 in
theorem rot_calls (enc : α → Value) (g : Nat) (cb : Array Value) (blk off cap a m b lo hi : Nat) (d0 d : Array α) (w0 w : World) (R : Row1 enc w0 blk off d0) (hs : d0.size = d.size) (S : SW enc w0 blk off d w) (ham : a < m) (hmb : m < b) (hlo : lo ≤ a) (hhi : b ≤ hi) (hb : hi ≤ d.size) (hsz : d.size < 4611686018427387904) :
    Calls Tryd.prog 242 #[.slice (some ⟨blk, off, none⟩) d.size cap, .int .i64 a, .int .i64 m, .int .i64 b, .func (.func g) #[] cb] w fun e w' => e = .returned (.tuple #[]) ∧ RowNow enc w0 blk off (Turned lo hi d (rotF (d[·]!) a m b)) w' := by
  have hu2 := Tryd.underlying2
  have hu3 := Tryd.underlying3
  have hu27 := Tryd.underlying27
  have S0 : Aside (SW enc w0 blk off d w) := S
  clear S
  go_enter Tryd.func242, Tryd.ntmps242
  go_wp2
  go_loopg [10, 11] ((m - a) + (b - m)) (fun g1 vi vj wr => ∃ (i j : Nat) (dk : Array α), vi = .int .i64 i ∧ vj = .int .i64 j ∧ 0 < i ∧ 0 < j ∧ i ≤ m - a ∧ j ≤ b - m ∧ i + j ≤ g1 ∧ Aside (RotInv lo hi a m b i j d dk) ∧ dk.size = d.size ∧ Aside (SW enc w0 blk off dk wr))
  case atStart =>
    refine ⟨m - a, b - m, d, by first | go_num | (congr 1; omega), by first | go_num | (congr 1; omega), by omega, by omega, Nat.le_refl _, Nat.le_refl _, Nat.le_refl _, ⟨rfl, permIn_refl _ _ _, ?_⟩, rfl, S0⟩
    rw [show m - (m - a) = a by omega, show m + (b - m) = b by omega]
  case round =>
    clear S0
    obtain ⟨i, j, dk, rfl, rfl, hi0, hj0, him, hjm, hg1, HI, hsk, S1⟩ := hrel
    have ec1 : ((m - i : Nat) : Int) = (m : Int) - (i : Int) := by omega
    by_cases hne : i = j
    · subst hne
      have hcall := swr_calls enc g cb blk off cap (m - i) m i lo hi d0 dk w0 wr R (by omega) S1.out (by omega) (by omega) (by omega) (by omega) (by omega)
      rw [ec1, hsk] at hcall
      clear S1 ec1
      go_wp2_with (go_at_call 251; refine hcall.mono ?_; rintro e w1 ⟨rfl, S3⟩)
      go_end0
      obtain ⟨d2, ht, hS⟩ := S3
      exact ⟨rfl, d2, HI.out.eq (by omega) ht, hS⟩
    · have hne1 : decide ((i : Int) = (j : Int)) = false := decide_eq_false (by omega)
      have hne2 : ¬ (i : Int) = (j : Int) := by omega
      by_cases hgt : j < i
      · have hgtz : (j : Int) < (i : Int) := by omega
        have hcall := swr_calls enc g cb blk off cap (m - i) m j lo hi d0 dk w0 wr R (by omega) S1.out (by omega) (by omega) (by omega) (by omega) (by omega)
        rw [ec1, hsk] at hcall
        clear S1 ec1
        go_wp2_with (go_at_call 251; refine hcall.mono ?_; rintro e w1 ⟨rfl, S3⟩)
        obtain ⟨d2, ht, hS⟩ := S3
        have HS : Aside _ := hS
        have HT : Aside _ := ht
        clear hS ht hcall
        go_wp2
        go_roundg (i - j + j)
        case measure => omega
        case rel => exact ⟨i - j, j, d2, by first | go_num | (congr 1; omega), rfl, by omega, by omega, by omega, by omega, Nat.le_refl _, HI.out.gt (by omega) hgt HT.out, HT.out.1.trans hsk, HS⟩
      · have hgtz : ¬ (j : Int) < (i : Int) := by omega
        have ec2 : ((m + j - i : Nat) : Int) = (m : Int) + (j : Int) - (i : Int) := by omega
        have hcall := swr_calls enc g cb blk off cap (m - i) (m + j - i) i lo hi d0 dk w0 wr R (by omega) S1.out (by omega) (by omega) (by omega) (by omega) (by omega)
        rw [ec1, ec2, hsk] at hcall
        clear S1 ec1 ec2
        go_wp2_with (go_at_call 251; refine hcall.mono ?_; rintro e w1 ⟨rfl, S3⟩)
        obtain ⟨d2, ht, hS⟩ := S3
        have HS : Aside _ := hS
        have HT : Aside _ := ht
        clear hS ht hcall
        go_wp2
        go_roundg (i + (j - i))
        case measure => omega
        case rel => exact ⟨i, j - i, d2, rfl, by first | go_num | (congr 1; omega), by omega, by omega, by omega, by omega, Nat.le_refl _, HI.out.lt (by omega) (by omega) HT.out, HT.out.1.trans hsk, HS⟩

/-! ### a merge, the left part one element -/
/-- Merged: a permutation of the part, sorted by T. -/
def Merged (T : α → α → Bool) (a b : Nat) (d d' : Array α) : Prop := d'.size = d.size ∧ PermIn a b d d' ∧ SortedIn T a b d'

set_option maxHeartbeats 16000000 in
set_option maxRecDepth 1000000 in
theorem sym_left (enc : α → Value) (cf : α → α → Int) (T : α → α → Bool) (hT : SWO T) (g : Nat) (cb : Array Value) (blk off cap a b : Nat) (d0 d : Array α) (w0 w : World)
    (eg : ∀ args w, (callFunc g args).run Tryd.prog w = .ok (.enter g args) w) (hcmp : CmpLays1 Tryd.prog g cb enc cf blk off d0.size w0) (R : Row1 enc w0 blk off d0) (hs : d0.size = d.size) (S : SW enc w0 blk off d w) (hmb : a + 1 < b) (hb : b ≤ d.size) (hsz : d.size < 4611686018427387904) (hM : Mix (ltOf cf) T a (a + 1) b d) :
    Calls Tryd.prog 231 #[.slice (some ⟨blk, off, none⟩) d.size cap, .int .i64 a, .int .i64 ((a : Int) + 1), .int .i64 b, .func (.func g) #[] cb] w fun e w' => e = .returned (.tuple #[]) ∧ RowNow enc w0 blk off (Merged T a b d) w' := by
  have hmix : Tryd.prog.follows .mixedOrders = true := by kernel_rfl
  have hu2 := Tryd.underlying2
  have hu3 := Tryd.underlying3
  have hu27 := Tryd.underlying27
  have hcl0 := R.hO.cells
  simp only [Value.cells] at hcl0
  have hst := R.hO.store Tryd.prog
  have HC : Aside _ := hcmp
  have HM : Aside _ := hM
  have S0 : Aside (SW enc w0 blk off d w) := S
  clear S hcmp hM
  have e1 : (a : Int) + 1 - (a : Int) = 1 := by omega
  go_enter Tryd.func231, Tryd.ntmps231
  go_wp2
  clear e1
  go_loopg [10, 11] (b - (a + 1)) (fun g1 vi vj wr => ∃ (i j : Nat), vi = .int .i64 i ∧ vj = .int .i64 j ∧ a + 1 ≤ i ∧ i ≤ j ∧ j ≤ b ∧ j - i ≤ g1 ∧ Aside ((a + 1 < i → (ltOf cf) d[i - 1]! d[a]! = true) ∧ (j < b → (ltOf cf) d[j]! d[a]! = false)) ∧ Aside (SW enc w0 blk off d wr))
  case atStart => exact ⟨a + 1, b, by first | go_num | (congr 1; omega), rfl, by omega, by omega, by omega, by omega, ⟨fun h => by omega, fun h => by omega⟩, S0⟩
  case round =>
    clear S0
    obtain ⟨i, j, rfl, rfl, hai, hij, hjb, hg1, HB, S1⟩ := hrel
    by_cases hlt : i < j
    · have hltz : (i : Int) < (j : Int) := by omega
      obtain ⟨h, hh⟩ : ∃ h : Nat, h = (i + j) / 2 := ⟨_, rfl⟩
      have eh : ((i : Int) + (j : Int)) / 2 = (h : Int) := by omega
      have hh1 : i ≤ h := by omega
      have hh2 : h < j := by omega
      clear hh
      go_wp2_with fail
      clear eh
      obtain ⟨x, hx⟩ : ∃ x, x = d[h]! := ⟨_, rfl⟩
      obtain ⟨y, hy⟩ : ∃ x, x = d[a]! := ⟨_, rfl⟩
      have la := S1.out.cl R (by omega) h (by omega)
      have lb := S1.out.cl R (by omega) a (by omega)
      rw [← hx] at la
      rw [← hy] at lb
      have pa : (0 : Int) ≤ (h : Int) := by omega
      have ba : (h : Int) < (d.size : Int) := by omega
      have pc : (0 : Int) ≤ (a : Int) := by omega
      have bc : (a : Int) < (d.size : Int) := by omega
      have hc := S1.out.cmp HC.out (by omega) x y
      cases hlv : (ltOf cf) x y with
      | true =>
        have hv : cf x y < 0 := of_decide_eq_true hlv
        have hd : decide (cf x y < 0) = true := decide_eq_true hv
        have HB2 : Aside ((a + 1 < h + 1 → (ltOf cf) d[h + 1 - 1]! d[a]! = true) ∧ (j < b → (ltOf cf) d[j]! d[a]! = false)) := ⟨fun _ => by rw [Nat.add_sub_cancel, ← hx, ← hy]; exact hlv, HB.out.2⟩
        clear hx hy hlv HB
        go_quiet_grown (first | (go_at_fn g; refine Calls.grown_of (hc _ _)))
        have S2 : Aside (SW enc w0 blk off d (grow (wr.drewN nq) osq)) := S1.out.grown nq osq
        clear la lb hc S1
        generalize grow (wr.drewN nq) osq = w2 at S2 ⊢
        clear nq osq
        go_wp2
        go_roundg (j - (h + 1))
        case measure => omega
        case rel => exact ⟨h + 1, j, by first | go_num | (congr 1; omega), rfl, by omega, by omega, hjb, Nat.le_refl _, HB2, S2⟩
      | false =>
        have hv : ¬ cf x y < 0 := of_decide_eq_false hlv
        have hd : decide (cf x y < 0) = false := decide_eq_false hv
        have HB2 : Aside ((a + 1 < i → (ltOf cf) d[i - 1]! d[a]! = true) ∧ (h < b → (ltOf cf) d[h]! d[a]! = false)) := ⟨HB.out.1, fun _ => by rw [← hx, ← hy]; exact hlv⟩
        clear hx hy hlv HB
        go_quiet_grown (first | (go_at_fn g; refine Calls.grown_of (hc _ _)))
        have S2 : Aside (SW enc w0 blk off d (grow (wr.drewN nq) osq)) := S1.out.grown nq osq
        clear la lb hc S1
        generalize grow (wr.drewN nq) osq = w2 at S2 ⊢
        clear nq osq
        go_wp2
        go_roundg (h - i)
        case measure => omega
        case rel => exact ⟨i, h, rfl, rfl, hai, hh1, by omega, Nat.le_refl _, HB2, S2⟩
    · have hltz : ¬ (i : Int) < (j : Int) := by omega
      obtain rfl : i = j := by omega
      go_wp2
      go_loopg [13] (i - 1 - a) (fun g1 vk wr2 => ∃ (k : Nat) (dk : Array α), vk = .int .i64 k ∧ a ≤ k ∧ k ≤ i - 1 ∧ i - 1 - k ≤ g1 ∧ Aside (Turned a b d (rotF (d[·]!) a (a + 1) (k + 1)) dk) ∧ dk.size = d.size ∧ Aside (SW enc w0 blk off dk wr2))
      case atStart => exact ⟨a, d, rfl, Nat.le_refl _, by omega, Nat.le_refl _, ⟨rfl, permIn_refl _ _ _, fun x => by rw [rot_right]⟩, rfl, S1⟩
      case round =>
        clear S1
        obtain ⟨k, dk, rfl, hak, hki, hg2, HTu, hsk, S1⟩ := hrel
        by_cases hk : k < i - 1
        · have hkz : (k : Int) < (i : Int) - 1 := by omega
          obtain ⟨iN, hiN⟩ : ∃ q, q = k := ⟨_, rfl⟩
          obtain ⟨jN, hjN⟩ : ∃ q, q = k + 1 := ⟨_, rfl⟩
          have ea : ((k : Int)).toNat = iN := by omega
          have pa : (0 : Int) ≤ (k : Int) := by omega
          have ba : (k : Int) < (d.size : Int) := by omega
          have ec : ((k : Int) + 1).toNat = jN := by omega
          have pc : (0 : Int) ≤ (k : Int) + 1 := by omega
          have bc : (k : Int) + 1 < (d.size : Int) := by omega
          have rc : IntKind.i64.wrap ((k : Int) + 1) = (k : Int) + 1 := by rw [IntKind.wrap_i64]; omega
          obtain ⟨x, hx⟩ : ∃ x, x = dk[k]! := ⟨_, rfl⟩
          obtain ⟨y, hy⟩ : ∃ x, x = dk[k + 1]! := ⟨_, rfl⟩
          have S3 : Aside (SW enc w0 blk off (swp dk k (k + 1)) ((wr.setCell ⟨blk, off + iN, none⟩ (enc y)).setCell ⟨blk, off + jN, none⟩ (enc x)).drew) := by rw [hiN, hjN, hx, hy]; exact S1.out.swapped R k (k + 1) (by omega) (by omega)
          have T3 : Aside (Turned a b d (rotF (d[·]!) a (a + 1) (k + 1 + 1)) (swp dk k (k + 1))) := HTu.out.swap k (k + 1) (by omega) (by omega) (by omega) (by omega) hb (up_step dk _ a k hak HTu.out.2.2 (by omega))
          have ca := S1.out.c1 R (by omega) k (by omega)
          have cb' := S1.out.c1 R (by omega) (k + 1) (by omega)
          have fa := S1.out.f1 R (by omega) k (by omega)
          have fb := S1.out.f1 R (by omega) (k + 1) (by omega)
          obtain ⟨u, cc⟩ := S1.out.c2 R (by omega) k (k + 1) (by omega) (by omega) (enc y)
          rw [← hjN, ← hiN] at cc
          rw [← hx, ← hiN] at ca
          rw [← hy, ← hjN] at cb'
          rw [← hiN] at fa
          rw [← hjN] at fb
          clear S1 HTu hx hy hiN hjN
          go_wp2_with fail
          go_big_region_o
          clear ca cb' cc fa fb
          generalize ((wr.setCell ⟨blk, off + iN, none⟩ (enc y)).setCell ⟨blk, off + jN, none⟩ (enc x)).drew = w2 at S3 ⊢
          clear ea ec
          go_wp2
          go_roundg (i - 1 - (k + 1))
          case measure => omega
          case rel => exact ⟨k + 1, swp dk k (k + 1), by first | rfl | go_num, by omega, by omega, Nat.le_refl _, T3, by rw [size_swp]; exact hsk, S3⟩
        · have hkz : ¬ (k : Int) < (i : Int) - 1 := by omega
          obtain rfl : k = i - 1 := by omega
          go_wp2
          (try simp only [Exit.inBlock, Exit.then]); refine bodyPost_ret (results_none rfl _ _ _) rfl ?_
          refine ⟨rfl, dk, ⟨hsk, HTu.out.2.1, sorted_up hT HM.out hai hjb HB.out.1 HB.out.2 (fun x => ?_)⟩, S1.out⟩
          rw [HTu.out.2.2 x, show i - 1 + 1 = i by omega]

/-! ### a merge, the right part one element -/
set_option maxHeartbeats 16000000 in
set_option maxRecDepth 1000000 in
theorem sym_right (enc : α → Value) (cf : α → α → Int) (T : α → α → Bool) (hT : SWO T) (g : Nat) (cb : Array Value) (blk off cap a m : Nat) (d0 d : Array α) (w0 w : World)
    (eg : ∀ args w, (callFunc g args).run Tryd.prog w = .ok (.enter g args) w) (hcmp : CmpLays1 Tryd.prog g cb enc cf blk off d0.size w0) (R : Row1 enc w0 blk off d0) (hs : d0.size = d.size) (S : SW enc w0 blk off d w) (ham : a + 1 < m) (hb : m + 1 ≤ d.size) (hsz : d.size < 4611686018427387904) (hM : Mix (ltOf cf) T a m (m + 1) d) :
    Calls Tryd.prog 231 #[.slice (some ⟨blk, off, none⟩) d.size cap, .int .i64 a, .int .i64 m, .int .i64 ((m : Int) + 1), .func (.func g) #[] cb] w fun e w' => e = .returned (.tuple #[]) ∧ RowNow enc w0 blk off (Merged T a (m + 1) d) w' := by
  have hmix : Tryd.prog.follows .mixedOrders = true := by kernel_rfl
  have hu2 := Tryd.underlying2
  have hu3 := Tryd.underlying3
  have hu27 := Tryd.underlying27
  have hcl0 := R.hO.cells
  simp only [Value.cells] at hcl0
  have hst := R.hO.store Tryd.prog
  have HC : Aside _ := hcmp
  have HM : Aside _ := hM
  have S0 : Aside (SW enc w0 blk off d w) := S
  clear S hcmp hM
  have e1 : (m : Int) + 1 - (m : Int) = 1 := by omega
  have e2 : ((m : Int) - (a : Int) == 1) = false := by simp; omega
  have e3 : ¬ (m : Int) - (a : Int) = 1 := by omega
  go_enter Tryd.func231, Tryd.ntmps231
  go_wp2
  clear e1 e2 e3
  go_loopg [14, 15] (m - a) (fun g1 vi vj wr => ∃ (i j : Nat), vi = .int .i64 i ∧ vj = .int .i64 j ∧ a ≤ i ∧ i ≤ j ∧ j ≤ m ∧ j - i ≤ g1 ∧ Aside ((a < i → (ltOf cf) d[m]! d[i - 1]! = false) ∧ (j < m → (ltOf cf) d[m]! d[j]! = true)) ∧ Aside (SW enc w0 blk off d wr))
  case atStart => exact ⟨a, m, rfl, rfl, by omega, by omega, by omega, by omega, ⟨fun h => by omega, fun h => by omega⟩, S0⟩
  case round =>
    clear S0
    obtain ⟨i, j, rfl, rfl, hai, hij, hjb, hg1, HB, S1⟩ := hrel
    by_cases hlt : i < j
    · have hltz : (i : Int) < (j : Int) := by omega
      obtain ⟨h, hh⟩ : ∃ h : Nat, h = (i + j) / 2 := ⟨_, rfl⟩
      have eh : ((i : Int) + (j : Int)) / 2 = (h : Int) := by omega
      have hh1 : i ≤ h := by omega
      have hh2 : h < j := by omega
      clear hh
      go_wp2_with fail
      clear eh
      obtain ⟨x, hx⟩ : ∃ x, x = d[m]! := ⟨_, rfl⟩
      obtain ⟨y, hy⟩ : ∃ x, x = d[h]! := ⟨_, rfl⟩
      have la := S1.out.cl R (by omega) m (by omega)
      have lb := S1.out.cl R (by omega) h (by omega)
      rw [← hx] at la
      rw [← hy] at lb
      have pa : (0 : Int) ≤ (h : Int) := by omega
      have ba : (h : Int) < (d.size : Int) := by omega
      have pc : (0 : Int) ≤ (m : Int) := by omega
      have bc : (m : Int) < (d.size : Int) := by omega
      have hc := S1.out.cmp HC.out (by omega) x y
      cases hlv : (ltOf cf) x y with
      | false =>
        have hv : ¬ cf x y < 0 := of_decide_eq_false hlv
        have hd : decide (cf x y < 0) = false := decide_eq_false hv
        have HB2 : Aside ((a < h + 1 → (ltOf cf) d[m]! d[h + 1 - 1]! = false) ∧ (j < m → (ltOf cf) d[m]! d[j]! = true)) := ⟨fun _ => by rw [Nat.add_sub_cancel, ← hx, ← hy]; exact hlv, HB.out.2⟩
        clear hx hy hlv HB
        go_quiet_grown (first | (go_at_fn g; refine Calls.grown_of (hc _ _)))
        have S2 : Aside (SW enc w0 blk off d (grow (wr.drewN nq) osq)) := S1.out.grown nq osq
        clear la lb hc S1
        generalize grow (wr.drewN nq) osq = w2 at S2 ⊢
        clear nq osq
        go_wp2
        go_roundg (j - (h + 1))
        case measure => omega
        case rel => exact ⟨h + 1, j, by first | go_num | (congr 1; omega), rfl, by omega, by omega, hjb, Nat.le_refl _, HB2, S2⟩
      | true =>
        have hv : cf x y < 0 := of_decide_eq_true hlv
        have hd : decide (cf x y < 0) = true := decide_eq_true hv
        have HB2 : Aside ((a < i → (ltOf cf) d[m]! d[i - 1]! = false) ∧ (h < m → (ltOf cf) d[m]! d[h]! = true)) := ⟨HB.out.1, fun _ => by rw [← hx, ← hy]; exact hlv⟩
        clear hx hy hlv HB
        go_quiet_grown (first | (go_at_fn g; refine Calls.grown_of (hc _ _)))
        have S2 : Aside (SW enc w0 blk off d (grow (wr.drewN nq) osq)) := S1.out.grown nq osq
        clear la lb hc S1
        generalize grow (wr.drewN nq) osq = w2 at S2 ⊢
        clear nq osq
        go_wp2
        go_roundg (h - i)
        case measure => omega
        case rel => exact ⟨i, h, rfl, rfl, hai, hh1, by omega, Nat.le_refl _, HB2, S2⟩
    · have hltz : ¬ (i : Int) < (j : Int) := by omega
      obtain rfl : i = j := by omega
      go_wp2
      go_loopg [17] (m - i) (fun g1 vk wr2 => ∃ (k : Nat) (dk : Array α), vk = .int .i64 k ∧ i ≤ k ∧ k ≤ m ∧ k - i ≤ g1 ∧ Aside (Turned a (m + 1) d (rotF (d[·]!) k m (m + 1)) dk) ∧ dk.size = d.size ∧ Aside (SW enc w0 blk off dk wr2))
      case atStart => exact ⟨m, d, rfl, by omega, by omega, Nat.le_refl _, ⟨rfl, permIn_refl _ _ _, fun x => by rw [rot_left _ _ _ (Nat.le_succ m)]⟩, rfl, S1⟩
      case round =>
        clear S1
        obtain ⟨k, dk, rfl, hak, hki, hg2, HTu, hsk, S1⟩ := hrel
        by_cases hk : i < k
        · obtain ⟨q, rfl⟩ : ∃ q, k = q + 1 := ⟨k - 1, by omega⟩
          have zq : ((q + 1 : Nat) : Int) = (q : Int) + 1 := by omega
          have hkz : (i : Int) < (q : Int) + 1 := by omega
          obtain ⟨iN, hiN⟩ : ∃ p, p = q + 1 := ⟨_, rfl⟩
          obtain ⟨jN, hjN⟩ : ∃ p, p = q + 1 - 1 := ⟨_, rfl⟩
          have ea : ((q : Int) + 1).toNat = iN := by omega
          have pa : (0 : Int) ≤ (q : Int) + 1 := by omega
          have ba : (q : Int) + 1 < (d.size : Int) := by omega
          have ra : IntKind.i64.wrap ((q : Int) + 1) = (q : Int) + 1 := by rw [IntKind.wrap_i64]; omega
          have ec : ((q : Int)).toNat = jN := by omega
          have pc : (0 : Int) ≤ (q : Int) := by omega
          have bc : (q : Int) < (d.size : Int) := by omega
          have rc : IntKind.i64.wrap ((q : Int)) = (q : Int) := by rw [IntKind.wrap_i64]; omega
          obtain ⟨x, hx⟩ : ∃ x, x = dk[q + 1]! := ⟨_, rfl⟩
          obtain ⟨y, hy⟩ : ∃ x, x = dk[q + 1 - 1]! := ⟨_, rfl⟩
          have S3 : Aside (SW enc w0 blk off (swp dk (q + 1) (q + 1 - 1)) ((wr.setCell ⟨blk, off + iN, none⟩ (enc y)).setCell ⟨blk, off + jN, none⟩ (enc x)).drew) := by rw [hiN, hjN, hx, hy]; exact S1.out.swapped R (q + 1) (q + 1 - 1) (by omega) (by omega)
          have T3 : Aside (Turned a (m + 1) d (rotF (d[·]!) (q + 1 - 1) m (m + 1)) (swp dk (q + 1) (q + 1 - 1))) := HTu.out.swap (q + 1) (q + 1 - 1) (by omega) (by omega) (by omega) (by omega) hb (down_step dk _ m (q + 1) (by omega) (by omega) HTu.out.2.2 (by omega))
          have ca := S1.out.c1 R (by omega) (q + 1) (by omega)
          have cb' := S1.out.c1 R (by omega) (q + 1 - 1) (by omega)
          have fa := S1.out.f1 R (by omega) (q + 1) (by omega)
          have fb := S1.out.f1 R (by omega) (q + 1 - 1) (by omega)
          obtain ⟨u, cc⟩ := S1.out.c2 R (by omega) (q + 1) (q + 1 - 1) (by omega) (by omega) (enc y)
          rw [← hjN, ← hiN] at cc
          rw [← hx, ← hiN] at ca
          rw [← hy, ← hjN] at cb'
          rw [← hiN] at fa
          rw [← hjN] at fb
          clear S1 HTu hx hy hiN hjN
          go_wp2_with fail
          go_big_region_o
          clear ca cb' cc fa fb
          generalize ((wr.setCell ⟨blk, off + iN, none⟩ (enc y)).setCell ⟨blk, off + jN, none⟩ (enc x)).drew = w2 at S3 ⊢
          clear ea ec
          go_wp2
          go_roundg (q - i)
          case measure => omega
          case rel => exact ⟨q, swp dk (q + 1) (q + 1 - 1), by first | rfl | go_num | (congr 1; omega), by omega, by omega, Nat.le_refl _, T3, by rw [size_swp]; exact hsk, S3⟩
        · have hkz : ¬ (i : Int) < (k : Int) := by omega
          obtain rfl : k = i := by omega
          go_wp2
          (try simp only [Exit.inBlock, Exit.then]); refine bodyPost_ret (results_none rfl _ _ _) rfl ?_
          exact ⟨rfl, dk, ⟨hsk, HTu.out.2.1, sorted_down hT HM.out hai hjb HB.out.1 HB.out.2 HTu.out.2.2⟩, S1.out⟩

/-! ### a merge -/
theorem merged_of {T : α → α → Bool} {a mid b : Nat} {d d1 d2 d3 : Array α} (ham : a ≤ mid) (hmb : mid ≤ b) (hb : b ≤ d.size) (h1 : PermIn a b d d1) (p1 : PermIn a mid d1 d2) (s1 : SortedIn T a mid d2) (p2 : PermIn mid b d2 d3) (s2 : SortedIn T mid b d3) (hx : ∀ i j, a ≤ i → i < mid → mid ≤ j → j < b → T d1[j]! d1[i]! = false) : Merged T a b d d3 := by
  obtain ⟨q1, q2⟩ := halves_join ham hmb (by rw [h1.1]; exact hb) p1 s1 p2 s2 hx
  have q3 := permIn_trans _ _ _ _ _ h1 q1
  exact ⟨q3.1, q3, q2⟩

/-- What the search has found so far. -/
def Found (lt : α → α → Bool) (p lo hi s r : Nat) (d : Array α) : Prop := (lo < s → lt d[p - (s - 1)]! d[s - 1]! = false) ∧ (r < hi → lt d[p - r]! d[r]! = true)

set_option maxHeartbeats 16000000 in
set_option maxRecDepth 1000000 in
theorem sym_gen (enc : α → Value) (cf : α → α → Int) (T : α → α → Bool) (hT : SWO T) (g : Nat) (cb : Array Value) (blk off cap : Nat) (d0 : Array α) (w0 : World)
    (eg : ∀ args w, (callFunc g args).run Tryd.prog w = .ok (.enter g args) w) (hcmp : CmpLays1 Tryd.prog g cb enc cf blk off d0.size w0) (R : Row1 enc w0 blk off d0) (hsz : d0.size < 4611686018427387904) (N : Nat) :
    ∀ (a m b : Nat) (d : Array α) (w : World), b - a ≤ N → d0.size = d.size → SW enc w0 blk off d w → a < m → m < b → b ≤ d.size → Mix (ltOf cf) T a m b d →
    Calls Tryd.prog 231 #[.slice (some ⟨blk, off, none⟩) d.size cap, .int .i64 a, .int .i64 m, .int .i64 b, .func (.func g) #[] cb] w fun e w' => e = .returned (.tuple #[]) ∧ RowNow enc w0 blk off (Merged T a b d) w' := by
  induction N with
  | zero => intro a m b d w h _ _ h1 h2; omega
  | succ N ih =>
  intro a m b d w hN hs S ham hmb hb hM
  by_cases c1 : m = a + 1
  · subst c1
    exact sym_left enc cf T hT g cb blk off cap a b d0 d w0 w eg hcmp R hs S hmb hb (by omega) hM
  by_cases c2 : b = m + 1
  · subst c2
    exact sym_right enc cf T hT g cb blk off cap a m d0 d w0 w eg hcmp R hs S (by omega) hb (by omega) hM
  have hmix : Tryd.prog.follows .mixedOrders = true := by kernel_rfl
  have hu2 := Tryd.underlying2
  have hu3 := Tryd.underlying3
  have hu27 := Tryd.underlying27
  have hcl0 := R.hO.cells
  simp only [Value.cells] at hcl0
  have hst := R.hO.store Tryd.prog
  have HC : Aside _ := hcmp
  have HM : Aside _ := hM
  have IH : Aside _ := ih
  have S0 : Aside (SW enc w0 blk off d w) := S
  clear S hcmp hM ih
  obtain ⟨mid, hmid⟩ : ∃ q, q = (a + b) / 2 := ⟨_, rfl⟩
  have HMID : Hid (mid = (a + b) / 2) := hmid
  have m1 : a < mid := by omega
  have m2 : mid < b := by omega
  have e1 : ((m : Int) - (a : Int) == 1) = false := by simp; omega
  have e3 : ¬ (m : Int) - (a : Int) = 1 := by omega
  have e4 : ((b : Int) - (m : Int) == 1) = false := by simp; omega
  have e5 : ¬ (b : Int) - (m : Int) = 1 := by omega
  have e6 : ((a : Int) + (b : Int)) / 2 = (mid : Int) := by omega
  have mids : (m ≤ mid → (mid : Int) < (m : Int) → False) := fun h1 h2 => by omega
  clear mids
  obtain ⟨lo, hi, hlh⟩ : ∃ lo hi, (m ≤ mid ∧ lo = a ∧ hi = m) ∨ (mid < m ∧ lo = mid + m - b ∧ hi = mid) := by
    by_cases h : m ≤ mid
    · exact ⟨a, m, .inl ⟨h, rfl, rfl⟩⟩
    · exact ⟨mid + m - b, mid, .inr ⟨by omega, rfl, rfl⟩⟩
  have HLH : Hid ((m ≤ mid ∧ lo = a ∧ hi = m) ∨ (mid < m ∧ lo = mid + m - b ∧ hi = mid)) := Lib.hid hlh
  have l1 : a ≤ lo := by omega
  have l2 : lo ≤ hi := by omega
  have l3 : hi ≤ m := by omega
  have l4 : hi ≤ mid := by omega
  have l5 : mid + m ≤ b + lo := by omega
  have hmb2 : mid + m ≤ 2 * d.size := by omega
  clear hmid
  have hstart : ∃ v20 v21 : Int, v20 = lo ∧ v21 = hi := ⟨_, _, rfl, rfl⟩
  clear hstart
  rcases hlh with ⟨h1, h2, h3⟩ | ⟨h1, h2, h3⟩
  case' inl =>
    have q1 : ¬ (mid : Int) < (m : Int) := by omega
    have q5 : (a : Int) = (lo : Int) := by omega
    have q6 : (m : Int) = (hi : Int) := by omega
    have Q5 : Hid ((a : Int) = (lo : Int)) := Lib.hid q5
    have Q6 : Hid ((m : Int) = (hi : Int)) := Lib.hid q6
    clear h2 h3 q5 q6
    go_enter Tryd.func231, Tryd.ntmps231
    go_upto_region 33 with (fail)
  case' inr =>
    have q1 : (mid : Int) < (m : Int) := by omega
    have q2 : (mid : Int) + (m : Int) - (b : Int) = (lo : Int) := by omega
    have q5 : (lo : Int) = (lo : Int) := by omega
    have q6 : (mid : Int) = (hi : Int) := by omega
    have Q5 : Hid ((lo : Int) = (lo : Int)) := Lib.hid q5
    have Q6 : Hid ((mid : Int) = (hi : Int)) := Lib.hid q6
    clear h2 h3 q5 q6
    go_enter Tryd.func231, Tryd.ntmps231
    go_upto_region 33 with (fail)
  all_goals
    clear e1 e3 e4 e5 e6 q1
    go_loopg [20, 21] (hi - lo) (fun g1 vi vj wr => ∃ (s r : Nat), vi = .int .i64 s ∧ vj = .int .i64 r ∧ lo ≤ s ∧ s ≤ r ∧ r ≤ hi ∧ r - s ≤ g1 ∧ Aside (Found (ltOf cf) (mid + m - 1) lo hi s r d) ∧ Aside (SW enc w0 blk off d wr))
    case atStart => exact ⟨lo, hi, by first | rfl | rw [Q5.out], by first | rfl | rw [Q6.out], Nat.le_refl _, by omega, Nat.le_refl _, Nat.le_refl _, ⟨fun h => by omega, fun h => by omega⟩, S0⟩
    case round =>
      clear S0 Q5 Q6
      obtain ⟨s, r, rfl, rfl, hls, hsr, hrh, hg1, HB, S1⟩ := hrel
      by_cases hlt : s < r
      · have hltz : (s : Int) < (r : Int) := by omega
        obtain ⟨c, hc⟩ : ∃ c : Nat, c = (s + r) / 2 := ⟨_, rfl⟩
        have eh : ((s : Int) + (r : Int)) / 2 = (c : Int) := by omega
        have hh1 : s ≤ c := by omega
        have hh2 : c < r := by omega
        clear hc
        go_wp2_with fail
        clear eh
        obtain ⟨pN, hpN⟩ : ∃ q, q = mid + m - 1 - c := ⟨_, rfl⟩
        have pb : pN < d.size := by omega
        obtain ⟨x, hx⟩ : ∃ x, x = d[pN]! := ⟨_, rfl⟩
        obtain ⟨y, hy⟩ : ∃ x, x = d[c]! := ⟨_, rfl⟩
        have la := S1.out.cl R (by omega) pN (by omega)
        have lb := S1.out.cl R (by omega) c (by omega)
        rw [← hx] at la
        rw [← hy] at lb
        have ra : IntKind.i64.wrap ((mid : Int) + (m : Int) - 1 - (c : Int)) = (pN : Int) := by rw [IntKind.wrap_i64]; omega
        have pa : (0 : Int) ≤ (pN : Int) := by omega
        have ba : (pN : Int) < (d.size : Int) := by omega
        have pc : (0 : Int) ≤ (c : Int) := by omega
        have bc : (c : Int) < (d.size : Int) := by omega
        have hc := S1.out.cmp HC.out (by omega) x y
        cases hlv : (ltOf cf) x y with
        | false =>
          have hv : ¬ cf x y < 0 := of_decide_eq_false hlv
          have hd : decide (cf x y < 0) = false := decide_eq_false hv
          have HB2 : Aside (Found (ltOf cf) (mid + m - 1) lo hi (c + 1) r d) := ⟨fun _ => by rw [Nat.add_sub_cancel, ← hpN, ← hx, ← hy]; exact hlv, HB.out.2⟩
          clear hx hy hlv HB hpN
          go_quiet_grown (first | (go_at_fn g; refine Calls.grown_of (hc _ _)))
          have S2 : Aside (SW enc w0 blk off d (grow (wr.drewN nq) osq)) := S1.out.grown nq osq
          clear la lb hc S1 ra
          generalize grow (wr.drewN nq) osq = w2 at S2 ⊢
          clear nq osq
          go_wp2
          go_roundg (r - (c + 1))
          case measure => omega
          case rel => exact ⟨c + 1, r, by first | go_num | (congr 1; omega), rfl, by omega, by omega, hrh, Nat.le_refl _, HB2, S2⟩
        | true =>
          have hv : cf x y < 0 := of_decide_eq_true hlv
          have hd : decide (cf x y < 0) = true := decide_eq_true hv
          have HB2 : Aside (Found (ltOf cf) (mid + m - 1) lo hi s c d) := ⟨HB.out.1, fun _ => by rw [← hpN, ← hx, ← hy]; exact hlv⟩
          clear hx hy hlv HB hpN
          go_quiet_grown (first | (go_at_fn g; refine Calls.grown_of (hc _ _)))
          have S2 : Aside (SW enc w0 blk off d (grow (wr.drewN nq) osq)) := S1.out.grown nq osq
          clear la lb hc S1 ra
          generalize grow (wr.drewN nq) osq = w2 at S2 ⊢
          clear nq osq
          go_wp2
          go_roundg (c - s)
          case measure => omega
          case rel => exact ⟨s, c, rfl, rfl, hls, hh1, by omega, Nat.le_refl _, HB2, S2⟩
      · have hltz : ¬ (s : Int) < (r : Int) := by omega
        obtain rfl : s = r := by omega
        have CUT : Aside (CutAt (ltOf cf) T a m b mid s d) := cut_of hT HM.out ham hmb HMID.out HLH.out hls hrh HB.out.1 HB.out.2
        clear HB HLH
        clear hltz hlt hsr hg1
        by_cases z1 : s < m
        · by_cases z2 : s < mid
          · -- the rotation
            have zz1 : (s : Int) < (m : Int) := by omega
            have zz2 : (m : Int) < (mid : Int) + (m : Int) - (s : Int) := by omega
            have ze : ((mid + m - s : Nat) : Int) = (mid : Int) + (m : Int) - (s : Int) := by omega
            have hrot := rot_calls enc g cb blk off cap s m (mid + m - s) a b d0 d w0 wr R hs S1.out z1 (by omega) (by omega) CUT.out.eb hb (by omega)
            rw [ze] at hrot
            clear S1 ze
            go_upto_region 41 with (go_at_call 242; refine hrot.mono ?_; rintro e w1 ⟨rfl, S3⟩)
            obtain ⟨d1, ht, hS1⟩ := S3
            obtain ⟨mL, mR, mX⟩ := cut_rot HM.out CUT.out ht.2.2
            have P1 : Aside (PermIn a b d d1) := ht.2.1
            have z0 : d1.size = d.size := ht.1
            have ML : Aside _ := mL
            have MR : Aside _ := mR
            have MX : Aside _ := mX
            have SA : Aside _ := hS1
            clear ht mL mR mX hS1 hrot zz1 zz2
            have zz4 : (mid : Int) < (mid : Int) + (m : Int) - (s : Int) := by omega
            have zz3 : (s : Int) < (mid : Int) := by omega
            have ze : ((mid + m - s : Nat) : Int) = (mid : Int) + (m : Int) - (s : Int) := by omega
            have lastly : ∀ d2 d3 : Array α, PermIn a mid d1 d2 ∧ SortedIn T a mid d2 → PermIn mid b d2 d3 ∧ SortedIn T mid b d3 → Merged T a b d d3 := fun d2 d3 g1 g2 =>
              merged_of (by omega) (by omega) hb P1.out g1.1 g1.2 g2.1 g2.2 MX.out
            have LAST : Aside _ := lastly
            clear lastly
            by_cases z3 : a < s
            · have zz5 : (a : Int) < (s : Int) := by omega
              have h1 := IH.out a s mid d1 w1 (by omega) (by omega) SA.out z3 z2 (by omega) ML.out
              rw [z0] at h1
              clear SA
              go_upto_region 43 with (go_at_call 231; refine h1.mono ?_; rintro e w2 ⟨rfl, S4⟩)
              obtain ⟨d2, hm2, hS2⟩ := S4
              have P2 : Aside (PermIn a mid d1 d2 ∧ SortedIn T a mid d2) := hm2.2
              have z9 : d2.size = d.size := hm2.1.trans z0
              have MR2 : Aside (Mix (ltOf cf) T mid (mid + m - s) b d2) := mix_congr MR.out (fun i hi hi2 => hm2.2.1.2.1 i (by omega)) (by omega) (by omega)
              have SB : Aside _ := hS2
              clear hm2 hS2 h1 zz5
              by_cases z4 : mid + m - s < b
              · have zz6 : (mid : Int) + (m : Int) - (s : Int) < (b : Int) := by omega
                have h2 := IH.out mid (mid + m - s) b d2 w2 (by omega) (by omega) SB.out (by omega) z4 (by omega) MR2.out
                rw [z9, ze] at h2
                clear SB ze
                go_wp2_with (go_at_call 231; refine h2.mono ?_; rintro e w3 ⟨rfl, S5⟩)
                go_end0
                obtain ⟨d3, hm3, hS3⟩ := S5
                exact ⟨rfl, d3, LAST.out d2 d3 P2.out hm3.2, hS3⟩
              · have zz6 : ¬ (mid : Int) + (m : Int) - (s : Int) < (b : Int) := by omega
                clear ze
                go_wp2_with fail
                go_end0
                exact ⟨rfl, d2, LAST.out d2 d2 P2.out ⟨permIn_refl _ _ _, mix_trivial MR2.out (by omega) (by omega) (by omega)⟩, SB.out⟩
            · have zz5 : ¬ (a : Int) < (s : Int) := by omega
              have P2 : Aside (PermIn a mid d1 d1 ∧ SortedIn T a mid d1) := ⟨permIn_refl _ _ _, mix_trivial ML.out (by omega) (by omega) (by omega)⟩
              by_cases z4 : mid + m - s < b
              · have zz6 : (mid : Int) + (m : Int) - (s : Int) < (b : Int) := by omega
                have h2 := IH.out mid (mid + m - s) b d1 w1 (by omega) (by omega) SA.out (by omega) z4 (by omega) MR.out
                rw [z0, ze] at h2
                clear SA ze
                go_wp2_with (go_at_call 231; refine h2.mono ?_; rintro e w3 ⟨rfl, S5⟩)
                go_end0
                obtain ⟨d3, hm3, hS3⟩ := S5
                exact ⟨rfl, d3, LAST.out d1 d3 P2.out hm3.2, hS3⟩
              · have zz6 : ¬ (mid : Int) + (m : Int) - (s : Int) < (b : Int) := by omega
                have HQ : Hid (Merged T a b d d1) := Lib.hid (LAST.out d1 d1 P2.out ⟨permIn_refl _ _ _, mix_trivial MR.out (by omega) (by omega) (by omega)⟩)
                clear ze
                go_wp2_with fail
                go_end0
                exact ⟨rfl, d1, HQ.out, SA.out⟩
          · -- s = mid < m: nothing turns, the right half is merged
            have hsm : s = mid := by have := CUT.out.mid_s; omega
            subst hsm
            have zz1 : (s : Int) < (m : Int) := by omega
            have zz7 : (s : Int) + (m : Int) - (s : Int) = (m : Int) := by omega
            have zz8 : ¬ (m : Int) < (m : Int) := by omega
            obtain ⟨mL, mR, mX⟩ := cut_rot (d' := d) HM.out CUT.out (fun x => by rw [show s + m - s = m by omega, rot_right])
            rw [show s + m - s = m by omega] at mR
            have P2 : Aside (PermIn a s d d ∧ SortedIn T a s d) := ⟨permIn_refl _ _ _, mix_trivial mL (by omega) (by omega) (by omega)⟩
            have LAST : Aside (∀ d3 : Array α, PermIn s b d d3 ∧ SortedIn T s b d3 → Merged T a b d d3) := fun d3 g2 => merged_of (by omega) (by omega) hb (permIn_refl _ _ _) P2.out.1 P2.out.2 g2.1 g2.2 mX
            have zz5 : (a : Int) < (s : Int) := by omega
            have zz6 : (m : Int) < (b : Int) := by omega
            have h2 := IH.out s m b d wr (by omega) (by omega) S1.out z1 hmb hb mR
            clear S1 mL mR mX
            go_wp2_with (go_at_call 231; refine h2.mono ?_; rintro e w3 ⟨rfl, S5⟩)
            go_end0
            obtain ⟨d3, hm3, hS3⟩ := S5
            exact ⟨rfl, d3, LAST.out d3 hm3.2, hS3⟩
        · -- s = m: nothing turns, the left half is merged
          have hsm : s = m := by have := CUT.out.sm; omega
          subst hsm
          have zz1 : ¬ (s : Int) < (s : Int) := by omega
          have zz7 : (mid : Int) + (s : Int) - (s : Int) = (mid : Int) := by omega
          have zz8 : ¬ (mid : Int) < (mid : Int) := by omega
          obtain ⟨mL, mR, mX⟩ := cut_rot (d' := d) HM.out CUT.out (fun x => by rw [show mid + s - s = mid by omega, rot_left _ _ _ CUT.out.mid_s])
          rw [show mid + s - s = mid by omega] at mR
          have P3 : Aside (SortedIn T mid b d) := mix_trivial mR (by omega) (by omega) (by omega)
          have LAST : Aside (∀ d2 : Array α, PermIn a mid d d2 ∧ SortedIn T a mid d2 → Merged T a b d d2) := fun d2 g2 => merged_of (by omega) (by omega) hb (permIn_refl _ _ _) g2.1 g2.2 (permIn_refl _ _ _) (fun i j hi hij hj => by rw [g2.1.2.1 i (by omega), g2.1.2.1 j (by omega)]; exact P3.out i j hi hij hj) mX
          have zz5 : (a : Int) < (s : Int) := by omega
          by_cases z2 : s < mid
          · have zz3 : (s : Int) < (mid : Int) := by omega
            have h1 := IH.out a s mid d wr (by omega) (by omega) S1.out ham z2 (by omega) mL
            clear S1 mL mR mX
            go_wp2_with (go_at_call 231; refine h1.mono ?_; rintro e w3 ⟨rfl, S5⟩)
            go_end0
            obtain ⟨d3, hm3, hS3⟩ := S5
            exact ⟨rfl, d3, LAST.out d3 hm3.2, hS3⟩
          · have zz3 : ¬ (s : Int) < (mid : Int) := by omega
            have hq := LAST.out d ⟨permIn_refl _ _ _, mix_trivial mL (by omega) (by omega) (by have := CUT.out.mid_s; omega)⟩
            have HQ : Hid (Merged T a b d d) := Lib.hid hq
            clear hq mL mR mX
            go_wp2_with fail
            go_end0
            exact ⟨rfl, d, HQ.out, S1.out⟩
end Go.Proofs.YtdjdillppgijmaaDoor
