/- slices.symMergeCmpFunc at int64, the whole. -/
import Derived.Test.YtdjdillppgijmaaDoorSSymR
import Derived.Deep.Cut
import Derived.Lib.Hide
set_option linter.unusedVariables false
set_option linter.unusedSimpArgs false
namespace Go.Proofs.YtdjdillppgijmaaDoor
open Go.Shelf Go.RowKit Go.Lib Go.Sort
variable {α : Type} [Inhabited α]



theorem merged_of {T : α → α → Bool} {a mid b : Nat} {d d1 d2 d3 : Array α} (ham : a ≤ mid) (hmb : mid ≤ b) (hb : b ≤ d.size) (h1 : PermIn a b d d1) (p1 : PermIn a mid d1 d2) (s1 : SortedIn T a mid d2) (p2 : PermIn mid b d2 d3) (s2 : SortedIn T mid b d3) (hx : ∀ i j, a ≤ i → i < mid → mid ≤ j → j < b → T d1[j]! d1[i]! = false) : Merged T a b d d3 := by
  obtain ⟨q1, q2⟩ := halves_join ham hmb (by rw [h1.1]; exact hb) p1 s1 p2 s2 hx
  have q3 := permIn_trans _ _ _ _ _ h1 q1
  exact ⟨q3.1, q3, q2⟩

/-- What the search has found so far. -/
def Found (lt : α → α → Bool) (p lo hi s r : Nat) (d : Array α) : Prop := (lo < s → lt d[p - (s - 1)]! d[s - 1]! = false) ∧ (r < hi → lt d[p - r]! d[r]! = true)

set_option maxHeartbeats 16000000 in
set_option maxRecDepth 1000000 in
theorem sym_gen (enc : α → Value) (cf : α → α → Int) (T : α → α → Bool) (hT : SWO T) (g : Nat) (cb : Array Value) (blk off cap : Nat) (d0 : Array α) (w0 : World)
    (eg : ∀ args w, (callFunc g args).run Tryd.prog w = .ok (.enter g args) w) (hcmp : CmpLays1 Tryd.prog g cb enc cf blk off d0.size w0) (R : Row1 enc w0 blk off d0) (hsz : d0.size < 4611686018427387904) (N : Nat) :
    ∀ (a m b : Nat) (d : Array α) (w : World), b - a ≤ N → d0.size = d.size → SW enc w0 blk off d w → a < m → m < b → b ≤ d.size → Mix (ltOf cf) T a m b d →
    Calls Tryd.prog 231 #[.slice (some ⟨blk, off, none⟩) d.size cap, .int .i64 a, .int .i64 m, .int .i64 b, .func (.func g) #[] cb] w fun e w' => e = .returned (.tuple #[]) ∧ RowNow enc w0 blk off (Merged T a b d) w' := by
  induction N with
  | zero => intro a m b d w h _ _ h1 h2; omega
  | succ N ih =>
  intro a m b d w hN hs S ham hmb hb hM
  by_cases c1 : m = a + 1
  · subst c1
    exact sym_left enc cf T hT g cb blk off cap a b d0 d w0 w eg hcmp R hs S hmb hb (by omega) hM
  by_cases c2 : b = m + 1
  · subst c2
    exact sym_right enc cf T hT g cb blk off cap a m d0 d w0 w eg hcmp R hs S (by omega) hb (by omega) hM
  have hmix : Tryd.prog.follows .mixedOrders = true := by kernel_rfl
  have hu2 := Tryd.underlying2
  have hu3 := Tryd.underlying3
  have hu27 := Tryd.underlying27
  have hcl0 := R.hO.cells
  simp only [Value.cells] at hcl0
  have hst := R.hO.store Tryd.prog
  have HC : Aside _ := hcmp
  have HM : Aside _ := hM
  have IH : Aside _ := ih
  have S0 : Aside (SW enc w0 blk off d w) := S
  clear S hcmp hM ih
  obtain ⟨mid, hmid⟩ : ∃ q, q = (a + b) / 2 := ⟨_, rfl⟩
  have HMID : Hid (mid = (a + b) / 2) := hmid
  have m1 : a < mid := by omega
  have m2 : mid < b := by omega
  have e1 : ((m : Int) - (a : Int) == 1) = false := by simp; omega
  have e3 : ¬ (m : Int) - (a : Int) = 1 := by omega
  have e4 : ((b : Int) - (m : Int) == 1) = false := by simp; omega
  have e5 : ¬ (b : Int) - (m : Int) = 1 := by omega
  have e6 : ((a : Int) + (b : Int)) / 2 = (mid : Int) := by omega
  have mids : (m ≤ mid → (mid : Int) < (m : Int) → False) := fun h1 h2 => by omega
  clear mids
  obtain ⟨lo, hi, hlh⟩ : ∃ lo hi, (m ≤ mid ∧ lo = a ∧ hi = m) ∨ (mid < m ∧ lo = mid + m - b ∧ hi = mid) := by
    by_cases h : m ≤ mid
    · exact ⟨a, m, .inl ⟨h, rfl, rfl⟩⟩
    · exact ⟨mid + m - b, mid, .inr ⟨by omega, rfl, rfl⟩⟩
  have HLH : Hid ((m ≤ mid ∧ lo = a ∧ hi = m) ∨ (mid < m ∧ lo = mid + m - b ∧ hi = mid)) := Lib.hid hlh
  have l1 : a ≤ lo := by omega
  have l2 : lo ≤ hi := by omega
  have l3 : hi ≤ m := by omega
  have l4 : hi ≤ mid := by omega
  have l5 : mid + m ≤ b + lo := by omega
  have hmb2 : mid + m ≤ 2 * d.size := by omega
  clear hmid
  have hstart : ∃ v20 v21 : Int, v20 = lo ∧ v21 = hi := ⟨_, _, rfl, rfl⟩
  clear hstart
  rcases hlh with ⟨h1, h2, h3⟩ | ⟨h1, h2, h3⟩
  case' inl =>
    have q1 : ¬ (mid : Int) < (m : Int) := by omega
    have q5 : (a : Int) = (lo : Int) := by omega
    have q6 : (m : Int) = (hi : Int) := by omega
    have Q5 : Hid ((a : Int) = (lo : Int)) := Lib.hid q5
    have Q6 : Hid ((m : Int) = (hi : Int)) := Lib.hid q6
    clear h2 h3 q5 q6
    go_enter Tryd.func231, Tryd.ntmps231
    go_upto_region 33 with (fail)
  case' inr =>
    have q1 : (mid : Int) < (m : Int) := by omega
    have q2 : (mid : Int) + (m : Int) - (b : Int) = (lo : Int) := by omega
    have q5 : (lo : Int) = (lo : Int) := by omega
    have q6 : (mid : Int) = (hi : Int) := by omega
    have Q5 : Hid ((lo : Int) = (lo : Int)) := Lib.hid q5
    have Q6 : Hid ((mid : Int) = (hi : Int)) := Lib.hid q6
    clear h2 h3 q5 q6
    go_enter Tryd.func231, Tryd.ntmps231
    go_upto_region 33 with (fail)
  all_goals
    clear e1 e3 e4 e5 e6 q1
    go_loopg [20, 21] (hi - lo) (fun g1 vi vj wr => ∃ (s r : Nat), vi = .int .i64 s ∧ vj = .int .i64 r ∧ lo ≤ s ∧ s ≤ r ∧ r ≤ hi ∧ r - s ≤ g1 ∧ Aside (Found (ltOf cf) (mid + m - 1) lo hi s r d) ∧ Aside (SW enc w0 blk off d wr))
    case atStart => exact ⟨lo, hi, by first | rfl | rw [Q5.out], by first | rfl | rw [Q6.out], Nat.le_refl _, by omega, Nat.le_refl _, Nat.le_refl _, ⟨fun h => by omega, fun h => by omega⟩, S0⟩
    case round =>
      clear S0 Q5 Q6
      obtain ⟨s, r, rfl, rfl, hls, hsr, hrh, hg1, HB, S1⟩ := hrel
      by_cases hlt : s < r
      · have hltz : (s : Int) < (r : Int) := by omega
        obtain ⟨c, hc⟩ : ∃ c : Nat, c = (s + r) / 2 := ⟨_, rfl⟩
        have eh : ((s : Int) + (r : Int)) / 2 = (c : Int) := by omega
        have hh1 : s ≤ c := by omega
        have hh2 : c < r := by omega
        clear hc
        go_wp2_with fail
        clear eh
        obtain ⟨pN, hpN⟩ : ∃ q, q = mid + m - 1 - c := ⟨_, rfl⟩
        have pb : pN < d.size := by omega
        obtain ⟨x, hx⟩ : ∃ x, x = d[pN]! := ⟨_, rfl⟩
        obtain ⟨y, hy⟩ : ∃ x, x = d[c]! := ⟨_, rfl⟩
        have la := S1.out.cl R (by omega) pN (by omega)
        have lb := S1.out.cl R (by omega) c (by omega)
        rw [← hx] at la
        rw [← hy] at lb
        have ra : IntKind.i64.wrap ((mid : Int) + (m : Int) - 1 - (c : Int)) = (pN : Int) := by rw [IntKind.wrap_i64]; omega
        have pa : (0 : Int) ≤ (pN : Int) := by omega
        have ba : (pN : Int) < (d.size : Int) := by omega
        have pc : (0 : Int) ≤ (c : Int) := by omega
        have bc : (c : Int) < (d.size : Int) := by omega
        have hc := S1.out.cmp HC.out (by omega) x y
        cases hlv : (ltOf cf) x y with
        | false =>
          have hv : ¬ cf x y < 0 := of_decide_eq_false hlv
          have hd : decide (cf x y < 0) = false := decide_eq_false hv
          have HB2 : Aside (Found (ltOf cf) (mid + m - 1) lo hi (c + 1) r d) := ⟨fun _ => by rw [Nat.add_sub_cancel, ← hpN, ← hx, ← hy]; exact hlv, HB.out.2⟩
          clear hx hy hlv HB hpN
          go_quiet_grown (first | (go_at_fn g; refine Calls.grown_of (hc _ _)))
          have S2 : Aside (SW enc w0 blk off d (grow (wr.drewN nq) osq)) := S1.out.grown nq osq
          clear la lb hc S1 ra
          generalize grow (wr.drewN nq) osq = w2 at S2 ⊢
          clear nq osq
          go_wp2
          go_roundg (r - (c + 1))
          case measure => omega
          case rel => exact ⟨c + 1, r, by first | go_num | (congr 1; omega), rfl, by omega, by omega, hrh, Nat.le_refl _, HB2, S2⟩
        | true =>
          have hv : cf x y < 0 := of_decide_eq_true hlv
          have hd : decide (cf x y < 0) = true := decide_eq_true hv
          have HB2 : Aside (Found (ltOf cf) (mid + m - 1) lo hi s c d) := ⟨HB.out.1, fun _ => by rw [← hpN, ← hx, ← hy]; exact hlv⟩
          clear hx hy hlv HB hpN
          go_quiet_grown (first | (go_at_fn g; refine Calls.grown_of (hc _ _)))
          have S2 : Aside (SW enc w0 blk off d (grow (wr.drewN nq) osq)) := S1.out.grown nq osq
          clear la lb hc S1 ra
          generalize grow (wr.drewN nq) osq = w2 at S2 ⊢
          clear nq osq
          go_wp2
          go_roundg (c - s)
          case measure => omega
          case rel => exact ⟨s, c, rfl, rfl, hls, hh1, by omega, Nat.le_refl _, HB2, S2⟩
      · have hltz : ¬ (s : Int) < (r : Int) := by omega
        obtain rfl : s = r := by omega
        have CUT : Aside (CutAt (ltOf cf) T a m b mid s d) := cut_of hT HM.out ham hmb HMID.out HLH.out hls hrh HB.out.1 HB.out.2
        clear HB HLH
        clear hltz hlt hsr hg1
        by_cases z1 : s < m
        · by_cases z2 : s < mid
          · -- the rotation
            have zz1 : (s : Int) < (m : Int) := by omega
            have zz2 : (m : Int) < (mid : Int) + (m : Int) - (s : Int) := by omega
            have ze : ((mid + m - s : Nat) : Int) = (mid : Int) + (m : Int) - (s : Int) := by omega
            have hrot := rot_calls enc g cb blk off cap s m (mid + m - s) a b d0 d w0 wr R hs S1.out z1 (by omega) (by omega) CUT.out.eb hb (by omega)
            rw [ze] at hrot
            clear S1 ze
            go_upto_region 41 with (go_at_call 242; refine hrot.mono ?_; rintro e w1 ⟨rfl, S3⟩)
            obtain ⟨d1, ht, hS1⟩ := S3
            obtain ⟨mL, mR, mX⟩ := cut_rot HM.out CUT.out ht.2.2
            have P1 : Aside (PermIn a b d d1) := ht.2.1
            have z0 : d1.size = d.size := ht.1
            have ML : Aside _ := mL
            have MR : Aside _ := mR
            have MX : Aside _ := mX
            have SA : Aside _ := hS1
            clear ht mL mR mX hS1 hrot zz1 zz2
            have zz4 : (mid : Int) < (mid : Int) + (m : Int) - (s : Int) := by omega
            have zz3 : (s : Int) < (mid : Int) := by omega
            have ze : ((mid + m - s : Nat) : Int) = (mid : Int) + (m : Int) - (s : Int) := by omega
            have lastly : ∀ d2 d3 : Array α, PermIn a mid d1 d2 ∧ SortedIn T a mid d2 → PermIn mid b d2 d3 ∧ SortedIn T mid b d3 → Merged T a b d d3 := fun d2 d3 g1 g2 =>
              merged_of (by omega) (by omega) hb P1.out g1.1 g1.2 g2.1 g2.2 MX.out
            have LAST : Aside _ := lastly
            clear lastly
            by_cases z3 : a < s
            · have zz5 : (a : Int) < (s : Int) := by omega
              have h1 := IH.out a s mid d1 w1 (by omega) (by omega) SA.out z3 z2 (by omega) ML.out
              rw [z0] at h1
              clear SA
              go_upto_region 43 with (go_at_call 231; refine h1.mono ?_; rintro e w2 ⟨rfl, S4⟩)
              obtain ⟨d2, hm2, hS2⟩ := S4
              have P2 : Aside (PermIn a mid d1 d2 ∧ SortedIn T a mid d2) := hm2.2
              have z9 : d2.size = d.size := hm2.1.trans z0
              have MR2 : Aside (Mix (ltOf cf) T mid (mid + m - s) b d2) := mix_congr MR.out (fun i hi hi2 => hm2.2.1.2.1 i (by omega)) (by omega) (by omega)
              have SB : Aside _ := hS2
              clear hm2 hS2 h1 zz5
              by_cases z4 : mid + m - s < b
              · have zz6 : (mid : Int) + (m : Int) - (s : Int) < (b : Int) := by omega
                have h2 := IH.out mid (mid + m - s) b d2 w2 (by omega) (by omega) SB.out (by omega) z4 (by omega) MR2.out
                rw [z9, ze] at h2
                clear SB ze
                go_wp2_with (go_at_call 231; refine h2.mono ?_; rintro e w3 ⟨rfl, S5⟩)
                go_end0
                obtain ⟨d3, hm3, hS3⟩ := S5
                exact ⟨rfl, d3, LAST.out d2 d3 P2.out hm3.2, hS3⟩
              · have zz6 : ¬ (mid : Int) + (m : Int) - (s : Int) < (b : Int) := by omega
                clear ze
                go_wp2_with fail
                go_end0
                exact ⟨rfl, d2, LAST.out d2 d2 P2.out ⟨permIn_refl _ _ _, mix_trivial MR2.out (by omega) (by omega) (by omega)⟩, SB.out⟩
            · have zz5 : ¬ (a : Int) < (s : Int) := by omega
              have P2 : Aside (PermIn a mid d1 d1 ∧ SortedIn T a mid d1) := ⟨permIn_refl _ _ _, mix_trivial ML.out (by omega) (by omega) (by omega)⟩
              by_cases z4 : mid + m - s < b
              · have zz6 : (mid : Int) + (m : Int) - (s : Int) < (b : Int) := by omega
                have h2 := IH.out mid (mid + m - s) b d1 w1 (by omega) (by omega) SA.out (by omega) z4 (by omega) MR.out
                rw [z0, ze] at h2
                clear SA ze
                go_wp2_with (go_at_call 231; refine h2.mono ?_; rintro e w3 ⟨rfl, S5⟩)
                go_end0
                obtain ⟨d3, hm3, hS3⟩ := S5
                exact ⟨rfl, d3, LAST.out d1 d3 P2.out hm3.2, hS3⟩
              · have zz6 : ¬ (mid : Int) + (m : Int) - (s : Int) < (b : Int) := by omega
                have HQ : Hid (Merged T a b d d1) := Lib.hid (LAST.out d1 d1 P2.out ⟨permIn_refl _ _ _, mix_trivial MR.out (by omega) (by omega) (by omega)⟩)
                clear ze
                go_wp2_with fail
                go_end0
                exact ⟨rfl, d1, HQ.out, SA.out⟩
          · -- s = mid < m: nothing turns, the right half is merged
            have hsm : s = mid := by have := CUT.out.mid_s; omega
            subst hsm
            have zz1 : (s : Int) < (m : Int) := by omega
            have zz7 : (s : Int) + (m : Int) - (s : Int) = (m : Int) := by omega
            have zz8 : ¬ (m : Int) < (m : Int) := by omega
            obtain ⟨mL, mR, mX⟩ := cut_rot (d' := d) HM.out CUT.out (fun x => by rw [show s + m - s = m by omega, rot_right])
            rw [show s + m - s = m by omega] at mR
            have P2 : Aside (PermIn a s d d ∧ SortedIn T a s d) := ⟨permIn_refl _ _ _, mix_trivial mL (by omega) (by omega) (by omega)⟩
            have LAST : Aside (∀ d3 : Array α, PermIn s b d d3 ∧ SortedIn T s b d3 → Merged T a b d d3) := fun d3 g2 => merged_of (by omega) (by omega) hb (permIn_refl _ _ _) P2.out.1 P2.out.2 g2.1 g2.2 mX
            have zz5 : (a : Int) < (s : Int) := by omega
            have zz6 : (m : Int) < (b : Int) := by omega
            have h2 := IH.out s m b d wr (by omega) (by omega) S1.out z1 hmb hb mR
            clear S1 mL mR mX
            go_wp2_with (go_at_call 231; refine h2.mono ?_; rintro e w3 ⟨rfl, S5⟩)
            go_end0
            obtain ⟨d3, hm3, hS3⟩ := S5
            exact ⟨rfl, d3, LAST.out d3 hm3.2, hS3⟩
        · -- s = m: nothing turns, the left half is merged
          have hsm : s = m := by have := CUT.out.sm; omega
          subst hsm
          have zz1 : ¬ (s : Int) < (s : Int) := by omega
          have zz7 : (mid : Int) + (s : Int) - (s : Int) = (mid : Int) := by omega
          have zz8 : ¬ (mid : Int) < (mid : Int) := by omega
          obtain ⟨mL, mR, mX⟩ := cut_rot (d' := d) HM.out CUT.out (fun x => by rw [show mid + s - s = mid by omega, rot_left _ _ _ CUT.out.mid_s])
          rw [show mid + s - s = mid by omega] at mR
          have P3 : Aside (SortedIn T mid b d) := mix_trivial mR (by omega) (by omega) (by omega)
          have LAST : Aside (∀ d2 : Array α, PermIn a mid d d2 ∧ SortedIn T a mid d2 → Merged T a b d d2) := fun d2 g2 => merged_of (by omega) (by omega) hb (permIn_refl _ _ _) g2.1 g2.2 (permIn_refl _ _ _) (fun i j hi hij hj => by rw [g2.1.2.1 i (by omega), g2.1.2.1 j (by omega)]; exact P3.out i j hi hij hj) mX
          have zz5 : (a : Int) < (s : Int) := by omega
          by_cases z2 : s < mid
          · have zz3 : (s : Int) < (mid : Int) := by omega
            have h1 := IH.out a s mid d wr (by omega) (by omega) S1.out ham z2 (by omega) mL
            clear S1 mL mR mX
            go_wp2_with (go_at_call 231; refine h1.mono ?_; rintro e w3 ⟨rfl, S5⟩)
            go_end0
            obtain ⟨d3, hm3, hS3⟩ := S5
            exact ⟨rfl, d3, LAST.out d3 hm3.2, hS3⟩
          · have zz3 : ¬ (s : Int) < (mid : Int) := by omega
            have hq := LAST.out d ⟨permIn_refl _ _ _, mix_trivial mL (by omega) (by omega) (by have := CUT.out.mid_s; omega)⟩
            have HQ : Hid (Merged T a b d d) := Lib.hid hq
            clear hq mL mR mX
            go_wp2_with fail
            go_end0
            exact ⟨rfl, d, HQ.out, S1.out⟩
end Go.Proofs.YtdjdillppgijmaaDoor
