/- slices.stableCmpFunc and SortStableFunc at int64, at most 40 elements: blocks of 20, each sorted by itself, then merged. -/
import Derived.Test.YtdjdillppgijmaaDoorSSort
import Derived.Test.YtdjdillppgijmaaDoorPlSort
import Derived.Test.YtdjdillppgijmaaDoorShelfIns
import Derived.Lib.Hide
set_option linter.unusedVariables false
set_option linter.unusedSimpArgs false
namespace Go.Proofs.YtdjdillppgijmaaDoor
open Go.Shelf Go.RowKit Go.Lib Go.Sort
variable {α : Type} [Inhabited α]

theorem ins_calls (enc : α → Value) (cf : α → α → Int) (g : Nat) (cb : Array Value) (blk off cap a b : Nat) (d0 d : Array α) (w0 w : World)
    (eg : ∀ args w, (callFunc g args).run Tryd.prog w = .ok (.enter g args) w) (hcmp : CmpLays1 Tryd.prog g cb enc cf blk off d0.size w0) (R : Row1 enc w0 blk off d0) (hs : d0.size = d.size) (S : SW enc w0 blk off d w) (hab : a ≤ b) (hb : b ≤ d.size) (hsz : d.size < 4611686018427387904) :
    Calls Tryd.prog 230 #[.slice (some ⟨blk, off, none⟩) d.size cap, .int .i64 a, .int .i64 b, .func (.func g) #[] cb] w fun e w' => e = .returned (.tuple #[]) ∧ SW enc w0 blk off (insertionSort (ltOf cf) d a b) w' :=
  Any.insertionSortCmpFunc_s Tryd.insCmp enc cf g cb blk off cap a b d0 d w0 w eg hcmp R hs S hab hb hsz

/-- Sorted by T, a permutation. -/
def Sorted (T : α → α → Bool) (d d' : Array α) : Prop := PermIn 0 d.size d d' ∧ SortedIn T 0 d.size d'
/-- Where the merging stands: nothing merged yet, or all. -/
def MergeAt (lt T : α → α → Bool) (v : Int) (d dk : Array α) : Prop := (v = 20 ∧ StEnd lt T d dk) ∨ (v = 40 ∧ dk.size = d.size ∧ Sorted T d dk)

set_option maxHeartbeats 16000000 in
set_option maxRecDepth 1000000 in
theorem stable_calls (enc : α → Value) (cf : α → α → Int) (T : α → α → Bool) (hT : SWO T) (g : Nat) (cb : Array Value) (blk off cap : Nat) (d : Array α) (w0 w : World)
    (eg : ∀ args w, (callFunc g args).run Tryd.prog w = .ok (.enter g args) w) (hcmp : CmpLays1 Tryd.prog g cb enc cf blk off d.size w0) (R : Row1 enc w0 blk off d) (S : SW enc w0 blk off d w) (h40 : d.size ≤ 40) (hR : Rising (ltOf cf) T d) :
    Calls Tryd.prog 218 #[.slice (some ⟨blk, off, none⟩) d.size cap, .int .i64 d.size, .func (.func g) #[] cb] w fun e w' => e = .returned (.tuple #[]) ∧ RowNow enc w0 blk off (Sorted T d) w' := by
  have hu2 := Tryd.underlying2
  have hu3 := Tryd.underlying3
  have hu27 := Tryd.underlying27
  have HC : Aside _ := hcmp
  have HR : Aside _ := hR
  have S0 : Aside (SW enc w0 blk off d w) := S
  clear S hcmp hR
  go_enter Tryd.func218, Tryd.ntmps218
  go_wp2
  go_loopg [7, 8] (3 : Nat) (fun g1 va vb wr => ∃ (q : Nat) (dk : Array α), va = .int .i64 ((20 * q : Nat) : Int) ∧ vb = .int .i64 ((20 * q + 20 : Nat) : Int) ∧ 20 * q ≤ d.size ∧ 3 - q ≤ g1 ∧ dk.size = d.size ∧ Aside (StInv (ltOf cf) T q d dk) ∧ Aside (SW enc w0 blk off dk wr))
  case atStart => exact ⟨0, d, rfl, rfl, by omega, by omega, rfl, StInv.start HR.out, S0⟩
  case round =>
    clear S0
    obtain ⟨q, dk, rfl, rfl, hq, hg1, hsk, HI, S1⟩ := hrel
    by_cases hlt : 20 * q + 20 ≤ d.size
    · have hltz : ((20 * q + 20 : Nat) : Int) ≤ (d.size : Int) := by omega
      have hcall := ins_calls enc cf g cb blk off cap (20 * q) (20 * q + 20) d dk w0 wr eg HC.out R hsk.symm S1.out (by omega) (by omega) (by omega)
      have HI2 : Aside (StInv (ltOf cf) T (q + 1) d (insertionSort (ltOf cf) dk (20 * q) (20 * q + 20))) := HI.out.step hT HR.out hlt
      have hs2 : (insertionSort (ltOf cf) dk (20 * q) (20 * q + 20)).size = d.size := HI2.out.size
      rw [hsk] at hcall
      generalize insertionSort (ltOf cf) dk (20 * q) (20 * q + 20) = dn at hcall HI2 hs2
      clear S1 HI
      obtain ⟨A, hA⟩ : ∃ A : Nat, A = 20 * q := ⟨_, rfl⟩
      obtain ⟨B, hB⟩ : ∃ B : Nat, B = 20 * q + 20 := ⟨_, rfl⟩
      rw [← hB] at hltz hcall ⊢
      rw [← hA] at hcall ⊢
      have HA : Hid (A = 20 * q) := hA
      have HB : Hid (B = 20 * q + 20) := hB
      have hB9 : B ≤ 40 := by omega
      clear hA hB
      go_wp2_with (go_at_call 230; refine hcall.mono ?_; rintro e w1 ⟨rfl, S3⟩)
      have S4 : Aside _ := S3
      clear S3
      go_roundg (3 - (q + 1))
      case measure => omega
      case rel => exact ⟨q + 1, dn, by rw [HB.out]; first | rfl | (congr 1; omega), by rw [HB.out]; first | rfl | (congr 1; omega) | (congr 1; push_cast; omega), by omega, Nat.le_refl _, hs2, HI2, S4⟩
    · have hltz : ¬ ((20 * q + 20 : Nat) : Int) ≤ (d.size : Int) := by omega
      have hcall := ins_calls enc cf g cb blk off cap (20 * q) d.size d dk w0 wr eg HC.out R hsk.symm S1.out hq (by omega) (by omega)
      have HE : Aside (StEnd (ltOf cf) T d (insertionSort (ltOf cf) dk (20 * q) d.size)) := HI.out.last hT HR.out hq (by omega) h40
      have hs2 : (insertionSort (ltOf cf) dk (20 * q) d.size).size = d.size := HE.out.size
      rw [hsk] at hcall
      generalize insertionSort (ltOf cf) dk (20 * q) d.size = dn at hcall HE hs2
      clear S1 HI
      obtain ⟨A, hA⟩ : ∃ A : Nat, A = 20 * q := ⟨_, rfl⟩
      obtain ⟨B, hB⟩ : ∃ B : Nat, B = 20 * q + 20 := ⟨_, rfl⟩
      rw [← hB] at hltz ⊢
      rw [← hA] at hcall ⊢
      clear hA hB hq hlt
      go_wp2_with (go_at_call 230; refine hcall.mono ?_; rintro e w1 ⟨rfl, S3⟩)
      have S4 : Aside _ := S3
      clear S3 hcall hltz
      go_loopg [6] (1 : Nat) (fun g2 v6 wr2 => ∃ dm : Array α, ((v6 = .int .i64 20 ∧ 1 ≤ g2 ∧ Aside (StEnd (ltOf cf) T d dm)) ∨ (v6 = .int .i64 40 ∧ Aside (Sorted T d dm))) ∧ dm.size = d.size ∧ Aside (SW enc w0 blk off dm wr2))
      case atStart => exact ⟨dn, .inl ⟨rfl, Nat.le_refl _, HE⟩, hs2, S4⟩
      case round =>
        clear S4 HE hs2
        obtain ⟨dm, h2, hsm, S1⟩ := hrel
        rcases h2 with ⟨rfl, hg2, HE⟩ | ⟨rfl, HS⟩
        · by_cases hn : d.size ≤ 20
          · have hnz : ¬ (20 : Int) < (d.size : Int) := by omega
            go_wp2
            go_end0
            exact ⟨rfl, dm, HE.out.small hn, S1.out⟩
          · have hnz : (20 : Int) < (d.size : Int) := by omega
            go_wp2
            go_loopg [7, 8] (1 : Nat) (fun g3 va vb wr3 => ∃ dj : Array α, ((va = .int .i64 0 ∧ vb = .int .i64 40 ∧ 1 ≤ g3 ∧ Aside (StEnd (ltOf cf) T d dj)) ∨ (va = .int .i64 40 ∧ vb = .int .i64 80 ∧ Aside (Sorted T d dj))) ∧ dj.size = d.size ∧ Aside (SW enc w0 blk off dj wr3))
            case atStart => exact ⟨dm, .inl ⟨rfl, rfl, Nat.le_refl _, HE⟩, hsm, S1⟩
            case round =>
              clear S1 HE hsm
              obtain ⟨dj, h3, hsj, S1⟩ := hrel
              rcases h3 with ⟨rfl, rfl, hg3, HE⟩ | ⟨rfl, rfl, HS⟩
              · by_cases h4 : d.size = 40
                · have h4z : (40 : Int) ≤ (d.size : Int) := by omega
                  have hcall : Calls Tryd.prog 231 #[.slice (some ⟨blk, off, none⟩) d.size cap, .int .i64 0, .int .i64 20, .int .i64 40, .func (.func g) #[] cb] wr fun e w' => e = .returned (.tuple #[]) ∧ RowNow enc w0 blk off (Merged T 0 40 dj) w' := by
                    have := sym_gen enc cf T hT g cb blk off cap d w0 eg HC.out R (by omega) 40 0 20 40 dj wr (by omega) hsj.symm S1.out (by omega) (by omega) (by omega) (by have := HE.out.mix (by omega); rwa [h4] at this)
                    rw [hsj] at this
                    exact this
                  clear S1
                  have H4 : Hid (d.size = 40) := Lib.hid h4
                  clear h4
                  go_wp2_with (go_at_call 231; refine hcall.mono ?_; rintro e w2 ⟨rfl, S3⟩)
                  obtain ⟨d3, hm3, hS3⟩ := S3
                  have S5 : Aside _ := hS3
                  have HS : Aside (Sorted T d d3) := by
                    refine ⟨permIn_trans _ _ _ _ _ HE.out.perm ?_, ?_⟩
                    · rw [H4.out]; exact hm3.2.1
                    · rw [H4.out]; exact hm3.2.2
                  have hs3 : d3.size = d.size := hm3.1.trans hsj
                  clear hm3 hS3 hcall
                  go_roundg (0 : Nat)
                  case measure => omega
                  case rel => exact ⟨d3, .inr ⟨rfl, rfl, HS⟩, hs3, S5⟩
                · have h4z : ¬ (40 : Int) ≤ (d.size : Int) := by omega
                  have hcall : Calls Tryd.prog 231 #[.slice (some ⟨blk, off, none⟩) d.size cap, .int .i64 0, .int .i64 20, .int .i64 d.size, .func (.func g) #[] cb] wr fun e w' => e = .returned (.tuple #[]) ∧ RowNow enc w0 blk off (Merged T 0 d.size dj) w' := by
                    have := sym_gen enc cf T hT g cb blk off cap d w0 eg HC.out R (by omega) 40 0 20 d.size dj wr (by omega) hsj.symm S1.out (by omega) (by omega) (by omega) (HE.out.mix (by omega))
                    rw [hsj] at this
                    exact this
                  clear S1 h4
                  go_wp2_with (go_at_call 231; refine hcall.mono ?_; rintro e w2 ⟨rfl, S3⟩)
                  obtain ⟨d3, hm3, hS3⟩ := S3
                  have S5 : Aside _ := hS3
                  have HS : Aside (Sorted T d d3) := ⟨permIn_trans _ _ _ _ _ HE.out.perm hm3.2.1, hm3.2.2⟩
                  have hs3 : d3.size = d.size := hm3.1.trans hsj
                  clear hm3 hS3 hcall
                  go_roundg (0 : Nat)
                  case measure => omega
                  case rel => exact ⟨d3, .inr ⟨rfl, HS⟩, hs3, S5⟩
              · have h4z : ¬ (80 : Int) ≤ (d.size : Int) := by omega
                have h5z : ¬ (60 : Int) < (d.size : Int) := by omega
                go_wp2
                go_roundg (0 : Nat)
                case measure => omega
                case rel => exact ⟨dj, .inr ⟨rfl, HS⟩, hsj, S1⟩
        · have hnz : ¬ (40 : Int) < (d.size : Int) := by omega
          go_wp2
          go_end0
          exact ⟨rfl, dm, HS.out, S1.out⟩
end Go.Proofs.YtdjdillppgijmaaDoor
