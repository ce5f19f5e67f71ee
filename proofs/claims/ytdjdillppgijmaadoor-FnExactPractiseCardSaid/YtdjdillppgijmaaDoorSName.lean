/- IsName returns whether a text has 1 to 12 bytes, the first a small letter, each a small letter, a digit or a dash. No condition. -/
import Derived.Test.YtdjdillppgijmaaDoorShelfTrim
import Derived.WalkKit
import Derived.Below
import Derived.Deep.QuietTactic
import Derived.BigQuiet
import Derived.Test.YtdjdillppgijmaaDoorWWords
import Derived.Test.YtdjdillppgijmaaDoorWMore
namespace Go.Proofs.YtdjdillppgijmaaDoor
open Go.RowKit Go.Shelf Go.Lib Go.Proofs.YtdjdillppgijmaaDoorW.PrintWords Go.Proofs.YtdjdillppgijmaaDoorW.PrintLast Go.Proofs.YtdjdillppgijmaaDoorW.PrintMore

/-- The bytes of names. -/
def nameSet : List UInt8 := [97, 98, 99, 100, 101, 102, 103, 104, 105, 106, 107, 108, 109, 110, 111, 112, 113, 114, 115, 116, 117, 118, 119, 120, 121, 122, 48, 49, 50, 51, 52, 53, 54, 55, 56, 57, 45]
/-- Whether a text is a name. -/
def isName (s : ByteArray) : Bool := decide (1 ≤ s.size) && decide (s.size ≤ 12) && decide (97 ≤ bt s 0) && decide (bt s 0 ≤ 122) && s.data.toList.all (nameSet.contains ·)
def impl_IsName.f (a0 : ByteArray) : Option Bool := some (isName a0)

theorem dropWhile_nil (p : UInt8 → Bool) : ∀ l : List UInt8, l.dropWhile p = [] ↔ l.all p = true
  | [] => by simp
  | x :: l => by
    by_cases hx : p x = true
    · simp [List.dropWhile, hx, dropWhile_nil p l]
    · simp [List.dropWhile, hx]
theorem all_dropWhile (p : UInt8 → Bool) : ∀ l : List UInt8, (l.dropWhile p).all p = true → l.all p = true
  | [] => by simp
  | x :: l => by
    by_cases hx : p x = true
    · simp only [List.dropWhile, hx]
      intro h
      simp [hx, all_dropWhile p l h]
    · simp only [List.dropWhile, hx]
      exact fun h => h
theorem trim_nil (l : List UInt8) : (Lib.trimS l nameSet = []) ↔ l.all (nameSet.contains ·) = true := by
  unfold Lib.trimS Lib.trimLeftS Lib.trimRightS
  rw [dropWhile_nil, List.all_reverse]
  constructor
  · intro h
    have := all_dropWhile _ _ h
    rwa [List.all_reverse] at this
  · intro h
    have h2 : l.reverse.dropWhile (nameSet.contains ·) = [] := (dropWhile_nil _ _).2 (by rwa [List.all_reverse])
    rw [h2]; rfl

set_option maxHeartbeats 1000000 in
theorem impl_IsName.calls (a0 : ByteArray) (r : Bool) (w : World) (h : impl_IsName.f a0 = some r) :
    Calls Tryd.prog 143 #[.string a0] w fun e w' => e = .returned (.bool r) ∧ Below w.heap.size w w' := by
  obtain rfl := Option.some.inj h
  clear h
  by_cases h1 : (a0.size : Int) < 1
  · have hr : isName a0 = false := by unfold isName; rw [decide_eq_false (by omega)]; rfl
    rw [hr]; clear hr
    go_enter Tryd.func143, Tryd.ntmps143
    go_wp2
    go_ret
    exact ⟨rfl, Below.refl _ _⟩
  by_cases h2 : 12 < (a0.size : Int)
  · have hr : isName a0 = false := by unfold isName; rw [decide_eq_false (show ¬ a0.size ≤ 12 by omega)]; simp
    rw [hr]; clear hr
    go_enter Tryd.func143, Tryd.ntmps143
    go_wp2
    go_ret
    exact ⟨rfl, Below.refl _ _⟩
  have hp : 0 < a0.size := by omega
  have hb : ((a0[0]'hp).toNat : Int) = bt a0 0 := bt_at a0 0 hp
  by_cases h3 : bt a0 0 < 97
  · have hr : isName a0 = false := by unfold isName; rw [decide_eq_false (show ¬ 97 ≤ bt a0 0 by omega)]; simp
    rw [hr]; clear hr
    go_enter Tryd.func143, Tryd.ntmps143
    go_wp2
    go_ret
    exact ⟨rfl, Below.refl _ _⟩
  by_cases h4 : 122 < bt a0 0
  · have hr : isName a0 = false := by unfold isName; rw [decide_eq_false (show ¬ bt a0 0 ≤ 122 by omega)]; simp
    rw [hr]; clear hr
    go_enter Tryd.func143, Tryd.ntmps143
    go_wp2
    go_ret
    exact ⟨rfl, Below.refl _ _⟩
  have hcon := Any.strings_Trim_laid Tryd.lays160 (by kernel_rfl) a0 ⟨nameSet.toArray⟩ w (by omega) (by decide) (ascii_of_all (by decide))
  change Calls Tryd.prog 198 _ _ (fun e w' => e = .returned (.string ⟨(Lib.trimS a0.data.toList nameSet).toArray⟩) ∧ Below w.heap.size w w') at hcon
  have hr : isName a0 = a0.data.toList.all (nameSet.contains ·) := by
    unfold isName
    rw [decide_eq_true (show 1 ≤ a0.size by omega), decide_eq_true (show a0.size ≤ 12 by omega), decide_eq_true (show 97 ≤ bt a0 0 by omega), decide_eq_true (show bt a0 0 ≤ 122 by omega)]; simp
  rw [hr]; clear hr
  have ht := trim_nil a0.data.toList
  generalize Lib.trimS a0.data.toList nameSet = t at hcon ht
  cases t with
  | nil =>
    rw [ht.1 rfl]; clear ht
    go_enter Tryd.func143, Tryd.ntmps143
    go_wp2_with (go_at_call 198; refine hcon.mono ?_; rintro e w' ⟨rfl, hB⟩)
    go_ret
    exact ⟨rfl, hB⟩
  | cons b t =>
    have hf : (a0.data.toList.all (nameSet.contains ·)) = false := by
      cases hh : (a0.data.toList.all (nameSet.contains ·))
      · rfl
      · have := ht.2 hh; cases this
    rw [hf]; clear ht hf
    go_enter Tryd.func143, Tryd.ntmps143
    go_wp2_with (go_at_call 198; refine hcon.mono ?_; rintro e w' ⟨rfl, hB⟩)
    go_ret
    exact ⟨rfl, hB⟩
end Go.Proofs.YtdjdillppgijmaaDoor
