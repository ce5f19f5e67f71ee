/- PlDrw, PlDraw2, in one text. -/
import Derived.Test.YtdjdillppgijmaaDoorPlShort
import Derived.Test.YtdjdillppgijmaaDoorQsx10
import Derived.Laws.BitsLemmas
import Derived.Test.YtdjdillppgijmaaDoorStkOrd
set_option linter.unusedVariables false
set_option linter.unusedSimpArgs false
namespace Go.Proofs.YtdjdillppgijmaaDoor.Qs
open Go.RowKit Go.Proofs.YtdjdillppgijmaaDoorW.PrintWords Go.Proofs.YtdjdillppgijmaaDoorW.PrintLast Go.Proofs.YtdjdillppgijmaaDoorW.PrintMore Go.Proofs.YtdjdillppgijmaaDoor.Pl

def isCode (l : List Int) : Prop := ∀ x ∈ l, 0 ≤ x ∧ x ≤ 255
theorem rd_code {l : List Int} (h : isCode l) (i : Int) : 0 ≤ rd l i ∧ rd l i ≤ 255 := by
  unfold rd
  by_cases hi : i.toNat < l.length
  · have := h _ (List.getElem_mem hi)
    simpa [List.getD, hi] using this
  · simp [List.getD, hi]
theorem u64_bd (x : Int) : 0 ≤ IntKind.u64.wrap x ∧ IntKind.u64.wrap x < 18446744073709551616 := by
  rw [IntKind.wrap_u64]; omega
theorem and255 (x : Int) (h0 : 0 ≤ x) (h1 : x < 18446744073709551616) : 0 ≤ Go.bits .and .u64 x 255 ∧ Go.bits .and .u64 x 255 ≤ 255 := by
  have e : Go.bits .and .u64 x 255 = x % 256 := bits_mask .u64 64 (by decide) (fun n h0 h1 => by rw [IntKind.wrap_u64]; omega) 8 (by decide) x h0 h1
  rw [e]; omega
theorem next_ok {code : List Int} (hc : isCode code) (at_ seed : Int) (h0 : 0 ≤ at_) (h1 : at_ ≤ 1000000000000) :
    ∃ v sd, spec_l00Src_next.f code at_ seed = some (v, at_ + 1, sd) ∧ 0 ≤ v ∧ v ≤ 255 := by
  have hr := rd_code hc at_
  have e1 : wrap64 (rd code at_) = rd code at_ := w64 (by omega) (by omega)
  have e2 : wrap64 (at_ + 1) = at_ + 1 := w64 (by omega) (by omega)
  have big : ∀ y : Int, ∃ v, wrap64 (Go.bits .and .u64 (IntKind.u64.wrap y / 1099511627776) 255) = v ∧ 0 ≤ v ∧ v ≤ 255 := by
    intro y
    have hb := u64_bd y
    have := and255 (IntKind.u64.wrap y / 1099511627776) (by omega) (by omega)
    exact ⟨_, w64 (by omega) (by omega), this.1, this.2⟩
  unfold spec_l00Src_next.f
  by_cases c1 : at_ < (code.length : Int)
  · rw [if_pos c1, if_pos h0]
    by_cases c2 : wrap64 (at_ + 1) ≤ (code.length : Int)
    · rw [if_pos c2, e1, e2]; exact ⟨_, _, rfl, hr.1, hr.2⟩
    · rw [e2] at c2; omega
  · rw [if_neg c1]
    by_cases c2 : wrap64 (at_ + 1) ≤ (code.length : Int)
    · rw [e2] at c2; omega
    · rw [if_neg c2, e2]
      obtain ⟨v, hv, b1, b2⟩ := big (IntKind.u64.wrap (IntKind.u64.wrap (seed * 6364136223846793005)) + 1442695040888963407)
      exact ⟨v, _, by rw [hv], b1, b2⟩
theorem pick_ok {code : List Int} (hc : isCode code) (at_ seed n : Int) (h0 : 0 ≤ at_) (h1 : at_ ≤ 100000000000) (hn : 1 < n) (hn2 : n ≤ 200) :
    ∃ v a' sd, spec_l00Src_pick.f code at_ seed n = some (v, a', sd) ∧ 0 ≤ v ∧ v < n ∧ at_ ≤ a' ∧ a' ≤ at_ + 2 := by
  obtain ⟨v, sd, e, b1, b2⟩ := next_ok hc at_ seed h0 (by omega)
  unfold spec_l00Src_pick.f
  rw [if_neg (by omega), e]
  simp only [Option.bind_some]
  rw [if_neg (by omega), if_neg (by omega)]
  refine ⟨_, _, _, rfl, ?_, ?_, by omega, by omega⟩
  · rw [Int.tmod_eq_emod_of_nonneg b1]; exact Int.emod_nonneg _ (by omega)
  · rw [Int.tmod_eq_emod_of_nonneg b1]; exact Int.emod_lt_of_pos _ (by omega)
theorem one_ok {code : List Int} (hc : isCode code) (at_ seed n : Int) (h0 : 0 ≤ at_) (h1 : at_ ≤ 100000000000) (hn : 1 < n) (hn2 : n ≤ 200) :
    ∃ b a' sd, spec_l00Src_one.f code at_ seed n = some (b, a', sd) ∧ at_ ≤ a' ∧ a' ≤ at_ + 2 := by
  obtain ⟨v, a', sd, e, _, _, h2, h3⟩ := pick_ok hc at_ seed n h0 h1 hn hn2
  unfold spec_l00Src_one.f
  rw [e]
  exact ⟨_, _, _, rfl, h2, h3⟩
theorem new_ok {code : List Int} (hc : isCode code) (at_ seed : Int) (s : ByteArray) (h0 : 0 ≤ at_) (h1 : at_ ≤ 10000000000) :
    ∃ f1 f2 f3 a' sd, spec_l23New.f code at_ seed s = some (s, f1, f2, f3, a', sd) ∧ (0 ≤ f1 ∧ f1 < 30) ∧ (0 ≤ f2 ∧ f2 < 40) ∧ (0 ≤ f3 ∧ f3 < 60) ∧ at_ ≤ a' ∧ a' ≤ at_ + 6 := by
  obtain ⟨v1, a1, s1, e1, p1, p2, p3, p4⟩ := pick_ok hc at_ seed 30 h0 (by omega) (by omega) (by omega)
  obtain ⟨v2, a2, s2, e2, q1, q2, q3, q4⟩ := pick_ok hc a1 s1 40 (by omega) (by omega) (by omega) (by omega)
  obtain ⟨v3, a3, s3, e3, r1, r2, r3, r4⟩ := pick_ok hc a2 s2 60 (by omega) (by omega) (by omega) (by omega)
  unfold spec_l23New.f
  rw [e1]; simp only [Option.bind_some]
  rw [e2]; simp only [Option.bind_some]
  rw [e3]; simp only [Option.bind_some]
  exact ⟨_, _, _, _, _, rfl, ⟨p1, p2⟩, ⟨q1, q2⟩, ⟨r1, r2⟩, by omega, by omega⟩

def names6 : List ByteArray := [(⟨#[98, 114, 97, 115, 115]⟩ : ByteArray), (⟨#[103, 108, 117, 101]⟩ : ByteArray), (⟨#[105, 110, 107]⟩ : ByteArray), (⟨#[112, 97, 112, 101, 114]⟩ : ByteArray), (⟨#[112, 108, 97, 116, 101, 45, 50]⟩ : ByteArray), (⟨#[118, 97, 114, 110, 105, 115, 104]⟩ : ByteArray)]
theorem names6_ok : ∀ s ∈ names6, isName s = true := by decide +kernel
theorem names6_less : names6.Pairwise (fun a b => Op.bytesLess a.toList b.toList = true) := by decide +kernel

/-- the drawn items so far -/
def Drawn (i : Nat) (acc : List S34) : Prop := (acc.map (·.f0)).Sublist (names6.take i) ∧ ∀ x ∈ acc, haveB x.f1 = true ∧ haveB x.f2 = true ∧ centsB x.f3 = true
theorem Drawn.valid {i : Nat} {acc : List S34} (h : Drawn i acc) : validB acc = true := by
  obtain ⟨h1, h2⟩ := h
  have hs : (acc.map (·.f0)).Sublist names6 := h1.trans (List.take_sublist _ _)
  have hl : acc.length ≤ 6 := by have := hs.length_le; rw [List.length_map] at this; exact this
  have hp := names6_less.sublist hs
  unfold validB
  rw [Bool.and_eq_true]
  refine ⟨List.all_eq_true.2 fun j hj => ?_, decide_eq_true (by omega)⟩
  have hj := List.mem_range.1 hj
  have e : rd_T34 acc (j : Int) = acc[j] := by rw [rd_nat]; simp [List.getD, hj]
  have hm := List.getElem_mem hj
  unfold okAt itemB
  rw [e, names6_ok _ (hs.subset (List.mem_map_of_mem hm)), (h2 _ hm).1, (h2 _ hm).2.1, (h2 _ hm).2.2]
  by_cases h0 : j = 0
  · subst h0; simp
  · have e1 : ((j : Int) - 1) = ((j - 1 : Nat) : Int) := by omega
    have e2 : rd_T34 acc ((j : Int) - 1) = acc[j - 1] := by rw [e1, rd_nat]; simp [List.getD, show j - 1 < acc.length by omega]
    have hlt := List.pairwise_iff_getElem.1 hp (j - 1) j (by rw [List.length_map]; omega) (by rw [List.length_map]; omega) (by omega)
    simp only [List.getElem_map] at hlt
    rw [e2, hlt]; simp
theorem draw_loop {code : List Int} (hc : isCode code) (d : Nat) : ∀ (i : Nat) (acc : List S34) (at_ seed : Int), i + d = 6 → Drawn i acc → acc.length ≤ i → 0 ≤ at_ → at_ ≤ 100 * i →
    ∃ r a' sd, validB r = true ∧ r.length ≤ 6 ∧ Ev (fun k => spec_l23Draw.l0 k names6 acc (i : Int) code at_ seed) (r, a', sd) := by
  have hl6 : (names6.length : Int) = 6 := by decide
  induction d with
  | zero =>
    intro i acc at_ seed hi hd hl h0 h1
    exact ⟨acc, at_, seed, hd.valid, by omega, Ev.step (f := fun _ => some (acc, at_, seed)) (fun k => by simp only [spec_l23Draw.l0]; rw [if_neg (by omega)]) (Ev.now _)⟩
  | succ d ih =>
    intro i acc at_ seed hi hd hl h0 h1
    obtain ⟨b, a1, s1, e1, p1, p2⟩ := one_ok hc at_ seed 2 h0 (by omega) (by omega) (by omega)
    have hi6 : i < names6.length := by have : names6.length = 6 := by decide
                                       omega
    cases b with
    | true =>
      have en : rdOf ByteArray.empty names6 (i : Int) = names6[i] := by unfold rdOf; rw [Int.toNat_natCast]; simp [List.getD, hi6]
      obtain ⟨f1, f2, f3, a2, s2, e2, q1, q2, q3, q4, q5⟩ := new_ok hc a1 s1 (names6[i]) (by omega) (by omega)
      have hd2 : Drawn (i + 1) (acc ++ [(⟨names6[i], f1, f2, f3⟩ : S34)]) := by
        refine ⟨?_, ?_⟩
        · rw [List.map_append, List.take_succ_eq_append_getElem hi6]
          exact hd.1.append (List.Sublist.refl _)
        · intro x hx
          rcases List.mem_append.1 hx with hx | hx
          · exact hd.2 x hx
          · obtain rfl := List.mem_singleton.1 hx
            exact ⟨decide_eq_true (show 0 ≤ f1 ∧ f1 ≤ 100000 by omega), decide_eq_true (show 0 ≤ f2 ∧ f2 ≤ 100000 by omega), decide_eq_true (show 0 ≤ f3 ∧ f3 ≤ 1000000 by omega)⟩
      obtain ⟨r, a', sd, g1, g2, g3⟩ := ih (i + 1) (acc ++ [(⟨names6[i], f1, f2, f3⟩ : S34)]) a2 s2 (by omega) hd2 (by simp; omega) (by omega) (by omega)
      refine ⟨r, a', sd, g1, g2, Ev.step (fun k => ?_) g3⟩
      simp only [spec_l23Draw.l0]
      rw [if_pos (by omega), e1]
      simp only [Option.bind_some, if_true]
      rw [if_pos (by omega), en, e2]
      simp only [Option.bind_some]
      rw [if_pos (by omega), succ_nat i (by omega)]
    | false =>
      have hd2 : Drawn (i + 1) acc := ⟨hd.1.trans (by rw [List.take_succ_eq_append_getElem hi6]; exact List.sublist_append_left _ _), hd.2⟩
      obtain ⟨r, a', sd, g1, g2, g3⟩ := ih (i + 1) acc a1 s1 (by omega) hd2 (by omega) (by omega) (by omega)
      refine ⟨r, a', sd, g1, g2, Ev.step (fun k => ?_) g3⟩
      simp only [spec_l23Draw.l0]
      rw [if_pos (by omega), e1]
      simp only [Option.bind_some, Bool.false_eq_true, if_false]
      rw [succ_nat i (by omega)]
theorem stock_ok {code : List Int} (hc : isCode code) : ∃ r, validB r = true ∧ r.length ≤ 6 ∧ Ev (fun k => spec_A2Stock.f k code) r := by
  obtain ⟨r, a', sd, g1, g2, g3⟩ := draw_loop hc 6 0 [] 0 0 (by omega) ⟨by simp, fun x hx => by cases hx⟩ (by simp) (by omega) (by omega)
  refine ⟨r, g1, g2, ?_⟩
  unfold spec_A2Stock.f spec_l00From.f spec_l23Draw.f
  simp only [Option.bind_some]
  exact Ev.bind (f := fun _ bt => some bt.1) g3 (Ev.now r)
end Go.Proofs.YtdjdillppgijmaaDoor.Qs

/- The drawn stock: small numbers, sorted names. -/
set_option linter.unusedVariables false
set_option linter.unusedSimpArgs false
namespace Go.Proofs.YtdjdillppgijmaaDoor.Qs
open Go.RowKit Go.Proofs.YtdjdillppgijmaaDoorW.PrintWords Go.Proofs.YtdjdillppgijmaaDoorW.PrintLast Go.Proofs.YtdjdillppgijmaaDoorW.PrintMore

/-- An item of a drawn stock. -/
def Tiny (x : S34) : Prop := isName x.f0 = true ∧ (0 ≤ x.f1 ∧ x.f1 < 30) ∧ (0 ≤ x.f2 ∧ x.f2 < 40) ∧ (0 ≤ x.f3 ∧ x.f3 < 60)
def Drawn2 (i : Nat) (acc : List S34) : Prop := (acc.map (·.f0)).Sublist (names6.take i) ∧ ∀ x ∈ acc, (0 ≤ x.f1 ∧ x.f1 < 30) ∧ (0 ≤ x.f2 ∧ x.f2 < 40) ∧ (0 ≤ x.f3 ∧ x.f3 < 60)
theorem draw2_loop {code : List Int} (hc : isCode code) (d : Nat) : ∀ (i : Nat) (acc : List S34) (at_ seed : Int), i + d = 6 → Drawn2 i acc → acc.length ≤ i → 0 ≤ at_ → at_ ≤ 100 * i →
    ∃ r a' sd, Drawn2 6 r ∧ Ev (fun k => spec_l23Draw.l0 k names6 acc (i : Int) code at_ seed) (r, a', sd) := by
  have hl6 : (names6.length : Int) = 6 := by decide
  induction d with
  | zero =>
    intro i acc at_ seed hi hd hl h0 h1
    obtain rfl : i = 6 := by omega
    exact ⟨acc, at_, seed, hd, Ev.step (f := fun _ => some (acc, at_, seed)) (fun k => by simp only [spec_l23Draw.l0]; rw [if_neg (by omega)]) (Ev.now _)⟩
  | succ d ih =>
    intro i acc at_ seed hi hd hl h0 h1
    obtain ⟨b, a1, s1, e1, p1, p2⟩ := one_ok hc at_ seed 2 h0 (by omega) (by omega) (by omega)
    have hi6 : i < names6.length := by have : names6.length = 6 := by decide
                                       omega
    cases b with
    | true =>
      have en : rdOf ByteArray.empty names6 (i : Int) = names6[i] := by unfold rdOf; rw [Int.toNat_natCast]; simp [List.getD, hi6]
      obtain ⟨f1, f2, f3, a2, s2, e2, q1, q2, q3, q4, q5⟩ := new_ok hc a1 s1 (names6[i]) (by omega) (by omega)
      have hd2 : Drawn2 (i + 1) (acc ++ [(⟨names6[i], f1, f2, f3⟩ : S34)]) := by
        refine ⟨?_, ?_⟩
        · rw [List.map_append, List.take_succ_eq_append_getElem hi6]
          exact hd.1.append (List.Sublist.refl _)
        · intro x hx
          rcases List.mem_append.1 hx with hx | hx
          · exact hd.2 x hx
          · obtain rfl := List.mem_singleton.1 hx
            exact ⟨q1, q2, q3⟩
      obtain ⟨r, a', sd, g1, g3⟩ := ih (i + 1) (acc ++ [(⟨names6[i], f1, f2, f3⟩ : S34)]) a2 s2 (by omega) hd2 (by simp; omega) (by omega) (by omega)
      refine ⟨r, a', sd, g1, Ev.step (fun k => ?_) g3⟩
      simp only [spec_l23Draw.l0]
      rw [if_pos (by omega), e1]
      simp only [Option.bind_some, if_true]
      rw [if_pos (by omega), en, e2]
      simp only [Option.bind_some]
      rw [if_pos (by omega), succ_nat i (by omega)]
    | false =>
      have hd2 : Drawn2 (i + 1) acc := ⟨hd.1.trans (by rw [List.take_succ_eq_append_getElem hi6]; exact List.sublist_append_left _ _), hd.2⟩
      obtain ⟨r, a', sd, g1, g3⟩ := ih (i + 1) acc a1 s1 (by omega) hd2 (by omega) (by omega) (by omega)
      refine ⟨r, a', sd, g1, Ev.step (fun k => ?_) g3⟩
      simp only [spec_l23Draw.l0]
      rw [if_pos (by omega), e1]
      simp only [Option.bind_some, Bool.false_eq_true, if_false]
      rw [succ_nat i (by omega)]
theorem Drawn2.tiny {r : List S34} (h : Drawn2 6 r) : Srt r ∧ r.length ≤ 6 ∧ ∀ x ∈ r, Tiny x := by
  obtain ⟨h1, h2⟩ := h
  have hs : (r.map (·.f0)).Sublist names6 := h1.trans (List.take_sublist _ _)
  refine ⟨?_, ?_, fun x hx => ⟨names6_ok _ (hs.subset (List.mem_map_of_mem hx)), h2 x hx⟩⟩
  · have hp := names6_less.sublist hs
    rw [List.pairwise_map] at hp
    exact hp
  · have := hs.length_le
    rw [List.length_map] at this
    exact this
theorem stock2_ok {code : List Int} (hc : isCode code) : ∃ r, Srt r ∧ r.length ≤ 6 ∧ (∀ x ∈ r, Tiny x) ∧ Ev (fun k => spec_A2Stock.f k code) r := by
  obtain ⟨r, a', sd, g1, g3⟩ := draw2_loop hc 6 0 [] 0 0 (by omega) ⟨by simp, fun x hx => by cases hx⟩ (by simp) (by omega) (by omega)
  obtain ⟨t1, t2, t3⟩ := g1.tiny
  refine ⟨r, t1, t2, t3, ?_⟩
  unfold spec_A2Stock.f spec_l00From.f spec_l23Draw.f
  simp only [Option.bind_some]
  exact Ev.bind (f := fun _ bt => some bt.1) g3 (Ev.now r)
/-- A sorted list of at most 20 good items is valid. -/
theorem srt_valid {l : List S34} (hs : Srt l) (hl : l.length ≤ 20) (hi : ∀ x ∈ l, itemB x = true) : validB l = true := by
  rw [valid_good]
  refine ⟨fun i h => ?_, fun i h => ?_, hl⟩
  · rw [rd34 l i h]; exact hi _ (List.getElem_mem h)
  · rw [rd34 l i (by omega), rd34 l (i + 1) h]
    exact List.pairwise_iff_getElem.1 hs i (i + 1) (by omega) h (by omega)
theorem Tiny.item {x : S34} (h : Tiny x) : itemB x = true := by
  obtain ⟨h0, h1, h2, h3⟩ := h
  unfold itemB haveB centsB
  rw [h0]
  simp
  omega
end Go.Proofs.YtdjdillppgijmaaDoor.Qs
