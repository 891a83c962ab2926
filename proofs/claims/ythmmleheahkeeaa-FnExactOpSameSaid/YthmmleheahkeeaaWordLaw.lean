/- What TreeBody and TreeWord, the program's and the reference's, come to. -/
import Derived.Test.YthmmleheahkeeaaBase
import Derived.Test.YthmmleheahkeeaaQ5
namespace Go.Proofs.Ythmmleheahkeeaa.WordLaw
open Go.RowKit Go.Proofs.YthmmleheahkeeaaW.PrintWords Go.Proofs.Ythmmleheahkeeaa.Base Go.Proofs.Ythmmleheahkeeaa.Q

def lowC (c : Int) : Bool := decide (97 ≤ c) && decide (c ≤ 122)
def bodyC (c : Int) : Bool := lowC c || (decide (48 ≤ c) && decide (c ≤ 57))
def bodyB (s : ByteArray) : Bool := if allOf (fun j => bodyC (bt s j)) 0 s.size = true then decide ((s.size : Int) ≤ 12) else false
def wordB (s : ByteArray) : Bool := if allOf (fun j => lowC (bt s j)) 0 s.size = true then decide (1 ≤ (s.size : Int)) && decide ((s.size : Int) ≤ 4) else false

theorem lowC_t {c : Int} (h : lowC c = true) : 97 ≤ c ∧ c ≤ 122 := by simpa [lowC] using h
theorem lowC_f {c : Int} (h : lowC c = false) : c < 97 ∨ 122 < c := by
  simp [lowC] at h
  omega
theorem in_is (a b c : Int) : impl_in.f a b c = some (decide (b ≤ a) && decide (a ≤ c)) := by
  unfold impl_in.f
  split
  · rename_i h
    have : b ≤ a := h
    simp [this]
  · rename_i h
    have : ¬ b ≤ a := h
    simp [this]
theorem wbt (s : ByteArray) (i : Int) : wrap64 (bt s i) = bt s i := by
  have := bt_range s i
  exact w64 (by omega) (by omega)

theorem impl_body (s : ByteArray) (h : s.size ≤ 4611686018427387903) : Ev (fun k => impl_TreeBody.f k s) (bodyB s) := by
  unfold impl_TreeBody.f bodyB
  refine scan0 (fun k i => impl_TreeBody.l0 k s i) s.size _ _ _ ?_ ?_ ?_
  · exact Ev.step (fun k => by rw [impl_TreeBody.l0, if_neg (by omega)]) (Ev.now _)
  · intro i hi hp r hr
    refine Ev.step (f := fun k => impl_TreeBody.l0 k s ((i : Int) + 1)) (fun k => ?_) hr
    rw [impl_TreeBody.l0, if_pos (by omega), if_pos (by omega), wbt, in_is, w64s (b := s.size) (by omega) (by omega) (by omega)]
    simp only [Option.bind_some, in_is]
    cases hl : lowC (bt s i) with
    | true => rw [lowC] at hl; rw [hl, if_pos rfl]
    | false =>
      have hb : (decide (48 ≤ bt s i) && decide (bt s i ≤ 57)) = true := by simpa [bodyC, hl] using hp
      rw [lowC] at hl
      rw [hl, hb, if_neg (by decide), if_pos rfl]
  · intro i hi hp
    refine Ev.step (f := fun _ => some false) (fun k => ?_) (Ev.now _)
    rw [impl_TreeBody.l0, if_pos (by omega), if_pos (by omega), wbt, in_is]
    have hp' : bodyC (bt s i) = false := hp
    unfold bodyC lowC at hp'
    rw [Bool.or_eq_false_iff] at hp'
    simp only [Option.bind_some, in_is, hp'.1, hp'.2, Bool.false_eq_true, if_false]
theorem impl_word (s : ByteArray) (h : s.size ≤ 4611686018427387903) : Ev (fun k => impl_TreeWord.f k s) (wordB s) := by
  unfold impl_TreeWord.f wordB
  refine scan0 (fun k i => impl_TreeWord.l0 k s i) s.size _ _ _ ?_ ?_ ?_
  · exact Ev.step (fun k => by rw [impl_TreeWord.l0, if_neg (by omega), in_is, Option.bind_some]) (Ev.now _)
  · intro i hi hp r hr
    refine Ev.step (f := fun k => impl_TreeWord.l0 k s ((i : Int) + 1)) (fun k => ?_) hr
    have hp' : lowC (bt s i) = true := hp
    rw [lowC] at hp'
    rw [impl_TreeWord.l0, if_pos (by omega), if_pos (by omega), wbt, in_is, w64s (b := s.size) (by omega) (by omega) (by omega)]
    simp only [Option.bind_some, hp', if_true]
  · intro i hi hp
    refine Ev.step (f := fun _ => some false) (fun k => ?_) (Ev.now _)
    have hp' : lowC (bt s i) = false := hp
    rw [lowC] at hp'
    rw [impl_TreeWord.l0, if_pos (by omega), if_pos (by omega), wbt, in_is]
    simp only [Option.bind_some, hp', Bool.false_eq_true, if_false]
theorem spec_body (s : ByteArray) (h : s.size ≤ 4611686018427387903) : Ev (fun k => spec_TreeBody.f k s) (bodyB s) := by
  unfold spec_TreeBody.f bodyB
  refine scan0 (fun k i => spec_TreeBody.l0 k s i) s.size _ _ _ ?_ ?_ ?_
  · exact Ev.step (fun k => by rw [spec_TreeBody.l0, if_neg (by omega)]) (Ev.now _)
  · intro i hi hp r hr
    refine Ev.step (f := fun k => spec_TreeBody.l0 k s ((i : Int) + 1)) (fun k => ?_) hr
    rw [spec_TreeBody.l0, if_pos (by omega), if_pos (by omega), w64s (b := s.size) (by omega) (by omega) (by omega)]
    simp only [bodyC, lowC, Bool.or_eq_true, Bool.and_eq_true, decide_eq_true_eq] at hp
    repeat' split
    all_goals first | rfl | omega
  · intro i hi hp
    refine Ev.step (f := fun _ => some false) (fun k => ?_) (Ev.now _)
    rw [spec_TreeBody.l0, if_pos (by omega), if_pos (by omega)]
    simp only [bodyC, lowC, Bool.or_eq_false_iff, Bool.and_eq_false_iff, decide_eq_false_iff_not] at hp
    repeat' split
    all_goals first | rfl | omega
theorem spec_word (s : ByteArray) (h : s.size ≤ 4611686018427387903) : Ev (fun k => spec_TreeWord.f k s) (wordB s) := by
  unfold spec_TreeWord.f wordB
  refine scan0 (fun k i => spec_TreeWord.l0 k s i) s.size _ _ _ ?_ ?_ ?_
  · refine Ev.step (f := fun _ => some (decide (1 ≤ (s.size : Int)) && decide ((s.size : Int) ≤ 4))) (fun k => ?_) (Ev.now _)
    rw [spec_TreeWord.l0, if_neg (by omega)]
    split
    · rename_i h1
      have : 1 ≤ (s.size : Int) := h1
      simp [this]
    · rename_i h1
      have : ¬ 1 ≤ (s.size : Int) := h1
      simp only [this, decide_false, Bool.false_and]
  · intro i hi hp r hr
    refine Ev.step (f := fun k => spec_TreeWord.l0 k s ((i : Int) + 1)) (fun k => ?_) hr
    have := lowC_t hp
    rw [spec_TreeWord.l0, if_pos (by omega), if_pos (by omega), if_neg (by omega), if_neg (by omega), w64s (b := s.size) (by omega) (by omega) (by omega)]
  · intro i hi hp
    refine Ev.step (f := fun _ => some false) (fun k => ?_) (Ev.now _)
    have := lowC_f hp
    rw [spec_TreeWord.l0, if_pos (by omega), if_pos (by omega)]
    repeat' split
    all_goals first | rfl | omega
end Go.Proofs.Ythmmleheahkeeaa.WordLaw
