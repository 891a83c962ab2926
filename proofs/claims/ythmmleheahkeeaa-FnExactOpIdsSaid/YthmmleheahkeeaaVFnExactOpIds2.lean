/- Part 2 of what the proof of FnExactOpIds uses: plain functions with the answers of the Go functions, the proofs that the calls come to them, and plain lemmas. -/
import Derived.Test.YthmmleheahkeeaaVFnExactOpIds0
import Derived.Test.YthmmleheahkeeaaVFnExactOpIds1
namespace Go.Proofs.Ythmmleheahkeeaa.WordLaw
open Go.RowKit Go.Proofs.YthmmleheahkeeaaW.PrintWords Go.Proofs.Ythmmleheahkeeaa.Base Go.Proofs.Ythmmleheahkeeaa.Q
def lowC (c : Int) : Bool := decide (97 ≤ c) && decide (c ≤ 122)
def bodyC (c : Int) : Bool := lowC c || (decide (48 ≤ c) && decide (c ≤ 57))
def bodyB (s : ByteArray) : Bool := if allOf (fun j => bodyC (bt s j)) 0 s.size = true then decide ((s.size : Int) ≤ 12) else false
def wordB (s : ByteArray) : Bool := if allOf (fun j => lowC (bt s j)) 0 s.size = true then decide (1 ≤ (s.size : Int)) && decide ((s.size : Int) ≤ 4) else false
theorem lowC_t {c : Int} (h : lowC c = true) : 97 ≤ c ∧ c ≤ 122 := by simpa [lowC] using h
theorem lowC_f {c : Int} (h : lowC c = false) : c < 97 ∨ 122 < c := by
  simp [lowC] at h
  omega
theorem in_is (a b c : Int) : impl_in.f a b c = some (decide (b ≤ a) && decide (a ≤ c)) := by
  unfold impl_in.f
  split
  · rename_i h
    have : b ≤ a := h
    simp [this]
  · rename_i h
    have : ¬ b ≤ a := h
    simp [this]
theorem wbt (s : ByteArray) (i : Int) : wrap64 (bt s i) = bt s i := by
  have := bt_range s i
  exact w64 (by omega) (by omega)
theorem impl_body (s : ByteArray) (h : s.size ≤ 4611686018427387903) : Ev (fun k => impl_TreeBody.f k s) (bodyB s) := by
  unfold impl_TreeBody.f bodyB
  refine scan0 (fun k i => impl_TreeBody.l0 k s i) s.size _ _ _ ?_ ?_ ?_
  · exact Ev.step (fun k => by rw [impl_TreeBody.l0, if_neg (by omega)]) (Ev.now _)
  · intro i hi hp r hr
    refine Ev.step (f := fun k => impl_TreeBody.l0 k s ((i : Int) + 1)) (fun k => ?_) hr
    rw [impl_TreeBody.l0, if_pos (by omega), if_pos (by omega), wbt, in_is, w64s (b := s.size) (by omega) (by omega) (by omega)]
    simp only [Option.bind_some, in_is]
    cases hl : lowC (bt s i) with
    | true => rw [lowC] at hl; rw [hl, if_pos rfl]
    | false =>
      have hb : (decide (48 ≤ bt s i) && decide (bt s i ≤ 57)) = true := by simpa [bodyC, hl] using hp
      rw [lowC] at hl
      rw [hl, hb, if_neg (by decide), if_pos rfl]
  · intro i hi hp
    refine Ev.step (f := fun _ => some false) (fun k => ?_) (Ev.now _)
    rw [impl_TreeBody.l0, if_pos (by omega), if_pos (by omega), wbt, in_is]
    have hp' : bodyC (bt s i) = false := hp
    unfold bodyC lowC at hp'
    rw [Bool.or_eq_false_iff] at hp'
    simp only [Option.bind_some, in_is, hp'.1, hp'.2, Bool.false_eq_true, if_false]
theorem impl_word (s : ByteArray) (h : s.size ≤ 4611686018427387903) : Ev (fun k => impl_TreeWord.f k s) (wordB s) := by
  unfold impl_TreeWord.f wordB
  refine scan0 (fun k i => impl_TreeWord.l0 k s i) s.size _ _ _ ?_ ?_ ?_
  · exact Ev.step (fun k => by rw [impl_TreeWord.l0, if_neg (by omega), in_is, Option.bind_some]) (Ev.now _)
  · intro i hi hp r hr
    refine Ev.step (f := fun k => impl_TreeWord.l0 k s ((i : Int) + 1)) (fun k => ?_) hr
    have hp' : lowC (bt s i) = true := hp
    rw [lowC] at hp'
    rw [impl_TreeWord.l0, if_pos (by omega), if_pos (by omega), wbt, in_is, w64s (b := s.size) (by omega) (by omega) (by omega)]
    simp only [Option.bind_some, hp', if_true]
  · intro i hi hp
    refine Ev.step (f := fun _ => some false) (fun k => ?_) (Ev.now _)
    have hp' : lowC (bt s i) = false := hp
    rw [lowC] at hp'
    rw [impl_TreeWord.l0, if_pos (by omega), if_pos (by omega), wbt, in_is]
    simp only [Option.bind_some, hp', Bool.false_eq_true, if_false]
theorem spec_body (s : ByteArray) (h : s.size ≤ 4611686018427387903) : Ev (fun k => spec_TreeBody.f k s) (bodyB s) := by
  unfold spec_TreeBody.f bodyB
  refine scan0 (fun k i => spec_TreeBody.l0 k s i) s.size _ _ _ ?_ ?_ ?_
  · exact Ev.step (fun k => by rw [spec_TreeBody.l0, if_neg (by omega)]) (Ev.now _)
  · intro i hi hp r hr
    refine Ev.step (f := fun k => spec_TreeBody.l0 k s ((i : Int) + 1)) (fun k => ?_) hr
    rw [spec_TreeBody.l0, if_pos (by omega), if_pos (by omega), w64s (b := s.size) (by omega) (by omega) (by omega)]
    simp only [bodyC, lowC, Bool.or_eq_true, Bool.and_eq_true, decide_eq_true_eq] at hp
    repeat' split
    all_goals first | rfl | omega
  · intro i hi hp
    refine Ev.step (f := fun _ => some false) (fun k => ?_) (Ev.now _)
    rw [spec_TreeBody.l0, if_pos (by omega), if_pos (by omega)]
    simp only [bodyC, lowC, Bool.or_eq_false_iff, Bool.and_eq_false_iff, decide_eq_false_iff_not] at hp
    repeat' split
    all_goals first | rfl | omega
theorem spec_word (s : ByteArray) (h : s.size ≤ 4611686018427387903) : Ev (fun k => spec_TreeWord.f k s) (wordB s) := by
  unfold spec_TreeWord.f wordB
  refine scan0 (fun k i => spec_TreeWord.l0 k s i) s.size _ _ _ ?_ ?_ ?_
  · refine Ev.step (f := fun _ => some (decide (1 ≤ (s.size : Int)) && decide ((s.size : Int) ≤ 4))) (fun k => ?_) (Ev.now _)
    rw [spec_TreeWord.l0, if_neg (by omega)]
    split
    · rename_i h1
      have : 1 ≤ (s.size : Int) := h1
      simp [this]
    · rename_i h1
      have : ¬ 1 ≤ (s.size : Int) := h1
      simp only [this, decide_false, Bool.false_and]
  · intro i hi hp r hr
    refine Ev.step (f := fun k => spec_TreeWord.l0 k s ((i : Int) + 1)) (fun k => ?_) hr
    have := lowC_t hp
    rw [spec_TreeWord.l0, if_pos (by omega), if_pos (by omega), if_neg (by omega), if_neg (by omega), w64s (b := s.size) (by omega) (by omega) (by omega)]
  · intro i hi hp
    refine Ev.step (f := fun _ => some false) (fun k => ?_) (Ev.now _)
    have := lowC_f hp
    rw [spec_TreeWord.l0, if_pos (by omega), if_pos (by omega)]
    repeat' split
    all_goals first | rfl | omega
end Go.Proofs.Ythmmleheahkeeaa.WordLaw
namespace Go.Proofs.Ythmmleheahkeeaa.Ops
open Go.RowKit Go.Proofs.YthmmleheahkeeaaW.PrintWords Go.Proofs.Ythmmleheahkeeaa.Base Go.Proofs.Ythmmleheahkeeaa.Q Go.Proofs.Ythmmleheahkeeaa.WordLaw
theorem size_step {a : Int} {s : Nat} (h0 : 0 ≤ a) (h1 : a ≤ 1048576) (hs : s ≤ 9223372036854775807) : wrap64 (a - (s : Int)) = a - s := w64 (by omega) (by omega)
theorem szOp (a0 a1 a3 a5 : Int) (s2 s4 s6 : ByteArray) (a : Int) (h0 : 0 ≤ a) (h1 : a ≤ 1048576) (z2 : s2.size ≤ 9223372036854775807) (z4 : s4.size ≤ 9223372036854775807) (z6 : s6.size ≤ 9223372036854775807) :
    ∃ r, laws_szOp.f a0 a1 s2 a3 s4 a5 s6 a = some r ∧ (r = -1 ∨ (0 ≤ r ∧ r ≤ a ∧ s2.size ≤ 1048576 ∧ s4.size ≤ 1048576 ∧ s6.size ≤ 1048576)) := by
  unfold laws_szOp.f
  rw [size_step h0 h1 z2]
  by_cases c2 : a - (s2.size : Int) < 0
  · rw [if_pos c2]; exact ⟨-1, rfl, .inl rfl⟩
  · rw [if_neg c2, size_step (a := a - (s2.size : Int)) (by omega) (by omega) z4]
    by_cases c4 : a - (s2.size : Int) - (s4.size : Int) < 0
    · rw [if_pos c4]; exact ⟨-1, rfl, .inl rfl⟩
    · rw [if_neg c4, size_step (a := a - (s2.size : Int) - (s4.size : Int)) (by omega) (by omega) z6]
      by_cases c6 : a - (s2.size : Int) - (s4.size : Int) - (s6.size : Int) < 0
      · rw [if_pos c6]; exact ⟨-1, rfl, .inl rfl⟩
      · rw [if_neg c6]
        exact ⟨_, rfl, .inr ⟨by omega, by omega, by omega, by omega, by omega⟩⟩
end Go.Proofs.Ythmmleheahkeeaa.Ops
namespace Go.Proofs.Ythmmleheahkeeaa.OpOk
open Go.RowKit Go.Proofs.YthmmleheahkeeaaW.PrintWords Go.Proofs.Ythmmleheahkeeaa.Base Go.Proofs.Ythmmleheahkeeaa.Q Go.Proofs.Ythmmleheahkeeaa.WordLaw
def inB (a lo hi : Int) : Bool := decide (lo ≤ a) && decide (a ≤ hi)
def noB (s : ByteArray) : Bool := s.toList == ([] : List UInt8)
/-- Is this operation, by its fields, a valid one? -/
def opB (kind dir : Int) (name : ByteArray) (dir2 : Int) (name2 : ByteArray) (id : Int) (text : ByteArray) : Bool :=
  inB id 1 31 &&
    (if kind = 1 ∨ kind = 2 ∨ kind = 3 then inB dir 0 31 && wordB name && (decide (dir2 = 0) && noB name2) && noB text
    else if kind = 4 then inB dir 0 31 && wordB name && (inB dir2 0 31 && wordB name2) && noB text
    else if kind = 5 then decide (dir = 0) && noB name && (decide (dir2 = 0) && noB name2) && bodyB text
    else false)
theorem l1Id (a : Int) : spec_l1Id.f a = some (inB a 0 31) := by
  unfold spec_l1Id.f inB
  have e : decide (a < 32) = decide (a ≤ 31) := by rw [Bool.eq_iff_iff]; simp; omega
  split
  · rename_i h
    have : 0 ≤ a := h
    simp [this, e]
  · rename_i h
    have : ¬ 0 ≤ a := h
    simp [this]
section
variable {k d d2 i : Int} {n n2 t : ByteArray}
theorem spec4 (x3 x4 x5 x6 x41 : Bool) (ht : t.size ≤ 4611686018427387903) : Ev (fun j => spec_OpOk.j4 j x3 x4 x5 x6 k x41 k d n d2 n2 i t)
    (if x41 = true then x3 && x4 && x6 && noB t else if k = 4 then x3 && x4 && x5 && noB t else if k = 5 then x3 && (decide (d = 0) && noB n) && x6 && bodyB t else false) := by
  refine Ev.step (fun j => by rw [spec_OpOk.j4]) ?_
  refine Ev.iteR ?_ (Ev.iteR ?_ (Ev.iteR ?_ (Ev.now _)))
  · cases x3 <;> cases x4 <;> cases x6 <;> exact Ev.now _
  · cases x3 <;> cases x4 <;> cases x5 <;> exact Ev.now _
  · refine Ev.cast (Ev.iteR (Ev.iteR (Ev.iteR (Ev.iteR (Ev.bind (spec_body t ht) (Ev.now _)) (Ev.now _)) (Ev.now _)) (Ev.now _)) (Ev.now _)) ?_
    cases x3 <;> cases x6 <;> simp [noB]
    all_goals by_cases h : d = 0 <;> by_cases h2 : n.toList = [] <;> simp [h, h2]
theorem spec3 (x3 x4 x5 x6 : Bool) (ht : t.size ≤ 4611686018427387903) : Ev (fun j => spec_OpOk.j3 j x3 x4 x5 x6 k d n d2 n2 i t)
    (if k = 1 ∨ k = 2 ∨ k = 3 then x3 && x4 && x6 && noB t else if k = 4 then x3 && x4 && x5 && noB t else if k = 5 then x3 && (decide (d = 0) && noB n) && x6 && bodyB t else false) := by
  refine Ev.step (fun j => by rw [spec_OpOk.j3]) ?_
  refine Ev.cast (Ev.iteR (spec4 x3 x4 x5 x6 _ ht) (Ev.iteR (spec4 x3 x4 x5 x6 _ ht) (spec4 x3 x4 x5 x6 _ ht))) ?_
  by_cases h1 : k = 1
  · subst h1; simp
  · by_cases h2 : k = 2
    · subst h2; simp
    · by_cases h3 : k = 3
      · subst h3; simp
      · simp [h1, h2, h3]
theorem spec2 (x3 x4 x5 : Bool) (ht : t.size ≤ 4611686018427387903) : Ev (fun j => spec_OpOk.j2 j x3 x4 x5 k d n d2 n2 i t)
    (if k = 1 ∨ k = 2 ∨ k = 3 then x3 && x4 && (decide (d2 = 0) && noB n2) && noB t else if k = 4 then x3 && x4 && x5 && noB t else if k = 5 then x3 && (decide (d = 0) && noB n) && (decide (d2 = 0) && noB n2) && bodyB t else false) := by
  refine Ev.step (fun j => by rw [spec_OpOk.j2]) ?_
  refine Ev.cast (Ev.iteR (spec3 x3 x4 x5 _ ht) (spec3 x3 x4 x5 _ ht)) ?_
  by_cases h : d2 = 0 <;> simp [h, noB]
theorem spec_ok (hn : n.size ≤ 4611686018427387903) (hn2 : n2.size ≤ 4611686018427387903) (ht : t.size ≤ 4611686018427387903) : Ev (fun j => spec_OpOk.f j k d n d2 n2 i t) (opB k d n d2 n2 i t) := by
  unfold spec_OpOk.f
  have main : ∀ x3, Ev (fun j => spec_OpOk.j0 j x3 k d n d2 n2 i t) (if k = 1 ∨ k = 2 ∨ k = 3 then x3 && (inB d 0 31 && wordB n) && (decide (d2 = 0) && noB n2) && noB t else if k = 4 then x3 && (inB d 0 31 && wordB n) && (inB d2 0 31 && wordB n2) && noB t else if k = 5 then x3 && (decide (d = 0) && noB n) && (decide (d2 = 0) && noB n2) && bodyB t else false) := by
    intro x3
    have s1 : ∀ x4, Ev (fun j => spec_OpOk.j1 j x3 x4 k d n d2 n2 i t) (if k = 1 ∨ k = 2 ∨ k = 3 then x3 && x4 && (decide (d2 = 0) && noB n2) && noB t else if k = 4 then x3 && x4 && (inB d2 0 31 && wordB n2) && noB t else if k = 5 then x3 && (decide (d = 0) && noB n) && (decide (d2 = 0) && noB n2) && bodyB t else false) := by
      intro x4
      refine Ev.step (fun j => by rw [spec_OpOk.j1, l1Id, Option.bind_some]) ?_
      refine Ev.cast (Ev.iteR (Ev.bind (spec_word n2 hn2) (spec2 x3 x4 _ ht)) (spec2 x3 x4 _ ht)) ?_
      cases inB d2 0 31 <;> simp
    refine Ev.step (fun j => by rw [spec_OpOk.j0, l1Id, Option.bind_some]) ?_
    refine Ev.cast (Ev.iteR (Ev.bind (spec_word n hn) (s1 _)) (s1 _)) ?_
    cases inB d 0 31 <;> simp
  refine Ev.cast (r := if i ≥ 1 then _ else _) (Ev.iteR (Ev.of_eq (f := fun j => spec_OpOk.j0 j (inB i 0 31) k d n d2 n2 i t) (main _) (fun j => by rw [l1Id, Option.bind_some])) (main false)) ?_
  unfold opB
  have e : inB i 1 31 = (decide (i ≥ 1) && inB i 0 31) := by
    unfold inB
    rw [Bool.eq_iff_iff]
    simp
    omega
  rw [e]
  by_cases h : i ≥ 1
  · rw [if_pos h, decide_eq_true h, Bool.true_and]
    cases inB i 0 31 <;> simp [Bool.and_assoc]
  · rw [if_neg h, decide_eq_false h]
    simp
theorem impl2 (x3 x4 x27 : Bool) (hn2 : n2.size ≤ 4611686018427387903) (ht : t.size ≤ 4611686018427387903) : Ev (fun j => impl_OpOk.j2 j x3 x4 k x27 k d n d2 n2 i t)
    (if x27 = true then x3 && x4 && noB t else if k = 4 then x3 && (inB d2 0 31 && wordB n2) && noB t else if k = 5 then (decide (d = 0) && noB n) && x4 && bodyB t else false) := by
  refine Ev.step (fun j => by rw [impl_OpOk.j2]) ?_
  refine Ev.iteR ?_ (Ev.iteR ?_ (Ev.iteR ?_ (Ev.now _)))
  · cases x3 <;> cases x4 <;> exact Ev.now _
  · refine Ev.cast (Ev.iteR (Ev.of_eq (f := fun j => if inB d2 0 31 = true then (impl_TreeWord.f j n2).bind fun t178 => if t178 = true then some (t.toList == ([] : List UInt8)) else some false else some false) (Ev.iteR (Ev.bind (impl_word n2 hn2) (Ev.iteR (Ev.now _) (Ev.now _))) (Ev.now _)) (fun j => by rw [in_is, Option.bind_some]; rfl)) (Ev.now _)) ?_
    cases x3 <;> cases inB d2 0 31 <;> cases wordB n2 <;> simp [noB]
  · refine Ev.cast (Ev.iteR (Ev.iteR (Ev.iteR (Ev.bind (impl_body t ht) (Ev.now _)) (Ev.now _)) (Ev.now _)) (Ev.now _)) ?_
    by_cases h : d = 0 <;> by_cases h2 : n.toList = [] <;> cases x4 <;> simp [h, h2, noB]
theorem impl1 (x3 x4 : Bool) (hn2 : n2.size ≤ 4611686018427387903) (ht : t.size ≤ 4611686018427387903) : Ev (fun j => impl_OpOk.j1 j x3 x4 k d n d2 n2 i t)
    (if k = 1 ∨ k = 2 ∨ k = 3 then x3 && x4 && noB t else if k = 4 then x3 && (inB d2 0 31 && wordB n2) && noB t else if k = 5 then (decide (d = 0) && noB n) && x4 && bodyB t else false) := by
  refine Ev.step (fun j => by rw [impl_OpOk.j1]) ?_
  refine Ev.cast (Ev.iteR (impl2 x3 x4 _ hn2 ht) (Ev.iteR (impl2 x3 x4 _ hn2 ht) (impl2 x3 x4 _ hn2 ht))) ?_
  by_cases h1 : k = 1
  · subst h1; simp
  · by_cases h2 : k = 2
    · subst h2; simp
    · by_cases h3 : k = 3
      · subst h3; simp
      · simp [h1, h2, h3]
theorem impl_ok (hn : n.size ≤ 4611686018427387903) (hn2 : n2.size ≤ 4611686018427387903) (ht : t.size ≤ 4611686018427387903) : Ev (fun j => impl_OpOk.f j k d n d2 n2 i t) (opB k d n d2 n2 i t) := by
  unfold impl_OpOk.f
  have main : ∀ x3, Ev (fun j => impl_OpOk.j0 j x3 k d n d2 n2 i t) (if k = 1 ∨ k = 2 ∨ k = 3 then x3 && (decide (d2 = 0) && noB n2) && noB t else if k = 4 then x3 && (inB d2 0 31 && wordB n2) && noB t else if k = 5 then (decide (d = 0) && noB n) && (decide (d2 = 0) && noB n2) && bodyB t else false) := by
    intro x3
    refine Ev.step (fun j => by rw [impl_OpOk.j0]) ?_
    refine Ev.cast (Ev.iteR (impl1 x3 _ hn2 ht) (impl1 x3 _ hn2 ht)) ?_
    by_cases h : d2 = 0 <;> simp [h, noB]
  have inner : Ev (fun j => (impl_in.f d 0 31).bind fun t175 => if t175 = true then (impl_TreeWord.f j n).bind fun t176 => impl_OpOk.j0 j t176 k d n d2 n2 i t else impl_OpOk.j0 j false k d n d2 n2 i t) (if k = 1 ∨ k = 2 ∨ k = 3 then (inB d 0 31 && wordB n) && (decide (d2 = 0) && noB n2) && noB t else if k = 4 then (inB d 0 31 && wordB n) && (inB d2 0 31 && wordB n2) && noB t else if k = 5 then (decide (d = 0) && noB n) && (decide (d2 = 0) && noB n2) && bodyB t else false) := by
    refine Ev.of_eq (f := fun j => if inB d 0 31 = true then (impl_TreeWord.f j n).bind fun t176 => impl_OpOk.j0 j t176 k d n d2 n2 i t else impl_OpOk.j0 j false k d n d2 n2 i t) ?_ (fun j => by rw [in_is, Option.bind_some]; rfl)
    refine Ev.cast (Ev.iteR (Ev.bind (impl_word n hn) (main _)) (main _)) ?_
    cases inB d 0 31 <;> simp
  refine Ev.of_eq (f := fun j => if inB i 1 31 = true then (impl_in.f d 0 31).bind fun t175 => if t175 = true then (impl_TreeWord.f j n).bind fun t176 => impl_OpOk.j0 j t176 k d n d2 n2 i t else impl_OpOk.j0 j false k d n d2 n2 i t else some false) ?_ (fun j => by rw [in_is, Option.bind_some]; rfl)
  refine Ev.cast (Ev.iteR inner (Ev.now false)) ?_
  unfold opB
  cases inB i 1 31 <;> simp
end
end Go.Proofs.Ythmmleheahkeeaa.OpOk
namespace Go.Proofs.Ythmmleheahkeeaa.Ids
open Go.RowKit Go.Proofs.YthmmleheahkeeaaW.PrintWords Go.Proofs.Ythmmleheahkeeaa.Base Go.Proofs.Ythmmleheahkeeaa.Q Go.Proofs.Ythmmleheahkeeaa.OpOk
theorem rd_nat (l : List Int) (i : Nat) : rd l (i : Int) = l.getD i 0 := rfl
theorem rd_get {l : List Int} {i : Nat} (h : i < l.length) : rd l (i : Int) = l[i] := by
  rw [rd_nat, List.getD_eq_getElem?_getD, List.getElem?_eq_getElem h]; rfl
theorem eqIntS (a b : List Int) (hl : a.length ≤ 4611686018427387903) : Ev (fun k => laws_eqIntS.f k a b) (tr (a = b)) := by
  unfold laws_eqIntS.f
  by_cases c : (a.length : Int) = (b.length : Int)
  · refine Ev.pos c (eqLoop (fun k i => laws_eqIntS.l0 k a b i) a b 0 (by omega) ?_ ?_ ?_)
    · exact Ev.step (fun k => by rw [laws_eqIntS.l0, if_neg (by omega)]) (Ev.now _)
    · intro i hi he r hr
      refine Ev.step (fun k => ?_) hr
      rw [laws_eqIntS.l0, if_pos (by omega), if_pos (by omega), if_pos (by omega), if_pos (by rw [rd_nat, rd_nat]; exact he), w64s (b := a.length) (by omega) (by omega) (by omega)]
    · intro i hi he
      refine Ev.step (f := fun _ => some false) (fun k => ?_) (Ev.now _)
      rw [laws_eqIntS.l0, if_pos (by omega), if_pos (by omega), if_pos (by omega), if_neg (by rw [rd_nat, rd_nat]; exact he)]
  · refine Ev.neg c (Ev.cast (Ev.now false) ?_)
    symm
    apply tr_f
    rintro rfl
    exact c rfl
def marks (n : Nat) : List Int := (List.range' 0 n).map (fun (j : Nat) => (1 : Int) + j)
theorem marks_length (n : Nat) : (marks n).length = n := by simp [marks]
theorem marks_get {n i : Nat} (h : i < n) : rd (marks n) (i : Int) = 1 + i := by
  rw [rd_get (by rw [marks_length]; exact h)]
  simp [marks]
theorem markIntS (l : List Int) (hl : l.length ≤ 1048576) : Ev (fun k => laws_markIntS.f k l 1) (1 + l.length, marks l.length) := by
  unfold laws_markIntS.f
  have h := fillG (fun k out i => laws_markIntS.l0 k out (1 + i) i) l.length (fun i _ => (1 : Int) + i) (fun out => ((1 : Int) + l.length, out)) (fun _ _ _ _ _ _ => rfl)
    (fun out ho => Ev.step (f := fun _ => some ((1 : Int) + l.length, out)) (fun k => by rw [laws_markIntS.l0, if_neg (by omega)]) (Ev.now _))
    (fun i out hi ho r hr => by
      refine Ev.step (fun k => ?_) hr
      rw [laws_markIntS.l0, if_pos (by omega), if_pos (by omega), w64 (n := 1 + (i : Int) + 1) (by omega) (by omega), w64s (b := l.length) (by omega) (by omega) (by omega)]
      simp only [Int.toNat_natCast]
      rw [show (1 : Int) + (i : Int) + 1 = 1 + ((i : Int) + 1) from by omega])
    l.length 0 rfl (Nat.zero_le _) l rfl
  simpa [marks] using h
theorem heldIntS (n : Nat) (hn : n ≤ 1048576) : Ev (fun k => laws_heldIntS.f k (marks n) 1) (1 + (n : Int)) := by
  unfold laws_heldIntS.f
  have key : ∀ d i : Nat, n - i = d → i ≤ n → Ev (fun k => laws_heldIntS.l0 k (marks n) (1 + (i : Int)) (i : Int)) (1 + (n : Int)) := by
    intro d
    induction d with
    | zero =>
      intro i hd hi
      have : i = n := by omega
      subst this
      exact Ev.step (f := fun _ => some (1 + (i : Int))) (fun k => by rw [laws_heldIntS.l0, if_neg (by rw [marks_length]; omega)]) (Ev.now _)
    | succ d ih =>
      intro i hd hi
      refine Ev.step (fun k => ?_) (ih (i + 1) (by omega) (by omega))
      rw [laws_heldIntS.l0, if_pos (by rw [marks_length]; omega), if_pos (by omega), if_pos (marks_get (by omega)), w64 (n := 1 + (i : Int) + 1) (by omega) (by omega), w64s (b := n) (by omega) (by omega) (by omega)]
      rw [show (1 : Int) + (i : Int) + 1 = 1 + ((i + 1 : Nat) : Int) from by omega]
      rfl
  exact key n 0 rfl (Nat.zero_le _)
theorem mem_idsU (b : List Bool) (n : Nat) (x : Int) : x ∈ idsU b n ↔ ∃ i : Nat, i < n ∧ b.getD i false = true ∧ x = i := by
  unfold idsU
  simp only [List.mem_map, List.mem_filter, List.mem_range]
  constructor
  · rintro ⟨i, ⟨h1, h2⟩, rfl⟩; exact ⟨i, h1, h2, rfl⟩
  · rintro ⟨i, h1, h2, rfl⟩; exact ⟨i, ⟨h1, h2⟩, rfl⟩
theorem asc_idsU (b : List Bool) (n : Nat) : (idsU b n).Pairwise (· < ·) := by
  induction n with
  | zero => simp [idsU]
  | succ n ih =>
    rw [idsU_succ]
    split
    · rw [List.pairwise_append]
      refine ⟨ih, by simp, ?_⟩
      intro x hx y hy
      rw [List.mem_singleton] at hy
      obtain ⟨i, hi, _, rfl⟩ := (mem_idsU b n x).1 hx
      omega
    · exact ih
theorem mem_idsU_set (b : List Bool) (hb : b.length = 32) (q : Int) (h0 : 0 ≤ q) (h1 : q < 32) (x : Int) : x ∈ idsU (b.set q.toNat true) 32 ↔ x = q ∨ x ∈ idsU b 32 := by
  rw [mem_idsU, mem_idsU]
  constructor
  · rintro ⟨i, hi, h2, rfl⟩
    by_cases he : i = q.toNat
    · left; omega
    · right
      refine ⟨i, hi, ?_, rfl⟩
      rw [List.getD_eq_getElem?_getD, List.getElem?_set_ne (by omega)] at h2
      rw [List.getD_eq_getElem?_getD]; exact h2
  · rintro (rfl | ⟨i, hi, h2, rfl⟩)
    · refine ⟨x.toNat, by omega, ?_, by omega⟩
      rw [List.getD_eq_getElem?_getD, List.getElem?_set_self (by omega)]
      rfl
    · refine ⟨i, hi, ?_, rfl⟩
      by_cases he : i = q.toNat
      · rw [he, List.getD_eq_getElem?_getD, List.getElem?_set_self (by omega)]; rfl
      · rw [List.getD_eq_getElem?_getD, List.getElem?_set_ne (by omega), ← List.getD_eq_getElem?_getD]; exact h2
/-- What a valid operation names. -/
def names (kind dir dir2 id : Int) : List Int := id :: ((if kind = 5 then [] else [dir]) ++ (if kind = 4 then [dir2] else []))
theorem op_ranges {k d d2 i : Int} {n n2 t : ByteArray} (h : opB k d n d2 n2 i t = true) : (1 ≤ i ∧ i ≤ 31) ∧ (0 ≤ d ∧ d ≤ 31) ∧ (k = 4 → 0 ≤ d2 ∧ d2 ≤ 31) ∧ (k = 1 ∨ k = 2 ∨ k = 3 ∨ k = 4 ∨ k = 5) := by
  unfold opB inB at h
  simp only [Bool.and_eq_true, decide_eq_true_eq] at h
  obtain ⟨h1, h2⟩ := h
  split at h2
  · simp only [Bool.and_eq_true, decide_eq_true_eq] at h2
    refine ⟨h1, h2.1.1.1, ?_, ?_⟩
    · intro h4; omega
    · omega
  · split at h2
    · simp only [Bool.and_eq_true, decide_eq_true_eq] at h2
      exact ⟨h1, h2.1.1.1, fun _ => h2.1.2.1, by omega⟩
    · split at h2
      · simp only [Bool.and_eq_true, decide_eq_true_eq] at h2
        have := h2.1.1.1
        exact ⟨h1, by omega, fun h4 => by omega, by omega⟩
      · cases h2
theorem nameSet_ok {k d d2 i : Int} {n n2 t : ByteArray} (h : opB k d n d2 n2 i t = true) (b : List Bool) (hb : b.length = 32) :
    ∃ b', nameSet b k d d2 i = some b' ∧ b'.length = 32 ∧ ∀ x, x ∈ idsU b' 32 ↔ x ∈ names k d d2 i ∨ x ∈ idsU b 32 := by
  obtain ⟨r1, r2, r3, r4⟩ := op_ranges h
  unfold nameSet
  rw [if_pos (by omega)]
  by_cases k5 : k = 5
  · rw [if_pos k5]
    refine ⟨_, rfl, by simpa using hb, fun x => ?_⟩
    rw [mem_idsU_set b hb i (by omega) (by omega)]
    have : ¬ k = 4 := by omega
    simp [names, k5]
  · rw [if_neg k5, if_pos (by omega)]
    by_cases k4 : k = 4
    · have := r3 k4
      rw [if_pos k4, if_pos (by omega)]
      refine ⟨_, rfl, by simpa using hb, fun x => ?_⟩
      rw [mem_idsU_set _ (by simpa using hb) d2 (by omega) (by omega), mem_idsU_set _ (by simpa using hb) d (by omega) (by omega), mem_idsU_set b hb i (by omega) (by omega)]
      simp only [names, if_neg k5, if_pos k4, List.mem_cons, List.cons_append, List.nil_append, List.not_mem_nil, or_false]
      grind
    · rw [if_neg k4]
      refine ⟨_, rfl, by simpa using hb, fun x => ?_⟩
      rw [mem_idsU_set _ (by simpa using hb) d (by omega) (by omega), mem_idsU_set b hb i (by omega) (by omega)]
      simp only [names, if_neg k5, if_neg k4, List.mem_cons, List.append_nil, List.not_mem_nil, or_false]
      grind
/-- What an operation names, ascending. -/
def idsOp (k d : Int) (n : ByteArray) (d2 : Int) (n2 : ByteArray) (i : Int) (t : ByteArray) : List Int :=
  if opB k d n d2 n2 i t = true then (if k = 5 then [i] else if k = 4 then insL d2 (insL d [i]) else insL d [i]) else []
theorem mem_idsOp {k d d2 i : Int} {n n2 t : ByteArray} (h : opB k d n d2 n2 i t = true) (x : Int) : x ∈ idsOp k d n d2 n2 i t ↔ x ∈ names k d d2 i := by
  unfold idsOp names
  rw [if_pos h]
  by_cases k5 : k = 5
  · simp [k5]
  · by_cases k4 : k = 4
    · rw [if_neg k5, if_pos k4, mem_insL, mem_insL, if_neg k5, if_pos k4]
      simp
      grind
    · rw [if_neg k5, if_neg k4, mem_insL, if_neg k5, if_neg k4]
      simp
      grind
theorem asc_idsOp (k d : Int) (n : ByteArray) (d2 : Int) (n2 : ByteArray) (i : Int) (t : ByteArray) : (idsOp k d n d2 n2 i t).Pairwise (· < ·) := by
  unfold idsOp
  split
  · split
    · simp
    · split
      · exact asc_insL _ _ (asc_insL _ _ (by simp))
      · exact asc_insL _ _ (by simp)
  · exact List.Pairwise.nil
theorem idsOp_length (k d : Int) (n : ByteArray) (d2 : Int) (n2 : ByteArray) (i : Int) (t : ByteArray) : (idsOp k d n d2 n2 i t).length ≤ 3 := by
  unfold idsOp
  split
  · split
    · simp
    · split
      · have h1 := insL_length d [i]
        have h2 := insL_length d2 (insL d [i])
        simp at h1
        omega
      · have h1 := insL_length d [i]
        simp at h1
        omega
  · simp
theorem idsU_zero : idsU (List.replicate 32 false) 32 = [] := by decide
section
variable {k d d2 i : Int} {n n2 t : ByteArray}
theorem nameF_ok (hn : n.size ≤ 4611686018427387903) (hn2 : n2.size ≤ 4611686018427387903) (ht : t.size ≤ 4611686018427387903) (b : List Bool) (hb : b.length = 32) :
    ∃ b', Ev (fun j => nameF j k d n d2 n2 i t b) b' ∧ b'.length = 32 ∧ ∀ x, x ∈ idsU b' 32 ↔ x ∈ idsOp k d n d2 n2 i t ∨ x ∈ idsU b 32 := by
  cases ho : opB k d n d2 n2 i t with
  | true =>
    obtain ⟨b', h1, h2, h3⟩ := nameSet_ok ho b hb
    refine ⟨b', ?_, h2, fun x => by rw [h3, mem_idsOp ho]⟩
    unfold nameF
    exact Ev.bind (impl_ok hn hn2 ht) (by rw [ho]; exact Ev.pos rfl (Ev.const _ h1))
  | false =>
    refine ⟨b, ?_, hb, fun x => by simp [idsOp, ho]⟩
    unfold nameF
    exact Ev.bind (impl_ok hn hn2 ht) (by rw [ho]; exact Ev.neg (by decide) (Ev.now _))
theorem impl_ids (hn : n.size ≤ 4611686018427387903) (hn2 : n2.size ≤ 4611686018427387903) (ht : t.size ≤ 4611686018427387903) : Ev (fun j => impl_OpIds.f j k d n d2 n2 i t) (idsOp k d n d2 n2 i t) := by
  obtain ⟨b', h1, h2, h3⟩ := nameF_ok (k := k) (d := d) (d2 := d2) (i := i) hn hn2 ht (List.replicate 32 false) (by simp)
  unfold impl_OpIds.f
  refine Ev.bind h1 (Ev.cast (Ev.now _) ?_)
  refine asc_ext _ _ (asc_idsU _ _) (asc_idsOp _ _ _ _ _ _ _) (fun x => ?_)
  rw [h3, idsU_zero]
  simp
end
theorem l2Put (l : List Int) (q : Int) (hl : l.length ≤ 1000) : Ev (fun k => spec_l2Put.f k l q) (insL q l) := by
  unfold spec_l2Put.f
  have key : ∀ dd j : Nat, l.length - j = dd → j ≤ l.length → Ev (fun k => spec_l2Put.l0 k l q (j : Int)) (l.take j ++ insL q (l.drop j)) := by
    intro dd
    induction dd with
    | zero =>
      intro j hd hj
      have : j = l.length := by omega
      subst this
      refine Ev.step (f := fun _ => some (l.take l.length ++ insL q (l.drop l.length))) (fun k => ?_) (Ev.now _)
      rw [spec_l2Put.l0, if_neg (by omega), List.drop_length, List.take_length]
      simp only [Option.bind_some, Int.toNat_natCast, List.drop_length, List.take_length, List.append_nil, insL]
      rw [if_pos (by omega), if_pos (by omega), if_pos (by simp), if_pos (by omega), if_pos (by simp; omega)]
    | succ dd ih =>
      intro j hd hj
      have hlt : j < l.length := by omega
      have hr := rd_get hlt
      have hdr : l.drop j = l[j] :: l.drop (j + 1) := List.drop_eq_getElem_cons hlt
      by_cases c1 : l[j] < q
      · have h := ih (j + 1) (by omega) (by omega)
        refine Ev.cast (Ev.step (fun k => ?_) h) ?_
        · rw [spec_l2Put.l0, if_pos (by omega), if_pos (by omega), hr, if_pos c1, w64s (b := l.length) (by omega) (by omega) (by omega)]
          rfl
        · rw [hdr, insL, if_pos c1, List.take_succ_eq_append_getElem hlt]
          simp only [List.append_assoc, List.singleton_append]
      · by_cases c2 : l[j] = q
        · refine Ev.step (f := fun _ => some (l.take j ++ insL q (l.drop j))) (fun k => ?_) (Ev.now _)
          rw [spec_l2Put.l0, if_pos (by omega), if_pos (by omega), hr, if_neg c1, if_pos c2, hdr, insL, if_neg c1, if_pos c2, ← hdr, List.take_append_drop]
        · refine Ev.step (f := fun _ => some (l.take j ++ insL q (l.drop j))) (fun k => ?_) (Ev.now _)
          rw [spec_l2Put.l0, if_pos (by omega), if_pos (by omega), hr, if_neg c1, if_neg c2]
          simp only [Option.bind_some, Int.toNat_natCast, List.nil_append, List.length_nil, List.length_append, List.length_take, List.length_drop, List.length_cons]
          rw [if_pos (by omega), if_pos (by omega), if_pos (by omega), if_pos (by omega), hdr, insL, if_neg c1, if_neg c2, ← hdr]
          simp
  exact key l.length 0 rfl (Nat.zero_le _)
section
variable {k d d2 i : Int} {n n2 t : ByteArray}
theorem spec_ids (hn : n.size ≤ 4611686018427387903) (hn2 : n2.size ≤ 4611686018427387903) (ht : t.size ≤ 4611686018427387903) : Ev (fun j => spec_OpIds.f j k d n d2 n2 i t) (idsOp k d n d2 n2 i t) := by
  unfold spec_OpIds.f
  refine Ev.bind (spec_ok hn hn2 ht) ?_
  cases ho : opB k d n d2 n2 i t with
  | false =>
    refine Ev.neg (by decide) (Ev.cast (Ev.now _) ?_)
    simp [idsOp, ho]
  | true =>
    refine Ev.pos rfl (Ev.sbind ?_)
    unfold idsOp
    rw [if_pos ho]
    by_cases k5 : k = 5
    · rw [if_pos k5]
      exact Ev.pos k5 (Ev.neg (by omega) (Ev.now _))
    · rw [if_neg k5]
      have h1 := insL_length d [i]
      simp at h1
      refine Ev.neg k5 (Ev.bind (l2Put [i] d (by simp)) ?_)
      by_cases k4 : k = 4
      · rw [if_pos k4]
        exact Ev.pos k4 (Ev.bind (l2Put _ d2 (by omega)) (Ev.now _))
      · rw [if_neg k4]
        exact Ev.neg k4 (Ev.now _)
end
end Go.Proofs.Ythmmleheahkeeaa.Ids
namespace Go.Proofs.Ythmmleheahkeeaa.Pure
open Go.RowKit Go.Proofs.YthmmleheahkeeaaW.PrintWords Go.Proofs.Ythmmleheahkeeaa.Base Go.Proofs.Ythmmleheahkeeaa.Q Go.Proofs.Ythmmleheahkeeaa.Ops Go.Proofs.Ythmmleheahkeeaa.OpOk Go.Proofs.Ythmmleheahkeeaa.Ids
theorem FnExactOpIds (a0_0 : Int) (a0_1 : Int) (a0_2 : ByteArray) (a0_3 : Int) (a0_4 : ByteArray) (a0_5 : Int) (a0_6 : ByteArray) (hg0 : (Lit.int .i64 a0_0).wf = true ∧ (Lit.int .i64 a0_1).wf = true ∧ a0_2.size ≤ 9223372036854775807 ∧ (Lit.int .i64 a0_3).wf = true ∧ a0_4.size ≤ 9223372036854775807 ∧ (Lit.int .i64 a0_5).wf = true ∧ a0_6.size ≤ 9223372036854775807) :
    ∃ k, laws_FnExactOpIds.f k a0_0 a0_1 a0_2 a0_3 a0_4 a0_5 a0_6 = some true := by
  refine Ev.rounds (?_ : Ev (fun k => laws_FnExactOpIds.f k a0_0 a0_1 a0_2 a0_3 a0_4 a0_5 a0_6) true)
  unfold laws_FnExactOpIds.f
  obtain ⟨_, _, z2, _, z4, _, z6⟩ := hg0
  obtain ⟨r, hr, hp⟩ := szOp a0_0 a0_1 a0_3 a0_5 a0_2 a0_4 a0_6 1048576 (by omega) (by omega) z2 z4 z6
  rw [hr]
  refine Ev.sbind (Ev.ite (fun _ => Ev.now _) (fun c => ?_))
  obtain ⟨_, _, y2, y4, y6⟩ := hp.resolve_left (by omega)
  unfold laws_toOp.f
  simp only [Option.bind_some]
  have hl := idsOp_length a0_0 a0_1 a0_2 a0_3 a0_4 a0_5 a0_6
  have hi := impl_ids (k := a0_0) (d := a0_1) (d2 := a0_3) (i := a0_5) (n := a0_2) (n2 := a0_4) (t := a0_6) (by omega) (by omega) (by omega)
  have hh := heldIntS (idsOp a0_0 a0_1 a0_2 a0_3 a0_4 a0_5 a0_6).length (by omega)
  refine Ev.bind (spec_ids (by omega) (by omega) (by omega)) (Ev.bind hi (Ev.bind (eqIntS _ _ (by omega)) (Ev.pos (tr_t rfl) ?_)))
  refine Ev.bind (markIntS _ (by omega)) (Ev.bind hh (Ev.neg (by omega) (Ev.pos rfl ?_)))
  exact Ev.bind hi (Ev.bind (eqIntS _ _ (by omega)) (Ev.pos (tr_t rfl) (Ev.bind hh (Ev.neg (by omega) (Ev.pos rfl (Ev.now _))))))
end Go.Proofs.Ythmmleheahkeeaa.Pure
