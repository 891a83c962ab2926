/- What OpOk, the program's and the reference's, come to. -/
import Derived.Test.YthmmleheahkeeaaWordLaw
import Derived.Test.YthmmleheahkeeaaQ10
namespace Go.Proofs.Ythmmleheahkeeaa.OpOk
open Go.RowKit Go.Proofs.YthmmleheahkeeaaW.PrintWords Go.Proofs.Ythmmleheahkeeaa.Base Go.Proofs.Ythmmleheahkeeaa.Q Go.Proofs.Ythmmleheahkeeaa.WordLaw

def inB (a lo hi : Int) : Bool := decide (lo ≤ a) && decide (a ≤ hi)
def noB (s : ByteArray) : Bool := s.toList == ([] : List UInt8)
/-- Is this operation, by its fields, a valid one? -/
def opB (kind dir : Int) (name : ByteArray) (dir2 : Int) (name2 : ByteArray) (id : Int) (text : ByteArray) : Bool :=
  inB id 1 31 &&
    (if kind = 1 ∨ kind = 2 ∨ kind = 3 then inB dir 0 31 && wordB name && (decide (dir2 = 0) && noB name2) && noB text
    else if kind = 4 then inB dir 0 31 && wordB name && (inB dir2 0 31 && wordB name2) && noB text
    else if kind = 5 then decide (dir = 0) && noB name && (decide (dir2 = 0) && noB name2) && bodyB text
    else false)
theorem l1Id (a : Int) : spec_l1Id.f a = some (inB a 0 31) := by
  unfold spec_l1Id.f inB
  have e : decide (a < 32) = decide (a ≤ 31) := by rw [Bool.eq_iff_iff]; simp; omega
  split
  · rename_i h
    have : 0 ≤ a := h
    simp [this, e]
  · rename_i h
    have : ¬ 0 ≤ a := h
    simp [this]
section
variable {k d d2 i : Int} {n n2 t : ByteArray}
theorem spec4 (x3 x4 x5 x6 x41 : Bool) (ht : t.size ≤ 4611686018427387903) : Ev (fun j => spec_OpOk.j4 j x3 x4 x5 x6 k x41 k d n d2 n2 i t)
    (if x41 = true then x3 && x4 && x6 && noB t else if k = 4 then x3 && x4 && x5 && noB t else if k = 5 then x3 && (decide (d = 0) && noB n) && x6 && bodyB t else false) := by
  refine Ev.step (fun j => by rw [spec_OpOk.j4]) ?_
  refine Ev.iteR ?_ (Ev.iteR ?_ (Ev.iteR ?_ (Ev.now _)))
  · cases x3 <;> cases x4 <;> cases x6 <;> exact Ev.now _
  · cases x3 <;> cases x4 <;> cases x5 <;> exact Ev.now _
  · refine Ev.cast (Ev.iteR (Ev.iteR (Ev.iteR (Ev.iteR (Ev.bind (spec_body t ht) (Ev.now _)) (Ev.now _)) (Ev.now _)) (Ev.now _)) (Ev.now _)) ?_
    cases x3 <;> cases x6 <;> simp [noB]
    all_goals by_cases h : d = 0 <;> by_cases h2 : n.toList = [] <;> simp [h, h2]
theorem spec3 (x3 x4 x5 x6 : Bool) (ht : t.size ≤ 4611686018427387903) : Ev (fun j => spec_OpOk.j3 j x3 x4 x5 x6 k d n d2 n2 i t)
    (if k = 1 ∨ k = 2 ∨ k = 3 then x3 && x4 && x6 && noB t else if k = 4 then x3 && x4 && x5 && noB t else if k = 5 then x3 && (decide (d = 0) && noB n) && x6 && bodyB t else false) := by
  refine Ev.step (fun j => by rw [spec_OpOk.j3]) ?_
  refine Ev.cast (Ev.iteR (spec4 x3 x4 x5 x6 _ ht) (Ev.iteR (spec4 x3 x4 x5 x6 _ ht) (spec4 x3 x4 x5 x6 _ ht))) ?_
  by_cases h1 : k = 1
  · subst h1; simp
  · by_cases h2 : k = 2
    · subst h2; simp
    · by_cases h3 : k = 3
      · subst h3; simp
      · simp [h1, h2, h3]
theorem spec2 (x3 x4 x5 : Bool) (ht : t.size ≤ 4611686018427387903) : Ev (fun j => spec_OpOk.j2 j x3 x4 x5 k d n d2 n2 i t)
    (if k = 1 ∨ k = 2 ∨ k = 3 then x3 && x4 && (decide (d2 = 0) && noB n2) && noB t else if k = 4 then x3 && x4 && x5 && noB t else if k = 5 then x3 && (decide (d = 0) && noB n) && (decide (d2 = 0) && noB n2) && bodyB t else false) := by
  refine Ev.step (fun j => by rw [spec_OpOk.j2]) ?_
  refine Ev.cast (Ev.iteR (spec3 x3 x4 x5 _ ht) (spec3 x3 x4 x5 _ ht)) ?_
  by_cases h : d2 = 0 <;> simp [h, noB]
theorem spec_ok (hn : n.size ≤ 4611686018427387903) (hn2 : n2.size ≤ 4611686018427387903) (ht : t.size ≤ 4611686018427387903) : Ev (fun j => spec_OpOk.f j k d n d2 n2 i t) (opB k d n d2 n2 i t) := by
  unfold spec_OpOk.f
  have main : ∀ x3, Ev (fun j => spec_OpOk.j0 j x3 k d n d2 n2 i t) (if k = 1 ∨ k = 2 ∨ k = 3 then x3 && (inB d 0 31 && wordB n) && (decide (d2 = 0) && noB n2) && noB t else if k = 4 then x3 && (inB d 0 31 && wordB n) && (inB d2 0 31 && wordB n2) && noB t else if k = 5 then x3 && (decide (d = 0) && noB n) && (decide (d2 = 0) && noB n2) && bodyB t else false) := by
    intro x3
    have s1 : ∀ x4, Ev (fun j => spec_OpOk.j1 j x3 x4 k d n d2 n2 i t) (if k = 1 ∨ k = 2 ∨ k = 3 then x3 && x4 && (decide (d2 = 0) && noB n2) && noB t else if k = 4 then x3 && x4 && (inB d2 0 31 && wordB n2) && noB t else if k = 5 then x3 && (decide (d = 0) && noB n) && (decide (d2 = 0) && noB n2) && bodyB t else false) := by
      intro x4
      refine Ev.step (fun j => by rw [spec_OpOk.j1, l1Id, Option.bind_some]) ?_
      refine Ev.cast (Ev.iteR (Ev.bind (spec_word n2 hn2) (spec2 x3 x4 _ ht)) (spec2 x3 x4 _ ht)) ?_
      cases inB d2 0 31 <;> simp
    refine Ev.step (fun j => by rw [spec_OpOk.j0, l1Id, Option.bind_some]) ?_
    refine Ev.cast (Ev.iteR (Ev.bind (spec_word n hn) (s1 _)) (s1 _)) ?_
    cases inB d 0 31 <;> simp
  refine Ev.cast (r := if i ≥ 1 then _ else _) (Ev.iteR (Ev.of_eq (f := fun j => spec_OpOk.j0 j (inB i 0 31) k d n d2 n2 i t) (main _) (fun j => by rw [l1Id, Option.bind_some])) (main false)) ?_
  unfold opB
  have e : inB i 1 31 = (decide (i ≥ 1) && inB i 0 31) := by
    unfold inB
    rw [Bool.eq_iff_iff]
    simp
    omega
  rw [e]
  by_cases h : i ≥ 1
  · rw [if_pos h, decide_eq_true h, Bool.true_and]
    cases inB i 0 31 <;> simp [Bool.and_assoc]
  · rw [if_neg h, decide_eq_false h]
    simp
theorem impl2 (x3 x4 x27 : Bool) (hn2 : n2.size ≤ 4611686018427387903) (ht : t.size ≤ 4611686018427387903) : Ev (fun j => impl_OpOk.j2 j x3 x4 k x27 k d n d2 n2 i t)
    (if x27 = true then x3 && x4 && noB t else if k = 4 then x3 && (inB d2 0 31 && wordB n2) && noB t else if k = 5 then (decide (d = 0) && noB n) && x4 && bodyB t else false) := by
  refine Ev.step (fun j => by rw [impl_OpOk.j2]) ?_
  refine Ev.iteR ?_ (Ev.iteR ?_ (Ev.iteR ?_ (Ev.now _)))
  · cases x3 <;> cases x4 <;> exact Ev.now _
  · refine Ev.cast (Ev.iteR (Ev.of_eq (f := fun j => if inB d2 0 31 = true then (impl_TreeWord.f j n2).bind fun t178 => if t178 = true then some (t.toList == ([] : List UInt8)) else some false else some false) (Ev.iteR (Ev.bind (impl_word n2 hn2) (Ev.iteR (Ev.now _) (Ev.now _))) (Ev.now _)) (fun j => by rw [in_is, Option.bind_some]; rfl)) (Ev.now _)) ?_
    cases x3 <;> cases inB d2 0 31 <;> cases wordB n2 <;> simp [noB]
  · refine Ev.cast (Ev.iteR (Ev.iteR (Ev.iteR (Ev.bind (impl_body t ht) (Ev.now _)) (Ev.now _)) (Ev.now _)) (Ev.now _)) ?_
    by_cases h : d = 0 <;> by_cases h2 : n.toList = [] <;> cases x4 <;> simp [h, h2, noB]
theorem impl1 (x3 x4 : Bool) (hn2 : n2.size ≤ 4611686018427387903) (ht : t.size ≤ 4611686018427387903) : Ev (fun j => impl_OpOk.j1 j x3 x4 k d n d2 n2 i t)
    (if k = 1 ∨ k = 2 ∨ k = 3 then x3 && x4 && noB t else if k = 4 then x3 && (inB d2 0 31 && wordB n2) && noB t else if k = 5 then (decide (d = 0) && noB n) && x4 && bodyB t else false) := by
  refine Ev.step (fun j => by rw [impl_OpOk.j1]) ?_
  refine Ev.cast (Ev.iteR (impl2 x3 x4 _ hn2 ht) (Ev.iteR (impl2 x3 x4 _ hn2 ht) (impl2 x3 x4 _ hn2 ht))) ?_
  by_cases h1 : k = 1
  · subst h1; simp
  · by_cases h2 : k = 2
    · subst h2; simp
    · by_cases h3 : k = 3
      · subst h3; simp
      · simp [h1, h2, h3]
theorem impl_ok (hn : n.size ≤ 4611686018427387903) (hn2 : n2.size ≤ 4611686018427387903) (ht : t.size ≤ 4611686018427387903) : Ev (fun j => impl_OpOk.f j k d n d2 n2 i t) (opB k d n d2 n2 i t) := by
  unfold impl_OpOk.f
  have main : ∀ x3, Ev (fun j => impl_OpOk.j0 j x3 k d n d2 n2 i t) (if k = 1 ∨ k = 2 ∨ k = 3 then x3 && (decide (d2 = 0) && noB n2) && noB t else if k = 4 then x3 && (inB d2 0 31 && wordB n2) && noB t else if k = 5 then (decide (d = 0) && noB n) && (decide (d2 = 0) && noB n2) && bodyB t else false) := by
    intro x3
    refine Ev.step (fun j => by rw [impl_OpOk.j0]) ?_
    refine Ev.cast (Ev.iteR (impl1 x3 _ hn2 ht) (impl1 x3 _ hn2 ht)) ?_
    by_cases h : d2 = 0 <;> simp [h, noB]
  have inner : Ev (fun j => (impl_in.f d 0 31).bind fun t175 => if t175 = true then (impl_TreeWord.f j n).bind fun t176 => impl_OpOk.j0 j t176 k d n d2 n2 i t else impl_OpOk.j0 j false k d n d2 n2 i t) (if k = 1 ∨ k = 2 ∨ k = 3 then (inB d 0 31 && wordB n) && (decide (d2 = 0) && noB n2) && noB t else if k = 4 then (inB d 0 31 && wordB n) && (inB d2 0 31 && wordB n2) && noB t else if k = 5 then (decide (d = 0) && noB n) && (decide (d2 = 0) && noB n2) && bodyB t else false) := by
    refine Ev.of_eq (f := fun j => if inB d 0 31 = true then (impl_TreeWord.f j n).bind fun t176 => impl_OpOk.j0 j t176 k d n d2 n2 i t else impl_OpOk.j0 j false k d n d2 n2 i t) ?_ (fun j => by rw [in_is, Option.bind_some]; rfl)
    refine Ev.cast (Ev.iteR (Ev.bind (impl_word n hn) (main _)) (main _)) ?_
    cases inB d 0 31 <;> simp
  refine Ev.of_eq (f := fun j => if inB i 1 31 = true then (impl_in.f d 0 31).bind fun t175 => if t175 = true then (impl_TreeWord.f j n).bind fun t176 => impl_OpOk.j0 j t176 k d n d2 n2 i t else impl_OpOk.j0 j false k d n d2 n2 i t else some false) ?_ (fun j => by rw [in_is, Option.bind_some]; rfl)
  refine Ev.cast (Ev.iteR inner (Ev.now false)) ?_
  unfold opB
  cases inB i 1 31 <;> simp
end
end Go.Proofs.Ythmmleheahkeeaa.OpOk
