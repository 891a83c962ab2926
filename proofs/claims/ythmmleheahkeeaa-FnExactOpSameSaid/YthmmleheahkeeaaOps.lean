/- What the conversions, sizes and comparisons of operations come to. -/
import Derived.Test.YthmmleheahkeeaaWordLaw
import Derived.Test.YthmmleheahkeeaaQ12
namespace Go.Proofs.Ythmmleheahkeeaa.Ops
open Go.RowKit Go.Proofs.YthmmleheahkeeaaW.PrintWords Go.Proofs.Ythmmleheahkeeaa.Base Go.Proofs.Ythmmleheahkeeaa.Q Go.Proofs.Ythmmleheahkeeaa.WordLaw

def smallOp (x : S28) : Prop := x.f2.size ≤ 1048576 ∧ x.f4.size ≤ 1048576 ∧ x.f6.size ≤ 1048576
def cvOp (x : S28) : S31 := ⟨x.f0, x.f1, x.f2, x.f3, x.f4, x.f5, x.f6⟩
theorem size_step {a : Int} {s : Nat} (h0 : 0 ≤ a) (h1 : a ≤ 1048576) (hs : s ≤ 9223372036854775807) : wrap64 (a - (s : Int)) = a - s := w64 (by omega) (by omega)
theorem szOp (a0 a1 a3 a5 : Int) (s2 s4 s6 : ByteArray) (a : Int) (h0 : 0 ≤ a) (h1 : a ≤ 1048576) (z2 : s2.size ≤ 9223372036854775807) (z4 : s4.size ≤ 9223372036854775807) (z6 : s6.size ≤ 9223372036854775807) :
    ∃ r, laws_szOp.f a0 a1 s2 a3 s4 a5 s6 a = some r ∧ (r = -1 ∨ (0 ≤ r ∧ r ≤ a ∧ s2.size ≤ 1048576 ∧ s4.size ≤ 1048576 ∧ s6.size ≤ 1048576)) := by
  unfold laws_szOp.f
  rw [size_step h0 h1 z2]
  by_cases c2 : a - (s2.size : Int) < 0
  · rw [if_pos c2]; exact ⟨-1, rfl, .inl rfl⟩
  · rw [if_neg c2, size_step (a := a - (s2.size : Int)) (by omega) (by omega) z4]
    by_cases c4 : a - (s2.size : Int) - (s4.size : Int) < 0
    · rw [if_pos c4]; exact ⟨-1, rfl, .inl rfl⟩
    · rw [if_neg c4, size_step (a := a - (s2.size : Int) - (s4.size : Int)) (by omega) (by omega) z6]
      by_cases c6 : a - (s2.size : Int) - (s4.size : Int) - (s6.size : Int) < 0
      · rw [if_pos c6]; exact ⟨-1, rfl, .inl rfl⟩
      · rw [if_neg c6]
        exact ⟨_, rfl, .inr ⟨by omega, by omega, by omega, by omega, by omega⟩⟩
theorem szOpS (l : List S28) (hl : l.length ≤ 9223372036854775807) (hs : ∀ y ∈ l, y.f2.size ≤ 9223372036854775807 ∧ y.f4.size ≤ 9223372036854775807 ∧ y.f6.size ≤ 9223372036854775807) (a : Int) (h0 : 0 ≤ a) (h1 : a ≤ 1048576) :
    ∃ r, Ev (fun k => laws_szOpS.f k l a) r ∧ (0 ≤ r → r ≤ a ∧ l.length ≤ 1048576 ∧ ∀ x ∈ l, smallOp x) := by
  unfold laws_szOpS.f
  rw [size_step h0 h1 hl]
  by_cases c : a - (l.length : Int) < 0
  · exact ⟨-1, Ev.pos c (Ev.now _), fun h => absurd h (by omega)⟩
  · obtain ⟨r, hr, hp⟩ := sizeLoop (fun k a i => laws_szOpS.l0 k l a i) l.length (fun j => ∀ x, l[j]? = some x → smallOp x)
      (fun a => Ev.step (fun k => by rw [laws_szOpS.l0, if_neg (by omega)]) (Ev.now _))
      (fun i a hi h0 h1 => by
        have hx : l[i] ∈ l := List.getElem_mem hi
        have e : rd_T28 l (i : Int) = l[i] := by simp [rd_T28, List.getD_eq_getElem?_getD, List.getElem?_eq_getElem hi]
        obtain ⟨z2, z4, z6⟩ := hs _ hx
        obtain ⟨r, hr, hp⟩ := szOp l[i].f0 l[i].f1 l[i].f3 l[i].f5 l[i].f2 l[i].f4 l[i].f6 a h0 h1 z2 z4 z6
        have hstep : ∀ k, laws_szOpS.l0 (k + 1) l a (i : Int) = if r < 0 then some (-1) else laws_szOpS.l0 k l r ((i : Int) + 1) := by
          intro k
          rw [laws_szOpS.l0, if_pos (by omega), if_pos (by omega), e, hr, w64s (b := 4611686018427387904) (by omega) (by omega) (by omega)]
          rfl
        rcases hp with rfl | ⟨p0, p1, p2⟩
        · left
          exact Ev.step (f := fun _ => some (-1)) (fun k => by rw [hstep, if_pos (by decide)]) (Ev.now _)
        · right
          refine ⟨r, p0, p1, ?_, fun q hq => Ev.step (fun k => by rw [hstep, if_neg (by omega)]) hq⟩
          intro x hx'
          rw [List.getElem?_eq_getElem hi] at hx'
          injection hx' with hx'
          rw [← hx']
          exact p2)
      l.length 0 rfl (Nat.zero_le _) (a - (l.length : Int)) (by omega) (by omega)
    refine ⟨r, Ev.neg c hr, fun h => ⟨by have := (hp h).1; omega, by omega, fun x hx => ?_⟩⟩
    obtain ⟨j, hj, rfl⟩ := List.mem_iff_getElem.1 hx
    exact (hp h).2 j (Nat.zero_le _) hj _ (List.getElem?_eq_getElem hj)
theorem toOpS (l : List S28) (hl : l.length ≤ 1048576) : Ev (fun k => laws_toOpS.f k l) (l.map cvOp) := by
  unfold laws_toOpS.f
  refine Ev.pos (by omega) (Ev.pos (by omega) ?_)
  refine Ev.cast (fill0 (fun k out i => laws_toOpS.l0 k l out i) l.length (fun j => cvOp (l.getD j z28)) _ (by simp) ?_ ?_) (map_range_get l _ _)
  · intro out _
    exact Ev.step (fun k => by rw [laws_toOpS.l0, if_neg (by omega)]) (Ev.now _)
  · intro i out hi ho r hr
    refine Ev.step (fun k => ?_) hr
    rw [laws_toOpS.l0, if_pos (by omega), if_pos (by omega), w64s (b := l.length) (by omega) (by omega) (by omega)]
    unfold laws_toOp.f
    simp only [Option.bind_some]
    rw [if_pos (by omega)]
    rfl
theorem op_ext (x y : S31) : (x.f0 = y.f0 ∧ x.f1 = y.f1 ∧ x.f2.toList = y.f2.toList ∧ x.f3 = y.f3 ∧ x.f4.toList = y.f4.toList ∧ x.f5 = y.f5 ∧ x.f6.toList = y.f6.toList) ↔ x = y := by
  simp only [bytes_inj]
  constructor
  · rintro ⟨h0, h1, h2, h3, h4, h5, h6⟩
    cases x; cases y
    simp_all
  · rintro rfl
    simp
theorem op_ne (x y : S31) : (!(x.f0 == y.f0) || (!(x.f1 == y.f1) || (!(x.f2.toList == y.f2.toList) || (!(x.f3 == y.f3) || (!(x.f4.toList == y.f4.toList) || (!(x.f5 == y.f5) || !(x.f6.toList == y.f6.toList))))))) = true ↔ x ≠ y := by
  rw [Ne, ← op_ext]
  simp only [Bool.or_eq_true, Bool.not_eq_true', beq_eq_false_iff_ne, ne_eq]
  grind
theorem impl_ops (a b : List S31) (hl : a.length ≤ 4611686018427387903) : Ev (fun k => impl_Op.f k a b) (tr (a = b)) := by
  unfold impl_Op.f
  by_cases c : (a.length : Int) = (b.length : Int)
  · refine Ev.pos c (eqLoop (fun k i => impl_Op.l0 k a b (a.length : Int) i) a b z31 (by omega) ?_ ?_ ?_)
    · exact Ev.step (fun k => by rw [impl_Op.l0, if_neg (by omega)]) (Ev.now _)
    · intro i hi he r hr
      refine Ev.step (fun k => ?_) hr
      rw [impl_Op.l0, if_pos (by omega), if_pos (by omega), if_pos (by omega), if_pos (by omega), if_neg (fun h => (op_ne _ _).1 h (by simpa [rd_T31] using he)), w64s (b := a.length) (by omega) (by omega) (by omega)]
    · intro i hi he
      refine Ev.step (f := fun _ => some false) (fun k => ?_) (Ev.now _)
      rw [impl_Op.l0, if_pos (by omega), if_pos (by omega), if_pos (by omega), if_pos (by omega), if_pos ((op_ne _ _).2 (by simpa [rd_T31] using he))]
  · refine Ev.neg c (Ev.cast (Ev.now false) ?_)
    symm
    apply tr_f
    rintro rfl
    exact c rfl
theorem impl_same (a b : List S31) (hl : a.length ≤ 4611686018427387903) : Ev (fun k => impl_OpSame.f k a b) (tr (a = b)) := by
  unfold impl_OpSame.f
  exact Ev.bind (impl_ops a b hl) (Ev.now _)
theorem spec_same (a b : List S31) (hl : a.length ≤ 4611686018427387903) : Ev (fun k => spec_OpSame.f k a b) (tr (a = b)) := by
  unfold spec_OpSame.f
  by_cases c : (a.length : Int) = (b.length : Int)
  · refine Ev.pos c (eqLoop (fun k i => spec_OpSame.l0 k a b i) a b z31 (by omega) ?_ ?_ ?_)
    · exact Ev.step (fun k => by rw [spec_OpSame.l0, if_neg (by omega)]) (Ev.now _)
    · intro i hi he r hr
      refine Ev.step (fun k => ?_) hr
      rw [spec_OpSame.l0, if_pos (by omega), if_pos (by omega), if_pos (by omega), if_neg (fun h => (op_ne _ _).1 h (by simpa [rd_T31] using he)), w64s (b := a.length) (by omega) (by omega) (by omega)]
    · intro i hi he
      refine Ev.step (f := fun _ => some false) (fun k => ?_) (Ev.now _)
      rw [spec_OpSame.l0, if_pos (by omega), if_pos (by omega), if_pos (by omega), if_pos ((op_ne _ _).2 (by simpa [rd_T31] using he))]
  · refine Ev.neg c (Ev.cast (Ev.now false) ?_)
    symm
    apply tr_f
    rintro rfl
    exact c rfl
theorem eqOp_is (x y : S31) : laws_eqOp.f x.f0 x.f1 x.f2 x.f3 x.f4 x.f5 x.f6 y.f0 y.f1 y.f2 y.f3 y.f4 y.f5 y.f6 = some (tr (x = y)) := by
  have h := op_ext x y
  unfold laws_eqOp.f
  repeat' split
  all_goals (congr 1; symm)
  all_goals first | (rw [tr_iff, ← h]; grind) | (apply tr_f; rw [← h]; grind)
theorem eqOpS (a b : List S31) (hl : a.length ≤ 4611686018427387903) : Ev (fun k => laws_eqOpS.f k a b) (tr (a = b)) := by
  unfold laws_eqOpS.f
  by_cases c : (a.length : Int) = (b.length : Int)
  · refine Ev.pos c (eqLoop (fun k i => laws_eqOpS.l0 k a b i) a b z31 (by omega) ?_ ?_ ?_)
    · exact Ev.step (fun k => by rw [laws_eqOpS.l0, if_neg (by omega)]) (Ev.now _)
    · intro i hi he r hr
      refine Ev.step (fun k => ?_) hr
      have he' : rd_T31 a i = rd_T31 b i := by simpa [rd_T31] using he
      rw [laws_eqOpS.l0, if_pos (by omega), if_pos (by omega), if_pos (by omega), eqOp_is, Option.bind_some, if_pos (tr_t he'), w64s (b := a.length) (by omega) (by omega) (by omega)]
    · intro i hi he
      refine Ev.step (f := fun _ => some false) (fun k => ?_) (Ev.now _)
      have he' : rd_T31 a i ≠ rd_T31 b i := by simpa [rd_T31] using he
      rw [laws_eqOpS.l0, if_pos (by omega), if_pos (by omega), if_pos (by omega), eqOp_is, Option.bind_some, if_neg (fun h => he' (tr_iff.1 h))]
  · refine Ev.neg c (Ev.cast (Ev.now false) ?_)
    symm
    apply tr_f
    rintro rfl
    exact c rfl
end Go.Proofs.Ythmmleheahkeeaa.Ops
