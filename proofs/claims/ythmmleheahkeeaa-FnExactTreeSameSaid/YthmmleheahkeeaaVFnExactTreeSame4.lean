/- Part 4 of what the proof of FnExactTreeSame uses: plain functions with the answers of the Go functions, the proofs that the calls come to them, and plain lemmas. -/
import Derived.Test.YthmmleheahkeeaaVFnExactTreeSame0
import Derived.Test.YthmmleheahkeeaaVFnExactTreeSame1
import Derived.Test.YthmmleheahkeeaaVFnExactTreeSame2
import Derived.Test.YthmmleheahkeeaaVFnExactTreeSame3
namespace Go.Proofs.Ythmmleheahkeeaa.Trees
open Go.RowKit Go.Proofs.YthmmleheahkeeaaW.PrintWords Go.Proofs.Ythmmleheahkeeaa.Base Go.Proofs.Ythmmleheahkeeaa.Q
theorem size_step {a : Int} {s : Nat} (h0 : 0 ≤ a) (h1 : a ≤ 1048576) (hs : s ≤ 9223372036854775807) : wrap64 (a - (s : Int)) = a - s := w64 (by omega) (by omega)
def smallEnt (x : S115) : Prop := x.f0.size ≤ 1048576
def smallObj (x : S104) : Prop := x.f2.size ≤ 1048576 ∧ x.f3.length ≤ 1048576 ∧ ∀ y ∈ x.f3, smallEnt y
def smallTree (l : List S104) : Prop := l.length ≤ 1048576 ∧ ∀ x ∈ l, smallObj x
def wideEnts (l : List S115) : Prop := l.length ≤ 9223372036854775807 ∧ ∀ y ∈ l, (Lit.int .i64 y.f1).wf = true ∧ y.f0.size ≤ 9223372036854775807
def wideObj (x : S104) : Prop := (Lit.int .i64 x.f0).wf = true ∧ (Lit.int .i64 x.f1).wf = true ∧ x.f2.size ≤ 9223372036854775807 ∧ wideEnts x.f3
def wideTree (l : List S104) : Prop := l.length ≤ 9223372036854775807 ∧ ∀ x ∈ l, wideObj x
theorem wide_of {l : List S104} (h : l.length ≤ 9223372036854775807 ∧ ∀ y0 ∈ l, (Lit.int .i64 y0.f0).wf = true ∧ (Lit.int .i64 y0.f1).wf = true ∧ y0.f2.size ≤ 9223372036854775807 ∧ (y0.f3.length ≤ 9223372036854775807 ∧ ∀ y1 ∈ y0.f3, y1.f0.size ≤ 9223372036854775807 ∧ (Lit.int .i64 y1.f1).wf = true)) : wideTree l :=
  ⟨h.1, fun x hx => by
    obtain ⟨a, b, c, d, e⟩ := h.2 x hx
    exact ⟨a, b, c, d, fun y hy => ⟨(e y hy).2, (e y hy).1⟩⟩⟩
def cvEnt (x : S115) : S106 := ⟨x.f0, x.f1⟩
def cvObj (x : S104) : S78 := ⟨x.f0, x.f1, x.f2, x.f3.map cvEnt⟩
theorem szEntS (l : List S115) (hl : wideEnts l) (a : Int) (h0 : 0 ≤ a) (h1 : a ≤ 1048576) :
    ∃ r, Ev (fun k => laws_szEntS.f k l a) r ∧ (r = -1 ∨ (0 ≤ r ∧ r ≤ a ∧ l.length ≤ 1048576 ∧ ∀ x ∈ l, smallEnt x)) := by
  unfold laws_szEntS.f
  rw [size_step h0 h1 hl.1]
  by_cases c : a - (l.length : Int) < 0
  · exact ⟨-1, Ev.pos c (Ev.now _), .inl rfl⟩
  · obtain ⟨r, hr, hp⟩ := sizeLoop (fun k a i => laws_szEntS.l0 k l a i) l.length (fun j => ∀ x, l[j]? = some x → smallEnt x)
      (fun a => Ev.step (fun k => by rw [laws_szEntS.l0, if_neg (by omega)]) (Ev.now _))
      (fun i a hi h0 h1 => by
        have hx : l[i] ∈ l := List.getElem_mem hi
        have e : rd_T115 l (i : Int) = l[i] := by simp [rd_T115, List.getD_eq_getElem?_getD, List.getElem?_eq_getElem hi]
        have z := (hl.2 _ hx).2
        have hstep : ∀ k, laws_szEntS.l0 (k + 1) l a (i : Int) = if a - (l[i].f0.size : Int) < 0 then some (-1) else laws_szEntS.l0 k l (a - (l[i].f0.size : Int)) ((i : Int) + 1) := by
          intro k
          rw [laws_szEntS.l0, if_pos (by omega), if_pos (by omega), e, w64s (b := 4611686018427387904) (by omega) (by omega) (by omega)]
          unfold laws_szEnt.f
          rw [size_step h0 h1 z]
          by_cases c : a - (l[i].f0.size : Int) < 0
          · simp only [if_pos c, Option.bind_some]; rfl
          · simp only [if_neg c, Option.bind_some]
        by_cases c : a - (l[i].f0.size : Int) < 0
        · left
          exact Ev.step (f := fun _ => some (-1)) (fun k => by rw [hstep, if_pos c]) (Ev.now _)
        · right
          refine ⟨a - (l[i].f0.size : Int), by omega, by omega, ?_, fun q hq => Ev.step (fun k => by rw [hstep, if_neg c]) hq⟩
          intro x hx'
          rw [List.getElem?_eq_getElem hi] at hx'
          injection hx' with hx'
          rw [← hx']
          show _ ≤ _
          omega)
      l.length 0 rfl (Nat.zero_le _) (a - (l.length : Int)) (by omega) (by omega)
    by_cases hr0 : 0 ≤ r
    · refine ⟨r, Ev.neg c hr, .inr ⟨hr0, by have := (hp hr0).1; omega, by omega, fun x hx => ?_⟩⟩
      obtain ⟨j, hj, rfl⟩ := List.mem_iff_getElem.1 hx
      exact (hp hr0).2 j (Nat.zero_le _) hj _ (List.getElem?_eq_getElem hj)
    · exact ⟨r, Ev.neg c hr, .inl (by
        obtain ⟨K, hK⟩ := hr
        have : ∀ (k : Nat) (b i : Int) (q : Int), laws_szEntS.l0 k l b i = some q → 0 ≤ b → -1 ≤ q := by
          intro k
          induction k with
          | zero => intro b i q h _; simp [laws_szEntS.l0] at h
          | succ k ih =>
            intro b i q h hb
            rw [laws_szEntS.l0] at h
            split at h
            · split at h
              · obtain ⟨t, _, h⟩ := Option.bind_eq_some_iff.1 h
                split at h
                · injection h with h; omega
                · exact ih _ _ _ h (by omega)
              · cases h
            · injection h with h; omega
        have := this K _ _ r (hK K (Nat.le_refl _)) (by omega)
        omega)⟩
theorem szObj (x : S104) (hx : wideObj x) (a : Int) (h0 : 0 ≤ a) (h1 : a ≤ 1048576) : ∃ r, Ev (fun k => laws_szObj.f k x.f0 x.f1 x.f2 x.f3 a) r ∧ (r = -1 ∨ (0 ≤ r ∧ r ≤ a ∧ smallObj x)) := by
  unfold laws_szObj.f
  rw [size_step h0 h1 hx.2.2.1]
  by_cases c : a - (x.f2.size : Int) < 0
  · exact ⟨-1, Ev.pos c (Ev.now _), .inl rfl⟩
  · obtain ⟨r, hr, hp⟩ := szEntS x.f3 hx.2.2.2 (a - (x.f2.size : Int)) (by omega) (by omega)
    rcases hp with rfl | ⟨p0, p1, p2, p3⟩
    · exact ⟨-1, Ev.neg c (Ev.bind hr (Ev.pos (by decide) (Ev.now _))), .inl rfl⟩
    · exact ⟨r, Ev.neg c (Ev.bind hr (Ev.neg (by omega) (Ev.now _))), .inr ⟨p0, by omega, by omega, p2, p3⟩⟩
theorem szTree (l : List S104) (hl : wideTree l) (a : Int) (h0 : 0 ≤ a) (h1 : a ≤ 1048576) :
    ∃ r, Ev (fun k => laws_szTree.f k l a) r ∧ (0 ≤ r → r ≤ a ∧ smallTree l) := by
  have main : ∃ r, Ev (fun k => laws_szObjS.f k l a) r ∧ (0 ≤ r → r ≤ a ∧ smallTree l) := by
    unfold laws_szObjS.f
    rw [size_step h0 h1 hl.1]
    by_cases c : a - (l.length : Int) < 0
    · exact ⟨-1, Ev.pos c (Ev.now _), fun h => absurd h (by decide)⟩
    · obtain ⟨r, hr, hp⟩ := sizeLoop (fun k a i => laws_szObjS.l0 k l a i) l.length (fun j => ∀ x, l[j]? = some x → smallObj x)
        (fun a => Ev.step (fun k => by rw [laws_szObjS.l0, if_neg (by omega)]) (Ev.now _))
        (fun i a hi h0 h1 => by
          have hx : l[i] ∈ l := List.getElem_mem hi
          have e : rd_T104 l (i : Int) = l[i] := by simp [rd_T104, List.getD_eq_getElem?_getD, List.getElem?_eq_getElem hi]
          obtain ⟨r, hr, hp⟩ := szObj _ (hl.2 _ hx) a h0 h1
          have hstep : ∀ k, laws_szObjS.l0 (k + 1) l a (i : Int) = (laws_szObj.f k l[i].f0 l[i].f1 l[i].f2 l[i].f3 a).bind fun t => if t < 0 then some (-1) else laws_szObjS.l0 k l t ((i : Int) + 1) := by
            intro k
            rw [laws_szObjS.l0, if_pos (by omega), if_pos (by omega), e, w64s (b := 4611686018427387904) (by omega) (by omega) (by omega)]
          rcases hp with rfl | ⟨p0, p1, p2⟩
          · left
            exact Ev.step hstep (Ev.bind hr (Ev.pos (by decide) (Ev.now _)))
          · right
            refine ⟨r, p0, p1, ?_, fun q hq => Ev.step hstep (Ev.bind hr (Ev.neg (by omega) hq))⟩
            intro x hx'
            rw [List.getElem?_eq_getElem hi] at hx'
            injection hx' with hx'
            rw [← hx']
            exact p2)
        l.length 0 rfl (Nat.zero_le _) (a - (l.length : Int)) (by omega) (by omega)
      refine ⟨r, Ev.neg c hr, fun h => ⟨by have := (hp h).1; omega, by omega, fun x hx => ?_⟩⟩
      obtain ⟨j, hj, rfl⟩ := List.mem_iff_getElem.1 hx
      exact (hp h).2 j (Nat.zero_le _) hj _ (List.getElem?_eq_getElem hj)
  obtain ⟨r, hr, hp⟩ := main
  unfold laws_szTree.f
  by_cases h : r < 0
  · exact ⟨-1, Ev.bind hr (Ev.pos h (Ev.now _)), fun h => absurd h (by decide)⟩
  · exact ⟨r, Ev.bind hr (Ev.neg h (Ev.now _)), hp⟩
theorem toEntS (l : List S115) (hl : l.length ≤ 1048576) : Ev (fun k => laws_toEntS.f k l) (l.map cvEnt) := by
  unfold laws_toEntS.f
  refine Ev.pos (by omega) (Ev.pos (by omega) ?_)
  refine Ev.cast (fill0 (fun k out i => laws_toEntS.l0 k l out i) l.length (fun j => cvEnt (l.getD j z115)) _ (by simp) ?_ ?_) (map_range_get l _ _)
  · intro out _
    exact Ev.step (fun k => by rw [laws_toEntS.l0, if_neg (by omega)]) (Ev.now _)
  · intro i out hi ho r hr
    refine Ev.step (fun k => ?_) hr
    rw [laws_toEntS.l0, if_pos (by omega), if_pos (by omega), w64s (b := l.length) (by omega) (by omega) (by omega)]
    unfold laws_toEnt.f
    simp only [Option.bind_some]
    rw [if_pos (by omega)]
    rfl
theorem toTree (l : List S104) (hl : smallTree l) : Ev (fun k => laws_toTree.f k l) (l.map cvObj) := by
  unfold laws_toTree.f
  refine Ev.bind (a := l.map cvObj) ?_ (Ev.now _)
  unfold laws_toObjS.f
  have hl1 := hl.1
  refine Ev.pos (by omega) (Ev.pos (by omega) ?_)
  refine Ev.cast (fill0 (fun k out i => laws_toObjS.l0 k l out i) l.length (fun j => cvObj (l.getD j z104)) _ (by simp) ?_ ?_) (map_range_get l _ _)
  · intro out _
    exact Ev.step (fun k => by rw [laws_toObjS.l0, if_neg (by omega)]) (Ev.now _)
  · intro i out hi ho r hr
    have e : rd_T104 l (i : Int) = l[i] := by simp [rd_T104, List.getD_eq_getElem?_getD, List.getElem?_eq_getElem hi]
    have e2 : l.getD i z104 = l[i] := by simp [List.getD_eq_getElem?_getD, List.getElem?_eq_getElem hi]
    have hs := hl.2 _ (List.getElem_mem hi)
    refine Ev.step (f := fun k => (laws_toObj.f k l[i].f0 l[i].f1 l[i].f2 l[i].f3).bind fun bt => if (i : Int) < (out.length : Int) then laws_toObjS.l0 k l (out.set i ⟨bt.1, bt.2.1, bt.2.2.1, bt.2.2.2⟩) ((i : Int) + 1) else none) (fun k => ?_) ?_
    · rw [laws_toObjS.l0, if_pos (by omega), if_pos (by omega), w64s (b := l.length) (by omega) (by omega) (by omega), e]
      rfl
    · rw [e2] at hr
      have ho' : Ev (fun k => laws_toObj.f k l[i].f0 l[i].f1 l[i].f2 l[i].f3) (l[i].f0, l[i].f1, l[i].f2, l[i].f3.map cvEnt) := by
        unfold laws_toObj.f
        exact Ev.bind (toEntS _ hs.2.1) (Ev.now _)
      exact Ev.bind ho' (Ev.pos (by omega) hr)
theorem ent_ext (x y : S106) : (x.f0.toList = y.f0.toList ∧ x.f1 = y.f1) ↔ x = y := by
  rw [bytes_inj]
  constructor
  · rintro ⟨h0, h1⟩
    cases x; cases y
    simp_all
  · rintro rfl
    simp
theorem ent_ne (x y : S106) : (!(x.f0.toList == y.f0.toList) || (!(x.f1 == y.f1))) = true ↔ x ≠ y := by
  rw [Ne, ← ent_ext]
  simp only [Bool.or_eq_true, Bool.not_eq_true', beq_eq_false_iff_ne, ne_eq]
  grind
theorem eqEnt_is (x y : S106) : laws_eqEnt.f x.f0 x.f1 y.f0 y.f1 = some (tr (x = y)) := by
  have h := ent_ext x y
  unfold laws_eqEnt.f
  repeat' split
  all_goals (congr 1; symm)
  all_goals first | (rw [tr_iff, ← h]; grind) | (apply tr_f; rw [← h]; grind)
theorem neq_false {α : Type} {a b : List α} (c : ¬ (a.length : Int) = (b.length : Int)) : false = tr (a = b) := by
  symm
  apply tr_f
  rintro rfl
  exact c rfl
theorem eqEntS (a b : List S106) (hl : a.length ≤ 4611686018427387903) : Ev (fun k => laws_eqEntS.f k a b) (tr (a = b)) := by
  unfold laws_eqEntS.f
  by_cases c : (a.length : Int) = (b.length : Int)
  · refine Ev.pos c (eqLoop (fun k i => laws_eqEntS.l0 k a b i) a b z106 (by omega) ?_ ?_ ?_)
    · exact Ev.step (fun k => by rw [laws_eqEntS.l0, if_neg (by omega)]) (Ev.now _)
    · intro i hi he r hr
      refine Ev.step (fun k => ?_) hr
      have he' : rd_T106 a i = rd_T106 b i := by simpa [rd_T106] using he
      rw [laws_eqEntS.l0, if_pos (by omega), if_pos (by omega), if_pos (by omega), eqEnt_is, Option.bind_some, if_pos (tr_t he'), w64s (b := a.length) (by omega) (by omega) (by omega)]
    · intro i hi he
      refine Ev.step (f := fun _ => some false) (fun k => ?_) (Ev.now _)
      have he' : rd_T106 a i ≠ rd_T106 b i := by simpa [rd_T106] using he
      rw [laws_eqEntS.l0, if_pos (by omega), if_pos (by omega), if_pos (by omega), eqEnt_is, Option.bind_some, if_neg (fun h => he' (tr_iff.1 h))]
  · exact Ev.neg c (Ev.cast (Ev.now false) (neq_false c))
theorem impl_ents (a b : List S106) (hl : a.length ≤ 4611686018427387903) : Ev (fun k => impl_Ent.f k a b) (tr (a = b)) := by
  unfold impl_Ent.f
  by_cases c : (a.length : Int) = (b.length : Int)
  · refine Ev.pos c (eqLoop (fun k i => impl_Ent.l0 k a b (a.length : Int) i) a b z106 (by omega) ?_ ?_ ?_)
    · exact Ev.step (fun k => by rw [impl_Ent.l0, if_neg (by omega)]) (Ev.now _)
    · intro i hi he r hr
      refine Ev.step (fun k => ?_) hr
      rw [impl_Ent.l0, if_pos (by omega), if_pos (by omega), if_pos (by omega), if_pos (by omega), if_neg (fun h => (ent_ne _ _).1 h (by simpa [rd_T106] using he)), w64s (b := a.length) (by omega) (by omega) (by omega)]
    · intro i hi he
      refine Ev.step (f := fun _ => some false) (fun k => ?_) (Ev.now _)
      rw [impl_Ent.l0, if_pos (by omega), if_pos (by omega), if_pos (by omega), if_pos (by omega), if_pos ((ent_ne _ _).2 (by simpa [rd_T106] using he))]
  · exact Ev.neg c (Ev.cast (Ev.now false) (neq_false c))
theorem spec_kids (a b : List S106) (hl : a.length ≤ 4611686018427387903) : Ev (fun k => spec_l1SameKids.f k a b) (tr (a = b)) := by
  unfold spec_l1SameKids.f
  by_cases c : (a.length : Int) = (b.length : Int)
  · refine Ev.pos c (eqLoop (fun k i => spec_l1SameKids.l0 k a b i) a b z106 (by omega) ?_ ?_ ?_)
    · exact Ev.step (fun k => by rw [spec_l1SameKids.l0, if_neg (by omega)]) (Ev.now _)
    · intro i hi he r hr
      refine Ev.step (fun k => ?_) hr
      rw [spec_l1SameKids.l0, if_pos (by omega), if_pos (by omega), if_pos (by omega), if_neg (fun h => (ent_ne _ _).1 h (by simpa [rd_T106] using he)), w64s (b := a.length) (by omega) (by omega) (by omega)]
    · intro i hi he
      refine Ev.step (f := fun _ => some false) (fun k => ?_) (Ev.now _)
      rw [spec_l1SameKids.l0, if_pos (by omega), if_pos (by omega), if_pos (by omega), if_pos ((ent_ne _ _).2 (by simpa [rd_T106] using he))]
  · exact Ev.neg c (Ev.cast (Ev.now false) (neq_false c))
/-- Lists are short enough for a loop's counter. -/
def wideO (l : List S78) : Prop := l.length ≤ 4611686018427387903 ∧ ∀ x ∈ l, x.f3.length ≤ 4611686018427387903
theorem wideO_map {l : List S104} (h : smallTree l) : wideO (l.map cvObj) := by
  refine ⟨by rw [List.length_map]; have := h.1; omega, fun x hx => ?_⟩
  obtain ⟨y, hy, rfl⟩ := List.mem_map.1 hx
  have := (h.2 y hy).2.1
  show (y.f3.map cvEnt).length ≤ _
  rw [List.length_map]
  omega
theorem rdO {l : List S78} {i : Nat} (hi : i < l.length) : rd_T78 l (i : Int) = l[i] := by simp [rd_T78, List.getD_eq_getElem?_getD, List.getElem?_eq_getElem hi]
theorem eqObj (x y : S78) (hx : x.f3.length ≤ 4611686018427387903) : Ev (fun k => laws_eqObj.f k x.f0 x.f1 x.f2 x.f3 y.f0 y.f1 y.f2 y.f3) (tr (x = y)) := by
  unfold laws_eqObj.f
  refine Ev.cast (Ev.iteR (Ev.iteR (Ev.iteR (Ev.bind (eqEntS x.f3 y.f3 hx) (Ev.iteR (Ev.now true) (Ev.now false))) (Ev.now false)) (Ev.now false)) (Ev.now false)) ?_
  have e : x = y ↔ x.f0 = y.f0 ∧ x.f1 = y.f1 ∧ x.f2.toList = y.f2.toList ∧ x.f3 = y.f3 := by
    rw [bytes_inj]
    constructor
    · rintro rfl; simp
    · rintro ⟨h0, h1, h2, h3⟩
      cases x; cases y
      simp_all
  rw [Bool.eq_iff_iff, @tr_iff (x = y), e]
  have h3 : tr (x.f3 = y.f3) = true ↔ x.f3 = y.f3 := tr_iff
  generalize tr (x.f3 = y.f3) = t at *
  cases t <;> by_cases h0 : x.f0 = y.f0 <;> by_cases h1 : x.f1 = y.f1 <;> by_cases h2 : x.f2.toList = y.f2.toList <;> simp_all
theorem eqTree (a b : List S78) (hl : wideO a) : Ev (fun k => laws_eqTree.f k a b) (tr (a = b)) := by
  have hl1 := hl.1
  unfold laws_eqTree.f
  refine Ev.bind (a := tr (a = b)) ?_ (Ev.cast (Ev.iteR (Ev.now true) (Ev.now false)) (by cases tr (a = b) <;> rfl))
  unfold laws_eqObjS.f
  by_cases c : (a.length : Int) = (b.length : Int)
  · refine Ev.pos c (eqLoop (fun k i => laws_eqObjS.l0 k a b i) a b z78 (by omega) ?_ ?_ ?_)
    · exact Ev.step (fun k => by rw [laws_eqObjS.l0, if_neg (by omega)]) (Ev.now _)
    · intro i hi he r hr
      have he' : rd_T78 a i = rd_T78 b i := by simpa [rd_T78] using he
      have hx := eqObj (rd_T78 a i) (rd_T78 b i) (by rw [rdO hi]; exact hl.2 _ (List.getElem_mem hi))
      refine Ev.step (fun k => by rw [laws_eqObjS.l0, if_pos (by omega), if_pos (by omega), if_pos (by omega), w64s (b := a.length) (by omega) (by omega) (by omega)]) (Ev.bind hx ?_)
      exact Ev.pos (tr_t he') hr
    · intro i hi he
      have he' : rd_T78 a i ≠ rd_T78 b i := by simpa [rd_T78] using he
      have hx := eqObj (rd_T78 a i) (rd_T78 b i) (by rw [rdO hi]; exact hl.2 _ (List.getElem_mem hi))
      refine Ev.step (fun k => by rw [laws_eqObjS.l0, if_pos (by omega), if_pos (by omega), if_pos (by omega)]) (Ev.bind hx ?_)
      exact Ev.neg (fun h => he' (tr_iff.1 h)) (Ev.now _)
  · exact Ev.neg c (Ev.cast (Ev.now false) (neq_false c))
/-- An object but for its version. -/
def bareO (x : S78) : Int × ByteArray × List S106 := (x.f0, x.f2, x.f3)
theorem bare_ext (x y : S78) : bareO x = bareO y ↔ x.f0 = y.f0 ∧ x.f2.toList = y.f2.toList ∧ x.f3 = y.f3 := by
  rw [bytes_inj]
  simp [bareO]
theorem getD_bare (l : List S78) (i : Nat) : (l.map bareO).getD i (bareO z78) = bareO (rd_T78 l (i : Int)) := by
  unfold rd_T78
  rw [Int.toNat_natCast, List.getD_eq_getElem?_getD, List.getD_eq_getElem?_getD, List.getElem?_map]
  cases l[i]? <;> rfl
noncomputable def likeB (a b : List S78) : Bool := tr (a.map bareO = b.map bareO)
theorem like_false {a b : List S78} (c : ¬ (a.length : Int) = (b.length : Int)) : false = likeB a b := by
  symm
  unfold likeB
  apply tr_f
  intro h
  have := congrArg List.length h
  simp at this
  omega
theorem objLike (x y : S78) (hx : x.f3.length ≤ 4611686018427387903) : Ev (fun k => impl_objLike.f k x.f0 x.f1 x.f2 x.f3 y.f0 y.f1 y.f2 y.f3) (tr (bareO x = bareO y)) := by
  unfold impl_objLike.f
  refine Ev.cast (Ev.iteR (Ev.iteR (Ev.bind (impl_ents x.f3 y.f3 hx) (Ev.now _)) (Ev.now false)) (Ev.now false)) ?_
  rw [Bool.eq_iff_iff, @tr_iff (bareO x = bareO y), bare_ext]
  have h3 : tr (x.f3 = y.f3) = true ↔ x.f3 = y.f3 := tr_iff
  generalize tr (x.f3 = y.f3) = t at *
  cases t <;> by_cases h0 : x.f0 = y.f0 <;> by_cases h2 : x.f2.toList = y.f2.toList <;> simp_all
theorem impl_like (a b : List S78) (hl : wideO a) : Ev (fun k => impl_TreeLike.f k a b) (likeB a b) := by
  have hl1 := hl.1
  unfold impl_TreeLike.f
  by_cases c : (a.length : Int) = (b.length : Int)
  · refine Ev.pos c (eqLoop (fun k i => impl_TreeLike.l0 k (a.length : Int) i a b) (a.map bareO) (b.map bareO) (bareO z78) (by simp; omega) ?_ ?_ ?_)
    · exact Ev.step (fun k => by rw [impl_TreeLike.l0, if_neg (by simp)]) (Ev.now _)
    · intro i hi he r hr
      rw [List.length_map] at hi
      rw [getD_bare, getD_bare] at he
      have hx := objLike (rd_T78 a i) (rd_T78 b i) (by rw [rdO hi]; exact hl.2 _ (List.getElem_mem hi))
      refine Ev.step (fun k => by rw [impl_TreeLike.l0, if_pos (by omega), if_pos (by omega), if_pos (by omega), if_pos (by omega), w64s (b := a.length) (by omega) (by omega) (by omega)]) (Ev.bind hx ?_)
      exact Ev.pos (tr_t he) hr
    · intro i hi he
      rw [List.length_map] at hi
      rw [getD_bare, getD_bare] at he
      have hx := objLike (rd_T78 a i) (rd_T78 b i) (by rw [rdO hi]; exact hl.2 _ (List.getElem_mem hi))
      refine Ev.step (fun k => by rw [impl_TreeLike.l0, if_pos (by omega), if_pos (by omega), if_pos (by omega), if_pos (by omega)]) (Ev.bind hx ?_)
      exact Ev.neg (fun h => he (tr_iff.1 h)) (Ev.now _)
  · exact Ev.neg c (Ev.cast (Ev.now false) (like_false c))
theorem spec_like (a b : List S78) (hl : wideO a) : Ev (fun k => spec_TreeLike.f k a b) (likeB a b) := by
  have hl1 := hl.1
  unfold spec_TreeLike.f
  by_cases c : (a.length : Int) = (b.length : Int)
  · have round : ∀ i : Nat, i < a.length → ∀ r, (bareO (rd_T78 a i) = bareO (rd_T78 b i) → Ev (fun k => spec_TreeLike.l0 k ((i : Int) + 1) a b) r) → (bareO (rd_T78 a i) ≠ bareO (rd_T78 b i) → r = false) → Ev (fun k => spec_TreeLike.l0 k (i : Int) a b) r := by
      intro i hi r hr hf
      have hx := spec_kids (rd_T78 a i).f3 (rd_T78 b i).f3 (by rw [rdO hi]; exact hl.2 _ (List.getElem_mem hi))
      rw [Ne, bare_ext] at hf
      rw [bare_ext] at hr
      refine Ev.step (fun k => by rw [spec_TreeLike.l0, if_pos (by omega), if_pos (by omega), if_pos (by omega), w64s (b := a.length) (by omega) (by omega) (by omega)]) ?_
      refine Ev.ite (fun h0 => Ev.ite (fun h2 => Ev.bind hx (Ev.ite (fun h3 => hr ⟨h0, h2, tr_iff.1 h3⟩) (fun h3 => ?_))) (fun h2 => ?_)) (fun h0 => ?_)
      · rw [hf (fun h => h3 (tr_t h.2.2))]; exact Ev.now _
      · rw [hf (fun h => h2 h.2.1)]; exact Ev.now _
      · rw [hf (fun h => h0 h.1)]; exact Ev.now _
    refine Ev.pos c (eqLoop (fun k i => spec_TreeLike.l0 k i a b) (a.map bareO) (b.map bareO) (bareO z78) (by simp; omega) ?_ ?_ ?_)
    · exact Ev.step (fun k => by rw [spec_TreeLike.l0, if_neg (by simp)]) (Ev.now _)
    · intro i hi he r hr
      rw [List.length_map] at hi
      rw [getD_bare, getD_bare] at he
      exact round i hi r (fun _ => hr) (fun h => absurd he h)
    · intro i hi he
      rw [List.length_map] at hi
      rw [getD_bare, getD_bare] at he
      exact round i hi false (fun h => absurd h he) (fun _ => rfl)
  · exact Ev.neg c (Ev.cast (Ev.now false) (like_false c))
theorem getD_ver (l : List S78) (i : Nat) : (l.map (·.f1)).getD i z78.f1 = (rd_T78 l (i : Int)).f1 := by
  unfold rd_T78
  rw [Int.toNat_natCast, List.getD_eq_getElem?_getD, List.getD_eq_getElem?_getD, List.getElem?_map]
  cases l[i]? <;> rfl
theorem same_iff (a b : List S78) : a = b ↔ a.map bareO = b.map bareO ∧ a.map (·.f1) = b.map (·.f1) := by
  constructor
  · rintro rfl; simp
  · rintro ⟨h1, h2⟩
    have hl : a.length = b.length := by have := congrArg List.length h1; simpa using this
    apply List.ext_getElem hl
    intro i i1 i2
    have e1 := congrArg (fun l => l[i]?) h1
    have e2 := congrArg (fun l => l[i]?) h2
    simp only [List.getElem?_map, List.getElem?_eq_getElem i1, List.getElem?_eq_getElem i2, Option.map_some, Option.some.injEq, bareO, Prod.mk.injEq] at e1 e2
    obtain ⟨q0, q2, q3⟩ := e1
    generalize a[i] = x at *
    generalize b[i] = y at *
    cases x; cases y
    simp_all
theorem impl_sameT (a b : List S78) (hl : wideO a) : Ev (fun k => impl_TreeSame.f k a b) (tr (a = b)) := by
  have hl1 := hl.1
  unfold impl_TreeSame.f
  refine Ev.bind (impl_like a b hl) ?_
  by_cases c : a.map bareO = b.map bareO
  · have hlen : a.length = b.length := by have := congrArg List.length c; simpa using this
    refine Ev.pos (tr_t c) (Ev.cast (eqLoop (fun k i => impl_TreeSame.l0 k (a.length : Int) i a b) (a.map (·.f1)) (b.map (·.f1)) z78.f1 (by simpa using hlen) ?_ ?_ ?_) ?_)
    · exact Ev.step (fun k => by rw [impl_TreeSame.l0, if_neg (by simp)]) (Ev.now _)
    · intro i hi he r hr
      rw [List.length_map] at hi
      rw [getD_ver, getD_ver] at he
      exact Ev.step (fun k => by rw [impl_TreeSame.l0, if_pos (by omega), if_pos (by omega), if_pos (by omega), if_pos (by omega), if_pos he, w64s (b := a.length) (by omega) (by omega) (by omega)]) hr
    · intro i hi he
      rw [List.length_map] at hi
      rw [getD_ver, getD_ver] at he
      exact Ev.step (f := fun _ => some false) (fun k => by rw [impl_TreeSame.l0, if_pos (by omega), if_pos (by omega), if_pos (by omega), if_pos (by omega), if_neg he]) (Ev.now _)
    · rw [Bool.eq_iff_iff, tr_iff, tr_iff, same_iff]
      simp [c]
  · refine Ev.neg (fun h => c (tr_iff.1 h)) (Ev.cast (Ev.now false) ?_)
    symm
    apply tr_f
    rw [same_iff]
    exact fun h => c h.1
theorem spec_sameT (a b : List S78) (hl : wideO a) : Ev (fun k => spec_TreeSame.f k a b) (tr (a = b)) := by
  have hl1 := hl.1
  unfold spec_TreeSame.f
  refine Ev.bind (spec_like a b hl) ?_
  by_cases c : a.map bareO = b.map bareO
  · have hlen : a.length = b.length := by have := congrArg List.length c; simpa using this
    refine Ev.pos (tr_t c) (Ev.cast (eqLoop (fun k i => spec_TreeSame.l0 k i a b) (a.map (·.f1)) (b.map (·.f1)) z78.f1 (by simpa using hlen) ?_ ?_ ?_) ?_)
    · exact Ev.step (fun k => by rw [spec_TreeSame.l0, if_neg (by simp)]) (Ev.now _)
    · intro i hi he r hr
      rw [List.length_map] at hi
      rw [getD_ver, getD_ver] at he
      exact Ev.step (fun k => by rw [spec_TreeSame.l0, if_pos (by omega), if_pos (by omega), if_pos (by omega), if_pos he, w64s (b := a.length) (by omega) (by omega) (by omega)]) hr
    · intro i hi he
      rw [List.length_map] at hi
      rw [getD_ver, getD_ver] at he
      exact Ev.step (f := fun _ => some false) (fun k => by rw [spec_TreeSame.l0, if_pos (by omega), if_pos (by omega), if_pos (by omega), if_neg he]) (Ev.now _)
    · rw [Bool.eq_iff_iff, tr_iff, tr_iff, same_iff]
      simp [c]
  · refine Ev.neg (fun h => c (tr_iff.1 h)) (Ev.cast (Ev.now false) ?_)
    symm
    apply tr_f
    rw [same_iff]
    exact fun h => c h.1
end Go.Proofs.Ythmmleheahkeeaa.Trees
namespace Go.Proofs.Ythmmleheahkeeaa.Pure
open Go.RowKit Go.Proofs.YthmmleheahkeeaaW.PrintWords Go.Proofs.Ythmmleheahkeeaa.Base Go.Proofs.Ythmmleheahkeeaa.Q Go.Proofs.Ythmmleheahkeeaa.Trees
theorem FnExactTreeSame (l0_0 l1_0 : List S104) (hg0 : l0_0.length ≤ 9223372036854775807 ∧ ∀ y0 ∈ l0_0, (Lit.int .i64 y0.f0).wf = true ∧ (Lit.int .i64 y0.f1).wf = true ∧ y0.f2.size ≤ 9223372036854775807 ∧ (y0.f3.length ≤ 9223372036854775807 ∧ ∀ y1 ∈ y0.f3, y1.f0.size ≤ 9223372036854775807 ∧ (Lit.int .i64 y1.f1).wf = true)) (hg1 : l1_0.length ≤ 9223372036854775807 ∧ ∀ y0 ∈ l1_0, (Lit.int .i64 y0.f0).wf = true ∧ (Lit.int .i64 y0.f1).wf = true ∧ y0.f2.size ≤ 9223372036854775807 ∧ (y0.f3.length ≤ 9223372036854775807 ∧ ∀ y1 ∈ y0.f3, y1.f0.size ≤ 9223372036854775807 ∧ (Lit.int .i64 y1.f1).wf = true)) :
    ∃ k, laws_FnExactTreeSame.f k l0_0 l1_0 = some true := by
  refine Ev.rounds (?_ : Ev (fun k => laws_FnExactTreeSame.f k l0_0 l1_0) true)
  unfold laws_FnExactTreeSame.f
  obtain ⟨r0, h0, p0⟩ := szTree l0_0 (wide_of hg0) 1048576 (by omega) (by omega)
  refine Ev.bind h0 (Ev.ite (fun _ => Ev.now _) (fun c0 => ?_))
  obtain ⟨q0, z0⟩ := p0 (by omega)
  obtain ⟨r1, h1, p1⟩ := szTree l1_0 (wide_of hg1) r0 (by omega) (by omega)
  refine Ev.bind h1 (Ev.ite (fun _ => Ev.now _) (fun c1 => ?_))
  obtain ⟨_, z1⟩ := p1 (by omega)
  have t0 := toTree _ z0
  have t1 := toTree _ z1
  refine Ev.bind t0 (Ev.bind t1 (Ev.bind (spec_sameT _ _ (wideO_map z0)) (Ev.bind t0 (Ev.bind t1 (Ev.bind (impl_sameT _ _ (wideO_map z0)) (Ev.neg (by simp) ?_))))))
  refine Ev.bind t0 (Ev.bind (eqTree _ _ (wideO_map z0)) (Ev.pos (tr_t rfl) (Ev.bind t1 (Ev.bind (eqTree _ _ (wideO_map z1)) (Ev.pos (tr_t rfl) (Ev.now _))))))
end Go.Proofs.Ythmmleheahkeeaa.Pure
