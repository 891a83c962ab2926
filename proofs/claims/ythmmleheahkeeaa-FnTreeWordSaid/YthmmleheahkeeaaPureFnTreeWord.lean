/- The plain law of FnTreeWord. -/
import Derived.Test.YthmmleheahkeeaaWordLaw
import Derived.Test.YthmmleheahkeeaaDraw
import Derived.Test.YthmmleheahkeeaaQ6
namespace Go.Proofs.Ythmmleheahkeeaa.Pure
open Go.RowKit Go.Proofs.YthmmleheahkeeaaW.PrintWords Go.Proofs.Ythmmleheahkeeaa.Base Go.Proofs.Ythmmleheahkeeaa.Q Go.Proofs.Ythmmleheahkeeaa.WordLaw Go.Proofs.Ythmmleheahkeeaa.Draw

theorem bt_append (s : ByteArray) (c : UInt8) (j : Nat) : bt (s ++ (⟨#[c]⟩ : ByteArray)) j = if j < s.size then bt s j else if j = s.size then (c.toNat : Int) else 0 := by
  unfold bt
  have hsz : (s ++ (⟨#[c]⟩ : ByteArray)).size = s.size + 1 := by simp [ByteArray.size_append]; rfl
  simp only [Int.toNat_natCast, hsz]
  by_cases h1 : j < s.size
  · rw [dif_pos (by omega), if_pos h1, dif_pos h1]
    congr 2
    rw [ByteArray.getElem_append_left h1]
  · by_cases h2 : j = s.size
    · subst h2
      rw [dif_pos (by omega), if_neg h1, if_pos rfl]
      congr 2
      rw [ByteArray.getElem_append_right (by omega)]
      simp
      rfl
    · rw [dif_neg (by omega), if_neg h1, if_neg h2]
theorem size_app (s : ByteArray) (c : UInt8) : (s ++ (⟨#[c]⟩ : ByteArray)).size = s.size + 1 := by simp [ByteArray.size_append]; rfl
theorem all_app (p : Int → Bool) (s : ByteArray) (c : UInt8) (hc : p (c.toNat : Int) = true) : allOf (fun j => p (bt (s ++ (⟨#[c]⟩ : ByteArray)) j)) 0 (s.size + 1) = allOf (fun j => p (bt s j)) 0 s.size := by
  rw [Bool.eq_iff_iff, allOf_iff, allOf_iff]
  constructor
  · intro h j h1 h2
    have := h j h1 (by omega)
    rw [bt_append, if_pos h2] at this
    exact this
  · intro h j h1 h2
    rw [bt_append]
    split
    · rename_i h3
      exact h j h1 h3
    · split
      · exact hc
      · omega
theorem word_app (s : ByteArray) : wordB (s ++ (⟨#[97]⟩ : ByteArray)) = if allOf (fun j => lowC (bt s j)) 0 s.size = true then decide ((s.size : Int) < 4) else false := by
  unfold wordB
  rw [size_app, all_app lowC s 97 (by decide)]
  split
  · rw [Bool.eq_iff_iff]
    simp
    omega
  · rfl
theorem body_app (s : ByteArray) : bodyB (s ++ (⟨#[48]⟩ : ByteArray)) = if allOf (fun j => bodyC (bt s j)) 0 s.size = true then decide ((s.size : Int) < 12) else false := by
  unfold bodyB
  rw [size_app, all_app bodyC s 48 (by decide)]
  split
  · rw [Bool.eq_iff_iff]
    simp
    omega
  · rfl
theorem word_body {s : ByteArray} (h : wordB s = true) : bodyB s = true ∧ allOf (fun j => lowC (bt s j)) 0 s.size = true := by
  unfold wordB at h
  split at h
  · rename_i h1
    simp at h
    refine ⟨?_, h1⟩
    unfold bodyB
    rw [if_pos]
    · simp; omega
    · rw [allOf_iff] at h1 ⊢
      intro j h2 h3
      simp [bodyC, h1 j h2 h3]
  · cases h
theorem body_all {s : ByteArray} (h : bodyB s = true) : allOf (fun j => bodyC (bt s j)) 0 s.size = true := by
  unfold bodyB at h
  split at h
  · assumption
  · cases h

theorem law_j1 (b : ByteArray) (hb : b.size ≤ 1000) : Ev (fun k => laws_FnTreeWord.j1 k b false) true := by
  refine Ev.step (fun k => by rw [laws_FnTreeWord.j1, if_neg (by decide)]) ?_
  refine Ev.bind (impl_body b (by omega)) ?_
  refine Ev.ite (fun h => ?_) (fun _ => Ev.now _)
  refine Ev.pos (by omega) (Ev.bind (impl_body _ (by rw [size_app]; omega)) ?_)
  rw [body_app, if_pos (body_all h)]
  simpa using Ev.now true
theorem law_j0 (w b : ByteArray) (hw : w.size ≤ 1000) (hb : b.size ≤ 1000) : Ev (fun k => laws_FnTreeWord.j0 k w b false) true := by
  refine Ev.step (fun k => by rw [laws_FnTreeWord.j0, if_neg (by decide)]) ?_
  refine Ev.bind (impl_word w (by omega)) ?_
  refine Ev.ite (fun h => ?_) (fun _ => law_j1 b hb)
  refine Ev.pos (by omega) (Ev.bind (impl_word _ (by rw [size_app]; omega)) ?_)
  rw [word_app, if_pos (word_body h).2]
  refine Ev.neg (by simp) ?_
  refine Ev.bind (impl_body w (by omega)) ?_
  rw [(word_body h).1]
  exact law_j1 b hb
theorem FnTreeWord (l0 : List Int) (hg0 : l0.length ≤ 9223372036854775807 ∧ ∀ y0 ∈ l0, (Lit.int .u8 y0).wf = true) : ∃ k, laws_FnTreeWord.f k l0 = some true := by
  obtain ⟨ho, hB⟩ := open_ l0 (wf_bytes hg0.2)
  have draw : ∀ l : List ByteArray, l ≠ [] → (∀ x ∈ l, x.size ≤ 1000) → ∃ x, x.size ≤ 1000 ∧ Ev (fun k => (spec_l16Rd_of.f k (l0.take 2000) 0 l).bind fun b => some b.1) x := by
    intro l hl hx
    obtain ⟨x, h1, h2⟩ := of_ _ hB 0 (by omega) l hl
    exact ⟨x, hx x h2, Ev.bind h1 (Ev.now _)⟩
  refine Ev.rounds (?_ : Ev (fun k => laws_FnTreeWord.f k l0) true)
  unfold laws_FnTreeWord.f
  refine Ev.ite (fun _ => Ev.now _) (fun _ => ?_)
  obtain ⟨w, hw, h1⟩ := draw ([(⟨#[]⟩ : ByteArray), (⟨#[97]⟩ : ByteArray), (⟨#[97, 98]⟩ : ByteArray), (⟨#[97, 98, 99, 100]⟩ : ByteArray), (⟨#[97, 98, 99, 100, 101]⟩ : ByteArray), (⟨#[65]⟩ : ByteArray), (⟨#[97, 49]⟩ : ByteArray), (⟨#[122]⟩ : ByteArray), (⟨#[97, 32, 98]⟩ : ByteArray)] : List ByteArray) (by simp) (by decide)
  obtain ⟨b, hb, h2⟩ := draw ([(⟨#[]⟩ : ByteArray), (⟨#[97]⟩ : ByteArray), (⟨#[97, 98, 99, 49, 50, 51]⟩ : ByteArray), (⟨#[48]⟩ : ByteArray), (⟨#[97, 97, 97, 97, 97, 97, 97, 97, 97, 97, 97, 97]⟩ : ByteArray), (⟨#[97, 97, 97, 97, 97, 97, 97, 97, 97, 97, 97, 97, 97]⟩ : ByteArray), (⟨#[65]⟩ : ByteArray), (⟨#[97, 32, 98]⟩ : ByteArray)] : List ByteArray) (by simp) (by decide)
  refine Ev.bind (a := w) ?_ (Ev.bind (a := b) ?_ ?_)
  · unfold spec_DrawTreeWord.f
    rw [ho]
    simp only [Option.bind_some]
    exact h1
  · unfold spec_DrawTreeBody.f
    rw [ho]
    simp only [Option.bind_some]
    exact h2
  refine Ev.bind (impl_word w (by omega)) (Ev.bind (spec_word w (by omega)) (Ev.neg (by simp) ?_))
  refine Ev.bind (impl_body b (by omega)) (Ev.bind (spec_body b (by omega)) ?_)
  simpa using law_j0 w b hw hb
end Go.Proofs.Ythmmleheahkeeaa.Pure
