/- Plain lemmas on answers that stand from some number of rounds on (Ev), on wrap64 and on bytes. -/
import Derived.Test.YthmmleheahkeeaaWWords
import Derived.Test.YthmmleheahkeeaaWMore
import Derived.Lib.Strings
namespace Go.Proofs.Ythmmleheahkeeaa.Base
open Go.RowKit Go.Proofs.YthmmleheahkeeaaW.PrintWords

theorem w64 {n : Int} (h0 : -9223372036854775808 ≤ n) (h1 : n ≤ 9223372036854775807) : wrap64 n = n := by unfold wrap64; omega
theorem w64s {n : Int} {b : Nat} (h0 : 0 ≤ n) (h1 : n < b) (hb : b ≤ 4611686018427387904) : wrap64 (n + 1) = n + 1 := w64 (by omega) (by omega)

section
variable {α β : Type} {g f : Nat → Option α} {r : α}
theorem Ev.now' (r : α) : Ev (fun _ => some r) r := Ev.now r
theorem Ev.of_eq {g f : Nat → Option α} (k : Ev f r) (h : ∀ k, g k = f k) : Ev g r := Ev.congr h k
theorem Ev.bind' {g : Nat → Option α} {f : Nat → α → Option β} {a : α} {r : β} (h : Ev g a) (k : Ev (fun n => f n a) r) : Ev (fun n => (g n).bind (f n)) r := Ev.bind h k
theorem Ev.pos {c : Prop} [Decidable c] (h : c) (k : Ev g r) : Ev (fun n => if c then g n else f n) r := by simpa only [if_pos h] using k
theorem Ev.neg {c : Prop} [Decidable c] (h : ¬ c) (k : Ev f r) : Ev (fun n => if c then g n else f n) r := by simpa only [if_neg h] using k
theorem Ev.ite {c : Prop} [Decidable c] (h : c → Ev g r) (k : ¬ c → Ev f r) : Ev (fun n => if c then g n else f n) r := by
  by_cases hc : c
  · exact Ev.pos hc (h hc)
  · exact Ev.neg hc (k hc)
theorem Ev.sbind {a : β} {f : Nat → β → Option α} (k : Ev (fun n => f n a) r) : Ev (fun n => (some a).bind (f n)) r := by simpa only [Option.bind_some] using k
theorem Ev.unique {q : α} (h : Ev g r) (k : Ev g q) : r = q := by
  obtain ⟨K, h⟩ := h
  obtain ⟨L, k⟩ := k
  have h1 := h (max K L) (by omega)
  have h2 := k (max K L) (by omega)
  rw [h1] at h2
  exact Option.some.inj h2
theorem Ev.const (r : α) {o : Option α} (h : o = some r) : Ev (fun _ => o) r := ⟨0, fun _ _ => h⟩
end

/-- p holds at i, i + 1, .., n - 1. -/
def allOf (p : Nat → Bool) (i n : Nat) : Bool := (List.range' i (n - i)).all p
theorem allOf_end (p : Nat → Bool) (n : Nat) : allOf p n n = true := by simp [allOf]
theorem allOf_step (p : Nat → Bool) {i n : Nat} (h : i < n) : allOf p i n = (p i && allOf p (i + 1) n) := by
  unfold allOf
  rw [show n - i = (n - (i + 1)) + 1 by omega, List.range'_succ, List.all_cons]
theorem allOf_iff (p : Nat → Bool) (i n : Nat) : allOf p i n = true ↔ ∀ j, i ≤ j → j < n → p j = true := by
  unfold allOf
  rw [List.all_eq_true]
  constructor
  · intro h j h1 h2
    exact h j (by rw [List.mem_range'_1]; omega)
  · intro h j hj
    rw [List.mem_range'_1] at hj
    exact h j hj.1 (by omega)
theorem allOf_congr {p q : Nat → Bool} {i n : Nat} (h : ∀ j, i ≤ j → j < n → p j = q j) : allOf p i n = allOf q i n := by
  rw [Bool.eq_iff_iff, allOf_iff, allOf_iff]
  constructor
  · intro k j h1 h2; rw [← h j h1 h2]; exact k j h1 h2
  · intro k j h1 h2; rw [h j h1 h2]; exact k j h1 h2

/-- A loop that asks a test of each index, and ends with 'no' at the first that fails. -/
theorem scan {β : Type} (g : Nat → Int → Option β) (n : Nat) (p : Nat → Bool) (yes no : β)
    (hend : Ev (fun k => g k (n : Int)) yes)
    (hgo : ∀ i : Nat, i < n → p i = true → ∀ r, Ev (fun k => g k ((i : Int) + 1)) r → Ev (fun k => g k (i : Int)) r)
    (hno : ∀ i : Nat, i < n → p i = false → Ev (fun k => g k (i : Int)) no) :
    ∀ d i : Nat, n - i = d → i ≤ n → Ev (fun k => g k (i : Int)) (if allOf p i n = true then yes else no) := by
  intro d
  induction d with
  | zero =>
    intro i hd hi
    have : i = n := by omega
    subst this
    rw [allOf_end, if_pos rfl]
    exact hend
  | succ d ih =>
    intro i hd hi
    rw [allOf_step p (by omega)]
    cases hp : p i with
    | true =>
      rw [Bool.true_and]
      exact hgo i (by omega) hp _ (ih (i + 1) (by omega) (by omega))
    | false =>
      rw [Bool.false_and, if_neg (by decide)]
      exact hno i (by omega) hp
theorem scan0 {β : Type} (g : Nat → Int → Option β) (n : Nat) (p : Nat → Bool) (yes no : β)
    (hend : Ev (fun k => g k (n : Int)) yes)
    (hgo : ∀ i : Nat, i < n → p i = true → ∀ r, Ev (fun k => g k ((i : Int) + 1)) r → Ev (fun k => g k (i : Int)) r)
    (hno : ∀ i : Nat, i < n → p i = false → Ev (fun k => g k (i : Int)) no) :
    Ev (fun k => g k 0) (if allOf p 0 n = true then yes else no) := scan g n p yes no hend hgo hno n 0 rfl (Nat.zero_le _)

theorem Ev.cast {α : Type} {g : Nat → Option α} {r r' : α} (h : Ev g r) (e : r = r') : Ev g r' := e ▸ h
theorem Ev.iteR {α : Type} {g f : Nat → Option α} {r s : α} {c : Prop} [Decidable c] (h : Ev g r) (k : Ev f s) : Ev (fun n => if c then g n else f n) (if c then r else s) := by
  split
  · exact h
  · exact k
theorem bytes_inj {s t : ByteArray} : s.toList = t.toList ↔ s = t := by
  constructor
  · intro h
    rw [ByteArray.toList_eq, ByteArray.toList_eq] at h
    exact ByteArray.ext (by rw [← Array.toList_inj]; exact h)
  · intro h; rw [h]

/-- A proposition as a Bool. -/
noncomputable def tr (p : Prop) : Bool := @decide p (Classical.propDecidable p)
theorem tr_iff {p : Prop} : tr p = true ↔ p := by unfold tr; exact @decide_eq_true_iff p (Classical.propDecidable p)
theorem tr_t {p : Prop} (h : p) : tr p = true := tr_iff.2 h
theorem tr_f {p : Prop} (h : ¬ p) : tr p = false := by
  cases e : tr p with
  | true => exact absurd (tr_iff.1 e) h
  | false => rfl
theorem of_tr_f {p : Prop} (h : tr p = false) : ¬ p := fun k => by rw [tr_t k] at h; cases h
theorem tr_congr {p q : Prop} (h : p ↔ q) : tr p = tr q := by rw [Bool.eq_iff_iff, tr_iff, tr_iff, h]
theorem tr_decide {p : Prop} [Decidable p] : tr p = decide p := by rw [Bool.eq_iff_iff, tr_iff, decide_eq_true_iff]
/-- A loop that compares two lists of one length, element by element. -/
theorem eqLoop {α : Type} (g : Nat → Int → Option Bool) (a b : List α) (z : α) (hl : a.length = b.length)
    (hend : Ev (fun k => g k (a.length : Int)) true)
    (hgo : ∀ i : Nat, i < a.length → a.getD i z = b.getD i z → ∀ r, Ev (fun k => g k ((i : Int) + 1)) r → Ev (fun k => g k (i : Int)) r)
    (hno : ∀ i : Nat, i < a.length → a.getD i z ≠ b.getD i z → Ev (fun k => g k (i : Int)) false) :
    Ev (fun k => g k 0) (tr (a = b)) := by
  refine Ev.cast (scan0 g a.length (fun i => tr (a.getD i z = b.getD i z)) true false hend (fun i hi hp => hgo i hi (tr_iff.1 hp)) (fun i hi hp => hno i hi (of_tr_f hp))) ?_
  rw [Bool.eq_iff_iff, tr_iff]
  have : (∀ j, 0 ≤ j → j < a.length → tr (a.getD j z = b.getD j z) = true) ↔ a = b := by
    constructor
    · intro h
      apply List.ext_getElem hl
      intro i h1 h2
      have := tr_iff.1 (h i (Nat.zero_le _) h1)
      rwa [List.getD_eq_getElem?_getD, List.getD_eq_getElem?_getD, List.getElem?_eq_getElem h1, List.getElem?_eq_getElem h2] at this
    · rintro rfl j _ _
      exact tr_t rfl
  rw [← this, ← allOf_iff]
  split <;> simp_all

/-- A loop that fills a list made ahead of it. -/
theorem fillLoop {β : Type} (g : Nat → List β → Int → Option (List β)) (n : Nat) (F : Nat → β)
    (hend : ∀ out : List β, out.length = n → Ev (fun k => g k out (n : Int)) out)
    (hgo : ∀ (i : Nat) (out : List β), i < n → out.length = n → ∀ r, Ev (fun k => g k (out.set i (F i)) ((i : Int) + 1)) r → Ev (fun k => g k out (i : Int)) r) :
    ∀ d i : Nat, n - i = d → i ≤ n → ∀ out : List β, out.length = n → Ev (fun k => g k out (i : Int)) (out.take i ++ (List.range' i (n - i)).map F) := by
  intro d
  induction d with
  | zero =>
    intro i hd hi out ho
    have : i = n := by omega
    subst this
    rw [hd, List.take_of_length_le (by omega)]
    simpa using hend out ho
  | succ d ih =>
    intro i hd hi out ho
    have h := ih (i + 1) (by omega) (by omega) (out.set i (F i)) (by simpa using ho)
    refine Ev.cast (hgo i out (by omega) ho _ h) ?_
    rw [show n - i = (n - (i + 1)) + 1 by omega, List.range'_succ, List.map_cons, List.take_succ_eq_append_getElem (by rw [List.length_set]; omega)]
    simp [List.take_set_of_le]
theorem fill0 {β : Type} (g : Nat → List β → Int → Option (List β)) (n : Nat) (F : Nat → β) (out : List β) (ho : out.length = n)
    (hend : ∀ out : List β, out.length = n → Ev (fun k => g k out (n : Int)) out)
    (hgo : ∀ (i : Nat) (out : List β), i < n → out.length = n → ∀ r, Ev (fun k => g k (out.set i (F i)) ((i : Int) + 1)) r → Ev (fun k => g k out (i : Int)) r) :
    Ev (fun k => g k out 0) ((List.range n).map F) := by
  refine Ev.cast (fillLoop g n F hend hgo n 0 rfl (Nat.zero_le _) out ho) ?_
  simp [List.range_eq_range']
theorem map_range_get {α β : Type} (l : List α) (z : α) (f : α → β) : (List.range l.length).map (fun j => f (l.getD j z)) = l.map f := by
  apply List.ext_getElem (by simp)
  intro i h1 h2
  simp only [List.length_map, List.length_range] at h1
  simp [List.getD_eq_getElem?_getD, List.getElem?_eq_getElem h1]

/-- A loop that counts sizes down: it tells a negative number, or all it saw was small. -/
theorem sizeLoop (g : Nat → Int → Int → Option Int) (n : Nat) (P : Nat → Prop)
    (hend : ∀ a : Int, Ev (fun k => g k a (n : Int)) a)
    (step : ∀ (i : Nat) (a : Int), i < n → 0 ≤ a → a ≤ 1048576 → (Ev (fun k => g k a (i : Int)) (-1)) ∨ ∃ b, 0 ≤ b ∧ b ≤ a ∧ P i ∧ ∀ r, Ev (fun k => g k b ((i : Int) + 1)) r → Ev (fun k => g k a (i : Int)) r) :
    ∀ d i : Nat, n - i = d → i ≤ n → ∀ a : Int, 0 ≤ a → a ≤ 1048576 → ∃ r, Ev (fun k => g k a (i : Int)) r ∧ (0 ≤ r → r ≤ a ∧ ∀ j, i ≤ j → j < n → P j) := by
  intro d
  induction d with
  | zero =>
    intro i hd hi a h0 h1
    have : i = n := by omega
    subst this
    exact ⟨a, hend a, fun _ => ⟨Int.le_refl _, fun j h2 h3 => absurd h3 (by omega)⟩⟩
  | succ d ih =>
    intro i hd hi a h0 h1
    rcases step i a (by omega) h0 h1 with h | ⟨b, hb0, hb1, hP, hk⟩
    · exact ⟨-1, h, fun h => absurd h (by omega)⟩
    · obtain ⟨r, hr, hp⟩ := ih (i + 1) (by omega) (by omega) b hb0 (by omega)
      refine ⟨r, hk r hr, fun h => ⟨by have := (hp h).1; omega, fun j h2 h3 => ?_⟩⟩
      by_cases he : j = i
      · subst he; exact hP
      · exact (hp h).2 j (by omega) h3

end Go.Proofs.Ythmmleheahkeeaa.Base
