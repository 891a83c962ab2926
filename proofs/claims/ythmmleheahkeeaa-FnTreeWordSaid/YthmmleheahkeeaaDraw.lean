/- The reference's reader: every pick ends, and is a number below its bound. -/
import Derived.Test.YthmmleheahkeeaaBase
import Derived.Test.YthmmleheahkeeaaQ5
namespace Go.Proofs.Ythmmleheahkeeaa.Draw
open Go.RowKit Go.Proofs.YthmmleheahkeeaaW.PrintWords Go.Proofs.Ythmmleheahkeeaa.Base Go.Proofs.Ythmmleheahkeeaa.Q

/-- The bytes of a reader. -/
def Bytes (s : List Int) : Prop := s.length ≤ 2000 ∧ ∀ x ∈ s, 0 ≤ x ∧ x ≤ 255
/-- The place of a reader. -/
def Place (p : Int) (m : Int) : Prop := 0 ≤ p ∧ p ≤ m
theorem rd_byte {s : List Int} (h : ∀ x ∈ s, 0 ≤ x ∧ x ≤ 255) (i : Int) : 0 ≤ rd s i ∧ rd s i ≤ 255 := by
  unfold rd
  rw [List.getD_eq_getElem?_getD]
  cases e : s[i.toNat]? with
  | none => simp
  | some x => exact h x (List.mem_of_getElem? e)
theorem xor_nonneg (a b : Int) (ha : 0 ≤ a ∧ a < 4611686018427387904) (hb : 0 ≤ b ∧ b < 4611686018427387904) : 0 ≤ bits .xor .i64 a b := by
  obtain ⟨m, rfl⟩ := Int.eq_ofNat_of_zero_le ha.1
  obtain ⟨n, rfl⟩ := Int.eq_ofNat_of_zero_le hb.1
  have hm : m < 2 ^ 62 := by omega
  have hn : n < 2 ^ 62 := by omega
  have hx := Nat.xor_lt_two_pow hm hn
  have h1 : m % 2 ^ IntKind.i64.bits = m := Nat.mod_eq_of_lt (Nat.lt_trans hm (by decide))
  have h2 : n % 2 ^ IntKind.i64.bits = n := Nat.mod_eq_of_lt (Nat.lt_trans hn (by decide))
  simp only [bits, BitVec.ofInt_natCast, BitVec.toNat_xor, BitVec.toNat_ofNat, h1, h2]
  rw [IntKind.wrap_i64]
  omega
theorem tmod_range {a n : Int} (ha : 0 ≤ a) (hn : 1 ≤ n) : 0 ≤ Int.tmod a n ∧ Int.tmod a n < n := by
  rw [Int.tmod_eq_emod_of_nonneg ha]
  exact ⟨Int.emod_nonneg _ (by omega), Int.emod_lt_of_pos _ (by omega)⟩
theorem tdiv_range {a n : Int} (ha : 0 ≤ a) (hn : 1 ≤ n) : 0 ≤ Int.tdiv a n ∧ Int.tdiv a n ≤ a := by
  rw [Int.tdiv_eq_ediv_of_nonneg ha]
  refine ⟨Int.ediv_nonneg ha (by omega), ?_⟩
  exact Int.ediv_le_self _ ha
theorem mix {a b p q : Int} (ha : 0 ≤ a ∧ a ≤ 255) (hb : 0 ≤ b ∧ b ≤ 255) (hp : 0 ≤ p ∧ p ≤ 1000000000) (hq : 0 ≤ q ∧ q ≤ p) :
    wrap64 ((wrap64 ((wrap64 ((wrap64 ((wrap64 a) * 131)) + (wrap64 ((wrap64 b) * 1117)))) + (wrap64 (p * 29)))) + (wrap64 ((wrap64 q) * 53))) = a * 131 + b * 1117 + p * 29 + q * 53 := by
  rw [w64 (n := a) (by omega) (by omega), w64 (n := b) (by omega) (by omega), w64 (n := q) (by omega) (by omega), w64 (n := a * 131) (by omega) (by omega), w64 (n := b * 1117) (by omega) (by omega), w64 (n := p * 29) (by omega) (by omega), w64 (n := q * 53) (by omega) (by omega),
    w64 (n := a * 131 + b * 1117) (by omega) (by omega), w64 (n := a * 131 + b * 1117 + p * 29) (by omega) (by omega), w64 (by omega) (by omega)]
theorem pick (s : List Int) (hs : Bytes s) (p n : Int) (hp : 0 ≤ p ∧ p ≤ 1000000000) : ∃ v, Ev (fun k => spec_l16Rd_pick.f k s p n) (v, p + 1) ∧ 0 ≤ v ∧ (1 ≤ n → v < n) ∧ (n < 1 → v = 0) := by
  have e0 : wrap64 (p + 1) = p + 1 := w64 (by omega) (by omega)
  unfold spec_l16Rd_pick.f
  by_cases hn : n < 1
  · refine ⟨0, Ev.pos hn (Ev.step (f := fun _ => some (0, p + 1)) (fun k => ?_) (Ev.now _)), Int.le_refl _, fun h => by omega, fun _ => rfl⟩
    rw [spec_l16Rd_pick.j0, if_pos rfl, e0]
  · by_cases hl : (s.length : Int) = 0
    · refine ⟨0, Ev.neg hn (Ev.step (f := fun _ => some (0, p + 1)) (fun k => ?_) (Ev.now _)), Int.le_refl _, fun h => by omega, fun h => absurd h hn⟩
      rw [spec_l16Rd_pick.j0, if_pos (by simpa using hl), e0]
    · have hL : 1 ≤ (s.length : Int) := by omega
      have e1 : wrap64 (p + 1 - 1) = p := by rw [w64 (by omega) (by omega)]; omega
      have hz : ((s.length : Int) == 0) = false := by simpa using hl
      by_cases hlt : p < (s.length : Int)
      · have hr := rd_byte hs.2 p
        have hm := tmod_range (a := rd s p) hr.1 (n := n) (by omega)
        refine ⟨Int.tmod (rd s p) n, Ev.neg hn (Ev.step (f := fun _ => some (Int.tmod (rd s p) n, p + 1)) (fun k => ?_) (Ev.now _)), hm.1, fun _ => hm.2, fun h => absurd h hn⟩
        rw [spec_l16Rd_pick.j0, hz, e0, e1, if_neg (by decide), if_pos hlt, if_pos hp.1, if_neg (by omega), w64 (n := rd s p) (by omega) (by omega)]
      · have h7 : wrap64 (wrap64 (p * 7) + 3) = p * 7 + 3 := by rw [w64 (n := p * 7) (by omega) (by omega), w64 (by omega) (by omega)]
        have t1 := tmod_range (a := p) hp.1 hL
        have t2 := tmod_range (a := p * 7 + 3) (by omega) hL
        have tq := tdiv_range (a := p) hp.1 hL
        have r1 := rd_byte hs.2 (Int.tmod p (s.length : Int))
        have r2 := rd_byte hs.2 (Int.tmod (p * 7 + 3) (s.length : Int))
        have hmix := mix r1 r2 hp tq
        generalize hY : rd s (Int.tmod p (s.length : Int)) * 131 + rd s (Int.tmod (p * 7 + 3) (s.length : Int)) * 1117 + p * 29 + Int.tdiv p (s.length : Int) * 53 = Y at hmix
        have hY0 : 0 ≤ Y ∧ Y < 4611686018427387904 := by omega
        have hD := tdiv_range (a := Y) hY0.1 (n := 64) (by omega)
        have hX := xor_nonneg Y (Int.tdiv Y 64) hY0 (by omega)
        have hm := tmod_range hX (n := n) (by omega)
        refine ⟨_, Ev.neg hn (Ev.step (f := fun _ => some (Int.tmod (bits .xor .i64 Y (Int.tdiv Y 64)) n, p + 1)) (fun k => ?_) (Ev.now _)), hm.1, fun _ => hm.2, fun h => absurd h hn⟩
        rw [spec_l16Rd_pick.j0, hz, e0, e1, h7, hmix, w64 (n := Int.tdiv Y 64) (by omega) (by omega), if_neg (by decide), if_neg hlt, if_neg hl, if_pos t1.1, if_pos t1.2, if_pos t2.1, if_pos t2.2, if_neg (by omega)]
theorem open_ (l : List Int) (hb : ∀ x ∈ l, 0 ≤ x ∧ x ≤ 255) : spec_l16Open.f l = some (l.take 2000, 0) ∧ Bytes (l.take 2000) := by
  constructor
  · unfold spec_l16Open.f
    split
    · rw [if_pos (by omega)]
    · rw [List.take_of_length_le (by omega)]
  · exact ⟨by rw [List.length_take]; omega, fun x hx => hb x (List.mem_of_mem_take hx)⟩
theorem of_ (s : List Int) (hs : Bytes s) (p : Int) (hp : 0 ≤ p ∧ p ≤ 1000000000) (l : List ByteArray) (hl : l ≠ []) : ∃ x, Ev (fun k => spec_l16Rd_of.f k s p l) (x, p + 1) ∧ x ∈ l := by
  obtain ⟨v, hv, h0, h1, _⟩ := pick s hs p (l.length : Int) hp
  have hlen : 1 ≤ (l.length : Int) := by
    cases l with
    | nil => exact absurd rfl hl
    | cons a l => simp; omega
  have hlt := h1 hlen
  refine ⟨rdOf ByteArray.empty l v, ?_, ?_⟩
  · unfold spec_l16Rd_of.f
    exact Ev.bind hv (Ev.pos h0 (Ev.pos hlt (Ev.now _)))
  · unfold rdOf
    rw [List.getD_eq_getElem?_getD, List.getElem?_eq_getElem (by omega)]
    exact List.getElem_mem _
theorem wf_bytes {l : List Int} (h : ∀ y ∈ l, (Lit.int .u8 y).wf = true) : ∀ x ∈ l, 0 ≤ x ∧ x ≤ 255 := by
  intro x hx
  have := h x hx
  simp [Lit.wf, IntKind.min, IntKind.max, IntKind.bits, IntKind.signed] at this
  omega
end Go.Proofs.Ythmmleheahkeeaa.Draw
