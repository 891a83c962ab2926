/- Part 5 of what the proof of FnExactSlimMoves uses: plain functions with the answers of the Go functions, the proofs that the calls come to them, and plain lemmas. -/
import Derived.Deep.Slices
import Derived.Deep.Fields
import Derived.ChangeSame
import Derived.OpenShut
import Derived.ShutString
import Derived.SizedLaws
import Derived.Carry
import Derived.Lib.Strings
import Derived.Test.YtlaichooanflaaaVFnExactSlimMoves0
import Derived.Test.YtlaichooanflaaaVFnExactSlimMoves1
import Derived.Test.YtlaichooanflaaaVFnExactSlimMoves2
import Derived.Test.YtlaichooanflaaaVFnExactSlimMoves3
import Derived.Test.YtlaichooanflaaaVFnExactSlimMoves4
namespace Go.Proofs.Ytlaichooanflaaa.Q
open Go.RowKit Go.Proofs.YtlaichooanflaaaW.PrintWords Go.Proofs.YtlaichooanflaaaW.PrintLast Go.Proofs.YtlaichooanflaaaW.PrintMore
attribute [local go_sem] Go.Proofs.Ytlaichooanflaaa.Mem.str_leq Go.Proofs.Ytlaichooanflaaa.Mem.str_gtr Go.Proofs.Ytlaichooanflaaa.Mem.str_geq max2_int min2_int max_two min_two max_three min_three max_four min_four   -- for this text's walks alone
set_option linter.unusedVariables false
set_option linter.unusedSimpArgs false
def laws_heldOpS.l0 : Nat → List (S73) → Int → Int → Option (Int)
  | 0, _, _, _ => none
  | k + 1, x0, x1, x5 => if x5 < (x0.length : Int) then (if 0 ≤ x5 then (if ((rd_T73 x0 x5).f0) = x1 then (if ((rd_T73 x0 x5).f1) = (wrap64 (x1 + 1)) then ((laws_markText.f k (wrap64 ((wrap64 (x1 + 1)) + 1))).bind fun t783 => (if ((rd_T73 x0 x5).f2).toList = t783.toList then (if ((rd_T73 x0 x5).f3) = (wrap64 ((wrap64 ((wrap64 (x1 + 1)) + 1)) + 1)) then ((laws_markText.f k (wrap64 ((wrap64 ((wrap64 ((wrap64 (x1 + 1)) + 1)) + 1)) + 1))).bind fun t786 => (if ((rd_T73 x0 x5).f4).toList = t786.toList then (if ((rd_T73 x0 x5).f5) = (wrap64 ((wrap64 ((wrap64 ((wrap64 ((wrap64 (x1 + 1)) + 1)) + 1)) + 1)) + 1)) then ((laws_markText.f k (wrap64 ((wrap64 ((wrap64 ((wrap64 ((wrap64 ((wrap64 (x1 + 1)) + 1)) + 1)) + 1)) + 1)) + 1))).bind fun t789 => (if ((rd_T73 x0 x5).f6).toList = t789.toList then (laws_heldOpS.l0 k x0 (wrap64 ((wrap64 ((wrap64 ((wrap64 ((wrap64 ((wrap64 ((wrap64 (x1 + 1)) + 1)) + 1)) + 1)) + 1)) + 1)) + 1)) (wrap64 (x5 + 1))) else (none))) else (none)) else (none))) else (none)) else (none))) else (none)) else (none)) else (none)) else (some x1)
def laws_heldOpS.f (k : Nat) (l0 : List (S73)) (a1 : Int) : Option (Int) := laws_heldOpS.l0 k l0 a1 0
def laws_heldOpS.T10 : Bool × List (List Nat × List Nat) := (true, [([], []), ([], []), ([0, 1], [0, 1]), ([2], [2]), ([3], [3]), ([], []), ([5], [5]), ([4, 6], [4, 6])])
def laws_heldOpS.B10 : List Nat := [0, 0, 3, 7, 15, 0, 32, 127]
theorem laws_heldOpS.tab10 : rtab .any (opsOf Try.f52 10) = laws_heldOpS.T10 := by kernel_rfl
theorem laws_heldOpS.bits10 : waitsOk laws_heldOpS.T10.2 laws_heldOpS.B10 = true := by kernel_rfl
def laws_heldOpS.T16 : Bool × List (List Nat × List Nat) := (true, [([], []), ([], []), ([0, 1], [0, 1]), ([2], [2]), ([3], [3]), ([], []), ([5], [5]), ([4, 6], [4, 6])])
def laws_heldOpS.B16 : List Nat := [0, 0, 3, 7, 15, 0, 32, 127]
theorem laws_heldOpS.tab16 : rtab .any (opsOf Try.f52 16) = laws_heldOpS.T16 := by kernel_rfl
theorem laws_heldOpS.bits16 : waitsOk laws_heldOpS.T16.2 laws_heldOpS.B16 = true := by kernel_rfl
def laws_heldOpS.T22 : Bool × List (List Nat × List Nat) := (true, [([], []), ([], []), ([0, 1], [0, 1]), ([2], [2]), ([3], [3]), ([], []), ([5], [5]), ([4, 6], [4, 6])])
def laws_heldOpS.B22 : List Nat := [0, 0, 3, 7, 15, 0, 32, 127]
theorem laws_heldOpS.tab22 : rtab .any (opsOf Try.f52 22) = laws_heldOpS.T22 := by kernel_rfl
theorem laws_heldOpS.bits22 : waitsOk laws_heldOpS.T22.2 laws_heldOpS.B22 = true := by kernel_rfl
set_option maxHeartbeats 8000000 in
set_option maxRecDepth 100000 in
theorem laws_heldOpS.calls (k : Nat) (A0 : Option Addr) (c0 : Nat) (l0 : List (S73)) (a1 : Int) (r : Int) (w : World) (hr0 : Kd.C k73 w A0 l0.length l0) (hc0 : l0.length ≤ c0) (h : laws_heldOpS.f k l0 a1 = some r) :
    Calls Try.prog 52 #[.slice A0 l0.length c0, .int .i64 a1] w fun e w' => e = .returned (.int .i64 r) ∧ Below w.heap.size w w' := by
  have HR0 := Aside0.mk hr0
  have HC0 := Aside0.mk hc0
  clear hr0 hc0
  have HB := Aside0.mk (Below.refl w.heap.size w)
  have H : (laws_heldOpS.l0 k l0 a1 0) = some r := h
  clear h
  have H' := Aside0.mk H
  clear H
  go_enter Try.func52, Try.ntmps52
  go_wp2
  go_loopg [1, 5] k (fun kq v1 v5 w' => ∃ (x1_1 : Int) (x5_1 : Int), v1 = .int .i64 x1_1 ∧ v5 = .int .i64 x5_1 ∧ Aside0 (laws_heldOpS.l0 kq l0 x1_1 x5_1 = some r) ∧ Aside0 (kq ≤ k) ∧ Aside0 (Below w.heap.size w w'))
  case atStart => exact ⟨(a1), (0), (by first | rfl | (simp; done) | (simp [*]; done)), (by first | rfl | (simp; done) | (simp [*]; done)), H', ⟨Nat.le_refl _⟩, ⟨by repeat (first | (with_reducible first | exact HB.out | apply below_alloc | apply pw_below_drewN | apply below_drew1) | exact HB.out)⟩⟩
  case round =>
    clear H'
    (try clear p2)
    obtain ⟨x1_1, x5_1, rfl, rfl, HA, HK1, HB⟩ := hrel
    cases gk with
    | zero => exact absurd HA.out (by simp [laws_heldOpS.l0])
    | succ k1 =>
      have H := HA.out
      clear HA
      simp only [laws_heldOpS.l0] at H
      by_cases c3 : x5_1 < (l0.length : Int)
      · rw [if_pos c3] at H
        have c3b0 : decide (x5_1 < (l0.length : Int)) = true := decide_eq_true c3
        clear c3
        by_cases c4 : 0 ≤ x5_1
        · rw [if_pos c4] at H
          have c4b0 : decide (0 ≤ x5_1) = true := decide_eq_true c4
          clear c4
          by_cases c5 : ((rd_T73 l0 x5_1).f0) = x1_1
          · rw [if_pos c5] at H
            have c5b0 : (((rd_T73 l0 x5_1).f0) == x1_1) = true := beq_iff_eq.mpr c5
            have c5b1 : (((rd_T73 l0 x5_1).f0) != x1_1) = false := bne_eq_false_iff_eq.mpr c5
            clear c5
            by_cases c6 : ((rd_T73 l0 x5_1).f1) = (wrap64 (x1_1 + 1))
            · rw [if_pos c6] at H
              have c6b0 : (((rd_T73 l0 x5_1).f1) == (wrap64 (x1_1 + 1))) = true := beq_iff_eq.mpr c6
              have c6b1 : (((rd_T73 l0 x5_1).f1) != (wrap64 (x1_1 + 1))) = false := bne_eq_false_iff_eq.mpr c6
              clear c6
              replace H := Option.bind_eq_some_iff.mp H
              obtain ⟨t783, A70, H⟩ := H
              replace H : (if ((rd_T73 l0 x5_1).f2).toList = t783.toList then (if ((rd_T73 l0 x5_1).f3) = (wrap64 ((wrap64 ((wrap64 (x1_1 + 1)) + 1)) + 1)) then ((laws_markText.f k1 (wrap64 ((wrap64 ((wrap64 ((wrap64 (x1_1 + 1)) + 1)) + 1)) + 1))).bind fun t786 => (if ((rd_T73 l0 x5_1).f4).toList = t786.toList then (if ((rd_T73 l0 x5_1).f5) = (wrap64 ((wrap64 ((wrap64 ((wrap64 ((wrap64 (x1_1 + 1)) + 1)) + 1)) + 1)) + 1)) then ((laws_markText.f k1 (wrap64 ((wrap64 ((wrap64 ((wrap64 ((wrap64 ((wrap64 (x1_1 + 1)) + 1)) + 1)) + 1)) + 1)) + 1))).bind fun t789 => (if ((rd_T73 l0 x5_1).f6).toList = t789.toList then (laws_heldOpS.l0 k1 l0 (wrap64 ((wrap64 ((wrap64 ((wrap64 ((wrap64 ((wrap64 ((wrap64 (x1_1 + 1)) + 1)) + 1)) + 1)) + 1)) + 1)) + 1)) (wrap64 (x5_1 + 1))) else (none))) else (none)) else (none))) else (none)) else (none)) = some r := H
              have A7 := Aside0.mk A70
              clear A70
              by_cases c8 : ((rd_T73 l0 x5_1).f2).toList = t783.toList
              · rw [if_pos c8] at H
                have c8b0 : (((rd_T73 l0 x5_1).f2).toList == t783.toList) = true := beq_iff_eq.mpr c8
                have c8b1 : (((rd_T73 l0 x5_1).f2).toList != t783.toList) = false := bne_eq_false_iff_eq.mpr c8
                clear c8
                by_cases c9 : ((rd_T73 l0 x5_1).f3) = (wrap64 ((wrap64 ((wrap64 (x1_1 + 1)) + 1)) + 1))
                · rw [if_pos c9] at H
                  have c9b0 : (((rd_T73 l0 x5_1).f3) == (wrap64 ((wrap64 ((wrap64 (x1_1 + 1)) + 1)) + 1))) = true := beq_iff_eq.mpr c9
                  have c9b1 : (((rd_T73 l0 x5_1).f3) != (wrap64 ((wrap64 ((wrap64 (x1_1 + 1)) + 1)) + 1))) = false := bne_eq_false_iff_eq.mpr c9
                  clear c9
                  replace H := Option.bind_eq_some_iff.mp H
                  obtain ⟨t786, A100, H⟩ := H
                  replace H : (if ((rd_T73 l0 x5_1).f4).toList = t786.toList then (if ((rd_T73 l0 x5_1).f5) = (wrap64 ((wrap64 ((wrap64 ((wrap64 ((wrap64 (x1_1 + 1)) + 1)) + 1)) + 1)) + 1)) then ((laws_markText.f k1 (wrap64 ((wrap64 ((wrap64 ((wrap64 ((wrap64 ((wrap64 (x1_1 + 1)) + 1)) + 1)) + 1)) + 1)) + 1))).bind fun t789 => (if ((rd_T73 l0 x5_1).f6).toList = t789.toList then (laws_heldOpS.l0 k1 l0 (wrap64 ((wrap64 ((wrap64 ((wrap64 ((wrap64 ((wrap64 ((wrap64 (x1_1 + 1)) + 1)) + 1)) + 1)) + 1)) + 1)) + 1)) (wrap64 (x5_1 + 1))) else (none))) else (none)) else (none)) = some r := H
                  have A10 := Aside0.mk A100
                  clear A100
                  by_cases c11 : ((rd_T73 l0 x5_1).f4).toList = t786.toList
                  · rw [if_pos c11] at H
                    have c11b0 : (((rd_T73 l0 x5_1).f4).toList == t786.toList) = true := beq_iff_eq.mpr c11
                    have c11b1 : (((rd_T73 l0 x5_1).f4).toList != t786.toList) = false := bne_eq_false_iff_eq.mpr c11
                    clear c11
                    by_cases c12 : ((rd_T73 l0 x5_1).f5) = (wrap64 ((wrap64 ((wrap64 ((wrap64 ((wrap64 (x1_1 + 1)) + 1)) + 1)) + 1)) + 1))
                    · rw [if_pos c12] at H
                      have c12b0 : (((rd_T73 l0 x5_1).f5) == (wrap64 ((wrap64 ((wrap64 ((wrap64 ((wrap64 (x1_1 + 1)) + 1)) + 1)) + 1)) + 1))) = true := beq_iff_eq.mpr c12
                      have c12b1 : (((rd_T73 l0 x5_1).f5) != (wrap64 ((wrap64 ((wrap64 ((wrap64 ((wrap64 (x1_1 + 1)) + 1)) + 1)) + 1)) + 1))) = false := bne_eq_false_iff_eq.mpr c12
                      clear c12
                      replace H := Option.bind_eq_some_iff.mp H
                      obtain ⟨t789, A130, H⟩ := H
                      replace H : (if ((rd_T73 l0 x5_1).f6).toList = t789.toList then (laws_heldOpS.l0 k1 l0 (wrap64 ((wrap64 ((wrap64 ((wrap64 ((wrap64 ((wrap64 ((wrap64 (x1_1 + 1)) + 1)) + 1)) + 1)) + 1)) + 1)) + 1)) (wrap64 (x5_1 + 1))) else (none)) = some r := H
                      have A13 := Aside0.mk A130
                      clear A130
                      by_cases c14 : ((rd_T73 l0 x5_1).f6).toList = t789.toList
                      · rw [if_pos c14] at H
                        have c14b0 : (((rd_T73 l0 x5_1).f6).toList == t789.toList) = true := beq_iff_eq.mpr c14
                        have c14b1 : (((rd_T73 l0 x5_1).f6).toList != t789.toList) = false := bne_eq_false_iff_eq.mpr c14
                        clear c14
                        have H' := Aside0.mk H
                        clear H
                        have p780 : 0 ≤ (x5_1 : Int) := of_decide_eq_true (by first | (with_reducible assumption) | assumption)
                        have q780 : x5_1 < (l0.length : Int) := of_decide_eq_true (by first | (with_reducible assumption) | assumption)
                        obtain ⟨ad780, e780, hx780_0, hx780_1, hx780_2, hx780_3, hx780_4, hx780_5, hx780_6⟩ := at_T73 HR0.out x5_1 p780 q780
                        cases e780
                        replace hx780_0 := (HB.out.cell (World.block_lt_of_cell? w _ hx780_0)).trans hx780_0
                        replace hx780_1 := (HB.out.cell (World.block_lt_of_cell? w _ hx780_1)).trans hx780_1
                        replace hx780_2 := (HB.out.cell (World.block_lt_of_cell? w _ hx780_2)).trans hx780_2
                        replace hx780_3 := (HB.out.cell (World.block_lt_of_cell? w _ hx780_3)).trans hx780_3
                        replace hx780_4 := (HB.out.cell (World.block_lt_of_cell? w _ hx780_4)).trans hx780_4
                        replace hx780_5 := (HB.out.cell (World.block_lt_of_cell? w _ hx780_5)).trans hx780_5
                        replace hx780_6 := (HB.out.cell (World.block_lt_of_cell? w _ hx780_6)).trans hx780_6
                        replace p780 := eq_true p780
                        replace q780 := eq_true q780
                        have p781 : 0 ≤ (x5_1 : Int) := of_decide_eq_true (by first | (with_reducible assumption) | assumption)
                        have q781 : x5_1 < (l0.length : Int) := of_decide_eq_true (by first | (with_reducible assumption) | assumption)
                        obtain ⟨ad781, e781, hx781_0, hx781_1, hx781_2, hx781_3, hx781_4, hx781_5, hx781_6⟩ := at_T73 HR0.out x5_1 p781 q781
                        obtain rfl : ad780 = ad781 := (by injection e781)
                        replace hx781_0 := (HB.out.cell (World.block_lt_of_cell? w _ hx781_0)).trans hx781_0
                        replace hx781_1 := (HB.out.cell (World.block_lt_of_cell? w _ hx781_1)).trans hx781_1
                        replace hx781_2 := (HB.out.cell (World.block_lt_of_cell? w _ hx781_2)).trans hx781_2
                        replace hx781_3 := (HB.out.cell (World.block_lt_of_cell? w _ hx781_3)).trans hx781_3
                        replace hx781_4 := (HB.out.cell (World.block_lt_of_cell? w _ hx781_4)).trans hx781_4
                        replace hx781_5 := (HB.out.cell (World.block_lt_of_cell? w _ hx781_5)).trans hx781_5
                        replace hx781_6 := (HB.out.cell (World.block_lt_of_cell? w _ hx781_6)).trans hx781_6
                        replace p781 := eq_true p781
                        replace q781 := eq_true q781
                        try go_wp2
                        have n0_ := Aside0.mk (below_drew1 HB.out)
                        clear HB; have HB := n0_; clear n0_
                        have p782 : 0 ≤ (x5_1 : Int) := of_decide_eq_true (by first | (with_reducible assumption) | assumption)
                        have q782 : x5_1 < (l0.length : Int) := of_decide_eq_true (by first | (with_reducible assumption) | assumption)
                        obtain ⟨ad782, e782, hx782_0, hx782_1, hx782_2, hx782_3, hx782_4, hx782_5, hx782_6⟩ := at_T73 HR0.out x5_1 p782 q782
                        have hw782_6 := hx782_6
                        have hw782_5 := hx782_5
                        have hw782_4 := hx782_4
                        have hw782_3 := hx782_3
                        have hw782_2 := hx782_2
                        have hw782_1 := hx782_1
                        have hw782_0 := hx782_0
                        obtain rfl : ad780 = ad782 := (by injection e782)
                        replace hx782_0 := (HB.out.cell (World.block_lt_of_cell? w _ hx782_0)).trans hx782_0
                        replace hx782_1 := (HB.out.cell (World.block_lt_of_cell? w _ hx782_1)).trans hx782_1
                        replace hx782_2 := (HB.out.cell (World.block_lt_of_cell? w _ hx782_2)).trans hx782_2
                        replace hx782_3 := (HB.out.cell (World.block_lt_of_cell? w _ hx782_3)).trans hx782_3
                        replace hx782_4 := (HB.out.cell (World.block_lt_of_cell? w _ hx782_4)).trans hx782_4
                        replace hx782_5 := (HB.out.cell (World.block_lt_of_cell? w _ hx782_5)).trans hx782_5
                        replace hx782_6 := (HB.out.cell (World.block_lt_of_cell? w _ hx782_6)).trans hx782_6
                        replace p782 := eq_true p782
                        replace q782 := eq_true q782
                        refine start_ (n := 8) (S := fun w' => w'.cell? (ad780.add ((x5_1).toNat * 7)) = some (.int .i64 ((rd_T73 l0 x5_1).f0)) ∧ w'.cell? ⟨(ad780.add ((x5_1).toNat * 7)).block, (ad780.add ((x5_1).toNat * 7)).off + 1, none⟩ = some (.int .i64 ((rd_T73 l0 x5_1).f1)) ∧ w'.cell? ⟨(ad780.add ((x5_1).toNat * 7)).block, (ad780.add ((x5_1).toNat * 7)).off + 2, none⟩ = some (.string ((rd_T73 l0 x5_1).f2)) ∧ w'.cell? ⟨(ad780.add ((x5_1).toNat * 7)).block, (ad780.add ((x5_1).toNat * 7)).off + 3, none⟩ = some (.int .i64 ((rd_T73 l0 x5_1).f3)) ∧ w'.cell? ⟨(ad780.add ((x5_1).toNat * 7)).block, (ad780.add ((x5_1).toNat * 7)).off + 4, none⟩ = some (.string ((rd_T73 l0 x5_1).f4)) ∧ w'.cell? ⟨(ad780.add ((x5_1).toNat * 7)).block, (ad780.add ((x5_1).toNat * 7)).off + 5, none⟩ = some (.int .i64 ((rd_T73 l0 x5_1).f5)) ∧ w'.cell? ⟨(ad780.add ((x5_1).toNat * 7)).block, (ad780.add ((x5_1).toNat * 7)).off + 6, none⟩ = some (.string ((rd_T73 l0 x5_1).f6))) (ds := []) #[false, false, false, false, false, false, false, false] (by kernel_rfl) rfl rfl ⟨((HB.out.cell (World.block_lt_of_cell? w _ hw782_0)).trans hw782_0), ((HB.out.cell (World.block_lt_of_cell? w _ hw782_1)).trans hw782_1), ((HB.out.cell (World.block_lt_of_cell? w _ hw782_2)).trans hw782_2), ((HB.out.cell (World.block_lt_of_cell? w _ hw782_3)).trans hw782_3), ((HB.out.cell (World.block_lt_of_cell? w _ hw782_4)).trans hw782_4), ((HB.out.cell (World.block_lt_of_cell? w _ hw782_5)).trans hw782_5), ((HB.out.cell (World.block_lt_of_cell? w _ hw782_6)).trans hw782_6)⟩ (fun hHeld => ?_); refine with_tabW laws_heldOpS.tab10 laws_heldOpS.bits10 (fun HT_ HW_ => ?_)
                        generalize wr.drew = w15 at HB hx782_0 hx782_1 hx782_2 hx782_3 hx782_4 hx782_5 hx782_6 hHeld ⊢
                        refine pure_ (i := 0) (N := some 30) (v := ?_) (a' := ?_) #[true, false, false, false, false, false, false, false] rfl rfl (any_of HT_.out (by kernel_rfl)) (fun _ _ _ h => h) (Or.inl ⟨by rfl, ?_⟩) ?_ ?_
                        rotate_left
                        · intro w'
                          go_simp
                          with_reducible rfl
                        rotate_left
                        · simp only [Act.put, List.setIfInBounds_toArray, List.set_cons_zero, List.set_cons_succ, i64_w, i32_w]
                          rfl
                        refine pure_ (i := 1) (N := some 31) (v := ?_) (a' := ?_) #[true, true, false, false, false, false, false, false] rfl rfl (any_of HT_.out (by kernel_rfl)) (fun _ _ _ h => h) (Or.inl ⟨by rfl, ?_⟩) ?_ ?_
                        rotate_left
                        · intro w'
                          go_simp
                          with_reducible rfl
                        rotate_left
                        · simp only [Act.put, List.setIfInBounds_toArray, List.set_cons_zero, List.set_cons_succ, i64_w, i32_w]
                          rfl
                        refine pure_ (i := 2) (N := some 32) (v := ?_) (a' := ?_) #[true, true, true, false, false, false, false, false] rfl rfl (any_of HT_.out (by kernel_rfl)) (fun _ _ _ h => h) (Or.inl ⟨by rfl, ?_⟩) ?_ ?_
                        rotate_left
                        · intro w'
                          go_simp
                          with_reducible rfl
                        rotate_left
                        · simp only [Act.put, List.setIfInBounds_toArray, List.set_cons_zero, List.set_cons_succ, i64_w, i32_w]
                          rfl
                        refine pure_ (i := 3) (N := some 33) (v := ?_) (a' := ?_) #[true, true, true, true, false, false, false, false] rfl rfl (any_of HT_.out (by kernel_rfl)) (fun _ _ _ h => h) (Or.inl ⟨by rfl, ?_⟩) ?_ ?_
                        rotate_left
                        · intro w'
                          go_simp
                          with_reducible rfl
                        rotate_left
                        · simp only [Act.put, List.setIfInBounds_toArray, List.set_cons_zero, List.set_cons_succ, i64_w, i32_w]
                          rfl
                        refine pure_ (i := 5) (N := some 35) (v := ?_) (a' := ?_) #[true, true, true, true, false, true, false, false] rfl rfl (any_of HT_.out (by kernel_rfl)) (fun _ _ _ h => h) (Or.inl ⟨by rfl, ?_⟩) ?_ ?_
                        rotate_left
                        · intro w'
                          go_simp
                          with_reducible rfl
                        rotate_left
                        · simp only [Act.put, List.setIfInBounds_toArray, List.set_cons_zero, List.set_cons_succ, i64_w, i32_w]
                          rfl
                        refine take_ (i := 4) (N := some 34) (v := ?_) (a' := ?_) #[true, true, true, true, true, true, false, false] rfl rfl (take_ofW HT_.out HW_.out (by kernel_rfl)) (fun _ _ _ h => h) (Or.inl ⟨by rfl, ?_⟩) hHeld ?_ ?_
                        rotate_left
                        · rintro w' ⟨s0, s1, s2, s3, s4, s5, s6⟩
                          go_simp
                          with_reducible rfl
                        rotate_left
                        · simp only [Act.put, List.setIfInBounds_toArray, List.set_cons_zero, List.set_cons_succ, i64_w, i32_w]
                          rfl
                        refine one_ (i := 6) (N := some 36) #[true, true, true, true, true, true, true, false] rfl rfl (one_of HT_.out (by kernel_rfl)) (by decide) (fun K hK => ?_)
                        refine goes_ Try.func94 (by kernel_rfl) rfl #[.int .i64 (wrap64 ((wrap64 (x1_1 + 1)) + 1))] (by rfl) rfl rfl (by (try simp only [List.map_toArray, List.map_cons, List.map_nil]); first | done | rfl | (simp only [List.length_drop, List.length_take]; rfl)) ?_
                        with_reducible refine (laws_markText.calls k1 (wrap64 ((wrap64 (x1_1 + 1)) + 1)) t783 _ A7.out).mono ?_
                        rintro e w16 ⟨rfl, hb⟩
                        refine ⟨_, rfl, ?_⟩
                        have n0_ := Aside0.mk (below_step (by repeat (first | (with_reducible first | exact HB.out | apply below_alloc | apply pw_below_drewN | apply below_drew1) | exact HB.out)) hb)
                        clear HB; have HB := n0_; clear n0_; (try clear hb); (try clear hb2); (try clear hk); (try clear hi)
                        refine hK.out _ _ ⟨((HB.out.cell (World.block_lt_of_cell? w _ hw782_0)).trans hw782_0), ((HB.out.cell (World.block_lt_of_cell? w _ hw782_1)).trans hw782_1), ((HB.out.cell (World.block_lt_of_cell? w _ hw782_2)).trans hw782_2), ((HB.out.cell (World.block_lt_of_cell? w _ hw782_3)).trans hw782_3), ((HB.out.cell (World.block_lt_of_cell? w _ hw782_4)).trans hw782_4), ((HB.out.cell (World.block_lt_of_cell? w _ hw782_5)).trans hw782_5), ((HB.out.cell (World.block_lt_of_cell? w _ hw782_6)).trans hw782_6)⟩ (fun hHeld => ?_)
                        clear hK K
                        refine norm_ (a' := ?_) ?_ ?_
                        rotate_left
                        · show Act.put _ (some 36) _ = _
                          simp only [Act.put, List.setIfInBounds_toArray, List.set_cons_zero, List.set_cons_succ, i64_w, i32_w]
                          rfl
                        refine pure_ (i := 7) (N := some 37) (v := ?_) (a' := ?_) #[true, true, true, true, true, true, true, true] rfl rfl (any_of HT_.out (by kernel_rfl)) (fun _ _ _ h => h) (Or.inl ⟨by rfl, ?_⟩) ?_ ?_
                        rotate_left
                        · intro w'
                          go_simp
                          with_reducible rfl
                        rotate_left
                        · simp only [Act.put, List.setIfInBounds_toArray, List.set_cons_zero, List.set_cons_succ, i64_w, i32_w]
                          rfl
                        refine done_ (done_of HT_.out (by kernel_rfl)) ?_
                        have p784 : 0 ≤ (x5_1 : Int) := of_decide_eq_true (by first | (with_reducible assumption) | assumption)
                        have q784 : x5_1 < (l0.length : Int) := of_decide_eq_true (by first | (with_reducible assumption) | assumption)
                        obtain ⟨ad784, e784, hx784_0, hx784_1, hx784_2, hx784_3, hx784_4, hx784_5, hx784_6⟩ := at_T73 HR0.out x5_1 p784 q784
                        obtain rfl : ad780 = ad784 := (by injection e784)
                        replace hx784_0 := (HB.out.cell (World.block_lt_of_cell? w _ hx784_0)).trans hx784_0
                        replace hx784_1 := (HB.out.cell (World.block_lt_of_cell? w _ hx784_1)).trans hx784_1
                        replace hx784_2 := (HB.out.cell (World.block_lt_of_cell? w _ hx784_2)).trans hx784_2
                        replace hx784_3 := (HB.out.cell (World.block_lt_of_cell? w _ hx784_3)).trans hx784_3
                        replace hx784_4 := (HB.out.cell (World.block_lt_of_cell? w _ hx784_4)).trans hx784_4
                        replace hx784_5 := (HB.out.cell (World.block_lt_of_cell? w _ hx784_5)).trans hx784_5
                        replace hx784_6 := (HB.out.cell (World.block_lt_of_cell? w _ hx784_6)).trans hx784_6
                        replace p784 := eq_true p784
                        replace q784 := eq_true q784
                        try go_wp2
                        have n0_ := Aside0.mk (below_drew1 HB.out)
                        clear HB; have HB := n0_; clear n0_
                        have p785 : 0 ≤ (x5_1 : Int) := of_decide_eq_true (by first | (with_reducible assumption) | assumption)
                        have q785 : x5_1 < (l0.length : Int) := of_decide_eq_true (by first | (with_reducible assumption) | assumption)
                        obtain ⟨ad785, e785, hx785_0, hx785_1, hx785_2, hx785_3, hx785_4, hx785_5, hx785_6⟩ := at_T73 HR0.out x5_1 p785 q785
                        have hw785_6 := hx785_6
                        have hw785_5 := hx785_5
                        have hw785_4 := hx785_4
                        have hw785_3 := hx785_3
                        have hw785_2 := hx785_2
                        have hw785_1 := hx785_1
                        have hw785_0 := hx785_0
                        obtain rfl : ad780 = ad785 := (by injection e785)
                        replace hx785_0 := (HB.out.cell (World.block_lt_of_cell? w _ hx785_0)).trans hx785_0
                        replace hx785_1 := (HB.out.cell (World.block_lt_of_cell? w _ hx785_1)).trans hx785_1
                        replace hx785_2 := (HB.out.cell (World.block_lt_of_cell? w _ hx785_2)).trans hx785_2
                        replace hx785_3 := (HB.out.cell (World.block_lt_of_cell? w _ hx785_3)).trans hx785_3
                        replace hx785_4 := (HB.out.cell (World.block_lt_of_cell? w _ hx785_4)).trans hx785_4
                        replace hx785_5 := (HB.out.cell (World.block_lt_of_cell? w _ hx785_5)).trans hx785_5
                        replace hx785_6 := (HB.out.cell (World.block_lt_of_cell? w _ hx785_6)).trans hx785_6
                        replace p785 := eq_true p785
                        replace q785 := eq_true q785
                        refine start_ (n := 8) (S := fun w' => w'.cell? (ad780.add ((x5_1).toNat * 7)) = some (.int .i64 ((rd_T73 l0 x5_1).f0)) ∧ w'.cell? ⟨(ad780.add ((x5_1).toNat * 7)).block, (ad780.add ((x5_1).toNat * 7)).off + 1, none⟩ = some (.int .i64 ((rd_T73 l0 x5_1).f1)) ∧ w'.cell? ⟨(ad780.add ((x5_1).toNat * 7)).block, (ad780.add ((x5_1).toNat * 7)).off + 2, none⟩ = some (.string ((rd_T73 l0 x5_1).f2)) ∧ w'.cell? ⟨(ad780.add ((x5_1).toNat * 7)).block, (ad780.add ((x5_1).toNat * 7)).off + 3, none⟩ = some (.int .i64 ((rd_T73 l0 x5_1).f3)) ∧ w'.cell? ⟨(ad780.add ((x5_1).toNat * 7)).block, (ad780.add ((x5_1).toNat * 7)).off + 4, none⟩ = some (.string ((rd_T73 l0 x5_1).f4)) ∧ w'.cell? ⟨(ad780.add ((x5_1).toNat * 7)).block, (ad780.add ((x5_1).toNat * 7)).off + 5, none⟩ = some (.int .i64 ((rd_T73 l0 x5_1).f5)) ∧ w'.cell? ⟨(ad780.add ((x5_1).toNat * 7)).block, (ad780.add ((x5_1).toNat * 7)).off + 6, none⟩ = some (.string ((rd_T73 l0 x5_1).f6))) (ds := []) #[false, false, false, false, false, false, false, false] (by kernel_rfl) rfl rfl ⟨((HB.out.cell (World.block_lt_of_cell? w _ hw785_0)).trans hw785_0), ((HB.out.cell (World.block_lt_of_cell? w _ hw785_1)).trans hw785_1), ((HB.out.cell (World.block_lt_of_cell? w _ hw785_2)).trans hw785_2), ((HB.out.cell (World.block_lt_of_cell? w _ hw785_3)).trans hw785_3), ((HB.out.cell (World.block_lt_of_cell? w _ hw785_4)).trans hw785_4), ((HB.out.cell (World.block_lt_of_cell? w _ hw785_5)).trans hw785_5), ((HB.out.cell (World.block_lt_of_cell? w _ hw785_6)).trans hw785_6)⟩ (fun hHeld => ?_); refine with_tabW laws_heldOpS.tab16 laws_heldOpS.bits16 (fun HT_ HW_ => ?_)
                        generalize w16.drew = w17 at HB hx785_0 hx785_1 hx785_2 hx785_3 hx785_4 hx785_5 hx785_6 hHeld ⊢
                        refine pure_ (i := 0) (N := some 49) (v := ?_) (a' := ?_) #[true, false, false, false, false, false, false, false] rfl rfl (any_of HT_.out (by kernel_rfl)) (fun _ _ _ h => h) (Or.inl ⟨by rfl, ?_⟩) ?_ ?_
                        rotate_left
                        · intro w'
                          go_simp
                          with_reducible rfl
                        rotate_left
                        · simp only [Act.put, List.setIfInBounds_toArray, List.set_cons_zero, List.set_cons_succ, i64_w, i32_w]
                          rfl
                        refine pure_ (i := 1) (N := some 50) (v := ?_) (a' := ?_) #[true, true, false, false, false, false, false, false] rfl rfl (any_of HT_.out (by kernel_rfl)) (fun _ _ _ h => h) (Or.inl ⟨by rfl, ?_⟩) ?_ ?_
                        rotate_left
                        · intro w'
                          go_simp
                          with_reducible rfl
                        rotate_left
                        · simp only [Act.put, List.setIfInBounds_toArray, List.set_cons_zero, List.set_cons_succ, i64_w, i32_w]
                          rfl
                        refine pure_ (i := 2) (N := some 51) (v := ?_) (a' := ?_) #[true, true, true, false, false, false, false, false] rfl rfl (any_of HT_.out (by kernel_rfl)) (fun _ _ _ h => h) (Or.inl ⟨by rfl, ?_⟩) ?_ ?_
                        rotate_left
                        · intro w'
                          go_simp
                          with_reducible rfl
                        rotate_left
                        · simp only [Act.put, List.setIfInBounds_toArray, List.set_cons_zero, List.set_cons_succ, i64_w, i32_w]
                          rfl
                        refine pure_ (i := 3) (N := some 52) (v := ?_) (a' := ?_) #[true, true, true, true, false, false, false, false] rfl rfl (any_of HT_.out (by kernel_rfl)) (fun _ _ _ h => h) (Or.inl ⟨by rfl, ?_⟩) ?_ ?_
                        rotate_left
                        · intro w'
                          go_simp
                          with_reducible rfl
                        rotate_left
                        · simp only [Act.put, List.setIfInBounds_toArray, List.set_cons_zero, List.set_cons_succ, i64_w, i32_w]
                          rfl
                        refine pure_ (i := 5) (N := some 54) (v := ?_) (a' := ?_) #[true, true, true, true, false, true, false, false] rfl rfl (any_of HT_.out (by kernel_rfl)) (fun _ _ _ h => h) (Or.inl ⟨by rfl, ?_⟩) ?_ ?_
                        rotate_left
                        · intro w'
                          go_simp
                          with_reducible rfl
                        rotate_left
                        · simp only [Act.put, List.setIfInBounds_toArray, List.set_cons_zero, List.set_cons_succ, i64_w, i32_w]
                          rfl
                        refine take_ (i := 4) (N := some 53) (v := ?_) (a' := ?_) #[true, true, true, true, true, true, false, false] rfl rfl (take_ofW HT_.out HW_.out (by kernel_rfl)) (fun _ _ _ h => h) (Or.inl ⟨by rfl, ?_⟩) hHeld ?_ ?_
                        rotate_left
                        · rintro w' ⟨s0, s1, s2, s3, s4, s5, s6⟩
                          go_simp
                          with_reducible rfl
                        rotate_left
                        · simp only [Act.put, List.setIfInBounds_toArray, List.set_cons_zero, List.set_cons_succ, i64_w, i32_w]
                          rfl
                        refine one_ (i := 6) (N := some 55) #[true, true, true, true, true, true, true, false] rfl rfl (one_of HT_.out (by kernel_rfl)) (by decide) (fun K hK => ?_)
                        refine goes_ Try.func94 (by kernel_rfl) rfl #[.int .i64 (wrap64 ((wrap64 ((wrap64 ((wrap64 (x1_1 + 1)) + 1)) + 1)) + 1))] (by rfl) rfl rfl (by (try simp only [List.map_toArray, List.map_cons, List.map_nil]); first | done | rfl | (simp only [List.length_drop, List.length_take]; rfl)) ?_
                        with_reducible refine (laws_markText.calls k1 (wrap64 ((wrap64 ((wrap64 ((wrap64 (x1_1 + 1)) + 1)) + 1)) + 1)) t786 _ A10.out).mono ?_
                        rintro e w18 ⟨rfl, hb⟩
                        refine ⟨_, rfl, ?_⟩
                        have n0_ := Aside0.mk (below_step (by repeat (first | (with_reducible first | exact HB.out | apply below_alloc | apply pw_below_drewN | apply below_drew1) | exact HB.out)) hb)
                        clear HB; have HB := n0_; clear n0_; (try clear hb); (try clear hb2); (try clear hk); (try clear hi)
                        refine hK.out _ _ ⟨((HB.out.cell (World.block_lt_of_cell? w _ hw785_0)).trans hw785_0), ((HB.out.cell (World.block_lt_of_cell? w _ hw785_1)).trans hw785_1), ((HB.out.cell (World.block_lt_of_cell? w _ hw785_2)).trans hw785_2), ((HB.out.cell (World.block_lt_of_cell? w _ hw785_3)).trans hw785_3), ((HB.out.cell (World.block_lt_of_cell? w _ hw785_4)).trans hw785_4), ((HB.out.cell (World.block_lt_of_cell? w _ hw785_5)).trans hw785_5), ((HB.out.cell (World.block_lt_of_cell? w _ hw785_6)).trans hw785_6)⟩ (fun hHeld => ?_)
                        clear hK K
                        refine norm_ (a' := ?_) ?_ ?_
                        rotate_left
                        · show Act.put _ (some 55) _ = _
                          simp only [Act.put, List.setIfInBounds_toArray, List.set_cons_zero, List.set_cons_succ, i64_w, i32_w]
                          rfl
                        refine pure_ (i := 7) (N := some 56) (v := ?_) (a' := ?_) #[true, true, true, true, true, true, true, true] rfl rfl (any_of HT_.out (by kernel_rfl)) (fun _ _ _ h => h) (Or.inl ⟨by rfl, ?_⟩) ?_ ?_
                        rotate_left
                        · intro w'
                          go_simp
                          with_reducible rfl
                        rotate_left
                        · simp only [Act.put, List.setIfInBounds_toArray, List.set_cons_zero, List.set_cons_succ, i64_w, i32_w]
                          rfl
                        refine done_ (done_of HT_.out (by kernel_rfl)) ?_
                        have p787 : 0 ≤ (x5_1 : Int) := of_decide_eq_true (by first | (with_reducible assumption) | assumption)
                        have q787 : x5_1 < (l0.length : Int) := of_decide_eq_true (by first | (with_reducible assumption) | assumption)
                        obtain ⟨ad787, e787, hx787_0, hx787_1, hx787_2, hx787_3, hx787_4, hx787_5, hx787_6⟩ := at_T73 HR0.out x5_1 p787 q787
                        obtain rfl : ad780 = ad787 := (by injection e787)
                        replace hx787_0 := (HB.out.cell (World.block_lt_of_cell? w _ hx787_0)).trans hx787_0
                        replace hx787_1 := (HB.out.cell (World.block_lt_of_cell? w _ hx787_1)).trans hx787_1
                        replace hx787_2 := (HB.out.cell (World.block_lt_of_cell? w _ hx787_2)).trans hx787_2
                        replace hx787_3 := (HB.out.cell (World.block_lt_of_cell? w _ hx787_3)).trans hx787_3
                        replace hx787_4 := (HB.out.cell (World.block_lt_of_cell? w _ hx787_4)).trans hx787_4
                        replace hx787_5 := (HB.out.cell (World.block_lt_of_cell? w _ hx787_5)).trans hx787_5
                        replace hx787_6 := (HB.out.cell (World.block_lt_of_cell? w _ hx787_6)).trans hx787_6
                        replace p787 := eq_true p787
                        replace q787 := eq_true q787
                        try go_wp2
                        have n0_ := Aside0.mk (below_drew1 HB.out)
                        clear HB; have HB := n0_; clear n0_
                        have p788 : 0 ≤ (x5_1 : Int) := of_decide_eq_true (by first | (with_reducible assumption) | assumption)
                        have q788 : x5_1 < (l0.length : Int) := of_decide_eq_true (by first | (with_reducible assumption) | assumption)
                        obtain ⟨ad788, e788, hx788_0, hx788_1, hx788_2, hx788_3, hx788_4, hx788_5, hx788_6⟩ := at_T73 HR0.out x5_1 p788 q788
                        have hw788_6 := hx788_6
                        have hw788_5 := hx788_5
                        have hw788_4 := hx788_4
                        have hw788_3 := hx788_3
                        have hw788_2 := hx788_2
                        have hw788_1 := hx788_1
                        have hw788_0 := hx788_0
                        obtain rfl : ad780 = ad788 := (by injection e788)
                        replace hx788_0 := (HB.out.cell (World.block_lt_of_cell? w _ hx788_0)).trans hx788_0
                        replace hx788_1 := (HB.out.cell (World.block_lt_of_cell? w _ hx788_1)).trans hx788_1
                        replace hx788_2 := (HB.out.cell (World.block_lt_of_cell? w _ hx788_2)).trans hx788_2
                        replace hx788_3 := (HB.out.cell (World.block_lt_of_cell? w _ hx788_3)).trans hx788_3
                        replace hx788_4 := (HB.out.cell (World.block_lt_of_cell? w _ hx788_4)).trans hx788_4
                        replace hx788_5 := (HB.out.cell (World.block_lt_of_cell? w _ hx788_5)).trans hx788_5
                        replace hx788_6 := (HB.out.cell (World.block_lt_of_cell? w _ hx788_6)).trans hx788_6
                        replace p788 := eq_true p788
                        replace q788 := eq_true q788
                        refine start_ (n := 8) (S := fun w' => w'.cell? (ad780.add ((x5_1).toNat * 7)) = some (.int .i64 ((rd_T73 l0 x5_1).f0)) ∧ w'.cell? ⟨(ad780.add ((x5_1).toNat * 7)).block, (ad780.add ((x5_1).toNat * 7)).off + 1, none⟩ = some (.int .i64 ((rd_T73 l0 x5_1).f1)) ∧ w'.cell? ⟨(ad780.add ((x5_1).toNat * 7)).block, (ad780.add ((x5_1).toNat * 7)).off + 2, none⟩ = some (.string ((rd_T73 l0 x5_1).f2)) ∧ w'.cell? ⟨(ad780.add ((x5_1).toNat * 7)).block, (ad780.add ((x5_1).toNat * 7)).off + 3, none⟩ = some (.int .i64 ((rd_T73 l0 x5_1).f3)) ∧ w'.cell? ⟨(ad780.add ((x5_1).toNat * 7)).block, (ad780.add ((x5_1).toNat * 7)).off + 4, none⟩ = some (.string ((rd_T73 l0 x5_1).f4)) ∧ w'.cell? ⟨(ad780.add ((x5_1).toNat * 7)).block, (ad780.add ((x5_1).toNat * 7)).off + 5, none⟩ = some (.int .i64 ((rd_T73 l0 x5_1).f5)) ∧ w'.cell? ⟨(ad780.add ((x5_1).toNat * 7)).block, (ad780.add ((x5_1).toNat * 7)).off + 6, none⟩ = some (.string ((rd_T73 l0 x5_1).f6))) (ds := []) #[false, false, false, false, false, false, false, false] (by kernel_rfl) rfl rfl ⟨((HB.out.cell (World.block_lt_of_cell? w _ hw788_0)).trans hw788_0), ((HB.out.cell (World.block_lt_of_cell? w _ hw788_1)).trans hw788_1), ((HB.out.cell (World.block_lt_of_cell? w _ hw788_2)).trans hw788_2), ((HB.out.cell (World.block_lt_of_cell? w _ hw788_3)).trans hw788_3), ((HB.out.cell (World.block_lt_of_cell? w _ hw788_4)).trans hw788_4), ((HB.out.cell (World.block_lt_of_cell? w _ hw788_5)).trans hw788_5), ((HB.out.cell (World.block_lt_of_cell? w _ hw788_6)).trans hw788_6)⟩ (fun hHeld => ?_); refine with_tabW laws_heldOpS.tab22 laws_heldOpS.bits22 (fun HT_ HW_ => ?_)
                        generalize w18.drew = w19 at HB hx788_0 hx788_1 hx788_2 hx788_3 hx788_4 hx788_5 hx788_6 hHeld ⊢
                        refine pure_ (i := 0) (N := some 68) (v := ?_) (a' := ?_) #[true, false, false, false, false, false, false, false] rfl rfl (any_of HT_.out (by kernel_rfl)) (fun _ _ _ h => h) (Or.inl ⟨by rfl, ?_⟩) ?_ ?_
                        rotate_left
                        · intro w'
                          go_simp
                          with_reducible rfl
                        rotate_left
                        · simp only [Act.put, List.setIfInBounds_toArray, List.set_cons_zero, List.set_cons_succ, i64_w, i32_w]
                          rfl
                        refine pure_ (i := 1) (N := some 69) (v := ?_) (a' := ?_) #[true, true, false, false, false, false, false, false] rfl rfl (any_of HT_.out (by kernel_rfl)) (fun _ _ _ h => h) (Or.inl ⟨by rfl, ?_⟩) ?_ ?_
                        rotate_left
                        · intro w'
                          go_simp
                          with_reducible rfl
                        rotate_left
                        · simp only [Act.put, List.setIfInBounds_toArray, List.set_cons_zero, List.set_cons_succ, i64_w, i32_w]
                          rfl
                        refine pure_ (i := 2) (N := some 70) (v := ?_) (a' := ?_) #[true, true, true, false, false, false, false, false] rfl rfl (any_of HT_.out (by kernel_rfl)) (fun _ _ _ h => h) (Or.inl ⟨by rfl, ?_⟩) ?_ ?_
                        rotate_left
                        · intro w'
                          go_simp
                          with_reducible rfl
                        rotate_left
                        · simp only [Act.put, List.setIfInBounds_toArray, List.set_cons_zero, List.set_cons_succ, i64_w, i32_w]
                          rfl
                        refine pure_ (i := 3) (N := some 71) (v := ?_) (a' := ?_) #[true, true, true, true, false, false, false, false] rfl rfl (any_of HT_.out (by kernel_rfl)) (fun _ _ _ h => h) (Or.inl ⟨by rfl, ?_⟩) ?_ ?_
                        rotate_left
                        · intro w'
                          go_simp
                          with_reducible rfl
                        rotate_left
                        · simp only [Act.put, List.setIfInBounds_toArray, List.set_cons_zero, List.set_cons_succ, i64_w, i32_w]
                          rfl
                        refine pure_ (i := 5) (N := some 73) (v := ?_) (a' := ?_) #[true, true, true, true, false, true, false, false] rfl rfl (any_of HT_.out (by kernel_rfl)) (fun _ _ _ h => h) (Or.inl ⟨by rfl, ?_⟩) ?_ ?_
                        rotate_left
                        · intro w'
                          go_simp
                          with_reducible rfl
                        rotate_left
                        · simp only [Act.put, List.setIfInBounds_toArray, List.set_cons_zero, List.set_cons_succ, i64_w, i32_w]
                          rfl
                        refine take_ (i := 4) (N := some 72) (v := ?_) (a' := ?_) #[true, true, true, true, true, true, false, false] rfl rfl (take_ofW HT_.out HW_.out (by kernel_rfl)) (fun _ _ _ h => h) (Or.inl ⟨by rfl, ?_⟩) hHeld ?_ ?_
                        rotate_left
                        · rintro w' ⟨s0, s1, s2, s3, s4, s5, s6⟩
                          go_simp
                          with_reducible rfl
                        rotate_left
                        · simp only [Act.put, List.setIfInBounds_toArray, List.set_cons_zero, List.set_cons_succ, i64_w, i32_w]
                          rfl
                        refine one_ (i := 6) (N := some 74) #[true, true, true, true, true, true, true, false] rfl rfl (one_of HT_.out (by kernel_rfl)) (by decide) (fun K hK => ?_)
                        refine goes_ Try.func94 (by kernel_rfl) rfl #[.int .i64 (wrap64 ((wrap64 ((wrap64 ((wrap64 ((wrap64 ((wrap64 (x1_1 + 1)) + 1)) + 1)) + 1)) + 1)) + 1))] (by rfl) rfl rfl (by (try simp only [List.map_toArray, List.map_cons, List.map_nil]); first | done | rfl | (simp only [List.length_drop, List.length_take]; rfl)) ?_
                        with_reducible refine (laws_markText.calls k1 (wrap64 ((wrap64 ((wrap64 ((wrap64 ((wrap64 ((wrap64 (x1_1 + 1)) + 1)) + 1)) + 1)) + 1)) + 1)) t789 _ A13.out).mono ?_
                        rintro e w20 ⟨rfl, hb⟩
                        refine ⟨_, rfl, ?_⟩
                        have n0_ := Aside0.mk (below_step (by repeat (first | (with_reducible first | exact HB.out | apply below_alloc | apply pw_below_drewN | apply below_drew1) | exact HB.out)) hb)
                        clear HB; have HB := n0_; clear n0_; (try clear hb); (try clear hb2); (try clear hk); (try clear hi)
                        refine hK.out _ _ ⟨((HB.out.cell (World.block_lt_of_cell? w _ hw788_0)).trans hw788_0), ((HB.out.cell (World.block_lt_of_cell? w _ hw788_1)).trans hw788_1), ((HB.out.cell (World.block_lt_of_cell? w _ hw788_2)).trans hw788_2), ((HB.out.cell (World.block_lt_of_cell? w _ hw788_3)).trans hw788_3), ((HB.out.cell (World.block_lt_of_cell? w _ hw788_4)).trans hw788_4), ((HB.out.cell (World.block_lt_of_cell? w _ hw788_5)).trans hw788_5), ((HB.out.cell (World.block_lt_of_cell? w _ hw788_6)).trans hw788_6)⟩ (fun hHeld => ?_)
                        clear hK K
                        refine norm_ (a' := ?_) ?_ ?_
                        rotate_left
                        · show Act.put _ (some 74) _ = _
                          simp only [Act.put, List.setIfInBounds_toArray, List.set_cons_zero, List.set_cons_succ, i64_w, i32_w]
                          rfl
                        refine pure_ (i := 7) (N := some 75) (v := ?_) (a' := ?_) #[true, true, true, true, true, true, true, true] rfl rfl (any_of HT_.out (by kernel_rfl)) (fun _ _ _ h => h) (Or.inl ⟨by rfl, ?_⟩) ?_ ?_
                        rotate_left
                        · intro w'
                          go_simp
                          with_reducible rfl
                        rotate_left
                        · simp only [Act.put, List.setIfInBounds_toArray, List.set_cons_zero, List.set_cons_succ, i64_w, i32_w]
                          rfl
                        refine done_ (done_of HT_.out (by kernel_rfl)) ?_
                        try go_wp2
                        go_roundg k1
                        case measure => have := HK1.out; omega
                        case rel => exact ⟨(wrap64 ((wrap64 ((wrap64 ((wrap64 ((wrap64 ((wrap64 ((wrap64 (x1_1 + 1)) + 1)) + 1)) + 1)) + 1)) + 1)) + 1)), (wrap64 (x5_1 + 1)), (by first | rfl | (simp; done) | (simp [*]; done)), (by first | rfl | (simp; done) | (simp [*]; done)), H', ⟨by have := HK1.out; omega⟩, ⟨by repeat (first | (with_reducible first | exact HB.out | apply below_alloc | apply pw_below_drewN | apply below_drew1) | exact HB.out)⟩⟩
                      · rw [if_neg c14] at H
                        have c14b0 : (((rd_T73 l0 x5_1).f6).toList == t789.toList) = false := beq_eq_false_iff_ne.mpr c14
                        have c14b1 : (((rd_T73 l0 x5_1).f6).toList != t789.toList) = true := bne_iff_ne.mpr c14
                        cases H
                    · rw [if_neg c12] at H
                      have c12b0 : (((rd_T73 l0 x5_1).f5) == (wrap64 ((wrap64 ((wrap64 ((wrap64 ((wrap64 (x1_1 + 1)) + 1)) + 1)) + 1)) + 1))) = false := beq_eq_false_iff_ne.mpr c12
                      have c12b1 : (((rd_T73 l0 x5_1).f5) != (wrap64 ((wrap64 ((wrap64 ((wrap64 ((wrap64 (x1_1 + 1)) + 1)) + 1)) + 1)) + 1))) = true := bne_iff_ne.mpr c12
                      cases H
                  · rw [if_neg c11] at H
                    have c11b0 : (((rd_T73 l0 x5_1).f4).toList == t786.toList) = false := beq_eq_false_iff_ne.mpr c11
                    have c11b1 : (((rd_T73 l0 x5_1).f4).toList != t786.toList) = true := bne_iff_ne.mpr c11
                    cases H
                · rw [if_neg c9] at H
                  have c9b0 : (((rd_T73 l0 x5_1).f3) == (wrap64 ((wrap64 ((wrap64 (x1_1 + 1)) + 1)) + 1))) = false := beq_eq_false_iff_ne.mpr c9
                  have c9b1 : (((rd_T73 l0 x5_1).f3) != (wrap64 ((wrap64 ((wrap64 (x1_1 + 1)) + 1)) + 1))) = true := bne_iff_ne.mpr c9
                  cases H
              · rw [if_neg c8] at H
                have c8b0 : (((rd_T73 l0 x5_1).f2).toList == t783.toList) = false := beq_eq_false_iff_ne.mpr c8
                have c8b1 : (((rd_T73 l0 x5_1).f2).toList != t783.toList) = true := bne_iff_ne.mpr c8
                cases H
            · rw [if_neg c6] at H
              have c6b0 : (((rd_T73 l0 x5_1).f1) == (wrap64 (x1_1 + 1))) = false := beq_eq_false_iff_ne.mpr c6
              have c6b1 : (((rd_T73 l0 x5_1).f1) != (wrap64 (x1_1 + 1))) = true := bne_iff_ne.mpr c6
              cases H
          · rw [if_neg c5] at H
            have c5b0 : (((rd_T73 l0 x5_1).f0) == x1_1) = false := beq_eq_false_iff_ne.mpr c5
            have c5b1 : (((rd_T73 l0 x5_1).f0) != x1_1) = true := bne_iff_ne.mpr c5
            cases H
        · rw [if_neg c4] at H
          exact absurd H (by simp)
      · rw [if_neg c3] at H
        have c3b0 : decide (x5_1 < (l0.length : Int)) = false := decide_eq_false c3
        clear c3
        obtain rfl := Option.some.inj H
        go_wp2
        go_ret
        exact ⟨by first | rfl | (simp [errW_none, errW_some] <;> rfl) | (simp [*, errW_none, errW_some] <;> rfl), by repeat (first | (with_reducible first | exact HB.out | apply below_alloc | apply pw_below_drewN | apply below_drew1) | exact HB.out)⟩
end Go.Proofs.Ytlaichooanflaaa.Q
namespace Go.Proofs.Ytlaichooanflaaa.Q
open Go.RowKit Go.Proofs.YtlaichooanflaaaW.PrintWords Go.Proofs.YtlaichooanflaaaW.PrintLast Go.Proofs.YtlaichooanflaaaW.PrintMore
attribute [local go_sem] Go.Proofs.Ytlaichooanflaaa.Mem.str_leq Go.Proofs.Ytlaichooanflaaa.Mem.str_gtr Go.Proofs.Ytlaichooanflaaa.Mem.str_geq max2_int min2_int max_two min_two max_three min_three max_four min_four   -- for this text's walks alone
set_option linter.unusedVariables false
set_option linter.unusedSimpArgs false
def laws_FnExactSlimMoves.j0 : Nat → List (S91) → List (S73) → List (S73) → Bool → Option (Bool)
  | 0, _, _, _, _ => none
  | k + 1, x0, x4, x6, x42 => if x42 = true then (none) else ((laws_markOpS.f k x6 1).bind fun bt811 => ((laws_heldOpS.f k bt811.2 1).bind fun t813 => (if t813 < 0 then (none) else (if t813 = bt811.1 then ((laws_toOpS.f k x0).bind fun t814 => ((impl_SlimMoves.f k t814).bind fun t817 => ((laws_eqOpS.f k t817 x4).bind fun t820 => (if t820 = true then ((laws_heldOpS.f k bt811.2 1).bind fun t821 => (if t821 < 0 then (none) else (if t821 = bt811.1 then (some true) else (none)))) else (none))))) else (none)))))
def laws_FnExactSlimMoves.f (k : Nat) (l0 : List (S91)) : Option (Bool) := (laws_szOpS.f k l0 1048576).bind fun t790 => (if t790 < 0 then (some true) else ((laws_toOpS.f k l0).bind fun t791 => ((spec_SlimMoves.f k t791).bind fun t794 => ((laws_toOpS.f k l0).bind fun t797 => ((impl_SlimMoves.f k t797).bind fun t800 => ((laws_eqOpS.f k t800 t794).bind fun t803 => (if t803 = true then ((laws_toOpS.f k l0).bind fun t804 => ((laws_eqOpS.f k t797 t804).bind fun t807 => (if t807 = true then ((laws_markOpS.f k t797 1).bind fun bt808 => (if bt808.1 < 0 then (laws_FnExactSlimMoves.j0 k l0 t794 t800 true) else ((laws_eqOpS.f k t800 t794).bind fun t810 => (laws_FnExactSlimMoves.j0 k l0 t794 t800 (!t810))))) else (none)))) else (none))))))))
set_option maxHeartbeats 8000000 in
set_option maxRecDepth 100000 in
theorem laws_FnExactSlimMoves.calls (k : Nat) (A0 : Option Addr) (c0 : Nat) (l0 : List (S91)) (r : Bool) (w : World) (hr0 : Kd.C k91 w A0 l0.length l0) (hc0 : l0.length ≤ c0) (h : laws_FnExactSlimMoves.f k l0 = some r) :
    Calls Try.prog 8 #[.slice A0 l0.length c0] w fun e w' => e = .returned (.bool r) ∧ Below w.heap.size w w' := by
  have HR0 := Aside0.mk hr0
  have HC0 := Aside0.mk hc0
  clear hr0 hc0
  have HB := Aside0.mk (Below.refl w.heap.size w)
  have H : ((laws_szOpS.f k l0 1048576).bind fun t790 => (if t790 < 0 then (some true) else ((laws_toOpS.f k l0).bind fun t791 => ((spec_SlimMoves.f k t791).bind fun t794 => ((laws_toOpS.f k l0).bind fun t797 => ((impl_SlimMoves.f k t797).bind fun t800 => ((laws_eqOpS.f k t800 t794).bind fun t803 => (if t803 = true then ((laws_toOpS.f k l0).bind fun t804 => ((laws_eqOpS.f k t797 t804).bind fun t807 => (if t807 = true then ((laws_markOpS.f k t797 1).bind fun bt808 => (if bt808.1 < 0 then (laws_FnExactSlimMoves.j0 k l0 t794 t800 true) else ((laws_eqOpS.f k t800 t794).bind fun t810 => (laws_FnExactSlimMoves.j0 k l0 t794 t800 (!t810))))) else (none)))) else (none))))))))) = some r := h
  clear h
  replace H := Option.bind_eq_some_iff.mp H
  obtain ⟨t790, A20, H⟩ := H
  replace H : (if t790 < 0 then (some true) else ((laws_toOpS.f k l0).bind fun t791 => ((spec_SlimMoves.f k t791).bind fun t794 => ((laws_toOpS.f k l0).bind fun t797 => ((impl_SlimMoves.f k t797).bind fun t800 => ((laws_eqOpS.f k t800 t794).bind fun t803 => (if t803 = true then ((laws_toOpS.f k l0).bind fun t804 => ((laws_eqOpS.f k t797 t804).bind fun t807 => (if t807 = true then ((laws_markOpS.f k t797 1).bind fun bt808 => (if bt808.1 < 0 then (laws_FnExactSlimMoves.j0 k l0 t794 t800 true) else ((laws_eqOpS.f k t800 t794).bind fun t810 => (laws_FnExactSlimMoves.j0 k l0 t794 t800 (!t810))))) else (none)))) else (none)))))))) = some r := H
  have A2 := Aside0.mk A20
  clear A20
  by_cases c3 : t790 < 0
  · rw [if_pos c3] at H
    have c3b0 : decide (t790 < 0) = true := decide_eq_true c3
    clear c3
    obtain rfl := Option.some.inj H
    go_enter Try.func8, Try.ntmps8
    go_wp2_with (first | ((with_reducible refine gate_callee (f := 29) rfl ?_); refine goesL_ (some 13) rfl rfl Try.func29 (by kernel_rfl) rfl #[.slice A0 l0.length c0, .int .i64 1048576] rfl (by (try simp only [List.map_toArray, List.map_cons, List.map_nil]); first | done | rfl | (simp only [List.length_drop, List.length_take]; rfl)) ?_; (with_reducible refine (laws_szOpS.calls k _ _ l0 1048576 t790 _ ?side1 ?side2 A2.out).mono ?_); (case side1 => repeat (first | exact HR0.out | (with_reducible refine Kd.C_alloc ?_ _) | (with_reducible refine Kd.C_drewN ?_ _) | (with_reducible refine Kd.C_drew ?_))); (case side2 => exact HC0.out); rintro e w4 ⟨rfl, hb⟩; refine ⟨_, rfl, ?_⟩; have n0_ := Aside0.mk (below_step (by repeat (first | (with_reducible first | exact HB.out | apply below_alloc | apply pw_below_drewN | apply below_drew1) | exact HB.out)) hb); clear HB; have HB := n0_; clear n0_; (try clear hb); (try clear hb2); (try clear hk); (try clear hi)))
    go_ret
    exact ⟨by first | rfl | (simp [errW_none, errW_some] <;> rfl) | (simp [*, errW_none, errW_some] <;> rfl), by repeat (first | (with_reducible first | exact HB.out | apply below_alloc | apply pw_below_drewN | apply below_drew1) | exact HB.out)⟩
  · rw [if_neg c3] at H
    have c3b0 : decide (t790 < 0) = false := decide_eq_false c3
    clear c3
    replace H := Option.bind_eq_some_iff.mp H
    obtain ⟨t791, A50, H⟩ := H
    replace H : ((spec_SlimMoves.f k t791).bind fun t794 => ((laws_toOpS.f k l0).bind fun t797 => ((impl_SlimMoves.f k t797).bind fun t800 => ((laws_eqOpS.f k t800 t794).bind fun t803 => (if t803 = true then ((laws_toOpS.f k l0).bind fun t804 => ((laws_eqOpS.f k t797 t804).bind fun t807 => (if t807 = true then ((laws_markOpS.f k t797 1).bind fun bt808 => (if bt808.1 < 0 then (laws_FnExactSlimMoves.j0 k l0 t794 t800 true) else ((laws_eqOpS.f k t800 t794).bind fun t810 => (laws_FnExactSlimMoves.j0 k l0 t794 t800 (!t810))))) else (none)))) else (none)))))) = some r := H
    have A5 := Aside0.mk A50
    clear A50
    replace H := Option.bind_eq_some_iff.mp H
    obtain ⟨t794, A60, H⟩ := H
    replace H : ((laws_toOpS.f k l0).bind fun t797 => ((impl_SlimMoves.f k t797).bind fun t800 => ((laws_eqOpS.f k t800 t794).bind fun t803 => (if t803 = true then ((laws_toOpS.f k l0).bind fun t804 => ((laws_eqOpS.f k t797 t804).bind fun t807 => (if t807 = true then ((laws_markOpS.f k t797 1).bind fun bt808 => (if bt808.1 < 0 then (laws_FnExactSlimMoves.j0 k l0 t794 t800 true) else ((laws_eqOpS.f k t800 t794).bind fun t810 => (laws_FnExactSlimMoves.j0 k l0 t794 t800 (!t810))))) else (none)))) else (none))))) = some r := H
    have A6 := Aside0.mk A60
    clear A60
    replace H := Option.bind_eq_some_iff.mp H
    obtain ⟨t797, A70, H⟩ := H
    replace H : ((impl_SlimMoves.f k t797).bind fun t800 => ((laws_eqOpS.f k t800 t794).bind fun t803 => (if t803 = true then ((laws_toOpS.f k l0).bind fun t804 => ((laws_eqOpS.f k t797 t804).bind fun t807 => (if t807 = true then ((laws_markOpS.f k t797 1).bind fun bt808 => (if bt808.1 < 0 then (laws_FnExactSlimMoves.j0 k l0 t794 t800 true) else ((laws_eqOpS.f k t800 t794).bind fun t810 => (laws_FnExactSlimMoves.j0 k l0 t794 t800 (!t810))))) else (none)))) else (none)))) = some r := H
    have A7 := Aside0.mk A70
    clear A70
    replace H := Option.bind_eq_some_iff.mp H
    obtain ⟨t800, A80, H⟩ := H
    replace H : ((laws_eqOpS.f k t800 t794).bind fun t803 => (if t803 = true then ((laws_toOpS.f k l0).bind fun t804 => ((laws_eqOpS.f k t797 t804).bind fun t807 => (if t807 = true then ((laws_markOpS.f k t797 1).bind fun bt808 => (if bt808.1 < 0 then (laws_FnExactSlimMoves.j0 k l0 t794 t800 true) else ((laws_eqOpS.f k t800 t794).bind fun t810 => (laws_FnExactSlimMoves.j0 k l0 t794 t800 (!t810))))) else (none)))) else (none))) = some r := H
    have A8 := Aside0.mk A80
    clear A80
    replace H := Option.bind_eq_some_iff.mp H
    obtain ⟨t803, A90, H⟩ := H
    replace H : (if t803 = true then ((laws_toOpS.f k l0).bind fun t804 => ((laws_eqOpS.f k t797 t804).bind fun t807 => (if t807 = true then ((laws_markOpS.f k t797 1).bind fun bt808 => (if bt808.1 < 0 then (laws_FnExactSlimMoves.j0 k l0 t794 t800 true) else ((laws_eqOpS.f k t800 t794).bind fun t810 => (laws_FnExactSlimMoves.j0 k l0 t794 t800 (!t810))))) else (none)))) else (none)) = some r := H
    have A9 := Aside0.mk A90
    clear A90
    by_cases c10 : t803 = true
    · subst c10
      have H1 : ((laws_toOpS.f k l0).bind fun t804 => ((laws_eqOpS.f k t797 t804).bind fun t807 => (if t807 = true then ((laws_markOpS.f k t797 1).bind fun bt808 => (if bt808.1 < 0 then (laws_FnExactSlimMoves.j0 k l0 t794 t800 true) else ((laws_eqOpS.f k t800 t794).bind fun t810 => (laws_FnExactSlimMoves.j0 k l0 t794 t800 (!t810))))) else (none)))) = some r := by rw [if_pos rfl] at H; exact H
      clear H
      have H := H1
      clear H1
      replace H := Option.bind_eq_some_iff.mp H
      obtain ⟨t804, A110, H⟩ := H
      replace H : ((laws_eqOpS.f k t797 t804).bind fun t807 => (if t807 = true then ((laws_markOpS.f k t797 1).bind fun bt808 => (if bt808.1 < 0 then (laws_FnExactSlimMoves.j0 k l0 t794 t800 true) else ((laws_eqOpS.f k t800 t794).bind fun t810 => (laws_FnExactSlimMoves.j0 k l0 t794 t800 (!t810))))) else (none))) = some r := H
      have A11 := Aside0.mk A110
      clear A110
      replace H := Option.bind_eq_some_iff.mp H
      obtain ⟨t807, A120, H⟩ := H
      replace H : (if t807 = true then ((laws_markOpS.f k t797 1).bind fun bt808 => (if bt808.1 < 0 then (laws_FnExactSlimMoves.j0 k l0 t794 t800 true) else ((laws_eqOpS.f k t800 t794).bind fun t810 => (laws_FnExactSlimMoves.j0 k l0 t794 t800 (!t810))))) else (none)) = some r := H
      have A12 := Aside0.mk A120
      clear A120
      by_cases c13 : t807 = true
      · subst c13
        have H1 : ((laws_markOpS.f k t797 1).bind fun bt808 => (if bt808.1 < 0 then (laws_FnExactSlimMoves.j0 k l0 t794 t800 true) else ((laws_eqOpS.f k t800 t794).bind fun t810 => (laws_FnExactSlimMoves.j0 k l0 t794 t800 (!t810))))) = some r := by rw [if_pos rfl] at H; exact H
        clear H
        have H := H1
        clear H1
        replace H := Option.bind_eq_some_iff.mp H
        obtain ⟨⟨t808, t809⟩, A140, H⟩ := H
        replace H : (if t808 < 0 then (laws_FnExactSlimMoves.j0 k l0 t794 t800 true) else ((laws_eqOpS.f k t800 t794).bind fun t810 => (laws_FnExactSlimMoves.j0 k l0 t794 t800 (!t810)))) = some r := H
        have A14 := Aside0.mk A140
        clear A140
        have HC15 := Aside0.mk H
        clear H
        go_enter Try.func8, Try.ntmps8
        go_upto_region 14 with (first | ((with_reducible refine gate_callee (f := 29) rfl ?_); refine goesL_ (some 13) rfl rfl Try.func29 (by kernel_rfl) rfl #[.slice A0 l0.length c0, .int .i64 1048576] rfl (by (try simp only [List.map_toArray, List.map_cons, List.map_nil]); first | done | rfl | (simp only [List.length_drop, List.length_take]; rfl)) ?_; (with_reducible refine (laws_szOpS.calls k _ _ l0 1048576 t790 _ ?side1 ?side2 A2.out).mono ?_); (case side1 => repeat (first | exact HR0.out | (with_reducible refine Kd.C_alloc ?_ _) | (with_reducible refine Kd.C_drewN ?_ _) | (with_reducible refine Kd.C_drew ?_))); (case side2 => exact HC0.out); rintro e w16 ⟨rfl, hb⟩; refine ⟨_, rfl, ?_⟩; have n0_ := Aside0.mk (below_step (by repeat (first | (with_reducible first | exact HB.out | apply below_alloc | apply pw_below_drewN | apply below_drew1) | exact HB.out)) hb); clear HB; have HB := n0_; clear n0_; (try clear hb); (try clear hb2); (try clear hk); (try clear hi)) | ((with_reducible refine gate_callee (f := 32) rfl ?_); refine goesL_ (some 17) rfl rfl Try.func32 (by kernel_rfl) rfl #[.slice A0 l0.length c0] rfl (by (try simp only [List.map_toArray, List.map_cons, List.map_nil]); first | done | rfl | (simp only [List.length_drop, List.length_take]; rfl)) ?_; (with_reducible refine (laws_toOpS.calls k _ _ l0 t791 _ ?side1 ?side2 A5.out).mono ?_); (case side1 => repeat (first | exact (Kd.C_below HR0.out HB.out) | (with_reducible refine Kd.C_alloc ?_ _) | (with_reducible refine Kd.C_drewN ?_ _) | (with_reducible refine Kd.C_drew ?_))); (case side2 => exact HC0.out); rintro e w17 ⟨v792, rfl, ho0, hb⟩; refine ⟨_, rfl, ?_⟩; have n0_ := Aside0.mk (Kd.R_lower ho0 (below_size (by repeat (first | (with_reducible first | exact HB.out | apply below_alloc | apply pw_below_drewN | apply below_drew1) | exact HB.out)))); have n1_ := Aside0.mk (below_step (by repeat (first | (with_reducible first | exact HB.out | apply below_alloc | apply pw_below_drewN | apply below_drew1) | exact HB.out)) hb); clear HB; have HO793 := n0_; have HB := n1_; clear n0_ n1_; (try clear hb); (try clear hb2); (try clear hk); (try clear hi); (try clear ho0); obtain ⟨Ao18, co18, eo18⟩ := Kd.R_slice HO793.out; subst eo18) | ((with_reducible refine gate_callee (f := 50) rfl ?_); refine goesL_ (some 18) rfl rfl Try.func50 (by kernel_rfl) rfl #[.slice Ao18 t791.length co18] rfl (by (try simp only [List.map_toArray, List.map_cons, List.map_nil]); first | done | rfl | (simp only [List.length_drop, List.length_take]; rfl)) ?_; (with_reducible refine (spec_SlimMoves.calls k _ _ t791 t794 _ ?side1 ?side2 A6.out).mono ?_); (case side1 => repeat (first | exact (Kd.R_reads' HO793.out).2.2 | (with_reducible refine Kd.C_alloc ?_ _) | (with_reducible refine Kd.C_drewN ?_ _) | (with_reducible refine Kd.C_drew ?_))); (case side2 => exact (Kd.R_reads' HO793.out).2.1); rintro e w19 ⟨v795, rfl, ho0, hb⟩; refine ⟨_, rfl, ?_⟩; have n0_ := Aside0.mk (Kd.R_elder' (by (with_reducible repeat (first | apply Kd.R_alloc | apply Kd.R_drewN | apply Kd.R_drew)); exact HO793.out) (Kd.R_base ho0) hb); have n1_ := Aside0.mk (Kd.R_lower (Kd.R_new' ho0 (Kd.R_lt (by (with_reducible repeat (first | apply Kd.R_alloc | apply Kd.R_drewN | apply Kd.R_drew)); exact HO793.out))) (below_size (by repeat (first | (with_reducible first | exact HB.out | apply below_alloc | apply pw_below_drewN | apply below_drew1) | exact HB.out)))); have n2_ := Aside0.mk (below_step (by repeat (first | (with_reducible first | exact HB.out | apply below_alloc | apply pw_below_drewN | apply below_drew1) | exact HB.out)) hb); clear HO793; clear HB; have HO793 := n0_; have HO796 := n1_; have HB := n2_; clear n0_ n1_ n2_; (try clear hb); (try clear hb2); (try clear hk); (try clear hi); (try clear ho0)) | ((with_reducible refine gate_callee (f := 32) rfl ?_); refine goesL_ (some 20) rfl rfl Try.func32 (by kernel_rfl) rfl #[.slice A0 l0.length c0] rfl (by (try simp only [List.map_toArray, List.map_cons, List.map_nil]); first | done | rfl | (simp only [List.length_drop, List.length_take]; rfl)) ?_; (with_reducible refine (laws_toOpS.calls k _ _ l0 t797 _ ?side1 ?side2 A7.out).mono ?_); (case side1 => repeat (first | exact (Kd.C_below HR0.out HB.out) | (with_reducible refine Kd.C_alloc ?_ _) | (with_reducible refine Kd.C_drewN ?_ _) | (with_reducible refine Kd.C_drew ?_))); (case side2 => exact HC0.out); rintro e w20 ⟨v798, rfl, ho0, hb⟩; refine ⟨_, rfl, ?_⟩; have n0_ := Aside0.mk (Kd.R_elder' (by (with_reducible repeat (first | apply Kd.R_alloc | apply Kd.R_drewN | apply Kd.R_drew)); exact HO793.out) (Kd.R_base ho0) hb); have n1_ := Aside0.mk (Kd.R_elder' (by (with_reducible repeat (first | apply Kd.R_alloc | apply Kd.R_drewN | apply Kd.R_drew)); exact HO796.out) (Kd.R_base ho0) hb); have n2_ := Aside0.mk (Kd.R_lower (Kd.R_new' (Kd.R_new' ho0 (Kd.R_lt (by (with_reducible repeat (first | apply Kd.R_alloc | apply Kd.R_drewN | apply Kd.R_drew)); exact HO793.out))) (Kd.R_lt (by (with_reducible repeat (first | apply Kd.R_alloc | apply Kd.R_drewN | apply Kd.R_drew)); exact HO796.out))) (below_size (by repeat (first | (with_reducible first | exact HB.out | apply below_alloc | apply pw_below_drewN | apply below_drew1) | exact HB.out)))); have n3_ := Aside0.mk (below_step (by repeat (first | (with_reducible first | exact HB.out | apply below_alloc | apply pw_below_drewN | apply below_drew1) | exact HB.out)) hb); clear HO793; clear HO796; clear HB; have HO793 := n0_; have HO796 := n1_; have HO799 := n2_; have HB := n3_; clear n0_ n1_ n2_ n3_; (try clear hb); (try clear hb2); (try clear hk); (try clear hi); (try clear ho0); obtain ⟨Ao21, co21, eo21⟩ := Kd.R_slice HO799.out; subst eo21) | ((with_reducible refine gate_callee (f := 51) rfl ?_); refine goesL_ (some 22) rfl rfl Try.func51 (by kernel_rfl) rfl #[.slice Ao21 t797.length co21] rfl (by (try simp only [List.map_toArray, List.map_cons, List.map_nil]); first | done | rfl | (simp only [List.length_drop, List.length_take]; rfl)) ?_; (with_reducible refine (impl_SlimMoves.calls k _ _ t797 t800 _ ?side1 ?side2 A8.out).mono ?_); (case side1 => repeat (first | exact (Kd.R_reads' HO799.out).2.2 | (with_reducible refine Kd.C_alloc ?_ _) | (with_reducible refine Kd.C_drewN ?_ _) | (with_reducible refine Kd.C_drew ?_))); (case side2 => exact (Kd.R_reads' HO799.out).2.1); rintro e w22 ⟨v801, rfl, ho0, hb⟩; refine ⟨_, rfl, ?_⟩; have n0_ := Aside0.mk (Kd.R_elder' (by (with_reducible repeat (first | apply Kd.R_alloc | apply Kd.R_drewN | apply Kd.R_drew)); exact HO793.out) (Kd.R_base ho0) hb); have n1_ := Aside0.mk (Kd.R_elder' (by (with_reducible repeat (first | apply Kd.R_alloc | apply Kd.R_drewN | apply Kd.R_drew)); exact HO796.out) (Kd.R_base ho0) hb); have n2_ := Aside0.mk (Kd.R_elder' (by (with_reducible repeat (first | apply Kd.R_alloc | apply Kd.R_drewN | apply Kd.R_drew)); exact HO799.out) (Kd.R_base ho0) hb); have n3_ := Aside0.mk (Kd.R_lower (Kd.R_new' (Kd.R_new' (Kd.R_new' ho0 (Kd.R_lt (by (with_reducible repeat (first | apply Kd.R_alloc | apply Kd.R_drewN | apply Kd.R_drew)); exact HO793.out))) (Kd.R_lt (by (with_reducible repeat (first | apply Kd.R_alloc | apply Kd.R_drewN | apply Kd.R_drew)); exact HO796.out))) (Kd.R_lt (by (with_reducible repeat (first | apply Kd.R_alloc | apply Kd.R_drewN | apply Kd.R_drew)); exact HO799.out))) (below_size (by repeat (first | (with_reducible first | exact HB.out | apply below_alloc | apply pw_below_drewN | apply below_drew1) | exact HB.out)))); have n4_ := Aside0.mk (below_step (by repeat (first | (with_reducible first | exact HB.out | apply below_alloc | apply pw_below_drewN | apply below_drew1) | exact HB.out)) hb); clear HO793; clear HO796; clear HO799; clear HB; have HO793 := n0_; have HO796 := n1_; have HO799 := n2_; have HO802 := n3_; have HB := n4_; clear n0_ n1_ n2_ n3_ n4_; (try clear hb); (try clear hb2); (try clear hk); (try clear hi); (try clear ho0); obtain ⟨Ao23, co23, eo23⟩ := Kd.R_slice HO802.out; subst eo23; obtain ⟨Ao24, co24, eo24⟩ := Kd.R_slice HO796.out; subst eo24) | ((with_reducible refine gate_callee (f := 35) rfl ?_); refine goesL_ (some 25) rfl rfl Try.func35 (by kernel_rfl) rfl #[.slice Ao23 t800.length co23, .slice Ao24 t794.length co24] rfl (by (try simp only [List.map_toArray, List.map_cons, List.map_nil]); first | done | rfl | (simp only [List.length_drop, List.length_take]; rfl)) ?_; (with_reducible refine (laws_eqOpS.calls k _ _ t800 _ _ t794 true _ ?side1 ?side2 ?side3 ?side4 A9.out).mono ?_); (case side1 => repeat (first | exact (Kd.R_reads' HO802.out).2.2 | (with_reducible refine Kd.C_alloc ?_ _) | (with_reducible refine Kd.C_drewN ?_ _) | (with_reducible refine Kd.C_drew ?_))); (case side2 => exact (Kd.R_reads' HO802.out).2.1); (case side3 => repeat (first | exact (Kd.R_reads' HO796.out).2.2 | (with_reducible refine Kd.C_alloc ?_ _) | (with_reducible refine Kd.C_drewN ?_ _) | (with_reducible refine Kd.C_drew ?_))); (case side4 => exact (Kd.R_reads' HO796.out).2.1); rintro e w25 ⟨rfl, hb⟩; refine ⟨_, rfl, ?_⟩; have n0_ := Aside0.mk (Kd.R_below (by (with_reducible repeat (first | apply Kd.R_alloc | apply Kd.R_drewN | apply Kd.R_drew)); exact HO793.out) hb); have n1_ := Aside0.mk (Kd.R_below (by (with_reducible repeat (first | apply Kd.R_alloc | apply Kd.R_drewN | apply Kd.R_drew)); exact HO796.out) hb); have n2_ := Aside0.mk (Kd.R_below (by (with_reducible repeat (first | apply Kd.R_alloc | apply Kd.R_drewN | apply Kd.R_drew)); exact HO799.out) hb); have n3_ := Aside0.mk (Kd.R_below (by (with_reducible repeat (first | apply Kd.R_alloc | apply Kd.R_drewN | apply Kd.R_drew)); exact HO802.out) hb); have n4_ := Aside0.mk (below_step (by repeat (first | (with_reducible first | exact HB.out | apply below_alloc | apply pw_below_drewN | apply below_drew1) | exact HB.out)) hb); clear HO793; clear HO796; clear HO799; clear HO802; clear HB; have HO793 := n0_; have HO796 := n1_; have HO799 := n2_; have HO802 := n3_; have HB := n4_; clear n0_ n1_ n2_ n3_ n4_; (try clear hb); (try clear hb2); (try clear hk); (try clear hi)) | ((with_reducible refine gate_callee (f := 32) rfl ?_); refine goesL_ (some 29) rfl rfl Try.func32 (by kernel_rfl) rfl #[.slice A0 l0.length c0] rfl (by (try simp only [List.map_toArray, List.map_cons, List.map_nil]); first | done | rfl | (simp only [List.length_drop, List.length_take]; rfl)) ?_; (with_reducible refine (laws_toOpS.calls k _ _ l0 t804 _ ?side1 ?side2 A11.out).mono ?_); (case side1 => repeat (first | exact (Kd.C_below HR0.out HB.out) | (with_reducible refine Kd.C_alloc ?_ _) | (with_reducible refine Kd.C_drewN ?_ _) | (with_reducible refine Kd.C_drew ?_))); (case side2 => exact HC0.out); rintro e w26 ⟨v805, rfl, ho0, hb⟩; refine ⟨_, rfl, ?_⟩; have n0_ := Aside0.mk (Kd.R_elder' (by (with_reducible repeat (first | apply Kd.R_alloc | apply Kd.R_drewN | apply Kd.R_drew)); exact HO793.out) (Kd.R_base ho0) hb); have n1_ := Aside0.mk (Kd.R_elder' (by (with_reducible repeat (first | apply Kd.R_alloc | apply Kd.R_drewN | apply Kd.R_drew)); exact HO796.out) (Kd.R_base ho0) hb); have n2_ := Aside0.mk (Kd.R_elder' (by (with_reducible repeat (first | apply Kd.R_alloc | apply Kd.R_drewN | apply Kd.R_drew)); exact HO799.out) (Kd.R_base ho0) hb); have n3_ := Aside0.mk (Kd.R_elder' (by (with_reducible repeat (first | apply Kd.R_alloc | apply Kd.R_drewN | apply Kd.R_drew)); exact HO802.out) (Kd.R_base ho0) hb); have n4_ := Aside0.mk (Kd.R_lower (Kd.R_new' (Kd.R_new' (Kd.R_new' (Kd.R_new' ho0 (Kd.R_lt (by (with_reducible repeat (first | apply Kd.R_alloc | apply Kd.R_drewN | apply Kd.R_drew)); exact HO793.out))) (Kd.R_lt (by (with_reducible repeat (first | apply Kd.R_alloc | apply Kd.R_drewN | apply Kd.R_drew)); exact HO796.out))) (Kd.R_lt (by (with_reducible repeat (first | apply Kd.R_alloc | apply Kd.R_drewN | apply Kd.R_drew)); exact HO799.out))) (Kd.R_lt (by (with_reducible repeat (first | apply Kd.R_alloc | apply Kd.R_drewN | apply Kd.R_drew)); exact HO802.out))) (below_size (by repeat (first | (with_reducible first | exact HB.out | apply below_alloc | apply pw_below_drewN | apply below_drew1) | exact HB.out)))); have n5_ := Aside0.mk (below_step (by repeat (first | (with_reducible first | exact HB.out | apply below_alloc | apply pw_below_drewN | apply below_drew1) | exact HB.out)) hb); clear HO793; clear HO796; clear HO799; clear HO802; clear HB; have HO793 := n0_; have HO796 := n1_; have HO799 := n2_; have HO802 := n3_; have HO806 := n4_; have HB := n5_; clear n0_ n1_ n2_ n3_ n4_ n5_; (try clear hb); (try clear hb2); (try clear hk); (try clear hi); (try clear ho0); obtain ⟨Ao27, co27, eo27⟩ := Kd.R_slice HO806.out; subst eo27) | ((with_reducible refine gate_callee (f := 35) rfl ?_); refine goesL_ (some 30) rfl rfl Try.func35 (by kernel_rfl) rfl #[.slice Ao21 t797.length co21, .slice Ao27 t804.length co27] rfl (by (try simp only [List.map_toArray, List.map_cons, List.map_nil]); first | done | rfl | (simp only [List.length_drop, List.length_take]; rfl)) ?_; (with_reducible refine (laws_eqOpS.calls k _ _ t797 _ _ t804 true _ ?side1 ?side2 ?side3 ?side4 A12.out).mono ?_); (case side1 => repeat (first | exact (Kd.R_reads' HO799.out).2.2 | (with_reducible refine Kd.C_alloc ?_ _) | (with_reducible refine Kd.C_drewN ?_ _) | (with_reducible refine Kd.C_drew ?_))); (case side2 => exact (Kd.R_reads' HO799.out).2.1); (case side3 => repeat (first | exact (Kd.R_reads' HO806.out).2.2 | (with_reducible refine Kd.C_alloc ?_ _) | (with_reducible refine Kd.C_drewN ?_ _) | (with_reducible refine Kd.C_drew ?_))); (case side4 => exact (Kd.R_reads' HO806.out).2.1); rintro e w28 ⟨rfl, hb⟩; refine ⟨_, rfl, ?_⟩; have n0_ := Aside0.mk (Kd.R_below (by (with_reducible repeat (first | apply Kd.R_alloc | apply Kd.R_drewN | apply Kd.R_drew)); exact HO793.out) hb); have n1_ := Aside0.mk (Kd.R_below (by (with_reducible repeat (first | apply Kd.R_alloc | apply Kd.R_drewN | apply Kd.R_drew)); exact HO796.out) hb); have n2_ := Aside0.mk (Kd.R_below (by (with_reducible repeat (first | apply Kd.R_alloc | apply Kd.R_drewN | apply Kd.R_drew)); exact HO799.out) hb); have n3_ := Aside0.mk (Kd.R_below (by (with_reducible repeat (first | apply Kd.R_alloc | apply Kd.R_drewN | apply Kd.R_drew)); exact HO802.out) hb); have n4_ := Aside0.mk (Kd.R_below (by (with_reducible repeat (first | apply Kd.R_alloc | apply Kd.R_drewN | apply Kd.R_drew)); exact HO806.out) hb); have n5_ := Aside0.mk (below_step (by repeat (first | (with_reducible first | exact HB.out | apply below_alloc | apply pw_below_drewN | apply below_drew1) | exact HB.out)) hb); clear HO793; clear HO796; clear HO799; clear HO802; clear HO806; clear HB; have HO793 := n0_; have HO796 := n1_; have HO799 := n2_; have HO802 := n3_; have HO806 := n4_; have HB := n5_; clear n0_ n1_ n2_ n3_ n4_ n5_; (try clear hb); (try clear hb2); (try clear hk); (try clear hi)) | ((with_reducible refine gate_callee (f := 37) rfl ?_); refine goesL_ (some 34) rfl rfl Try.func37 (by kernel_rfl) rfl #[.slice Ao21 t797.length co21, .int .i64 1] rfl (by (try simp only [List.map_toArray, List.map_cons, List.map_nil]); first | done | rfl | (simp only [List.length_drop, List.length_take]; rfl)) ?_; (with_reducible refine (laws_markOpS.calls k (fun k_ => some k_ = (.slice Ao21 t797.length co21 : Value).ownBlock) (.slice Ao21 t797.length co21) t797 1 t808 t809 w _ ?side1 ?side2 A14.out).mono ?_); (case side1 => repeat (first | (with_reducible first | exact HB.out | apply below_alloc | apply pw_below_drewN | apply below_drew1) | exact HB.out)); (case side2 => exact Kd.R_tight rfl HO799.out); rintro e w29 ⟨rfl, hy0, hb, hkp⟩; refine ⟨_, rfl, ?_⟩; have n0_ := Aside0.mk (Kd.R_mono (ok' := fun k_ => some k_ ≠ (.slice Ao24 t794.length co24 : Value).ownBlock ∧ some k_ ≠ (.slice Ao21 t797.length co21 : Value).ownBlock ∧ some k_ ≠ (.slice Ao23 t800.length co23 : Value).ownBlock ∧ some k_ ≠ (.slice Ao27 t804.length co27 : Value).ownBlock) (Kd.R_keptB (HO793.out) hkp (fun k_ hk_ hs_ => (hk_.1.1.2) hs_)) (fun k_ hk_ => ⟨hk_.1.1.1.1.2, hk_.1.1.1.2, hk_.1.1.2, hk_.1.2⟩)); have n1_ := Aside0.mk (Kd.R_mono (ok' := fun k_ => some k_ ≠ (.slice Ao18 t791.length co18 : Value).ownBlock ∧ some k_ ≠ (.slice Ao21 t797.length co21 : Value).ownBlock ∧ some k_ ≠ (.slice Ao23 t800.length co23 : Value).ownBlock ∧ some k_ ≠ (.slice Ao27 t804.length co27 : Value).ownBlock) (Kd.R_keptB (HO796.out) hkp (fun k_ hk_ hs_ => (hk_.1.1.2) hs_)) (fun k_ hk_ => ⟨hk_.1.1.1.1.2, hk_.1.1.1.2, hk_.1.1.2, hk_.1.2⟩)); have n2_ := Aside0.mk (Kd.R_reok rfl hy0 (fun k_ e_ => HO799.out.1 k_ e_)); have n3_ := Aside0.mk (Kd.R_mono (ok' := fun k_ => some k_ ≠ (.slice Ao18 t791.length co18 : Value).ownBlock ∧ some k_ ≠ (.slice Ao24 t794.length co24 : Value).ownBlock ∧ some k_ ≠ (.slice Ao21 t797.length co21 : Value).ownBlock ∧ some k_ ≠ (.slice Ao27 t804.length co27 : Value).ownBlock) (Kd.R_keptB (HO802.out) hkp (fun k_ hk_ hs_ => (hk_.1.2) hs_)) (fun k_ hk_ => ⟨hk_.1.1.1.1.2, hk_.1.1.1.2, hk_.1.1.2, hk_.1.2⟩)); have n4_ := Aside0.mk (Kd.R_mono (ok' := fun k_ => some k_ ≠ (.slice Ao18 t791.length co18 : Value).ownBlock ∧ some k_ ≠ (.slice Ao24 t794.length co24 : Value).ownBlock ∧ some k_ ≠ (.slice Ao21 t797.length co21 : Value).ownBlock ∧ some k_ ≠ (.slice Ao23 t800.length co23 : Value).ownBlock) (Kd.R_keptB (HO806.out) hkp (fun k_ hk_ hs_ => (hk_.1.2) hs_)) (fun k_ hk_ => ⟨hk_.1.1.1.1.2, hk_.1.1.1.2, hk_.1.1.2, hk_.1.2⟩)); have n5_ := Aside0.mk (hb); clear HO793; clear HO796; clear HO799; clear HO802; clear HO806; clear HB; have HO793 := n0_; have HO796 := n1_; have HO799 := n2_; have HO802 := n3_; have HO806 := n4_; have HB := n5_; clear n0_ n1_ n2_ n3_ n4_ n5_; (try clear hb); (try clear hkp); (try clear hy0)))
        (try simp only [Act.put, List.setIfInBounds_toArray, List.set_cons_zero, List.set_cons_succ])
        go_cut [42] (fun v42 wc => ∃ (kq : Nat) (x42_14 : Bool), v42 = .bool x42_14 ∧ Aside0 (laws_FnExactSlimMoves.j0 kq l0 t794 t800 x42_14 = some r) ∧ Aside0 (kq ≤ k) ∧ Aside0 (Kd.R k73 73 wc w.heap.size (fun k_ => some k_ ≠ ((.slice Ao23 t800.length co23) : Value).ownBlock) (.slice Ao24 t794.length co24) t794) ∧ Aside0 (Kd.R k73 73 wc w.heap.size (fun k_ => some k_ ≠ ((.slice Ao24 t794.length co24) : Value).ownBlock) (.slice Ao23 t800.length co23) t800) ∧ Aside0 (Below w.heap.size w wc))
        case first =>
          have H := HC15.out
          clear HC15
          by_cases c30 : t808 < 0
          · rw [if_pos c30] at H
            have c30b0 : decide (t808 < 0) = true := decide_eq_true c30
            clear c30
            (first | rw [c30b0] | (simp only [i64_w, i32_w]; rw [c30b0]) | skip)
            have H' := Aside0.mk H
            clear H
            go_wp2
            go_meet
            case rel => exact ⟨_, (true), (by first | rfl | (simp; done) | (simp [*]; done)), H', ⟨by first | omega | exact Nat.le_refl _⟩, ⟨by (with_reducible repeat (first | apply Kd.R_alloc | apply Kd.R_drewN | apply Kd.R_drew)); exact Kd.R_mono HO796.out (fun _ hk => hk.2.2.1)⟩, ⟨by (with_reducible repeat (first | apply Kd.R_alloc | apply Kd.R_drewN | apply Kd.R_drew)); exact Kd.R_mono HO802.out (fun _ hk => hk.2.1)⟩, ⟨by repeat (first | (with_reducible first | exact HB.out | apply below_alloc | apply pw_below_drewN | apply below_drew1) | exact HB.out)⟩⟩
          · rw [if_neg c30] at H
            have c30b0 : decide (t808 < 0) = false := decide_eq_false c30
            clear c30
            (first | rw [c30b0] | (simp only [i64_w, i32_w]; rw [c30b0]) | skip)
            replace H := Option.bind_eq_some_iff.mp H
            obtain ⟨t810, A310, H⟩ := H
            replace H : (laws_FnExactSlimMoves.j0 k l0 t794 t800 (!t810)) = some r := H
            have A31 := Aside0.mk A310
            clear A310
            have H' := Aside0.mk H
            clear H
            go_wp2_with (first | (go_at_call 35; (with_reducible refine (laws_eqOpS.calls k _ _ t800 _ _ t794 t810 _ ?side1 ?side2 ?side3 ?side4 A31.out).mono ?_); (case side1 => repeat (first | exact (Kd.R_reads' HO802.out).2.2 | (with_reducible refine Kd.C_alloc ?_ _) | (with_reducible refine Kd.C_drewN ?_ _) | (with_reducible refine Kd.C_drew ?_))); (case side2 => exact (Kd.R_reads' HO802.out).2.1); (case side3 => repeat (first | exact (Kd.R_reads' HO796.out).2.2 | (with_reducible refine Kd.C_alloc ?_ _) | (with_reducible refine Kd.C_drewN ?_ _) | (with_reducible refine Kd.C_drew ?_))); (case side4 => exact (Kd.R_reads' HO796.out).2.1); rintro e w32 ⟨rfl, hb⟩; have n0_ := Aside0.mk (Kd.R_below (by (with_reducible repeat (first | apply Kd.R_alloc | apply Kd.R_drewN | apply Kd.R_drew)); exact HO793.out) hb); have n1_ := Aside0.mk (Kd.R_below (by (with_reducible repeat (first | apply Kd.R_alloc | apply Kd.R_drewN | apply Kd.R_drew)); exact HO796.out) hb); have n2_ := Aside0.mk (Kd.R_below (by (with_reducible repeat (first | apply Kd.R_alloc | apply Kd.R_drewN | apply Kd.R_drew)); exact HO799.out) hb); have n3_ := Aside0.mk (Kd.R_below (by (with_reducible repeat (first | apply Kd.R_alloc | apply Kd.R_drewN | apply Kd.R_drew)); exact HO802.out) hb); have n4_ := Aside0.mk (Kd.R_below (by (with_reducible repeat (first | apply Kd.R_alloc | apply Kd.R_drewN | apply Kd.R_drew)); exact HO806.out) hb); have n5_ := Aside0.mk (below_step (by repeat (first | (with_reducible first | exact HB.out | apply below_alloc | apply pw_below_drewN | apply below_drew1) | exact HB.out)) hb); clear HO793; clear HO796; clear HO799; clear HO802; clear HO806; clear HB; have HO793 := n0_; have HO796 := n1_; have HO799 := n2_; have HO802 := n3_; have HO806 := n4_; have HB := n5_; clear n0_ n1_ n2_ n3_ n4_ n5_; (try clear hb); (try clear hb2); (try clear hk); (try clear hi)))
            go_meet
            case rel => exact ⟨_, (!t810), (by first | rfl | (simp; done) | (simp [*]; done)), H', ⟨by first | omega | exact Nat.le_refl _⟩, ⟨by (with_reducible repeat (first | apply Kd.R_alloc | apply Kd.R_drewN | apply Kd.R_drew)); exact Kd.R_mono HO796.out (fun _ hk => hk.2.2.1)⟩, ⟨by (with_reducible repeat (first | apply Kd.R_alloc | apply Kd.R_drewN | apply Kd.R_drew)); exact Kd.R_mono HO802.out (fun _ hk => hk.2.1)⟩, ⟨by repeat (first | (with_reducible first | exact HB.out | apply below_alloc | apply pw_below_drewN | apply below_drew1) | exact HB.out)⟩⟩
        case rest =>
          clear HC15; (try clear c1); (try clear c2); (try clear p2); (try clear c3); (try clear c3b0); (try clear c5); (try clear c8); (try clear c10); (try clear c13); (try clear c29); (try clear c30); (try clear c30b0); (try clear c32)
          obtain ⟨kq, x42_14, rfl, HA, HJ14, HO_4, HO_6, HB⟩ := hcut
          cases kq with
          | zero => exact absurd HA.out (by simp [laws_FnExactSlimMoves.j0])
          | succ kj14 =>
            have H := HA.out
            clear HA
            simp only [laws_FnExactSlimMoves.j0] at H
            by_cases c33 : x42_14 = true
            · subst c33
              have H1 : (none) = some r := by rw [if_pos rfl] at H; exact H
              clear H
              have H := H1
              clear H1
              cases H
            · replace c33 := Bool.eq_false_iff.mpr c33
              subst c33
              have H1 : ((laws_markOpS.f kj14 t800 1).bind fun bt811 => ((laws_heldOpS.f kj14 bt811.2 1).bind fun t813 => (if t813 < 0 then (none) else (if t813 = bt811.1 then ((laws_toOpS.f kj14 l0).bind fun t814 => ((impl_SlimMoves.f kj14 t814).bind fun t817 => ((laws_eqOpS.f kj14 t817 t794).bind fun t820 => (if t820 = true then ((laws_heldOpS.f kj14 bt811.2 1).bind fun t821 => (if t821 < 0 then (none) else (if t821 = bt811.1 then (some true) else (none)))) else (none))))) else (none))))) = some r := by rw [if_neg (show ¬ (false = true) by decide)] at H; exact H
              clear H
              have H := H1
              clear H1
              replace H := Option.bind_eq_some_iff.mp H
              obtain ⟨⟨t811, t812⟩, A340, H⟩ := H
              replace H : ((laws_heldOpS.f kj14 t812 1).bind fun t813 => (if t813 < 0 then (none) else (if t813 = t811 then ((laws_toOpS.f kj14 l0).bind fun t814 => ((impl_SlimMoves.f kj14 t814).bind fun t817 => ((laws_eqOpS.f kj14 t817 t794).bind fun t820 => (if t820 = true then ((laws_heldOpS.f kj14 t812 1).bind fun t821 => (if t821 < 0 then (none) else (if t821 = t811 then (some true) else (none)))) else (none))))) else (none)))) = some r := H
              have A34 := Aside0.mk A340
              clear A340
              replace H := Option.bind_eq_some_iff.mp H
              obtain ⟨t813, A350, H⟩ := H
              replace H : (if t813 < 0 then (none) else (if t813 = t811 then ((laws_toOpS.f kj14 l0).bind fun t814 => ((impl_SlimMoves.f kj14 t814).bind fun t817 => ((laws_eqOpS.f kj14 t817 t794).bind fun t820 => (if t820 = true then ((laws_heldOpS.f kj14 t812 1).bind fun t821 => (if t821 < 0 then (none) else (if t821 = t811 then (some true) else (none)))) else (none))))) else (none))) = some r := H
              have A35 := Aside0.mk A350
              clear A350
              by_cases c36 : t813 < 0
              · rw [if_pos c36] at H
                have c36b0 : decide (t813 < 0) = true := decide_eq_true c36
                clear c36
                cases H
              · rw [if_neg c36] at H
                have c36b0 : decide (t813 < 0) = false := decide_eq_false c36
                clear c36
                by_cases c39 : t813 = t811
                · rw [if_pos c39] at H
                  have c39b0 : (t813 == t811) = true := beq_iff_eq.mpr c39
                  have c39b1 : (t813 != t811) = false := bne_eq_false_iff_eq.mpr c39
                  clear c39
                  replace H := Option.bind_eq_some_iff.mp H
                  obtain ⟨t814, A400, H⟩ := H
                  replace H : ((impl_SlimMoves.f kj14 t814).bind fun t817 => ((laws_eqOpS.f kj14 t817 t794).bind fun t820 => (if t820 = true then ((laws_heldOpS.f kj14 t812 1).bind fun t821 => (if t821 < 0 then (none) else (if t821 = t811 then (some true) else (none)))) else (none)))) = some r := H
                  have A40 := Aside0.mk A400
                  clear A400
                  replace H := Option.bind_eq_some_iff.mp H
                  obtain ⟨t817, A410, H⟩ := H
                  replace H : ((laws_eqOpS.f kj14 t817 t794).bind fun t820 => (if t820 = true then ((laws_heldOpS.f kj14 t812 1).bind fun t821 => (if t821 < 0 then (none) else (if t821 = t811 then (some true) else (none)))) else (none))) = some r := H
                  have A41 := Aside0.mk A410
                  clear A410
                  replace H := Option.bind_eq_some_iff.mp H
                  obtain ⟨t820, A420, H⟩ := H
                  replace H : (if t820 = true then ((laws_heldOpS.f kj14 t812 1).bind fun t821 => (if t821 < 0 then (none) else (if t821 = t811 then (some true) else (none)))) else (none)) = some r := H
                  have A42 := Aside0.mk A420
                  clear A420
                  by_cases c43 : t820 = true
                  · subst c43
                    have H1 : ((laws_heldOpS.f kj14 t812 1).bind fun t821 => (if t821 < 0 then (none) else (if t821 = t811 then (some true) else (none)))) = some r := by rw [if_pos rfl] at H; exact H
                    clear H
                    have H := H1
                    clear H1
                    replace H := Option.bind_eq_some_iff.mp H
                    obtain ⟨t821, A440, H⟩ := H
                    replace H : (if t821 < 0 then (none) else (if t821 = t811 then (some true) else (none))) = some r := H
                    have A44 := Aside0.mk A440
                    clear A440
                    by_cases c45 : t821 < 0
                    · rw [if_pos c45] at H
                      have c45b0 : decide (t821 < 0) = true := decide_eq_true c45
                      clear c45
                      cases H
                    · rw [if_neg c45] at H
                      have c45b0 : decide (t821 < 0) = false := decide_eq_false c45
                      clear c45
                      by_cases c54 : t821 = t811
                      · rw [if_pos c54] at H
                        have c54b0 : (t821 == t811) = true := beq_iff_eq.mpr c54
                        have c54b1 : (t821 != t811) = false := bne_eq_false_iff_eq.mpr c54
                        clear c54
                        obtain rfl := Option.some.inj H
                        go_wp2_with (first | ((with_reducible refine gate_callee (f := 37) rfl ?_); refine goesL_ (some 45) rfl rfl Try.func37 (by kernel_rfl) rfl #[.slice Ao23 t800.length co23, .int .i64 1] rfl (by (try simp only [List.map_toArray, List.map_cons, List.map_nil]); first | done | rfl | (simp only [List.length_drop, List.length_take]; rfl)) ?_; (with_reducible refine (laws_markOpS.calls kj14 (fun k_ => some k_ = (.slice Ao23 t800.length co23 : Value).ownBlock) (.slice Ao23 t800.length co23) t800 1 t811 t812 w _ ?side1 ?side2 A34.out).mono ?_); (case side1 => repeat (first | (with_reducible first | exact HB.out | apply below_alloc | apply pw_below_drewN | apply below_drew1) | exact HB.out)); (case side2 => exact Kd.R_tight rfl HO_6.out); rintro e w55 ⟨rfl, hy0, hb, hkp⟩; refine ⟨_, rfl, ?_⟩; have n0_ := Aside0.mk (Kd.R_mono (ok' := fun k_ => some k_ ≠ (.slice Ao23 t800.length co23 : Value).ownBlock) (Kd.R_keptB (HO_4.out) hkp (fun k_ hk_ hs_ => (hk_) hs_)) (fun k_ hk_ => hk_.1)); have n1_ := Aside0.mk (Kd.R_reok rfl hy0 (fun k_ e_ => HO_6.out.1 k_ e_)); have n2_ := Aside0.mk (hb); clear HO_4; clear HO_6; clear HB; have HO_4 := n0_; have HO_6 := n1_; have HB := n2_; clear n0_ n1_ n2_; (try clear hb); (try clear hkp); (try clear hy0)) | ((with_reducible refine gate_callee (f := 52) rfl ?_); refine goesL_ (some 48) rfl rfl Try.func52 (by kernel_rfl) rfl #[.slice Ao23 t812.length co23, .int .i64 1] rfl (by (try simp only [List.map_toArray, List.map_cons, List.map_nil]); first | done | (rw [show t812.length = t800.length from (Kd.R_reads' HO_6.out).1.symm] <;> rfl) | rfl | (simp only [List.length_drop, List.length_take]; rfl)) ?_; (with_reducible refine (laws_heldOpS.calls kj14 _ _ t812 1 t813 _ ?side1 ?side2 A35.out).mono ?_); (case side1 => repeat (first | exact (Kd.R_reads' HO_6.out).2.2 | (with_reducible refine Kd.C_alloc ?_ _) | (with_reducible refine Kd.C_drewN ?_ _) | (with_reducible refine Kd.C_drew ?_))); (case side2 => rw [show t812.length = t800.length from (Kd.R_reads' HO_6.out).1.symm]; exact (Kd.R_reads' HO_6.out).2.1); rintro e w56 ⟨rfl, hb⟩; refine ⟨_, rfl, ?_⟩; have n0_ := Aside0.mk (Kd.R_below (by (with_reducible repeat (first | apply Kd.R_alloc | apply Kd.R_drewN | apply Kd.R_drew)); exact HO_4.out) hb); have n1_ := Aside0.mk (Kd.R_below (by (with_reducible repeat (first | apply Kd.R_alloc | apply Kd.R_drewN | apply Kd.R_drew)); exact HO_6.out) hb); have n2_ := Aside0.mk (below_step (by repeat (first | (with_reducible first | exact HB.out | apply below_alloc | apply pw_below_drewN | apply below_drew1) | exact HB.out)) hb); clear HO_4; clear HO_6; clear HB; have HO_4 := n0_; have HO_6 := n1_; have HB := n2_; clear n0_ n1_ n2_; (try clear hb); (try clear hb2); (try clear hk); (try clear hi)) | ((with_reducible refine gate_callee (f := 32) rfl ?_); refine goesL_ (some 55) rfl rfl Try.func32 (by kernel_rfl) rfl #[.slice A0 l0.length c0] rfl (by (try simp only [List.map_toArray, List.map_cons, List.map_nil]); first | done | rfl | (simp only [List.length_drop, List.length_take]; rfl)) ?_; (with_reducible refine (laws_toOpS.calls kj14 _ _ l0 t814 _ ?side1 ?side2 A40.out).mono ?_); (case side1 => repeat (first | exact (Kd.C_below HR0.out HB.out) | (with_reducible refine Kd.C_alloc ?_ _) | (with_reducible refine Kd.C_drewN ?_ _) | (with_reducible refine Kd.C_drew ?_))); (case side2 => exact HC0.out); rintro e w57 ⟨v815, rfl, ho0, hb⟩; refine ⟨_, rfl, ?_⟩; have n0_ := Aside0.mk (Kd.R_elder' (by (with_reducible repeat (first | apply Kd.R_alloc | apply Kd.R_drewN | apply Kd.R_drew)); exact HO_4.out) (Kd.R_base ho0) hb); have n1_ := Aside0.mk (Kd.R_elder' (by (with_reducible repeat (first | apply Kd.R_alloc | apply Kd.R_drewN | apply Kd.R_drew)); exact HO_6.out) (Kd.R_base ho0) hb); have n2_ := Aside0.mk (Kd.R_lower (Kd.R_new' (Kd.R_new' ho0 (Kd.R_lt (by (with_reducible repeat (first | apply Kd.R_alloc | apply Kd.R_drewN | apply Kd.R_drew)); exact HO_4.out))) (Kd.R_lt (by (with_reducible repeat (first | apply Kd.R_alloc | apply Kd.R_drewN | apply Kd.R_drew)); exact HO_6.out))) (below_size (by repeat (first | (with_reducible first | exact HB.out | apply below_alloc | apply pw_below_drewN | apply below_drew1) | exact HB.out)))); have n3_ := Aside0.mk (below_step (by repeat (first | (with_reducible first | exact HB.out | apply below_alloc | apply pw_below_drewN | apply below_drew1) | exact HB.out)) hb); clear HO_4; clear HO_6; clear HB; have HO_4 := n0_; have HO_6 := n1_; have HO816 := n2_; have HB := n3_; clear n0_ n1_ n2_ n3_; (try clear hb); (try clear hb2); (try clear hk); (try clear hi); (try clear ho0); obtain ⟨Ao58, co58, eo58⟩ := Kd.R_slice HO816.out; subst eo58) | ((with_reducible refine gate_callee (f := 51) rfl ?_); refine goesL_ (some 56) rfl rfl Try.func51 (by kernel_rfl) rfl #[.slice Ao58 t814.length co58] rfl (by (try simp only [List.map_toArray, List.map_cons, List.map_nil]); first | done | rfl | (simp only [List.length_drop, List.length_take]; rfl)) ?_; (with_reducible refine (impl_SlimMoves.calls kj14 _ _ t814 t817 _ ?side1 ?side2 A41.out).mono ?_); (case side1 => repeat (first | exact (Kd.R_reads' HO816.out).2.2 | (with_reducible refine Kd.C_alloc ?_ _) | (with_reducible refine Kd.C_drewN ?_ _) | (with_reducible refine Kd.C_drew ?_))); (case side2 => exact (Kd.R_reads' HO816.out).2.1); rintro e w59 ⟨v818, rfl, ho0, hb⟩; refine ⟨_, rfl, ?_⟩; have n0_ := Aside0.mk (Kd.R_elder' (by (with_reducible repeat (first | apply Kd.R_alloc | apply Kd.R_drewN | apply Kd.R_drew)); exact HO_4.out) (Kd.R_base ho0) hb); have n1_ := Aside0.mk (Kd.R_elder' (by (with_reducible repeat (first | apply Kd.R_alloc | apply Kd.R_drewN | apply Kd.R_drew)); exact HO_6.out) (Kd.R_base ho0) hb); have n2_ := Aside0.mk (Kd.R_elder' (by (with_reducible repeat (first | apply Kd.R_alloc | apply Kd.R_drewN | apply Kd.R_drew)); exact HO816.out) (Kd.R_base ho0) hb); have n3_ := Aside0.mk (Kd.R_lower (Kd.R_new' (Kd.R_new' (Kd.R_new' ho0 (Kd.R_lt (by (with_reducible repeat (first | apply Kd.R_alloc | apply Kd.R_drewN | apply Kd.R_drew)); exact HO_4.out))) (Kd.R_lt (by (with_reducible repeat (first | apply Kd.R_alloc | apply Kd.R_drewN | apply Kd.R_drew)); exact HO_6.out))) (Kd.R_lt (by (with_reducible repeat (first | apply Kd.R_alloc | apply Kd.R_drewN | apply Kd.R_drew)); exact HO816.out))) (below_size (by repeat (first | (with_reducible first | exact HB.out | apply below_alloc | apply pw_below_drewN | apply below_drew1) | exact HB.out)))); have n4_ := Aside0.mk (below_step (by repeat (first | (with_reducible first | exact HB.out | apply below_alloc | apply pw_below_drewN | apply below_drew1) | exact HB.out)) hb); clear HO_4; clear HO_6; clear HO816; clear HB; have HO_4 := n0_; have HO_6 := n1_; have HO816 := n2_; have HO819 := n3_; have HB := n4_; clear n0_ n1_ n2_ n3_ n4_; (try clear hb); (try clear hb2); (try clear hk); (try clear hi); (try clear ho0); obtain ⟨Ao60, co60, eo60⟩ := Kd.R_slice HO819.out; subst eo60) | ((with_reducible refine gate_callee (f := 35) rfl ?_); refine goesL_ (some 59) rfl rfl Try.func35 (by kernel_rfl) rfl #[.slice Ao60 t817.length co60, .slice Ao24 t794.length co24] rfl (by (try simp only [List.map_toArray, List.map_cons, List.map_nil]); first | done | rfl | (simp only [List.length_drop, List.length_take]; rfl)) ?_; (with_reducible refine (laws_eqOpS.calls kj14 _ _ t817 _ _ t794 true _ ?side1 ?side2 ?side3 ?side4 A42.out).mono ?_); (case side1 => repeat (first | exact (Kd.R_reads' HO819.out).2.2 | (with_reducible refine Kd.C_alloc ?_ _) | (with_reducible refine Kd.C_drewN ?_ _) | (with_reducible refine Kd.C_drew ?_))); (case side2 => exact (Kd.R_reads' HO819.out).2.1); (case side3 => repeat (first | exact (Kd.R_reads' HO_4.out).2.2 | (with_reducible refine Kd.C_alloc ?_ _) | (with_reducible refine Kd.C_drewN ?_ _) | (with_reducible refine Kd.C_drew ?_))); (case side4 => exact (Kd.R_reads' HO_4.out).2.1); rintro e w61 ⟨rfl, hb⟩; refine ⟨_, rfl, ?_⟩; have n0_ := Aside0.mk (Kd.R_below (by (with_reducible repeat (first | apply Kd.R_alloc | apply Kd.R_drewN | apply Kd.R_drew)); exact HO_4.out) hb); have n1_ := Aside0.mk (Kd.R_below (by (with_reducible repeat (first | apply Kd.R_alloc | apply Kd.R_drewN | apply Kd.R_drew)); exact HO_6.out) hb); have n2_ := Aside0.mk (Kd.R_below (by (with_reducible repeat (first | apply Kd.R_alloc | apply Kd.R_drewN | apply Kd.R_drew)); exact HO816.out) hb); have n3_ := Aside0.mk (Kd.R_below (by (with_reducible repeat (first | apply Kd.R_alloc | apply Kd.R_drewN | apply Kd.R_drew)); exact HO819.out) hb); have n4_ := Aside0.mk (below_step (by repeat (first | (with_reducible first | exact HB.out | apply below_alloc | apply pw_below_drewN | apply below_drew1) | exact HB.out)) hb); clear HO_4; clear HO_6; clear HO816; clear HO819; clear HB; have HO_4 := n0_; have HO_6 := n1_; have HO816 := n2_; have HO819 := n3_; have HB := n4_; clear n0_ n1_ n2_ n3_ n4_; (try clear hb); (try clear hb2); (try clear hk); (try clear hi)) | ((with_reducible refine gate_callee (f := 52) rfl ?_); refine goesL_ (some 63) rfl rfl Try.func52 (by kernel_rfl) rfl #[.slice Ao23 t812.length co23, .int .i64 1] rfl (by (try simp only [List.map_toArray, List.map_cons, List.map_nil]); first | done | (rw [show t812.length = t800.length from (Kd.R_reads' HO_6.out).1.symm] <;> rfl) | rfl | (simp only [List.length_drop, List.length_take]; rfl)) ?_; (with_reducible refine (laws_heldOpS.calls kj14 _ _ t812 1 t821 _ ?side1 ?side2 A44.out).mono ?_); (case side1 => repeat (first | exact (Kd.R_reads' HO_6.out).2.2 | (with_reducible refine Kd.C_alloc ?_ _) | (with_reducible refine Kd.C_drewN ?_ _) | (with_reducible refine Kd.C_drew ?_))); (case side2 => rw [show t812.length = t800.length from (Kd.R_reads' HO_6.out).1.symm]; exact (Kd.R_reads' HO_6.out).2.1); rintro e w62 ⟨rfl, hb⟩; refine ⟨_, rfl, ?_⟩; have n0_ := Aside0.mk (Kd.R_below (by (with_reducible repeat (first | apply Kd.R_alloc | apply Kd.R_drewN | apply Kd.R_drew)); exact HO_4.out) hb); have n1_ := Aside0.mk (Kd.R_below (by (with_reducible repeat (first | apply Kd.R_alloc | apply Kd.R_drewN | apply Kd.R_drew)); exact HO_6.out) hb); have n2_ := Aside0.mk (Kd.R_below (by (with_reducible repeat (first | apply Kd.R_alloc | apply Kd.R_drewN | apply Kd.R_drew)); exact HO816.out) hb); have n3_ := Aside0.mk (Kd.R_below (by (with_reducible repeat (first | apply Kd.R_alloc | apply Kd.R_drewN | apply Kd.R_drew)); exact HO819.out) hb); have n4_ := Aside0.mk (below_step (by repeat (first | (with_reducible first | exact HB.out | apply below_alloc | apply pw_below_drewN | apply below_drew1) | exact HB.out)) hb); clear HO_4; clear HO_6; clear HO816; clear HO819; clear HB; have HO_4 := n0_; have HO_6 := n1_; have HO816 := n2_; have HO819 := n3_; have HB := n4_; clear n0_ n1_ n2_ n3_ n4_; (try clear hb); (try clear hb2); (try clear hk); (try clear hi)))
                        go_ret
                        exact ⟨by first | rfl | (simp [errW_none, errW_some] <;> rfl) | (simp [*, errW_none, errW_some] <;> rfl), by repeat (first | (with_reducible first | exact HB.out | apply below_alloc | apply pw_below_drewN | apply below_drew1) | exact HB.out)⟩
                      · rw [if_neg c54] at H
                        have c54b0 : (t821 == t811) = false := beq_eq_false_iff_ne.mpr c54
                        have c54b1 : (t821 != t811) = true := bne_iff_ne.mpr c54
                        cases H
                  · replace c43 := Bool.eq_false_iff.mpr c43
                    subst c43
                    have H1 : (none) = some r := by rw [if_neg (show ¬ (false = true) by decide)] at H; exact H
                    clear H
                    have H := H1
                    clear H1
                    cases H
                · rw [if_neg c39] at H
                  have c39b0 : (t813 == t811) = false := beq_eq_false_iff_ne.mpr c39
                  have c39b1 : (t813 != t811) = true := bne_iff_ne.mpr c39
                  cases H
      · replace c13 := Bool.eq_false_iff.mpr c13
        subst c13
        have H1 : (none) = some r := by rw [if_neg (show ¬ (false = true) by decide)] at H; exact H
        clear H
        have H := H1
        clear H1
        cases H
    · replace c10 := Bool.eq_false_iff.mpr c10
      subst c10
      have H1 : (none) = some r := by rw [if_neg (show ¬ (false = true) by decide)] at H; exact H
      clear H
      have H := H1
      clear H1
      cases H
end Go.Proofs.Ytlaichooanflaaa.Q
namespace Go.Proofs.Ytlaichooanflaaa.Opened
open Go.ChangeShapes Go.WideShapes Go.Deep Go.RowKit Go.Proofs.YtlaichooanflaaaW.PrintWords
/-- Cells of type t that can be read as data are of kind d; and what is good of what they say. -/
def Opens (P : Program) (t : TypeId) {α : Type} (d : Kd α) (good : α → Prop) : Prop :=
  P.cellsOf t = d.sz ∧ ∀ (H : Type) (enc : TypeId × Value → H) (w : World) (base : Nat) (spare : Nat → Bool) (held : Bool) (fuel : Nat) (cs : List Value) (x : DataW H × List MemPlace),
    DataW.trod enc P w base spare held fuel t cs = some x → ∃ a, d.K w a cs ∧ good a
section
variable {P : Program} {t e : TypeId}
theorem opens_int {k : IntKind} (hu : P.underlying t = some (.int k)) (hc : P.cellsOf t = 1) : Opens P t (Kd.int k) (fun n => (Lit.int k n).wf = true) := by
  refine ⟨hc, fun H enc w base spare held fuel cs x h => ?_⟩
  cases fuel with
  | zero => simp [DataW.trod] at h
  | succ fuel =>
    unfold DataW.trod at h
    rw [hu] at h
    split at h
    all_goals first | (cases h; done) | skip
    all_goals try simp_all
    obtain ⟨⟨rfl, h1⟩, _⟩ := h
    exact ⟨_, rfl, h1⟩
theorem opens_string (hu : P.underlying t = some .string) (hc : P.cellsOf t = 1) : Opens P t Kd.string (fun s => s.size ≤ 9223372036854775807) := by
  refine ⟨hc, fun H enc w base spare held fuel cs x h => ?_⟩
  cases fuel with
  | zero => simp [DataW.trod] at h
  | succ fuel =>
    unfold DataW.trod at h
    rw [hu] at h
    split at h
    all_goals first | (cases h; done) | skip
    all_goals try simp_all
    obtain ⟨h1, _⟩ := h
    simp only [maxLen] at h1
    exact ⟨_, rfl, h1⟩
theorem opens_slice {α : Type} {d : Kd α} {good : α → Prop} {e' : Nat} (hu : P.underlying t = some (.slice e)) (hc : P.cellsOf t = 1) (he : Opens P e d good) : Opens P t (Kd.slice e' d) (fun l => l.length ≤ 9223372036854775807 ∧ ∀ a ∈ l, good a) := by
  refine ⟨hc, fun H enc w base spare held fuel cs x h => ?_⟩
  rcases open_slice hu h with ⟨rfl, _⟩ | ⟨a, len, cap, m, n, D, Pl, rfl, hb, hl, hm, hmm, _, hi⟩
  · exact ⟨[], ⟨none, 0, rfl, Nat.le_refl _, rfl, by simp, fun h0 => absurd h0 (by simp)⟩, by simp, by simp⟩
  · have hlm : len ≤ m := by
      rw [hmm]
      split <;> omega
    have key : ∀ i, i < len → ∃ y cs', w.cells? base (a.add (i * d.sz)) d.sz = some cs' ∧ d.K w y cs' ∧ good y := by
      intro i hil
      obtain ⟨cs', h1, h2⟩ := hi i (by omega)
      rw [he.1] at h1
      obtain ⟨y, hy, hg⟩ := he.2 _ _ _ _ _ _ _ _ _ h2
      exact ⟨y, cs', h1, hy, hg⟩
    clear hi
    have build : ∀ k, k ≤ len → ∃ l : List α, l.length = k ∧ (∀ y ∈ l, good y) ∧ ∀ j p, l[j]? = some p → ∃ c, c.length = d.sz ∧ d.K w p c ∧ ∀ i u, c[i]? = some u → w.cell? (a.add (j * d.sz + i)) = some u := by
      intro k
      induction k with
      | zero => intro _; exact ⟨[], rfl, by simp, fun j p hj => by simp at hj⟩
      | succ k ih =>
        intro hk
        obtain ⟨l, hlen, hgood, hcell⟩ := ih (by omega)
        obtain ⟨y, cs', h1, hy, hg⟩ := key k (by omega)
        refine ⟨l ++ [y], by simp [hlen], ?_, ?_⟩
        · intro z hz
          rcases List.mem_append.1 hz with hz | hz
          · exact hgood z hz
          · rw [List.mem_singleton.1 hz]; exact hg
        · intro j p hj
          by_cases hjk : j < k
          · rw [List.getElem?_append_left (by omega)] at hj
            exact hcell j p hj
          · have hjl : j = k := by
              have := (List.getElem?_eq_some_iff.1 hj).1
              simp [hlen] at this
              omega
            subst hjl
            rw [List.getElem?_append_right (by omega), hlen, Nat.sub_self] at hj
            obtain rfl : y = p := by simpa using hj
            obtain ⟨_, hcl, hat⟩ := World.cells?_some h1
            refine ⟨cs', hcl, hy, fun i u hu => ?_⟩
            have hil : i < d.sz := by rw [← hcl]; exact (List.getElem?_eq_some_iff.1 hu).1
            have := hat i hil
            rw [← Go.Deep.add_add, this, hu]
    obtain ⟨l, hlen, hgood, hcell⟩ := build len (Nat.le_refl _)
    have hmx : maxLen = 9223372036854775807 := rfl
    exact ⟨l, ⟨some a, cap, by rw [hlen], by omega, rfl, by omega, fun _ => ⟨a, rfl, hcell⟩⟩, by omega, hgood⟩
/-- Fields in line from an offset on. -/
def OpensF (P : Program) (fs : List Field) (off : Nat) {α : Type} (d : Kd α) (good : α → Prop) : Prop :=
  ∀ (H : Type) (enc : TypeId × Value → H) (w : World) (base : Nat) (spare : Nat → Bool) (held : Bool) (fuel : Nat) (cs : List Value),
    off + d.sz ≤ cs.length → (∀ f ∈ fs, ∃ x, DataW.trod enc P w base spare held fuel f.type ((cs.drop f.offset).take (P.cellsOf f.type)) = some x) → ∃ a, d.K w a ((cs.drop off).take d.sz) ∧ good a
theorem opensF_one {α : Type} {d : Kd α} {good : α → Prop} {f : Field} {off : Nat} (h : Opens P f.type d good) (ho : f.offset = off) : OpensF P [f] off d good := by
  intro H enc w base spare held fuel cs hl hf
  obtain ⟨x, hx⟩ := hf f List.mem_cons_self
  rw [ho, h.1] at hx
  exact h.2 _ _ _ _ _ _ _ _ _ hx
theorem opensF_cons {α β : Type} {d : Kd α} {d2 : Kd β} {good : α → Prop} {good2 : β → Prop} {f : Field} {fs : List Field} {off : Nat} (h : Opens P f.type d good) (ho : f.offset = off) (h2 : OpensF P fs (off + d.sz) d2 good2) :
    OpensF P (f :: fs) off (Kd.pair d d2) (fun x => good x.1 ∧ good2 x.2) := by
  intro H enc w base spare held fuel cs hl hf
  have hsz : (Kd.pair d d2).sz = d.sz + d2.sz := rfl
  rw [hsz] at hl ⊢
  obtain ⟨x, hx⟩ := hf f List.mem_cons_self
  rw [ho, h.1] at hx
  obtain ⟨a, ha, hg⟩ := h.2 _ _ _ _ _ _ _ _ _ hx
  obtain ⟨b, hb, hg2⟩ := h2 H enc w base spare held fuel cs (by omega) (fun f hf' => hf f (List.mem_cons_of_mem _ hf'))
  refine ⟨(a, b), ⟨_, _, ?_, ha, hb⟩, hg, hg2⟩
  rw [← List.drop_drop, List.take_add]
theorem opens_struct {α β : Type} {d : Kd α} {good : α → Prop} {fs : Array Field} (f : β → α) (g : α → β) (hfg : ∀ a, f (g a) = a) (hu : P.underlying t = some (.struct fs)) (hc : P.cellsOf t = d.sz) (h : OpensF P fs.toList 0 d good) : Opens P t (Kd.iso d f) (fun x => good (f x)) := by
  refine ⟨hc, fun H enc w base spare held fuel cs x hx => ?_⟩
  obtain ⟨xs, n, _, _, hl, hlen, hf⟩ := DataW.trod_struct hu hx
  have hall : ∀ f ∈ fs.toList, ∃ x, DataW.trod enc P w base spare held n f.type ((cs.drop f.offset).take (P.cellsOf f.type)) = some x := by
    intro f hm
    obtain ⟨j, hj, rfl⟩ := List.mem_iff_getElem.1 hm
    have hj' : j < fs.size := by simpa using hj
    have h1 := hf j (fs[j]) (Array.getElem?_eq_getElem hj')
    have hjx : j < xs.length := by omega
    rw [List.getElem?_eq_getElem hjx] at h1
    refine ⟨xs[j], ?_⟩
    have h2 : fs.toList[j] = fs[j] := by simp
    rw [h2]
    exact h1
  obtain ⟨a, ha, hg⟩ := h H enc w base spare held n cs (by omega) hall
  rw [List.drop_zero, List.take_of_length_le (by omega)] at ha
  exact ⟨g a, by show d.K w (f (g a)) cs; rw [hfg]; exact ha, by show good (f (g a)); rw [hfg]; exact hg⟩
end
/-- A whole argument. -/
theorem open_arg {H : Type} {enc : TypeId × Value → H} {P : Program} {t : TypeId} {α : Type} {d : Kd α} {good : α → Prop} (h : Opens P t d good) {w : World} {base : Nat} {spare : Nat → Bool} {held : Bool} {v : Value} {x : DataW H} {ps : List MemPlace}
    (hx : DataW.Trod enc P w base spare held t v x ps) : ∃ a, d.K w a v.cells.toList ∧ good a := by
  obtain ⟨fuel, hf⟩ := hx
  exact h.2 _ _ _ _ _ _ _ _ _ hf
end Go.Proofs.Ytlaichooanflaaa.Opened
namespace Go.Proofs.Ytlaichooanflaaa.Base
open Go.RowKit Go.Proofs.YtlaichooanflaaaW.PrintWords
theorem w64 {n : Int} (h0 : -9223372036854775808 ≤ n) (h1 : n ≤ 9223372036854775807) : wrap64 n = n := by unfold wrap64; omega
theorem w64s {n : Int} {b : Nat} (h0 : 0 ≤ n) (h1 : n < b) (hb : b ≤ 4611686018427387904) : wrap64 (n + 1) = n + 1 := w64 (by omega) (by omega)
section
variable {α β : Type} {g f : Nat → Option α} {r : α}
theorem Ev.of_eq {g f : Nat → Option α} (k : Ev f r) (h : ∀ k, g k = f k) : Ev g r := Ev.congr h k
theorem Ev.pos {c : Prop} [Decidable c] (h : c) (k : Ev g r) : Ev (fun n => if c then g n else f n) r := by simpa only [if_pos h] using k
theorem Ev.neg {c : Prop} [Decidable c] (h : ¬ c) (k : Ev f r) : Ev (fun n => if c then g n else f n) r := by simpa only [if_neg h] using k
theorem Ev.ite {c : Prop} [Decidable c] (h : c → Ev g r) (k : ¬ c → Ev f r) : Ev (fun n => if c then g n else f n) r := by
  by_cases hc : c
  · exact Ev.pos hc (h hc)
  · exact Ev.neg hc (k hc)
theorem Ev.sbind {a : β} {f : Nat → β → Option α} (k : Ev (fun n => f n a) r) : Ev (fun n => (some a).bind (f n)) r := by simpa only [Option.bind_some] using k
theorem Ev.const (r : α) {o : Option α} (h : o = some r) : Ev (fun _ => o) r := ⟨0, fun _ _ => h⟩
end
/-- p holds at i, i + 1, .., n - 1. -/
def allOf (p : Nat → Bool) (i n : Nat) : Bool := (List.range' i (n - i)).all p
theorem allOf_end (p : Nat → Bool) (n : Nat) : allOf p n n = true := by simp [allOf]
theorem allOf_step (p : Nat → Bool) {i n : Nat} (h : i < n) : allOf p i n = (p i && allOf p (i + 1) n) := by
  unfold allOf
  rw [show n - i = (n - (i + 1)) + 1 by omega, List.range'_succ, List.all_cons]
theorem allOf_iff (p : Nat → Bool) (i n : Nat) : allOf p i n = true ↔ ∀ j, i ≤ j → j < n → p j = true := by
  unfold allOf
  rw [List.all_eq_true]
  constructor
  · intro h j h1 h2
    exact h j (by rw [List.mem_range'_1]; omega)
  · intro h j hj
    rw [List.mem_range'_1] at hj
    exact h j hj.1 (by omega)
/-- A loop that asks a test of each index, and ends with 'no' at the first that fails. -/
theorem scan {β : Type} (g : Nat → Int → Option β) (n : Nat) (p : Nat → Bool) (yes no : β)
    (hend : Ev (fun k => g k (n : Int)) yes)
    (hgo : ∀ i : Nat, i < n → p i = true → ∀ r, Ev (fun k => g k ((i : Int) + 1)) r → Ev (fun k => g k (i : Int)) r)
    (hno : ∀ i : Nat, i < n → p i = false → Ev (fun k => g k (i : Int)) no) :
    ∀ d i : Nat, n - i = d → i ≤ n → Ev (fun k => g k (i : Int)) (if allOf p i n = true then yes else no) := by
  intro d
  induction d with
  | zero =>
    intro i hd hi
    have : i = n := by omega
    subst this
    rw [allOf_end, if_pos rfl]
    exact hend
  | succ d ih =>
    intro i hd hi
    rw [allOf_step p (by omega)]
    cases hp : p i with
    | true =>
      rw [Bool.true_and]
      exact hgo i (by omega) hp _ (ih (i + 1) (by omega) (by omega))
    | false =>
      rw [Bool.false_and, if_neg (by decide)]
      exact hno i (by omega) hp
theorem scan0 {β : Type} (g : Nat → Int → Option β) (n : Nat) (p : Nat → Bool) (yes no : β)
    (hend : Ev (fun k => g k (n : Int)) yes)
    (hgo : ∀ i : Nat, i < n → p i = true → ∀ r, Ev (fun k => g k ((i : Int) + 1)) r → Ev (fun k => g k (i : Int)) r)
    (hno : ∀ i : Nat, i < n → p i = false → Ev (fun k => g k (i : Int)) no) :
    Ev (fun k => g k 0) (if allOf p 0 n = true then yes else no) := scan g n p yes no hend hgo hno n 0 rfl (Nat.zero_le _)
theorem Ev.cast {α : Type} {g : Nat → Option α} {r r' : α} (h : Ev g r) (e : r = r') : Ev g r' := e ▸ h
theorem Ev.iteR {α : Type} {g f : Nat → Option α} {r s : α} {c : Prop} [Decidable c] (h : Ev g r) (k : Ev f s) : Ev (fun n => if c then g n else f n) (if c then r else s) := by
  split
  · exact h
  · exact k
theorem bytes_inj {s t : ByteArray} : s.toList = t.toList ↔ s = t := by
  constructor
  · intro h
    rw [ByteArray.toList_eq, ByteArray.toList_eq] at h
    exact ByteArray.ext (by rw [← Array.toList_inj]; exact h)
  · intro h; rw [h]
/-- A proposition as a Bool. -/
noncomputable def tr (p : Prop) : Bool := @decide p (Classical.propDecidable p)
theorem tr_iff {p : Prop} : tr p = true ↔ p := by unfold tr; exact @decide_eq_true_iff p (Classical.propDecidable p)
theorem tr_t {p : Prop} (h : p) : tr p = true := tr_iff.2 h
theorem tr_f {p : Prop} (h : ¬ p) : tr p = false := by
  cases e : tr p with
  | true => exact absurd (tr_iff.1 e) h
  | false => rfl
theorem of_tr_f {p : Prop} (h : tr p = false) : ¬ p := fun k => by rw [tr_t k] at h; cases h
/-- A loop that compares two lists of one length, element by element. -/
theorem eqLoop {α : Type} (g : Nat → Int → Option Bool) (a b : List α) (z : α) (hl : a.length = b.length)
    (hend : Ev (fun k => g k (a.length : Int)) true)
    (hgo : ∀ i : Nat, i < a.length → a.getD i z = b.getD i z → ∀ r, Ev (fun k => g k ((i : Int) + 1)) r → Ev (fun k => g k (i : Int)) r)
    (hno : ∀ i : Nat, i < a.length → a.getD i z ≠ b.getD i z → Ev (fun k => g k (i : Int)) false) :
    Ev (fun k => g k 0) (tr (a = b)) := by
  refine Ev.cast (scan0 g a.length (fun i => tr (a.getD i z = b.getD i z)) true false hend (fun i hi hp => hgo i hi (tr_iff.1 hp)) (fun i hi hp => hno i hi (of_tr_f hp))) ?_
  rw [Bool.eq_iff_iff, tr_iff]
  have : (∀ j, 0 ≤ j → j < a.length → tr (a.getD j z = b.getD j z) = true) ↔ a = b := by
    constructor
    · intro h
      apply List.ext_getElem hl
      intro i h1 h2
      have := tr_iff.1 (h i (Nat.zero_le _) h1)
      rwa [List.getD_eq_getElem?_getD, List.getD_eq_getElem?_getD, List.getElem?_eq_getElem h1, List.getElem?_eq_getElem h2] at this
    · rintro rfl j _ _
      exact tr_t rfl
  rw [← this, ← allOf_iff]
  split <;> simp_all
/-- A loop that fills a list made ahead of it. -/
theorem fillLoop {β : Type} (g : Nat → List β → Int → Option (List β)) (n : Nat) (F : Nat → β)
    (hend : ∀ out : List β, out.length = n → Ev (fun k => g k out (n : Int)) out)
    (hgo : ∀ (i : Nat) (out : List β), i < n → out.length = n → ∀ r, Ev (fun k => g k (out.set i (F i)) ((i : Int) + 1)) r → Ev (fun k => g k out (i : Int)) r) :
    ∀ d i : Nat, n - i = d → i ≤ n → ∀ out : List β, out.length = n → Ev (fun k => g k out (i : Int)) (out.take i ++ (List.range' i (n - i)).map F) := by
  intro d
  induction d with
  | zero =>
    intro i hd hi out ho
    have : i = n := by omega
    subst this
    rw [hd, List.take_of_length_le (by omega)]
    simpa using hend out ho
  | succ d ih =>
    intro i hd hi out ho
    have h := ih (i + 1) (by omega) (by omega) (out.set i (F i)) (by simpa using ho)
    refine Ev.cast (hgo i out (by omega) ho _ h) ?_
    rw [show n - i = (n - (i + 1)) + 1 by omega, List.range'_succ, List.map_cons, List.take_succ_eq_append_getElem (by rw [List.length_set]; omega)]
    simp [List.take_set_of_le]
theorem fill0 {β : Type} (g : Nat → List β → Int → Option (List β)) (n : Nat) (F : Nat → β) (out : List β) (ho : out.length = n)
    (hend : ∀ out : List β, out.length = n → Ev (fun k => g k out (n : Int)) out)
    (hgo : ∀ (i : Nat) (out : List β), i < n → out.length = n → ∀ r, Ev (fun k => g k (out.set i (F i)) ((i : Int) + 1)) r → Ev (fun k => g k out (i : Int)) r) :
    Ev (fun k => g k out 0) ((List.range n).map F) := by
  refine Ev.cast (fillLoop g n F hend hgo n 0 rfl (Nat.zero_le _) out ho) ?_
  simp [List.range_eq_range']
theorem map_range_get {α β : Type} (l : List α) (z : α) (f : α → β) : (List.range l.length).map (fun j => f (l.getD j z)) = l.map f := by
  apply List.ext_getElem (by simp)
  intro i h1 h2
  simp only [List.length_map, List.length_range] at h1
  simp [List.getD_eq_getElem?_getD, List.getElem?_eq_getElem h1]
/-- A loop that counts sizes down: it tells a negative number, or all it saw was small. -/
theorem sizeLoop (g : Nat → Int → Int → Option Int) (n : Nat) (P : Nat → Prop)
    (hend : ∀ a : Int, Ev (fun k => g k a (n : Int)) a)
    (step : ∀ (i : Nat) (a : Int), i < n → 0 ≤ a → a ≤ 1048576 → (Ev (fun k => g k a (i : Int)) (-1)) ∨ ∃ b, 0 ≤ b ∧ b ≤ a ∧ P i ∧ ∀ r, Ev (fun k => g k b ((i : Int) + 1)) r → Ev (fun k => g k a (i : Int)) r) :
    ∀ d i : Nat, n - i = d → i ≤ n → ∀ a : Int, 0 ≤ a → a ≤ 1048576 → ∃ r, Ev (fun k => g k a (i : Int)) r ∧ (0 ≤ r → r ≤ a ∧ ∀ j, i ≤ j → j < n → P j) := by
  intro d
  induction d with
  | zero =>
    intro i hd hi a h0 h1
    have : i = n := by omega
    subst this
    exact ⟨a, hend a, fun _ => ⟨Int.le_refl _, fun j h2 h3 => absurd h3 (by omega)⟩⟩
  | succ d ih =>
    intro i hd hi a h0 h1
    rcases step i a (by omega) h0 h1 with h | ⟨b, hb0, hb1, hP, hk⟩
    · exact ⟨-1, h, fun h => absurd h (by omega)⟩
    · obtain ⟨r, hr, hp⟩ := ih (i + 1) (by omega) (by omega) b hb0 (by omega)
      refine ⟨r, hk r hr, fun h => ⟨by have := (hp h).1; omega, fun j h2 h3 => ?_⟩⟩
      by_cases he : j = i
      · subst he; exact hP
      · exact (hp h).2 j (by omega) h3
/-- A loop that fills a list made ahead of it, and tells more than the list. -/
theorem fillG {β γ : Type} (g : Nat → List β → Int → Option γ) (n : Nat) (F : Nat → List β → β) (fin : List β → γ)
    (hF : ∀ i out out', out.length = n → out'.length = n → (∀ j, i ≤ j → out[j]? = out'[j]?) → F i out = F i out')
    (hend : ∀ out : List β, out.length = n → Ev (fun k => g k out (n : Int)) (fin out))
    (hgo : ∀ (i : Nat) (out : List β), i < n → out.length = n → ∀ r, Ev (fun k => g k (out.set i (F i out)) ((i : Int) + 1)) r → Ev (fun k => g k out (i : Int)) r) :
    ∀ d i : Nat, n - i = d → i ≤ n → ∀ out : List β, out.length = n → Ev (fun k => g k out (i : Int)) (fin (out.take i ++ (List.range' i (n - i)).map (fun j => F j out))) := by
  intro d
  induction d with
  | zero =>
    intro i hd hi out ho
    have : i = n := by omega
    subst this
    rw [hd, List.take_of_length_le (by omega)]
    simpa using hend out ho
  | succ d ih =>
    intro i hd hi out ho
    have h := ih (i + 1) (by omega) (by omega) (out.set i (F i out)) (by simpa using ho)
    refine Ev.cast (hgo i out (by omega) ho _ h) ?_
    congr 1
    rw [show n - i = (n - (i + 1)) + 1 by omega, List.range'_succ, List.map_cons, List.take_succ_eq_append_getElem (by rw [List.length_set]; omega)]
    have e : (List.range' (i + 1) (n - (i + 1))).map (fun j => F j (out.set i (F i out))) = (List.range' (i + 1) (n - (i + 1))).map (fun j => F j out) := by
      apply List.map_congr_left
      intro j hj
      rw [List.mem_range'_1] at hj
      exact hF j _ _ (by simpa using ho) ho (fun q hq => List.getElem?_set_ne (by omega))
    rw [e]
    simp [List.take_set_of_le]
end Go.Proofs.Ytlaichooanflaaa.Base
namespace Go.Proofs.Ytlaichooanflaaa.WordLaw
open Go.RowKit Go.Proofs.YtlaichooanflaaaW.PrintWords Go.Proofs.Ytlaichooanflaaa.Base Go.Proofs.Ytlaichooanflaaa.Q
def lowC (c : Int) : Bool := decide (97 ≤ c) && decide (c ≤ 122)
def bodyC (c : Int) : Bool := lowC c || (decide (48 ≤ c) && decide (c ≤ 57))
def bodyB (s : ByteArray) : Bool := if allOf (fun j => bodyC (bt s j)) 0 s.size = true then decide ((s.size : Int) ≤ 12) else false
def wordB (s : ByteArray) : Bool := if allOf (fun j => lowC (bt s j)) 0 s.size = true then decide (1 ≤ (s.size : Int)) && decide ((s.size : Int) ≤ 4) else false
theorem lowC_t {c : Int} (h : lowC c = true) : 97 ≤ c ∧ c ≤ 122 := by simpa [lowC] using h
theorem lowC_f {c : Int} (h : lowC c = false) : c < 97 ∨ 122 < c := by
  simp [lowC] at h
  omega
theorem in_is (a b c : Int) : impl_in.f a b c = some (decide (b ≤ a) && decide (a ≤ c)) := by
  unfold impl_in.f
  split
  · rename_i h
    have : b ≤ a := h
    simp [this]
  · rename_i h
    have : ¬ b ≤ a := h
    simp [this]
theorem wbt (s : ByteArray) (i : Int) : wrap64 (bt s i) = bt s i := by
  have := bt_range s i
  exact w64 (by omega) (by omega)
theorem impl_body (s : ByteArray) (h : s.size ≤ 4611686018427387903) : Ev (fun k => impl_TreeBody.f k s) (bodyB s) := by
  unfold impl_TreeBody.f bodyB
  refine scan0 (fun k i => impl_TreeBody.l0 k s i) s.size _ _ _ ?_ ?_ ?_
  · exact Ev.step (fun k => by rw [impl_TreeBody.l0, if_neg (by omega)]) (Ev.now _)
  · intro i hi hp r hr
    refine Ev.step (f := fun k => impl_TreeBody.l0 k s ((i : Int) + 1)) (fun k => ?_) hr
    rw [impl_TreeBody.l0, if_pos (by omega), if_pos (by omega), wbt, in_is, w64s (b := s.size) (by omega) (by omega) (by omega)]
    simp only [Option.bind_some, in_is]
    cases hl : lowC (bt s i) with
    | true => rw [lowC] at hl; rw [hl, if_pos rfl]
    | false =>
      have hb : (decide (48 ≤ bt s i) && decide (bt s i ≤ 57)) = true := by simpa [bodyC, hl] using hp
      rw [lowC] at hl
      rw [hl, hb, if_neg (by decide), if_pos rfl]
  · intro i hi hp
    refine Ev.step (f := fun _ => some false) (fun k => ?_) (Ev.now _)
    rw [impl_TreeBody.l0, if_pos (by omega), if_pos (by omega), wbt, in_is]
    have hp' : bodyC (bt s i) = false := hp
    unfold bodyC lowC at hp'
    rw [Bool.or_eq_false_iff] at hp'
    simp only [Option.bind_some, in_is, hp'.1, hp'.2, Bool.false_eq_true, if_false]
theorem impl_word (s : ByteArray) (h : s.size ≤ 4611686018427387903) : Ev (fun k => impl_TreeWord.f k s) (wordB s) := by
  unfold impl_TreeWord.f wordB
  refine scan0 (fun k i => impl_TreeWord.l0 k s i) s.size _ _ _ ?_ ?_ ?_
  · exact Ev.step (fun k => by rw [impl_TreeWord.l0, if_neg (by omega), in_is, Option.bind_some]) (Ev.now _)
  · intro i hi hp r hr
    refine Ev.step (f := fun k => impl_TreeWord.l0 k s ((i : Int) + 1)) (fun k => ?_) hr
    have hp' : lowC (bt s i) = true := hp
    rw [lowC] at hp'
    rw [impl_TreeWord.l0, if_pos (by omega), if_pos (by omega), wbt, in_is, w64s (b := s.size) (by omega) (by omega) (by omega)]
    simp only [Option.bind_some, hp', if_true]
  · intro i hi hp
    refine Ev.step (f := fun _ => some false) (fun k => ?_) (Ev.now _)
    have hp' : lowC (bt s i) = false := hp
    rw [lowC] at hp'
    rw [impl_TreeWord.l0, if_pos (by omega), if_pos (by omega), wbt, in_is]
    simp only [Option.bind_some, hp', Bool.false_eq_true, if_false]
theorem spec_body (s : ByteArray) (h : s.size ≤ 4611686018427387903) : Ev (fun k => spec_TreeBody.f k s) (bodyB s) := by
  unfold spec_TreeBody.f bodyB
  refine scan0 (fun k i => spec_TreeBody.l0 k s i) s.size _ _ _ ?_ ?_ ?_
  · exact Ev.step (fun k => by rw [spec_TreeBody.l0, if_neg (by omega)]) (Ev.now _)
  · intro i hi hp r hr
    refine Ev.step (f := fun k => spec_TreeBody.l0 k s ((i : Int) + 1)) (fun k => ?_) hr
    rw [spec_TreeBody.l0, if_pos (by omega), if_pos (by omega), w64s (b := s.size) (by omega) (by omega) (by omega)]
    simp only [bodyC, lowC, Bool.or_eq_true, Bool.and_eq_true, decide_eq_true_eq] at hp
    repeat' split
    all_goals first | rfl | omega
  · intro i hi hp
    refine Ev.step (f := fun _ => some false) (fun k => ?_) (Ev.now _)
    rw [spec_TreeBody.l0, if_pos (by omega), if_pos (by omega)]
    simp only [bodyC, lowC, Bool.or_eq_false_iff, Bool.and_eq_false_iff, decide_eq_false_iff_not] at hp
    repeat' split
    all_goals first | rfl | omega
theorem spec_word (s : ByteArray) (h : s.size ≤ 4611686018427387903) : Ev (fun k => spec_TreeWord.f k s) (wordB s) := by
  unfold spec_TreeWord.f wordB
  refine scan0 (fun k i => spec_TreeWord.l0 k s i) s.size _ _ _ ?_ ?_ ?_
  · refine Ev.step (f := fun _ => some (decide (1 ≤ (s.size : Int)) && decide ((s.size : Int) ≤ 4))) (fun k => ?_) (Ev.now _)
    rw [spec_TreeWord.l0, if_neg (by omega)]
    split
    · rename_i h1
      have : 1 ≤ (s.size : Int) := h1
      simp [this]
    · rename_i h1
      have : ¬ 1 ≤ (s.size : Int) := h1
      simp only [this, decide_false, Bool.false_and]
  · intro i hi hp r hr
    refine Ev.step (f := fun k => spec_TreeWord.l0 k s ((i : Int) + 1)) (fun k => ?_) hr
    have := lowC_t hp
    rw [spec_TreeWord.l0, if_pos (by omega), if_pos (by omega), if_neg (by omega), if_neg (by omega), w64s (b := s.size) (by omega) (by omega) (by omega)]
  · intro i hi hp
    refine Ev.step (f := fun _ => some false) (fun k => ?_) (Ev.now _)
    have := lowC_f hp
    rw [spec_TreeWord.l0, if_pos (by omega), if_pos (by omega)]
    repeat' split
    all_goals first | rfl | omega
end Go.Proofs.Ytlaichooanflaaa.WordLaw
namespace Go.Proofs.Ytlaichooanflaaa.Ops
open Go.RowKit Go.Proofs.YtlaichooanflaaaW.PrintWords Go.Proofs.Ytlaichooanflaaa.Base Go.Proofs.Ytlaichooanflaaa.Q Go.Proofs.Ytlaichooanflaaa.WordLaw
def smallOp (x : S91) : Prop := x.f2.size ≤ 1048576 ∧ x.f4.size ≤ 1048576 ∧ x.f6.size ≤ 1048576
def cvOp (x : S91) : S73 := ⟨x.f0, x.f1, x.f2, x.f3, x.f4, x.f5, x.f6⟩
theorem size_step {a : Int} {s : Nat} (h0 : 0 ≤ a) (h1 : a ≤ 1048576) (hs : s ≤ 9223372036854775807) : wrap64 (a - (s : Int)) = a - s := w64 (by omega) (by omega)
theorem szOp (a0 a1 a3 a5 : Int) (s2 s4 s6 : ByteArray) (a : Int) (h0 : 0 ≤ a) (h1 : a ≤ 1048576) (z2 : s2.size ≤ 9223372036854775807) (z4 : s4.size ≤ 9223372036854775807) (z6 : s6.size ≤ 9223372036854775807) :
    ∃ r, laws_szOp.f a0 a1 s2 a3 s4 a5 s6 a = some r ∧ (r = -1 ∨ (0 ≤ r ∧ r ≤ a ∧ s2.size ≤ 1048576 ∧ s4.size ≤ 1048576 ∧ s6.size ≤ 1048576)) := by
  unfold laws_szOp.f
  rw [size_step h0 h1 z2]
  by_cases c2 : a - (s2.size : Int) < 0
  · rw [if_pos c2]; exact ⟨-1, rfl, .inl rfl⟩
  · rw [if_neg c2, size_step (a := a - (s2.size : Int)) (by omega) (by omega) z4]
    by_cases c4 : a - (s2.size : Int) - (s4.size : Int) < 0
    · rw [if_pos c4]; exact ⟨-1, rfl, .inl rfl⟩
    · rw [if_neg c4, size_step (a := a - (s2.size : Int) - (s4.size : Int)) (by omega) (by omega) z6]
      by_cases c6 : a - (s2.size : Int) - (s4.size : Int) - (s6.size : Int) < 0
      · rw [if_pos c6]; exact ⟨-1, rfl, .inl rfl⟩
      · rw [if_neg c6]
        exact ⟨_, rfl, .inr ⟨by omega, by omega, by omega, by omega, by omega⟩⟩
theorem szOpS (l : List S91) (hl : l.length ≤ 9223372036854775807) (hs : ∀ y ∈ l, y.f2.size ≤ 9223372036854775807 ∧ y.f4.size ≤ 9223372036854775807 ∧ y.f6.size ≤ 9223372036854775807) (a : Int) (h0 : 0 ≤ a) (h1 : a ≤ 1048576) :
    ∃ r, Ev (fun k => laws_szOpS.f k l a) r ∧ (0 ≤ r → r ≤ a ∧ l.length ≤ 1048576 ∧ ∀ x ∈ l, smallOp x) := by
  unfold laws_szOpS.f
  rw [size_step h0 h1 hl]
  by_cases c : a - (l.length : Int) < 0
  · exact ⟨-1, Ev.pos c (Ev.now _), fun h => absurd h (by omega)⟩
  · obtain ⟨r, hr, hp⟩ := sizeLoop (fun k a i => laws_szOpS.l0 k l a i) l.length (fun j => ∀ x, l[j]? = some x → smallOp x)
      (fun a => Ev.step (fun k => by rw [laws_szOpS.l0, if_neg (by omega)]) (Ev.now _))
      (fun i a hi h0 h1 => by
        have hx : l[i] ∈ l := List.getElem_mem hi
        have e : rd_T91 l (i : Int) = l[i] := by simp [rd_T91, List.getD_eq_getElem?_getD, List.getElem?_eq_getElem hi]
        obtain ⟨z2, z4, z6⟩ := hs _ hx
        obtain ⟨r, hr, hp⟩ := szOp l[i].f0 l[i].f1 l[i].f3 l[i].f5 l[i].f2 l[i].f4 l[i].f6 a h0 h1 z2 z4 z6
        have hstep : ∀ k, laws_szOpS.l0 (k + 1) l a (i : Int) = if r < 0 then some (-1) else laws_szOpS.l0 k l r ((i : Int) + 1) := by
          intro k
          rw [laws_szOpS.l0, if_pos (by omega), if_pos (by omega), e, hr, w64s (b := 4611686018427387904) (by omega) (by omega) (by omega)]
          rfl
        rcases hp with rfl | ⟨p0, p1, p2⟩
        · left
          exact Ev.step (f := fun _ => some (-1)) (fun k => by rw [hstep, if_pos (by decide)]) (Ev.now _)
        · right
          refine ⟨r, p0, p1, ?_, fun q hq => Ev.step (fun k => by rw [hstep, if_neg (by omega)]) hq⟩
          intro x hx'
          rw [List.getElem?_eq_getElem hi] at hx'
          injection hx' with hx'
          rw [← hx']
          exact p2)
      l.length 0 rfl (Nat.zero_le _) (a - (l.length : Int)) (by omega) (by omega)
    refine ⟨r, Ev.neg c hr, fun h => ⟨by have := (hp h).1; omega, by omega, fun x hx => ?_⟩⟩
    obtain ⟨j, hj, rfl⟩ := List.mem_iff_getElem.1 hx
    exact (hp h).2 j (Nat.zero_le _) hj _ (List.getElem?_eq_getElem hj)
theorem toOpS (l : List S91) (hl : l.length ≤ 1048576) : Ev (fun k => laws_toOpS.f k l) (l.map cvOp) := by
  unfold laws_toOpS.f
  refine Ev.pos (by omega) (Ev.pos (by omega) ?_)
  refine Ev.cast (fill0 (fun k out i => laws_toOpS.l0 k l out i) l.length (fun j => cvOp (l.getD j z91)) _ (by simp) ?_ ?_) (map_range_get l _ _)
  · intro out _
    exact Ev.step (fun k => by rw [laws_toOpS.l0, if_neg (by omega)]) (Ev.now _)
  · intro i out hi ho r hr
    refine Ev.step (fun k => ?_) hr
    rw [laws_toOpS.l0, if_pos (by omega), if_pos (by omega), w64s (b := l.length) (by omega) (by omega) (by omega)]
    unfold laws_toOp.f
    simp only [Option.bind_some]
    rw [if_pos (by omega)]
    rfl
theorem op_ext (x y : S73) : (x.f0 = y.f0 ∧ x.f1 = y.f1 ∧ x.f2.toList = y.f2.toList ∧ x.f3 = y.f3 ∧ x.f4.toList = y.f4.toList ∧ x.f5 = y.f5 ∧ x.f6.toList = y.f6.toList) ↔ x = y := by
  simp only [bytes_inj]
  constructor
  · rintro ⟨h0, h1, h2, h3, h4, h5, h6⟩
    cases x; cases y
    simp_all
  · rintro rfl
    simp
theorem eqOp_is (x y : S73) : laws_eqOp.f x.f0 x.f1 x.f2 x.f3 x.f4 x.f5 x.f6 y.f0 y.f1 y.f2 y.f3 y.f4 y.f5 y.f6 = some (tr (x = y)) := by
  have h := op_ext x y
  unfold laws_eqOp.f
  repeat' split
  all_goals (congr 1; symm)
  all_goals first | (rw [tr_iff, ← h]; grind) | (apply tr_f; rw [← h]; grind)
theorem eqOpS (a b : List S73) (hl : a.length ≤ 4611686018427387903) : Ev (fun k => laws_eqOpS.f k a b) (tr (a = b)) := by
  unfold laws_eqOpS.f
  by_cases c : (a.length : Int) = (b.length : Int)
  · refine Ev.pos c (eqLoop (fun k i => laws_eqOpS.l0 k a b i) a b z73 (by omega) ?_ ?_ ?_)
    · exact Ev.step (fun k => by rw [laws_eqOpS.l0, if_neg (by omega)]) (Ev.now _)
    · intro i hi he r hr
      refine Ev.step (fun k => ?_) hr
      have he' : rd_T73 a i = rd_T73 b i := by simpa [rd_T73] using he
      rw [laws_eqOpS.l0, if_pos (by omega), if_pos (by omega), if_pos (by omega), eqOp_is, Option.bind_some, if_pos (tr_t he'), w64s (b := a.length) (by omega) (by omega) (by omega)]
    · intro i hi he
      refine Ev.step (f := fun _ => some false) (fun k => ?_) (Ev.now _)
      have he' : rd_T73 a i ≠ rd_T73 b i := by simpa [rd_T73] using he
      rw [laws_eqOpS.l0, if_pos (by omega), if_pos (by omega), if_pos (by omega), eqOp_is, Option.bind_some, if_neg (fun h => he' (tr_iff.1 h))]
  · refine Ev.neg c (Ev.cast (Ev.now false) ?_)
    symm
    apply tr_f
    rintro rfl
    exact c rfl
end Go.Proofs.Ytlaichooanflaaa.Ops
namespace Go.Proofs.Ytlaichooanflaaa.OpOk
open Go.RowKit Go.Proofs.YtlaichooanflaaaW.PrintWords Go.Proofs.Ytlaichooanflaaa.Base Go.Proofs.Ytlaichooanflaaa.Q Go.Proofs.Ytlaichooanflaaa.WordLaw
def inB (a lo hi : Int) : Bool := decide (lo ≤ a) && decide (a ≤ hi)
def noB (s : ByteArray) : Bool := s.toList == ([] : List UInt8)
/-- Is this operation, by its fields, a valid one? -/
def opB (kind dir : Int) (name : ByteArray) (dir2 : Int) (name2 : ByteArray) (id : Int) (text : ByteArray) : Bool :=
  inB id 1 31 &&
    (if kind = 1 ∨ kind = 2 ∨ kind = 3 then inB dir 0 31 && wordB name && (decide (dir2 = 0) && noB name2) && noB text
    else if kind = 4 then inB dir 0 31 && wordB name && (inB dir2 0 31 && wordB name2) && noB text
    else if kind = 5 then decide (dir = 0) && noB name && (decide (dir2 = 0) && noB name2) && bodyB text
    else false)
theorem l1Id (a : Int) : spec_l1Id.f a = some (inB a 0 31) := by
  unfold spec_l1Id.f inB
  have e : decide (a < 32) = decide (a ≤ 31) := by rw [Bool.eq_iff_iff]; simp; omega
  split
  · rename_i h
    have : 0 ≤ a := h
    simp [this, e]
  · rename_i h
    have : ¬ 0 ≤ a := h
    simp [this]
section
variable {k d d2 i : Int} {n n2 t : ByteArray}
theorem spec4 (x3 x4 x5 x6 x41 : Bool) (ht : t.size ≤ 4611686018427387903) : Ev (fun j => spec_OpOk.j4 j x3 x4 x5 x6 k x41 k d n d2 n2 i t)
    (if x41 = true then x3 && x4 && x6 && noB t else if k = 4 then x3 && x4 && x5 && noB t else if k = 5 then x3 && (decide (d = 0) && noB n) && x6 && bodyB t else false) := by
  refine Ev.step (fun j => by rw [spec_OpOk.j4]) ?_
  refine Ev.iteR ?_ (Ev.iteR ?_ (Ev.iteR ?_ (Ev.now _)))
  · cases x3 <;> cases x4 <;> cases x6 <;> exact Ev.now _
  · cases x3 <;> cases x4 <;> cases x5 <;> exact Ev.now _
  · refine Ev.cast (Ev.iteR (Ev.iteR (Ev.iteR (Ev.iteR (Ev.bind (spec_body t ht) (Ev.now _)) (Ev.now _)) (Ev.now _)) (Ev.now _)) (Ev.now _)) ?_
    cases x3 <;> cases x6 <;> simp [noB]
    all_goals by_cases h : d = 0 <;> by_cases h2 : n.toList = [] <;> simp [h, h2]
theorem spec3 (x3 x4 x5 x6 : Bool) (ht : t.size ≤ 4611686018427387903) : Ev (fun j => spec_OpOk.j3 j x3 x4 x5 x6 k d n d2 n2 i t)
    (if k = 1 ∨ k = 2 ∨ k = 3 then x3 && x4 && x6 && noB t else if k = 4 then x3 && x4 && x5 && noB t else if k = 5 then x3 && (decide (d = 0) && noB n) && x6 && bodyB t else false) := by
  refine Ev.step (fun j => by rw [spec_OpOk.j3]) ?_
  refine Ev.cast (Ev.iteR (spec4 x3 x4 x5 x6 _ ht) (Ev.iteR (spec4 x3 x4 x5 x6 _ ht) (spec4 x3 x4 x5 x6 _ ht))) ?_
  by_cases h1 : k = 1
  · subst h1; simp
  · by_cases h2 : k = 2
    · subst h2; simp
    · by_cases h3 : k = 3
      · subst h3; simp
      · simp [h1, h2, h3]
theorem spec2 (x3 x4 x5 : Bool) (ht : t.size ≤ 4611686018427387903) : Ev (fun j => spec_OpOk.j2 j x3 x4 x5 k d n d2 n2 i t)
    (if k = 1 ∨ k = 2 ∨ k = 3 then x3 && x4 && (decide (d2 = 0) && noB n2) && noB t else if k = 4 then x3 && x4 && x5 && noB t else if k = 5 then x3 && (decide (d = 0) && noB n) && (decide (d2 = 0) && noB n2) && bodyB t else false) := by
  refine Ev.step (fun j => by rw [spec_OpOk.j2]) ?_
  refine Ev.cast (Ev.iteR (spec3 x3 x4 x5 _ ht) (spec3 x3 x4 x5 _ ht)) ?_
  by_cases h : d2 = 0 <;> simp [h, noB]
theorem spec_ok (hn : n.size ≤ 4611686018427387903) (hn2 : n2.size ≤ 4611686018427387903) (ht : t.size ≤ 4611686018427387903) : Ev (fun j => spec_OpOk.f j k d n d2 n2 i t) (opB k d n d2 n2 i t) := by
  unfold spec_OpOk.f
  have main : ∀ x3, Ev (fun j => spec_OpOk.j0 j x3 k d n d2 n2 i t) (if k = 1 ∨ k = 2 ∨ k = 3 then x3 && (inB d 0 31 && wordB n) && (decide (d2 = 0) && noB n2) && noB t else if k = 4 then x3 && (inB d 0 31 && wordB n) && (inB d2 0 31 && wordB n2) && noB t else if k = 5 then x3 && (decide (d = 0) && noB n) && (decide (d2 = 0) && noB n2) && bodyB t else false) := by
    intro x3
    have s1 : ∀ x4, Ev (fun j => spec_OpOk.j1 j x3 x4 k d n d2 n2 i t) (if k = 1 ∨ k = 2 ∨ k = 3 then x3 && x4 && (decide (d2 = 0) && noB n2) && noB t else if k = 4 then x3 && x4 && (inB d2 0 31 && wordB n2) && noB t else if k = 5 then x3 && (decide (d = 0) && noB n) && (decide (d2 = 0) && noB n2) && bodyB t else false) := by
      intro x4
      refine Ev.step (fun j => by rw [spec_OpOk.j1, l1Id, Option.bind_some]) ?_
      refine Ev.cast (Ev.iteR (Ev.bind (spec_word n2 hn2) (spec2 x3 x4 _ ht)) (spec2 x3 x4 _ ht)) ?_
      cases inB d2 0 31 <;> simp
    refine Ev.step (fun j => by rw [spec_OpOk.j0, l1Id, Option.bind_some]) ?_
    refine Ev.cast (Ev.iteR (Ev.bind (spec_word n hn) (s1 _)) (s1 _)) ?_
    cases inB d 0 31 <;> simp
  refine Ev.cast (r := if i ≥ 1 then _ else _) (Ev.iteR (Ev.of_eq (f := fun j => spec_OpOk.j0 j (inB i 0 31) k d n d2 n2 i t) (main _) (fun j => by rw [l1Id, Option.bind_some])) (main false)) ?_
  unfold opB
  have e : inB i 1 31 = (decide (i ≥ 1) && inB i 0 31) := by
    unfold inB
    rw [Bool.eq_iff_iff]
    simp
    omega
  rw [e]
  by_cases h : i ≥ 1
  · rw [if_pos h, decide_eq_true h, Bool.true_and]
    cases inB i 0 31 <;> simp [Bool.and_assoc]
  · rw [if_neg h, decide_eq_false h]
    simp
theorem impl2 (x3 x4 x27 : Bool) (hn2 : n2.size ≤ 4611686018427387903) (ht : t.size ≤ 4611686018427387903) : Ev (fun j => impl_OpOk.j2 j x3 x4 k x27 k d n d2 n2 i t)
    (if x27 = true then x3 && x4 && noB t else if k = 4 then x3 && (inB d2 0 31 && wordB n2) && noB t else if k = 5 then (decide (d = 0) && noB n) && x4 && bodyB t else false) := by
  refine Ev.step (fun j => by rw [impl_OpOk.j2]) ?_
  refine Ev.iteR ?_ (Ev.iteR ?_ (Ev.iteR ?_ (Ev.now _)))
  · cases x3 <;> cases x4 <;> exact Ev.now _
  · refine Ev.cast (Ev.iteR (Ev.of_eq (f := fun j => if inB d2 0 31 = true then (impl_TreeWord.f j n2).bind fun t178 => if t178 = true then some (t.toList == ([] : List UInt8)) else some false else some false) (Ev.iteR (Ev.bind (impl_word n2 hn2) (Ev.iteR (Ev.now _) (Ev.now _))) (Ev.now _)) (fun j => by rw [in_is, Option.bind_some]; rfl)) (Ev.now _)) ?_
    cases x3 <;> cases inB d2 0 31 <;> cases wordB n2 <;> simp [noB]
  · refine Ev.cast (Ev.iteR (Ev.iteR (Ev.iteR (Ev.bind (impl_body t ht) (Ev.now _)) (Ev.now _)) (Ev.now _)) (Ev.now _)) ?_
    by_cases h : d = 0 <;> by_cases h2 : n.toList = [] <;> cases x4 <;> simp [h, h2, noB]
theorem impl1 (x3 x4 : Bool) (hn2 : n2.size ≤ 4611686018427387903) (ht : t.size ≤ 4611686018427387903) : Ev (fun j => impl_OpOk.j1 j x3 x4 k d n d2 n2 i t)
    (if k = 1 ∨ k = 2 ∨ k = 3 then x3 && x4 && noB t else if k = 4 then x3 && (inB d2 0 31 && wordB n2) && noB t else if k = 5 then (decide (d = 0) && noB n) && x4 && bodyB t else false) := by
  refine Ev.step (fun j => by rw [impl_OpOk.j1]) ?_
  refine Ev.cast (Ev.iteR (impl2 x3 x4 _ hn2 ht) (Ev.iteR (impl2 x3 x4 _ hn2 ht) (impl2 x3 x4 _ hn2 ht))) ?_
  by_cases h1 : k = 1
  · subst h1; simp
  · by_cases h2 : k = 2
    · subst h2; simp
    · by_cases h3 : k = 3
      · subst h3; simp
      · simp [h1, h2, h3]
theorem impl_ok (hn : n.size ≤ 4611686018427387903) (hn2 : n2.size ≤ 4611686018427387903) (ht : t.size ≤ 4611686018427387903) : Ev (fun j => impl_OpOk.f j k d n d2 n2 i t) (opB k d n d2 n2 i t) := by
  unfold impl_OpOk.f
  have main : ∀ x3, Ev (fun j => impl_OpOk.j0 j x3 k d n d2 n2 i t) (if k = 1 ∨ k = 2 ∨ k = 3 then x3 && (decide (d2 = 0) && noB n2) && noB t else if k = 4 then x3 && (inB d2 0 31 && wordB n2) && noB t else if k = 5 then (decide (d = 0) && noB n) && (decide (d2 = 0) && noB n2) && bodyB t else false) := by
    intro x3
    refine Ev.step (fun j => by rw [impl_OpOk.j0]) ?_
    refine Ev.cast (Ev.iteR (impl1 x3 _ hn2 ht) (impl1 x3 _ hn2 ht)) ?_
    by_cases h : d2 = 0 <;> simp [h, noB]
  have inner : Ev (fun j => (impl_in.f d 0 31).bind fun t175 => if t175 = true then (impl_TreeWord.f j n).bind fun t176 => impl_OpOk.j0 j t176 k d n d2 n2 i t else impl_OpOk.j0 j false k d n d2 n2 i t) (if k = 1 ∨ k = 2 ∨ k = 3 then (inB d 0 31 && wordB n) && (decide (d2 = 0) && noB n2) && noB t else if k = 4 then (inB d 0 31 && wordB n) && (inB d2 0 31 && wordB n2) && noB t else if k = 5 then (decide (d = 0) && noB n) && (decide (d2 = 0) && noB n2) && bodyB t else false) := by
    refine Ev.of_eq (f := fun j => if inB d 0 31 = true then (impl_TreeWord.f j n).bind fun t176 => impl_OpOk.j0 j t176 k d n d2 n2 i t else impl_OpOk.j0 j false k d n d2 n2 i t) ?_ (fun j => by rw [in_is, Option.bind_some]; rfl)
    refine Ev.cast (Ev.iteR (Ev.bind (impl_word n hn) (main _)) (main _)) ?_
    cases inB d 0 31 <;> simp
  refine Ev.of_eq (f := fun j => if inB i 1 31 = true then (impl_in.f d 0 31).bind fun t175 => if t175 = true then (impl_TreeWord.f j n).bind fun t176 => impl_OpOk.j0 j t176 k d n d2 n2 i t else impl_OpOk.j0 j false k d n d2 n2 i t else some false) ?_ (fun j => by rw [in_is, Option.bind_some]; rfl)
  refine Ev.cast (Ev.iteR inner (Ev.now false)) ?_
  unfold opB
  cases inB i 1 31 <;> simp
end
end Go.Proofs.Ytlaichooanflaaa.OpOk
namespace Go.Proofs.Ytlaichooanflaaa.Forms
open Go.RowKit Go.Proofs.YtlaichooanflaaaW.PrintWords Go.Proofs.Ytlaichooanflaaa.Base Go.Proofs.Ytlaichooanflaaa.Q Go.Proofs.Ytlaichooanflaaa.OpOk
def wideO (x : S73) : Prop := x.f2.size ≤ 4611686018427387903 ∧ x.f4.size ≤ 4611686018427387903 ∧ x.f6.size ≤ 4611686018427387903
def okX (x : S73) : Bool := opB x.f0 x.f1 x.f2 x.f3 x.f4 x.f5 x.f6
def formsB (l : List S73) : Bool := decide ((l.length : Int) ≤ 60) && allOf (fun j => okX (rd_T73 l (j : Int))) 0 l.length
theorem wide_rd {l : List S73} (hw : ∀ x ∈ l, wideO x) {i : Nat} (hi : i < l.length) : wideO (rd_T73 l (i : Int)) := by
  have e : rd_T73 l (i : Int) = l[i] := by simp [rd_T73, List.getD_eq_getElem?_getD, List.getElem?_eq_getElem hi]
  rw [e]
  exact hw _ (List.getElem_mem hi)
theorem spec_forms (l : List S73) (hw : ∀ x ∈ l, wideO x) : Ev (fun k => spec_l3Forms.f k l) (formsB l) := by
  unfold spec_l3Forms.f formsB
  by_cases c : (l.length : Int) > 60
  · refine Ev.pos c (Ev.cast (Ev.now _) ?_)
    rw [decide_eq_false (by omega)]
    rfl
  · refine Ev.neg c ?_
    rw [decide_eq_true (by omega), Bool.true_and]
    refine Ev.cast (scan0 (fun k i => spec_l3Forms.l0 k l i) l.length (fun j => okX (rd_T73 l (j : Int))) true false ?_ ?_ ?_) (by split <;> simp_all)
    · exact Ev.step (f := fun _ => some true) (fun k => by rw [spec_l3Forms.l0, if_neg (by omega)]) (Ev.now _)
    · intro i hi hp r hr
      have hx := wide_rd hw hi
      refine Ev.step (fun k => by rw [spec_l3Forms.l0, if_pos (by omega), if_pos (by omega), w64s (b := 61) (by omega) (by omega) (by omega)]) (Ev.bind (spec_ok hx.1 hx.2.1 hx.2.2) ?_)
      exact Ev.pos hp hr
    · intro i hi hp
      have hx := wide_rd hw hi
      refine Ev.step (fun k => by rw [spec_l3Forms.l0, if_pos (by omega), if_pos (by omega)]) (Ev.bind (spec_ok hx.1 hx.2.1 hx.2.2) ?_)
      exact Ev.neg (by unfold okX at hp; rw [hp]; decide) (Ev.now _)
theorem impl_forms (l : List S73) (hl : l.length ≤ 4611686018427387903) (hw : ∀ x ∈ l, wideO x) : Ev (fun k => impl_opsOk.f k l 60) (formsB l) := by
  unfold impl_opsOk.f formsB
  refine Ev.cast (scan0 (fun k i => impl_opsOk.l0 k l 60 l (l.length : Int) i) l.length (fun j => okX (rd_T73 l (j : Int))) (decide ((l.length : Int) ≤ 60)) false ?_ ?_ ?_) ?_
  · exact Ev.step (f := fun _ => some (decide ((l.length : Int) ≤ 60))) (fun k => by rw [impl_opsOk.l0, if_neg (by omega)]) (Ev.now _)
  · intro i hi hp r hr
    have hx := wide_rd hw hi
    refine Ev.step (fun k => by rw [impl_opsOk.l0, if_pos (by omega), if_pos (by omega), if_pos (by omega), w64s (b := l.length) (by omega) (by omega) (by omega)]) (Ev.bind (impl_ok hx.1 hx.2.1 hx.2.2) ?_)
    exact Ev.pos hp hr
  · intro i hi hp
    have hx := wide_rd hw hi
    refine Ev.step (fun k => by rw [impl_opsOk.l0, if_pos (by omega), if_pos (by omega), if_pos (by omega)]) (Ev.bind (impl_ok hx.1 hx.2.1 hx.2.2) ?_)
    exact Ev.neg (by unfold okX at hp; rw [hp]; decide) (Ev.now _)
  · cases allOf (fun j => okX (rd_T73 l (j : Int))) 0 l.length <;> simp
end Go.Proofs.Ytlaichooanflaaa.Forms
namespace Go.Proofs.Ytlaichooanflaaa.SlimM
open Go.RowKit Go.Proofs.YtlaichooanflaaaW.PrintWords Go.Proofs.Ytlaichooanflaaa.Base Go.Proofs.Ytlaichooanflaaa.Q Go.Proofs.Ytlaichooanflaaa.Forms
/-- Does b move on what a made or moved? -/
def joinsB (a b : S73) : Bool :=
  decide (b.f0 = 4 ∧ a.f5 = b.f5) && (if a.f0 = 1 ∨ a.f0 = 2 then decide (b.f1 = a.f1) && (b.f2.toList == a.f2.toList) else if a.f0 = 4 then decide (b.f1 = a.f3) && (b.f2.toList == a.f4.toList) else false)
def joinL (a b : S73) : List S73 := if a.f0 = 4 then (if a.f1 = b.f3 ∧ a.f2.toList = b.f4.toList then [] else [⟨a.f0, a.f1, a.f2, b.f3, b.f4, a.f5, a.f6⟩]) else [⟨a.f0, b.f3, b.f4, a.f3, a.f4, a.f5, a.f6⟩]
theorem joinL_le (a b : S73) : (joinL a b).length ≤ 1 := by
  unfold joinL
  split
  · split <;> simp
  · simp
theorem beq_s (x y : List UInt8) : (x == y) = (y == x) := by rw [Bool.eq_iff_iff, beq_iff_eq, beq_iff_eq]; exact eq_comm
theorem l4Join (a b : S73) : spec_l4Join.f a.f0 a.f1 a.f2 a.f3 a.f4 a.f5 a.f6 b.f0 b.f1 b.f2 b.f3 b.f4 b.f5 b.f6 = some (joinL a b) := by
  unfold spec_l4Join.f joinL
  by_cases c0 : a.f0 = 4
  · rw [if_pos c0, if_pos c0]
    by_cases c1 : a.f1 = b.f3
    · rw [if_pos c1]
      by_cases c2 : a.f2.toList = b.f4.toList
      · rw [if_pos c2, if_pos ⟨c1, c2⟩]
      · rw [if_neg c2, if_neg (fun h => c2 h.2)]
    · rw [if_neg c1, if_neg (fun h => c1 h.1)]
  · rw [if_neg c0, if_neg c0]
theorem joins_no {a b : S73} (h : ¬ (b.f0 = 4 ∧ a.f5 = b.f5)) : joinsB a b = false := by unfold joinsB; rw [decide_eq_false h, Bool.false_and]
theorem joins_new {a b : S73} (h : b.f0 = 4 ∧ a.f5 = b.f5) (c : a.f0 = 1 ∨ a.f0 = 2) : joinsB a b = (decide (b.f1 = a.f1) && (b.f2.toList == a.f2.toList)) := by unfold joinsB; rw [decide_eq_true h, Bool.true_and, if_pos c]
theorem joins_mov {a b : S73} (h : b.f0 = 4 ∧ a.f5 = b.f5) (c : a.f0 = 4) : joinsB a b = (decide (b.f1 = a.f3) && (b.f2.toList == a.f4.toList)) := by unfold joinsB; rw [decide_eq_true h, Bool.true_and, if_neg (by omega), if_pos c]
theorem joins_els {a b : S73} (c : ¬ (a.f0 = 1 ∨ a.f0 = 2)) (c' : ¬ a.f0 = 4) : joinsB a b = false := by unfold joinsB; rw [if_neg c, if_neg c', Bool.and_false]
theorem l4Joins (a b : S73) : Ev (fun k => spec_l4Joins.f k a.f0 a.f1 a.f2 a.f3 a.f4 a.f5 a.f6 b.f0 b.f1 b.f2 b.f3 b.f4 b.f5 b.f6) (joinsB a b) := by
  unfold spec_l4Joins.f
  have no : Ev (fun k => spec_l4Joins.j0 k true a.f0 a.f1 a.f2 a.f3 a.f4 a.f5 a.f6 b.f0 b.f1 b.f2 b.f3 b.f4 b.f5 b.f6) false := Ev.step (f := fun _ => some false) (fun k => by rw [spec_l4Joins.j0, if_pos rfl]) (Ev.now _)
  by_cases c0 : b.f0 = 4
  case neg => rw [joins_no (fun h => c0 h.1)]; exact Ev.neg c0 no
  refine Ev.pos c0 ?_
  by_cases c5 : a.f5 = b.f5
  case neg =>
    rw [joins_no (fun h => c5 h.2), bne_iff_ne.2 c5]
    exact no
  rw [show (a.f5 != b.f5) = false from by rw [c5]; simp]
  refine Ev.step (fun k => by rw [spec_l4Joins.j0, if_neg (by decide)]) ?_
  by_cases c1 : a.f0 = 1 ∨ a.f0 = 2
  · have hx : Ev (fun k => spec_l4Joins.j1 k a.f0 true a.f0 a.f1 a.f2 a.f3 a.f4 a.f5 a.f6 b.f0 b.f1 b.f2 b.f3 b.f4 b.f5 b.f6) (joinsB a b) := by
      rw [joins_new ⟨c0, c5⟩ c1]
      refine Ev.step (f := fun _ => some (decide (b.f1 = a.f1) && (b.f2.toList == a.f2.toList))) (fun k => ?_) (Ev.now _)
      rw [spec_l4Joins.j1, if_pos rfl]
      by_cases d : b.f1 = a.f1
      · rw [if_pos d, decide_eq_true d, Bool.true_and]
      · rw [if_neg d, decide_eq_false d, Bool.false_and]
    by_cases c2 : a.f0 = 1
    · refine Ev.pos c2 ?_
      rw [beq_iff_eq.2 c2]
      exact hx
    · refine Ev.neg c2 ?_
      rw [beq_iff_eq.2 (show a.f0 = 2 by omega)]
      exact hx
  · refine Ev.neg (fun h => c1 (.inl h)) ?_
    rw [beq_eq_false_iff_ne.2 (show a.f0 ≠ 2 from fun h => c1 (.inr h))]
    by_cases c4 : a.f0 = 4
    · rw [joins_mov ⟨c0, c5⟩ c4]
      refine Ev.step (f := fun _ => some (decide (b.f1 = a.f3) && (b.f2.toList == a.f4.toList))) (fun k => ?_) (Ev.now _)
      rw [spec_l4Joins.j1, if_neg (by decide), if_pos c4]
      by_cases d : b.f1 = a.f3
      · rw [if_pos d, decide_eq_true d, Bool.true_and]
      · rw [if_neg d, decide_eq_false d, Bool.false_and]
    · rw [joins_els c1 c4]
      exact Ev.step (f := fun _ => some false) (fun k => by rw [spec_l4Joins.j1, if_neg (by decide), if_neg c4]) (Ev.now _)
/-- What the implementation's joining says: the operation, whether it joins, whether nothing is left. -/
abbrev Com := Int × Int × ByteArray × Int × ByteArray × Int × ByteArray × Bool × Bool
def comOk (a b : S73) (t : Com) : Prop := t.2.2.2.2.2.2.2.1 = joinsB a b ∧ (joinsB a b = true → (if t.2.2.2.2.2.2.2.2 = true then [] else [(⟨t.1, t.2.1, t.2.2.1, t.2.2.2.1, t.2.2.2.2.1, t.2.2.2.2.2.1, t.2.2.2.2.2.2.1⟩ : S73)]) = joinL a b)
theorem combined (a b : S73) : ∃ t : Com, Ev (fun k => impl_combined.f k a.f0 a.f1 a.f2 a.f3 a.f4 a.f5 a.f6 b.f0 b.f1 b.f2 b.f3 b.f4 b.f5 b.f6) t ∧ comOk a b t := by
  unfold impl_combined.f
  have no : joinsB a b = false → comOk a b (0, 0, (⟨#[]⟩ : ByteArray), 0, (⟨#[]⟩ : ByteArray), 0, (⟨#[]⟩ : ByteArray), false, false) := fun h => ⟨h.symm, fun h' => by rw [h] at h'; cases h'⟩
  have j0t : Ev (fun k => impl_combined.j0 k true a.f0 a.f1 a.f2 a.f3 a.f4 a.f5 a.f6 b.f0 b.f1 b.f2 b.f3 b.f4 b.f5 b.f6) (0, 0, (⟨#[]⟩ : ByteArray), 0, (⟨#[]⟩ : ByteArray), 0, (⟨#[]⟩ : ByteArray), false, false) := Ev.step (f := fun _ => some (0, 0, (⟨#[]⟩ : ByteArray), 0, (⟨#[]⟩ : ByteArray), 0, (⟨#[]⟩ : ByteArray), false, false)) (fun k => by rw [impl_combined.j0, if_pos rfl]) (Ev.now _)
  by_cases c5 : a.f5 = b.f5
  case neg => exact ⟨_, Ev.neg c5 j0t, no (joins_no (fun h => c5 h.2))⟩
  by_cases c0 : b.f0 = 4
  case neg => exact ⟨_, Ev.pos c5 (by rw [bne_iff_ne.2 c0]; exact j0t), no (joins_no (fun h => c0 h.1))⟩
  have hb : (b.f0 != 4) = false := by rw [c0]; rfl
  by_cases c1 : a.f0 = 1 ∨ a.f0 = 2
  · have hx : Ev (fun k => impl_combined.j1 k a.f0 true a.f0 a.f1 a.f2 a.f3 a.f4 a.f5 a.f6 b.f0 b.f1 b.f2 b.f3 b.f4 b.f5 b.f6) (a.f0, b.f3, b.f4, a.f3, a.f4, a.f5, a.f6, (decide (b.f1 = a.f1) && (b.f2.toList == a.f2.toList)), false) := by
      refine Ev.step (f := fun _ => some (a.f0, b.f3, b.f4, a.f3, a.f4, a.f5, a.f6, (decide (b.f1 = a.f1) && (b.f2.toList == a.f2.toList)), false)) (fun k => ?_) (Ev.now _)
      rw [impl_combined.j1, if_pos rfl]
      by_cases d : a.f1 = b.f1
      · rw [if_pos d, decide_eq_true d.symm, Bool.true_and, beq_s]
      · rw [if_neg d, decide_eq_false (fun h => d h.symm), Bool.false_and]
    refine ⟨(a.f0, b.f3, b.f4, a.f3, a.f4, a.f5, a.f6, (decide (b.f1 = a.f1) && (b.f2.toList == a.f2.toList)), false), Ev.pos c5 ?_, (joins_new ⟨c0, c5⟩ c1).symm, fun _ => ?_⟩
    rotate_left
    · unfold joinL
      rw [if_neg (show ¬ a.f0 = 4 by omega)]
      rfl
    · rw [hb]
      refine Ev.step (fun k => by rw [impl_combined.j0, if_neg (by decide)]) ?_
      by_cases c2 : a.f0 = 1
      · refine Ev.pos c2 ?_
        rw [beq_iff_eq.2 c2]
        exact hx
      · refine Ev.neg c2 ?_
        rw [beq_iff_eq.2 (show a.f0 = 2 by omega)]
        exact hx
  · have h2 : (a.f0 == 2) = false := beq_eq_false_iff_ne.2 (show a.f0 ≠ 2 from fun h => c1 (.inr h))
    by_cases c4 : a.f0 = 4
    · refine ⟨(a.f0, a.f1, a.f2, b.f3, b.f4, a.f5, a.f6, (decide (b.f1 = a.f3) && (b.f2.toList == a.f4.toList)), (decide (a.f1 = b.f3) && (a.f2.toList == b.f4.toList))), Ev.pos c5 ?_, (joins_mov ⟨c0, c5⟩ c4).symm, fun _ => ?_⟩
      · rw [hb]
        refine Ev.step (fun k => by rw [impl_combined.j0, if_neg (by decide)]) (Ev.neg (fun h => c1 (.inl h)) ?_)
        rw [h2]
        refine Ev.step (f := fun _ => some (a.f0, a.f1, a.f2, b.f3, b.f4, a.f5, a.f6, (decide (b.f1 = a.f3) && (b.f2.toList == a.f4.toList)), (decide (a.f1 = b.f3) && (a.f2.toList == b.f4.toList)))) (fun k => ?_) (Ev.now _)
        rw [impl_combined.j1, if_neg (by decide), if_pos c4]
        by_cases d : a.f3 = b.f1
        · rw [if_pos d, decide_eq_true d.symm, Bool.true_and, beq_s]
          by_cases d' : a.f1 = b.f3
          · rw [if_pos d', decide_eq_true d', Bool.true_and]
          · rw [if_neg d', decide_eq_false d', Bool.false_and]
        · rw [if_neg d, decide_eq_false (fun h => d h.symm), Bool.false_and]
          by_cases d' : a.f1 = b.f3
          · rw [if_pos d', decide_eq_true d', Bool.true_and]
          · rw [if_neg d', decide_eq_false d', Bool.false_and]
      · unfold joinL
        rw [if_pos c4]
        by_cases d : a.f1 = b.f3 ∧ a.f2.toList = b.f4.toList
        · rw [if_pos d, if_pos (by rw [decide_eq_true d.1, Bool.true_and]; exact beq_iff_eq.2 d.2)]
        · rw [if_neg d, if_neg (fun h => d (by simp only [Bool.and_eq_true, decide_eq_true_eq, beq_iff_eq] at h; exact h))]
    · refine ⟨_, Ev.pos c5 ?_, no (joins_els c1 c4)⟩
      rw [hb]
      refine Ev.step (fun k => by rw [impl_combined.j0, if_neg (by decide)]) (Ev.neg (fun h => c1 (.inl h)) ?_)
      rw [h2]
      exact Ev.step (f := fun _ => some (0, 0, (⟨#[]⟩ : ByteArray), 0, (⟨#[]⟩ : ByteArray), 0, (⟨#[]⟩ : ByteArray), false, false)) (fun k => by rw [impl_combined.j1, if_neg (by decide), if_neg c4]) (Ev.now _)
theorem moves_both : ∀ (n : Nat) (l : List S73) (i : Nat), 61 * l.length + (l.length - i) ≤ n → l.length ≤ 60 → i ≤ l.length →
    ∃ r : List S73, Ev (fun k => spec_l4Moves.l0 k l (i : Int)) r ∧ Ev (fun k => impl_slimMoves.l0 k l (i : Int)) r ∧ r.length ≤ l.length
  | n, l, i, hn, hl, hi => by
    have e1 : wrap64 ((i : Int) + 1) = ((i + 1 : Nat) : Int) := by rw [w64 (by omega) (by omega)]; omega
    have e2 : wrap64 ((i : Int) + 2) = ((i + 2 : Nat) : Int) := by rw [w64 (by omega) (by omega)]; omega
    by_cases c : i + 1 < l.length
    case neg =>
      refine ⟨l, Ev.step (f := fun _ => some l) (fun k => ?_) (Ev.now _), Ev.step (f := fun _ => some l) (fun k => ?_) (Ev.now _), Nat.le_refl _⟩
      · rw [spec_l4Moves.l0, e1, if_neg (by omega)]
      · rw [impl_slimMoves.l0, e1, if_neg (by omega)]
    cases n with
    | zero => omega
    | succ n =>
    obtain ⟨t, ht, hf, hj⟩ := combined (rd_T73 l (i : Int)) (rd_T73 l ((i + 1 : Nat) : Int))
    have hs := l4Joins (rd_T73 l (i : Int)) (rd_T73 l ((i + 1 : Nat) : Int))
    by_cases d : joinsB (rd_T73 l (i : Int)) (rd_T73 l ((i + 1 : Nat) : Int)) = true
    · have hjl := joinL_le (rd_T73 l (i : Int)) (rd_T73 l ((i + 1 : Nat) : Int))
      have hj' := hj d
      have hlen : (l.take i ++ joinL (rd_T73 l (i : Int)) (rd_T73 l ((i + 1 : Nat) : Int)) ++ l.drop (i + 2)).length ≤ l.length - 1 := by
        simp only [List.length_append, List.length_take, List.length_drop]; omega
      obtain ⟨r, h1, h2, h3⟩ := moves_both n (l.take i ++ joinL (rd_T73 l (i : Int)) (rd_T73 l ((i + 1 : Nat) : Int)) ++ l.drop (i + 2)) 0 (by omega) (by omega) (Nat.zero_le _)
      refine ⟨r, ?_, ?_, by omega⟩
      · refine Ev.step (fun k => by rw [spec_l4Moves.l0, e1, e2, if_pos (by omega), if_pos (by omega), if_pos (by omega), if_pos (by omega)]) ?_
        refine Ev.bind hs ?_
        rw [d]
        refine Ev.pos rfl (Ev.sbind (Ev.pos (by omega) (Ev.pos (by omega) (Ev.sbind (Ev.pos ?_ (Ev.sbind ?_))))))
        · simp only [List.length_nil, List.length_drop]; omega
        rw [l4Join]
        refine Ev.sbind (Ev.pos (by omega) (Ev.sbind (Ev.pos ?_ (Ev.sbind (Ev.pos ?_ ?_)))))
        · simp only [List.length_take]; omega
        · simp only [List.length_append, List.length_take, List.length_drop, List.length_nil]; omega
        · rw [show ((-1 : Int) + 1) = ((0 : Nat) : Int) from rfl]
          simpa only [Int.toNat_natCast, List.nil_append] using h1
      · refine Ev.step (fun k => by rw [impl_slimMoves.l0, e1, e2, if_pos (by omega), if_pos (by omega), if_pos (by omega), if_pos (by omega)]) ?_
        refine Ev.bind ht ?_
        refine Ev.pos (hf.trans d) (Ev.sbind (Ev.pos (by omega) (Ev.sbind (Ev.pos ?_ (Ev.sbind ?_)))))
        · simp only [List.length_nil, List.length_take]; omega
        by_cases g : t.2.2.2.2.2.2.2.2 = true
        · rw [if_pos g] at hj'
          rw [← hj', List.append_nil] at h2
          refine Ev.pos g (Ev.pos (by omega) (Ev.pos (by omega) (Ev.sbind (Ev.pos ?_ ?_))))
          · simp only [List.length_append, List.length_take, List.length_drop, List.length_nil]; omega
          · rw [show ((-1 : Int) + 1) = ((0 : Nat) : Int) from rfl]
            simpa only [Int.toNat_natCast, List.nil_append] using h2
        · rw [if_neg g] at hj'
          rw [← hj'] at h2
          refine Ev.neg g (Ev.pos ?_ (Ev.sbind (Ev.pos (by omega) (Ev.pos (by omega) (Ev.sbind (Ev.pos ?_ ?_))))))
          · simp only [List.length_append, List.length_take, List.length_nil]; omega
          · simp only [List.length_append, List.length_take, List.length_drop, List.length_nil, List.length_cons]; omega
          · rw [show ((-1 : Int) + 1) = ((0 : Nat) : Int) from rfl]
            simpa only [Int.toNat_natCast, List.nil_append] using h2
    · obtain ⟨r, h1, h2, h3⟩ := moves_both n l (i + 1) (by omega) hl (by omega)
      refine ⟨r, ?_, ?_, h3⟩
      · refine Ev.step (fun k => by rw [spec_l4Moves.l0, e1, e2, if_pos (by omega), if_pos (by omega), if_pos (by omega), if_pos (by omega)]) (Ev.bind hs (Ev.neg d h1))
      · refine Ev.step (fun k => by rw [impl_slimMoves.l0, e1, e2, if_pos (by omega), if_pos (by omega), if_pos (by omega), if_pos (by omega)]) (Ev.bind ht (Ev.neg (fun h => d (hf.symm.trans h)) h2))
theorem formsB_len {l : List S73} (h : formsB l = true) : l.length ≤ 60 := by
  unfold formsB at h
  simp only [Bool.and_eq_true, decide_eq_true_eq] at h
  omega
theorem slim_both (l : List S73) (hl : l.length ≤ 4611686018427387903) (hw : ∀ x ∈ l, wideO x) : ∃ r : List S73, Ev (fun k => spec_SlimMoves.f k l) r ∧ Ev (fun k => impl_SlimMoves.f k l) r ∧ r.length ≤ l.length := by
  unfold spec_SlimMoves.f impl_SlimMoves.f
  by_cases c : formsB l = true
  · have h2 := formsB_len c
    obtain ⟨r, h1, h3, h4⟩ := moves_both _ l 0 (Nat.le_refl _) h2 (Nat.zero_le _)
    have cr : impl_Op_110.f r = some r := by rw [impl_Op_110.f, if_pos (by omega)]
    have cl : impl_Op_110.f l = some l := by rw [impl_Op_110.f, if_pos (by omega)]
    refine ⟨r, Ev.bind (spec_forms l hw) (Ev.pos c (Ev.bind ?_ (Ev.now _))), Ev.bind (impl_forms l hl hw) (Ev.pos c (Ev.bind ?_ (Ev.bind (Ev.const r cr) (Ev.now _)))), h4⟩
    · unfold spec_l4Moves.f
      exact Ev.sbind (Ev.pos (by simp only [List.length_nil]; omega) (show Ev (fun n => spec_l4Moves.l0 n ([] ++ l) 0) r from by rw [List.nil_append]; exact h1))
    · unfold impl_slimMoves.f
      exact Ev.bind (Ev.const l cl) h3
  · exact ⟨[], Ev.bind (spec_forms l hw) (Ev.neg c (Ev.now _)), Ev.bind (impl_forms l hl hw) (Ev.neg c (Ev.now _)), Nat.zero_le _⟩
end Go.Proofs.Ytlaichooanflaaa.SlimM
namespace Go.Proofs.Ytlaichooanflaaa.Marks
open Go.RowKit Go.Proofs.YtlaichooanflaaaW.PrintWords Go.Proofs.Ytlaichooanflaaa.Base Go.Proofs.Ytlaichooanflaaa.Q
theorem strOf_size (x : Int) : (strOfNums [x]).size = 1 := by simp [strOfNums]; rfl
theorem markText_ex (a : Int) (h0 : 0 ≤ a) (h1 : a ≤ 1000000000000) : ∃ s, Ev (fun k => laws_markText.f k a) s := by
  unfold laws_markText.f
  by_cases hz : a ≤ 0
  · exact ⟨_, Ev.pos hz (Ev.now _)⟩
  · have key : ∀ n : Nat, ∀ (x : Int) (s : ByteArray), x.toNat = n → 0 ≤ x → x ≤ 1000000000000 → s.size + n ≤ 1000000000001 → ∃ r, Ev (fun k => laws_markText.l0 k x s) r := by
      intro n
      induction n using Nat.strongRecOn with
      | _ n ih =>
        intro x s hx hx0 hx1 hs
        by_cases hp : x > 0
        · have hd := Int.tdiv_eq_ediv_of_nonneg (a := x) (b := 10) hx0
          have hlt : x / 10 < x := by omega
          have hw : wrap64 (Int.tdiv x 10) = x / 10 := by rw [hd]; exact w64 (by omega) (by omega)
          obtain ⟨r, hr⟩ := ih (x / 10).toNat (by omega) (x / 10) (strOfNums [(wrap64 (48 + (Int.tmod x 10))) % 256] ++ s) rfl (by omega) (by omega) (by rw [ByteArray.size_append, strOf_size]; omega)
          refine ⟨r, Ev.step (fun k => ?_) hr⟩
          rw [laws_markText.l0, if_pos hp]
          simp only [Option.bind_some]
          rw [if_pos (by rw [strOf_size]; omega), hw]
        · refine ⟨_, Ev.step (f := fun _ => some ((⟨#[109]⟩ : ByteArray) ++ s)) (fun k => ?_) (Ev.now _)⟩
          rw [laws_markText.l0, if_neg hp, if_pos (by omega)]
    obtain ⟨r, hr⟩ := key a.toNat a ⟨#[]⟩ rfl h0 h1 (by show 0 + _ ≤ _; omega)
    exact ⟨r, Ev.neg hz hr⟩
open Classical in
/-- The text of a mark. -/
noncomputable def mt (a : Int) : ByteArray := if h : ∃ s, Ev (fun k => laws_markText.f k a) s then Classical.choose h else ByteArray.empty
theorem markText_is (a : Int) (h0 : 0 ≤ a) (h1 : a ≤ 1000000000000) : Ev (fun k => laws_markText.f k a) (mt a) := by
  have h := markText_ex a h0 h1
  unfold mt
  rw [dif_pos h]
  exact Classical.choose_spec h
/-- An operation marked from a on. -/
noncomputable def mkA (a : Int) : S73 := ⟨a, a + 1, mt (a + 2), a + 3, mt (a + 4), a + 5, mt (a + 6)⟩
/-- Operation number i, marked. -/
noncomputable def mkOp (i : Nat) : S73 := mkA (1 + 7 * (i : Int))
noncomputable def mkOps (n : Nat) : List S73 := (List.range' 0 n).map mkOp
theorem mkOps_length (n : Nat) : (mkOps n).length = n := by simp [mkOps]
theorem rd_set {l : List S73} {i : Nat} (h : i < l.length) (v : S73) : rd_T73 (l.set i v) (i : Int) = v := by
  unfold rd_T73
  rw [Int.toNat_natCast, List.getD_eq_getElem?_getD, List.getElem?_set_self h]
  rfl
theorem sbind_ {α β : Type} {a : β} {f : Nat → β → Option α} {r : α} (k : Ev (fun n => f n a) r) : Ev (fun n => (some a).bind (f n)) r := by simpa only [Option.bind_some] using k
theorem step_ (out : List S73) (i : Nat) (hi : i < out.length) (a b1 b2 b3 b4 b5 b6 b7 i' : Int) (e1 : wrap64 (a + 1) = b1) (e2 : wrap64 (b1 + 1) = b2) (e3 : wrap64 (b2 + 1) = b3) (e4 : wrap64 (b3 + 1) = b4) (e5 : wrap64 (b4 + 1) = b5) (e6 : wrap64 (b5 + 1) = b6) (e7 : wrap64 (b6 + 1) = b7) (e8 : wrap64 ((i : Int) + 1) = i')
    (h2 : 0 ≤ b2 ∧ b2 ≤ 1000000000000) (h4 : 0 ≤ b4 ∧ b4 ≤ 1000000000000) (h6 : 0 ≤ b6 ∧ b6 ≤ 1000000000000) (r : Int × List S73)
    (hr : Ev (fun k => laws_markOpS.l0 k (out.set i ⟨a, b1, mt b2, b3, mt b4, b5, mt b6⟩) b7 i') r) : Ev (fun k => laws_markOpS.l0 k out a (i : Int)) r := by
  refine Ev.step (fun k => by rw [laws_markOpS.l0, if_pos (by omega), if_pos (by omega), e1, e2, e3, e4, e5, e6, e7, e8]) ?_
  simp only [Int.toNat_natCast]
  refine sbind_ (sbind_ ?_)
  rw [rd_set (by first | exact hi | (simp only [List.length_set]; exact hi)), List.set_set]
  refine Ev.bind (markText_is _ h2.1 h2.2) (sbind_ ?_)
  rw [rd_set (by first | exact hi | (simp only [List.length_set]; exact hi)), List.set_set]
  refine sbind_ ?_
  rw [rd_set (by first | exact hi | (simp only [List.length_set]; exact hi)), List.set_set]
  refine Ev.bind (markText_is _ h4.1 h4.2) (sbind_ ?_)
  rw [rd_set (by first | exact hi | (simp only [List.length_set]; exact hi)), List.set_set]
  refine sbind_ ?_
  rw [rd_set (by first | exact hi | (simp only [List.length_set]; exact hi)), List.set_set]
  refine Ev.bind (markText_is _ h6.1 h6.2) ?_
  rw [rd_set (by first | exact hi | (simp only [List.length_set]; exact hi)), List.set_set]
  exact hr
theorem markOpS (l : List S73) (hl : l.length ≤ 1048576) : Ev (fun k => laws_markOpS.f k l 1) (1 + 7 * (l.length : Int), mkOps l.length) := by
  unfold laws_markOpS.f
  have h := fillG (fun k out i => laws_markOpS.l0 k out (1 + 7 * i) i) l.length (fun i _ => mkOp i) (fun out => ((1 : Int) + 7 * l.length, out)) (fun _ _ _ _ _ _ => rfl)
    (fun out ho => Ev.step (f := fun _ => some ((1 : Int) + 7 * l.length, out)) (fun k => by rw [laws_markOpS.l0, if_neg (by omega)]) (Ev.now _))
    (fun i out hi ho r hr => by
      have hi' : i < l.length := hi
      refine step_ out i (by omega) (1 + 7 * (i : Int)) (1 + 7 * (i : Int) + 1) (1 + 7 * (i : Int) + 2) (1 + 7 * (i : Int) + 3) (1 + 7 * (i : Int) + 4) (1 + 7 * (i : Int) + 5) (1 + 7 * (i : Int) + 6) (1 + 7 * ((i : Int) + 1)) ((i : Int) + 1) ?_ ?_ ?_ ?_ ?_ ?_ ?_ ?_ ?_ ?_ ?_ r hr
      all_goals first | omega | (rw [w64 (by omega) (by omega)]; omega) | (rw [w64 (by omega) (by omega)]))
    l.length 0 rfl (Nat.zero_le _) l rfl
  simpa [mkOps] using h
end Go.Proofs.Ytlaichooanflaaa.Marks
namespace Go.Proofs.Ytlaichooanflaaa.Marks
open Go.RowKit Go.Proofs.YtlaichooanflaaaW.PrintWords Go.Proofs.Ytlaichooanflaaa.Base Go.Proofs.Ytlaichooanflaaa.Q
theorem held_ (l : List S73) (i : Nat) (hi : i < l.length) (a b1 b2 b3 b4 b5 b6 b7 i' : Int) (e1 : wrap64 (a + 1) = b1) (e2 : wrap64 (b1 + 1) = b2) (e3 : wrap64 (b2 + 1) = b3) (e4 : wrap64 (b3 + 1) = b4) (e5 : wrap64 (b4 + 1) = b5) (e6 : wrap64 (b5 + 1) = b6) (e7 : wrap64 (b6 + 1) = b7) (e8 : wrap64 ((i : Int) + 1) = i')
    (h2 : 0 ≤ b2 ∧ b2 ≤ 1000000000000) (h4 : 0 ≤ b4 ∧ b4 ≤ 1000000000000) (h6 : 0 ≤ b6 ∧ b6 ≤ 1000000000000) (r : Int)
    (hx : rd_T73 l (i : Int) = ⟨a, b1, mt b2, b3, mt b4, b5, mt b6⟩)
    (hr : Ev (fun k => laws_heldOpS.l0 k l b7 i') r) : Ev (fun k => laws_heldOpS.l0 k l a (i : Int)) r := by
  refine Ev.step (fun k => by rw [laws_heldOpS.l0, if_pos (by omega), if_pos (by omega), hx, e1, e2, e3, e4, e5, e6, e7, e8]) ?_
  exact Ev.pos rfl (Ev.pos rfl (Ev.bind (markText_is _ h2.1 h2.2) (Ev.pos rfl (Ev.pos rfl (Ev.bind (markText_is _ h4.1 h4.2) (Ev.pos rfl (Ev.pos rfl (Ev.bind (markText_is _ h6.1 h6.2) (Ev.pos rfl hr)))))))))
theorem mkOps_rd {n i : Nat} (hi : i < n) : rd_T73 (mkOps n) (i : Int) = mkOp i := by
  unfold rd_T73 mkOps
  rw [Int.toNat_natCast, List.getD_eq_getElem?_getD, List.getElem?_eq_getElem (by simpa using hi)]
  simp
theorem heldOpS (n : Nat) (hn : n ≤ 1048576) : Ev (fun k => laws_heldOpS.f k (mkOps n) 1) (1 + 7 * (n : Int)) := by
  unfold laws_heldOpS.f
  have key : ∀ d i : Nat, n - i = d → i ≤ n → Ev (fun k => laws_heldOpS.l0 k (mkOps n) (1 + 7 * (i : Int)) (i : Int)) (1 + 7 * (n : Int)) := by
    intro d
    induction d with
    | zero =>
      intro i hd hi
      have : i = n := by omega
      subst this
      exact Ev.step (f := fun _ => some (1 + 7 * (i : Int))) (fun k => by rw [laws_heldOpS.l0, if_neg (by rw [mkOps_length]; omega)]) (Ev.now _)
    | succ d ih =>
      intro i hd hi
      have hi' : i < n := by omega
      refine held_ (mkOps n) i (by rw [mkOps_length]; exact hi') (1 + 7 * (i : Int)) (1 + 7 * (i : Int) + 1) (1 + 7 * (i : Int) + 2) (1 + 7 * (i : Int) + 3) (1 + 7 * (i : Int) + 4) (1 + 7 * (i : Int) + 5) (1 + 7 * (i : Int) + 6) (1 + 7 * ((i + 1 : Nat) : Int)) ((i + 1 : Nat) : Int) ?_ ?_ ?_ ?_ ?_ ?_ ?_ ?_ ?_ ?_ ?_ _ (mkOps_rd hi') (ih (i + 1) (by omega) (by omega))
      all_goals first | omega | (rw [w64 (by omega) (by omega)]; omega) | (rw [w64 (by omega) (by omega)])
  exact key n 0 rfl (Nat.zero_le _)
end Go.Proofs.Ytlaichooanflaaa.Marks
namespace Go.Proofs.Ytlaichooanflaaa.Pure
open Go.RowKit Go.Proofs.YtlaichooanflaaaW.PrintWords Go.Proofs.Ytlaichooanflaaa.Base Go.Proofs.Ytlaichooanflaaa.Q Go.Proofs.Ytlaichooanflaaa.Ops Go.Proofs.Ytlaichooanflaaa.SlimM Go.Proofs.Ytlaichooanflaaa.Forms Go.Proofs.Ytlaichooanflaaa.Marks
theorem FnExactSlimMoves (l0 : List S91) (hg0 : l0.length ≤ 9223372036854775807 ∧ ∀ y0 ∈ l0, (Lit.int .i64 y0.f0).wf = true ∧ (Lit.int .i64 y0.f1).wf = true ∧ y0.f2.size ≤ 9223372036854775807 ∧ (Lit.int .i64 y0.f3).wf = true ∧ y0.f4.size ≤ 9223372036854775807 ∧ (Lit.int .i64 y0.f5).wf = true ∧ y0.f6.size ≤ 9223372036854775807) :
    ∃ k, laws_FnExactSlimMoves.f k l0 = some true := by
  refine Ev.rounds (?_ : Ev (fun k => laws_FnExactSlimMoves.f k l0) true)
  unfold laws_FnExactSlimMoves.f
  obtain ⟨r0, h0, p0⟩ := szOpS l0 hg0.1 (fun y hy => let ⟨_, _, h2, _, h4, _, h6⟩ := hg0.2 y hy; ⟨h2, h4, h6⟩) 1048576 (by omega) (by omega)
  refine Ev.bind h0 (Ev.ite (fun _ => Ev.now _) (fun c0 => ?_))
  obtain ⟨_, z0, zs⟩ := p0 (by omega)
  have t0 := toOpS l0 z0
  have L0 : (l0.map cvOp).length ≤ 1048576 := by rw [List.length_map]; omega
  have hw : ∀ x ∈ l0.map cvOp, wideO x := by
    intro x hx
    obtain ⟨y, hy, rfl⟩ := List.mem_map.1 hx
    obtain ⟨a, b, c⟩ := zs y hy
    exact ⟨by show y.f2.size ≤ _; omega, by show y.f4.size ≤ _; omega, by show y.f6.size ≤ _; omega⟩
  obtain ⟨m, hm, hi, hlen⟩ := slim_both _ (by omega) hw
  have hh := heldOpS m.length (by omega)
  have eqS : Ev (fun k => laws_eqOpS.f k m m) (tr (m = m)) := eqOpS _ _ (by omega)
  refine Ev.bind t0 (Ev.bind hm (Ev.bind t0 (Ev.bind hi (Ev.bind eqS (Ev.pos (tr_t rfl) ?_)))))
  refine Ev.bind t0 (Ev.bind (eqOpS _ _ (by omega)) (Ev.pos (tr_t rfl) (Ev.bind (markOpS _ (by omega)) (Ev.neg (by omega) (Ev.bind eqS ?_)))))
  rw [tr_t rfl]
  refine Ev.step (fun k => by rw [laws_FnExactSlimMoves.j0, if_neg (by decide)]) ?_
  refine Ev.bind (markOpS _ (by omega)) (Ev.bind hh (Ev.neg (by omega) (Ev.pos rfl ?_)))
  exact Ev.bind t0 (Ev.bind hi (Ev.bind eqS (Ev.pos (tr_t rfl) (Ev.bind hh (Ev.neg (by omega) (Ev.pos rfl (Ev.now _)))))))
end Go.Proofs.Ytlaichooanflaaa.Pure
