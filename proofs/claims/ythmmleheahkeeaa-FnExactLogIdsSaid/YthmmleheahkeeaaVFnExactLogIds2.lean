/- Part 2 of what the proof of FnExactLogIds uses: plain functions with the answers of the Go functions, the proofs that the calls come to them, and plain lemmas. -/
import Derived.Deep.Slices
import Derived.Deep.Fields
import Derived.ChangeSame
import Derived.OpenShut
import Derived.ShutString
import Derived.SizedLaws
import Derived.Carry
import Derived.Lib.Strings
import Derived.Test.YthmmleheahkeeaaVFnExactLogIds0
import Derived.Test.YthmmleheahkeeaaVFnExactLogIds1
namespace Go.Proofs.Ythmmleheahkeeaa.Q
open Go.RowKit Go.Proofs.YthmmleheahkeeaaW.PrintWords Go.Proofs.YthmmleheahkeeaaW.PrintLast Go.Proofs.YthmmleheahkeeaaW.PrintMore
attribute [local go_sem] max2_int min2_int max_two min_two max_three min_three max_four min_four   -- for this text's walks alone
set_option linter.unusedVariables false
set_option linter.unusedSimpArgs false
def laws_markOpS.l0 : Nat → List (S31) → Int → Int → Option (Int × (List (S31)))
  | 0, _, _, _ => none
  | k + 1, x0, x1, x5 => if x5 < (x0.length : Int) then (if 0 ≤ x5 then ((some (x0.set (x5 : Int).toNat (⟨x1, (rd_T31 x0 x5).f1, (rd_T31 x0 x5).f2, (rd_T31 x0 x5).f3, (rd_T31 x0 x5).f4, (rd_T31 x0 x5).f5, (rd_T31 x0 x5).f6⟩ : S31) : List (S31))).bind fun y621 => ((some (y621.set (x5 : Int).toNat (⟨(rd_T31 y621 x5).f0, wrap64 (x1 + 1), (rd_T31 y621 x5).f2, (rd_T31 y621 x5).f3, (rd_T31 y621 x5).f4, (rd_T31 y621 x5).f5, (rd_T31 y621 x5).f6⟩ : S31) : List (S31))).bind fun y622 => ((laws_markText.f k (wrap64 ((wrap64 (x1 + 1)) + 1))).bind fun t623 => ((some (y622.set (x5 : Int).toNat (⟨(rd_T31 y622 x5).f0, (rd_T31 y622 x5).f1, t623, (rd_T31 y622 x5).f3, (rd_T31 y622 x5).f4, (rd_T31 y622 x5).f5, (rd_T31 y622 x5).f6⟩ : S31) : List (S31))).bind fun y624 => ((some (y624.set (x5 : Int).toNat (⟨(rd_T31 y624 x5).f0, (rd_T31 y624 x5).f1, (rd_T31 y624 x5).f2, wrap64 ((wrap64 ((wrap64 (x1 + 1)) + 1)) + 1), (rd_T31 y624 x5).f4, (rd_T31 y624 x5).f5, (rd_T31 y624 x5).f6⟩ : S31) : List (S31))).bind fun y625 => ((laws_markText.f k (wrap64 ((wrap64 ((wrap64 ((wrap64 (x1 + 1)) + 1)) + 1)) + 1))).bind fun t626 => ((some (y625.set (x5 : Int).toNat (⟨(rd_T31 y625 x5).f0, (rd_T31 y625 x5).f1, (rd_T31 y625 x5).f2, (rd_T31 y625 x5).f3, t626, (rd_T31 y625 x5).f5, (rd_T31 y625 x5).f6⟩ : S31) : List (S31))).bind fun y627 => ((some (y627.set (x5 : Int).toNat (⟨(rd_T31 y627 x5).f0, (rd_T31 y627 x5).f1, (rd_T31 y627 x5).f2, (rd_T31 y627 x5).f3, (rd_T31 y627 x5).f4, wrap64 ((wrap64 ((wrap64 ((wrap64 ((wrap64 (x1 + 1)) + 1)) + 1)) + 1)) + 1), (rd_T31 y627 x5).f6⟩ : S31) : List (S31))).bind fun y628 => ((laws_markText.f k (wrap64 ((wrap64 ((wrap64 ((wrap64 ((wrap64 ((wrap64 (x1 + 1)) + 1)) + 1)) + 1)) + 1)) + 1))).bind fun t629 => (laws_markOpS.l0 k (y628.set (x5 : Int).toNat (⟨(rd_T31 y628 x5).f0, (rd_T31 y628 x5).f1, (rd_T31 y628 x5).f2, (rd_T31 y628 x5).f3, (rd_T31 y628 x5).f4, (rd_T31 y628 x5).f5, t629⟩ : S31)) (wrap64 ((wrap64 ((wrap64 ((wrap64 ((wrap64 ((wrap64 ((wrap64 (x1 + 1)) + 1)) + 1)) + 1)) + 1)) + 1)) + 1)) (wrap64 (x5 + 1)))))))))))) else (none)) else (some (x1, x0))
def laws_markOpS.f (k : Nat) (l0 : List (S31)) (a1 : Int) : Option (Int × (List (S31))) := laws_markOpS.l0 k l0 a1 0
set_option maxHeartbeats 8000000 in
set_option maxRecDepth 100000 in
theorem laws_markOpS.calls (k : Nat) (P0_ : Nat → Prop) (u9000_ : Value) (l0 : List (S31)) (a1 : Int) (r1 : Int) (r2 : List (S31)) (w0 w : World) (hB : Below w0.heap.size w0 w) (ho0 : Kd.R k31 31 w w0.heap.size P0_ u9000_ l0) (h : laws_markOpS.f k l0 a1 = some (r1, r2)) :
    Calls Try.prog 53 #[u9000_, .int .i64 a1] w fun e w' => e = .returned (.int .i64 r1) ∧ Kd.R k31 31 w' w0.heap.size (fun k_ => (P0_ k_ ∨ w.heap.size ≤ k_)) u9000_ r2 ∧ Below w0.heap.size w0 w' ∧ Kept w w' (fun k_ => P0_ k_) := by
  have HO0 := Aside0.mk (show Kd.R k31 31 w w0.heap.size (fun k_ => (P0_ k_ ∨ w.heap.size ≤ k_)) u9000_ l0 from Kd.R_mono ho0 (fun k_ hk => (.inl hk)))
  have HK := Aside0.mk (Kept.refl w (fun k_ => P0_ k_))
  have HW0 := Aside0.mk hB.size
  have HB := Aside0.mk hB
  clear hB
  have H : (laws_markOpS.l0 k l0 a1 0) = some (r1, r2) := h
  clear h
  have H' := Aside0.mk H
  clear H
  go_enter Try.func53, Try.ntmps53
  go_wp2
  go_loopg [1, 5] k (fun kq v1 v5 w' => ∃ (x0_1 : List (S31)) (x1_1 : Int) (x5_1 : Int), v1 = .int .i64 x1_1 ∧ v5 = .int .i64 x5_1 ∧ Aside0 (laws_markOpS.l0 kq x0_1 x1_1 x5_1 = some (r1, r2)) ∧ Aside0 (kq ≤ k) ∧ Aside0 (Kd.R k31 31 w' w0.heap.size (fun k_ => (P0_ k_ ∨ w.heap.size ≤ k_)) u9000_ x0_1) ∧ Aside0 (Kept w w' (fun k_ => P0_ k_)) ∧ Aside0 (Below w0.heap.size w0 w'))
  case atStart => exact ⟨(l0), (a1), (0), (by first | rfl | (simp; done) | (simp [*]; done)), (by first | rfl | (simp; done) | (simp [*]; done)), H', ⟨Nat.le_refl _⟩, ⟨by (with_reducible repeat (first | apply Kd.R_alloc | apply Kd.R_drewN | apply Kd.R_drew)); exact HO0.out⟩, ⟨by repeat (first | (with_reducible first | exact HK.out | apply Kept.alloc | apply Kept.drewN | apply Kept.drew) | exact HK.out)⟩, ⟨by repeat (first | (with_reducible first | exact HB.out | apply below_alloc | apply pw_below_drewN | apply below_drew1) | exact HB.out)⟩⟩
  case round =>
    clear H'
    try clear p2
    obtain ⟨x0_1, x1_1, x5_1, rfl, rfl, HA, HK1, HO_0, HK, HB⟩ := hrel
    cases gk with
    | zero => exact absurd HA.out (by simp [laws_markOpS.l0])
    | succ k1 =>
      have H := HA.out
      clear HA
      simp only [laws_markOpS.l0] at H
      by_cases c3 : x5_1 < (x0_1.length : Int)
      · rw [if_pos c3] at H
        have c3b0 : decide (x5_1 < (x0_1.length : Int)) = true := decide_eq_true c3
        clear c3
        by_cases c4 : 0 ≤ x5_1
        · rw [if_pos c4] at H
          have c4b0 : decide (0 ≤ x5_1) = true := decide_eq_true c4
          clear c4
          obtain ⟨y621, hy621⟩ : ∃ y_ : List (S31), y_ = (x0_1.set (x5_1 : Int).toNat (⟨x1_1, (rd_T31 x0_1 x5_1).f1, (rd_T31 x0_1 x5_1).f2, (rd_T31 x0_1 x5_1).f3, (rd_T31 x0_1 x5_1).f4, (rd_T31 x0_1 x5_1).f5, (rd_T31 x0_1 x5_1).f6⟩ : S31)) := ⟨_, rfl⟩
          replace H : ((some (y621.set (x5_1 : Int).toNat (⟨(rd_T31 y621 x5_1).f0, wrap64 (x1_1 + 1), (rd_T31 y621 x5_1).f2, (rd_T31 y621 x5_1).f3, (rd_T31 y621 x5_1).f4, (rd_T31 y621 x5_1).f5, (rd_T31 y621 x5_1).f6⟩ : S31) : List (S31))).bind fun y622 => ((laws_markText.f k1 (wrap64 ((wrap64 (x1_1 + 1)) + 1))).bind fun t623 => ((some (y622.set (x5_1 : Int).toNat (⟨(rd_T31 y622 x5_1).f0, (rd_T31 y622 x5_1).f1, t623, (rd_T31 y622 x5_1).f3, (rd_T31 y622 x5_1).f4, (rd_T31 y622 x5_1).f5, (rd_T31 y622 x5_1).f6⟩ : S31) : List (S31))).bind fun y624 => ((some (y624.set (x5_1 : Int).toNat (⟨(rd_T31 y624 x5_1).f0, (rd_T31 y624 x5_1).f1, (rd_T31 y624 x5_1).f2, wrap64 ((wrap64 ((wrap64 (x1_1 + 1)) + 1)) + 1), (rd_T31 y624 x5_1).f4, (rd_T31 y624 x5_1).f5, (rd_T31 y624 x5_1).f6⟩ : S31) : List (S31))).bind fun y625 => ((laws_markText.f k1 (wrap64 ((wrap64 ((wrap64 ((wrap64 (x1_1 + 1)) + 1)) + 1)) + 1))).bind fun t626 => ((some (y625.set (x5_1 : Int).toNat (⟨(rd_T31 y625 x5_1).f0, (rd_T31 y625 x5_1).f1, (rd_T31 y625 x5_1).f2, (rd_T31 y625 x5_1).f3, t626, (rd_T31 y625 x5_1).f5, (rd_T31 y625 x5_1).f6⟩ : S31) : List (S31))).bind fun y627 => ((some (y627.set (x5_1 : Int).toNat (⟨(rd_T31 y627 x5_1).f0, (rd_T31 y627 x5_1).f1, (rd_T31 y627 x5_1).f2, (rd_T31 y627 x5_1).f3, (rd_T31 y627 x5_1).f4, wrap64 ((wrap64 ((wrap64 ((wrap64 ((wrap64 (x1_1 + 1)) + 1)) + 1)) + 1)) + 1), (rd_T31 y627 x5_1).f6⟩ : S31) : List (S31))).bind fun y628 => ((laws_markText.f k1 (wrap64 ((wrap64 ((wrap64 ((wrap64 ((wrap64 ((wrap64 (x1_1 + 1)) + 1)) + 1)) + 1)) + 1)) + 1))).bind fun t629 => (laws_markOpS.l0 k1 (y628.set (x5_1 : Int).toNat (⟨(rd_T31 y628 x5_1).f0, (rd_T31 y628 x5_1).f1, (rd_T31 y628 x5_1).f2, (rd_T31 y628 x5_1).f3, (rd_T31 y628 x5_1).f4, (rd_T31 y628 x5_1).f5, t629⟩ : S31)) (wrap64 ((wrap64 ((wrap64 ((wrap64 ((wrap64 ((wrap64 ((wrap64 (x1_1 + 1)) + 1)) + 1)) + 1)) + 1)) + 1)) + 1)) (wrap64 (x5_1 + 1))))))))))) = some (r1, r2) := by first | (rw [hy621]; with_reducible exact H) | (have H2_ := (Option.bind_some _ _).symm.trans H; rw [hy621]; with_reducible exact H2_) | (have H2_ := (Option.bind_some _ _).symm.trans H; with_reducible exact H2_) | with_reducible exact H | (rw [hy621]; exact H) | exact H
          have Ny621 := Aside0.mk hy621
          clear hy621
          obtain ⟨y622, hy622⟩ : ∃ y_ : List (S31), y_ = (y621.set (x5_1 : Int).toNat (⟨(rd_T31 y621 x5_1).f0, wrap64 (x1_1 + 1), (rd_T31 y621 x5_1).f2, (rd_T31 y621 x5_1).f3, (rd_T31 y621 x5_1).f4, (rd_T31 y621 x5_1).f5, (rd_T31 y621 x5_1).f6⟩ : S31)) := ⟨_, rfl⟩
          replace H : ((laws_markText.f k1 (wrap64 ((wrap64 (x1_1 + 1)) + 1))).bind fun t623 => ((some (y622.set (x5_1 : Int).toNat (⟨(rd_T31 y622 x5_1).f0, (rd_T31 y622 x5_1).f1, t623, (rd_T31 y622 x5_1).f3, (rd_T31 y622 x5_1).f4, (rd_T31 y622 x5_1).f5, (rd_T31 y622 x5_1).f6⟩ : S31) : List (S31))).bind fun y624 => ((some (y624.set (x5_1 : Int).toNat (⟨(rd_T31 y624 x5_1).f0, (rd_T31 y624 x5_1).f1, (rd_T31 y624 x5_1).f2, wrap64 ((wrap64 ((wrap64 (x1_1 + 1)) + 1)) + 1), (rd_T31 y624 x5_1).f4, (rd_T31 y624 x5_1).f5, (rd_T31 y624 x5_1).f6⟩ : S31) : List (S31))).bind fun y625 => ((laws_markText.f k1 (wrap64 ((wrap64 ((wrap64 ((wrap64 (x1_1 + 1)) + 1)) + 1)) + 1))).bind fun t626 => ((some (y625.set (x5_1 : Int).toNat (⟨(rd_T31 y625 x5_1).f0, (rd_T31 y625 x5_1).f1, (rd_T31 y625 x5_1).f2, (rd_T31 y625 x5_1).f3, t626, (rd_T31 y625 x5_1).f5, (rd_T31 y625 x5_1).f6⟩ : S31) : List (S31))).bind fun y627 => ((some (y627.set (x5_1 : Int).toNat (⟨(rd_T31 y627 x5_1).f0, (rd_T31 y627 x5_1).f1, (rd_T31 y627 x5_1).f2, (rd_T31 y627 x5_1).f3, (rd_T31 y627 x5_1).f4, wrap64 ((wrap64 ((wrap64 ((wrap64 ((wrap64 (x1_1 + 1)) + 1)) + 1)) + 1)) + 1), (rd_T31 y627 x5_1).f6⟩ : S31) : List (S31))).bind fun y628 => ((laws_markText.f k1 (wrap64 ((wrap64 ((wrap64 ((wrap64 ((wrap64 ((wrap64 (x1_1 + 1)) + 1)) + 1)) + 1)) + 1)) + 1))).bind fun t629 => (laws_markOpS.l0 k1 (y628.set (x5_1 : Int).toNat (⟨(rd_T31 y628 x5_1).f0, (rd_T31 y628 x5_1).f1, (rd_T31 y628 x5_1).f2, (rd_T31 y628 x5_1).f3, (rd_T31 y628 x5_1).f4, (rd_T31 y628 x5_1).f5, t629⟩ : S31)) (wrap64 ((wrap64 ((wrap64 ((wrap64 ((wrap64 ((wrap64 ((wrap64 (x1_1 + 1)) + 1)) + 1)) + 1)) + 1)) + 1)) + 1)) (wrap64 (x5_1 + 1)))))))))) = some (r1, r2) := by first | (rw [hy622]; with_reducible exact H) | (have H2_ := (Option.bind_some _ _).symm.trans H; rw [hy622]; with_reducible exact H2_) | (have H2_ := (Option.bind_some _ _).symm.trans H; with_reducible exact H2_) | with_reducible exact H | (rw [hy622]; exact H) | exact H
          have Ny622 := Aside0.mk hy622
          clear hy622
          replace H := Option.bind_eq_some_iff.mp H
          obtain ⟨t623, A70, H⟩ := H
          replace H : ((some (y622.set (x5_1 : Int).toNat (⟨(rd_T31 y622 x5_1).f0, (rd_T31 y622 x5_1).f1, t623, (rd_T31 y622 x5_1).f3, (rd_T31 y622 x5_1).f4, (rd_T31 y622 x5_1).f5, (rd_T31 y622 x5_1).f6⟩ : S31) : List (S31))).bind fun y624 => ((some (y624.set (x5_1 : Int).toNat (⟨(rd_T31 y624 x5_1).f0, (rd_T31 y624 x5_1).f1, (rd_T31 y624 x5_1).f2, wrap64 ((wrap64 ((wrap64 (x1_1 + 1)) + 1)) + 1), (rd_T31 y624 x5_1).f4, (rd_T31 y624 x5_1).f5, (rd_T31 y624 x5_1).f6⟩ : S31) : List (S31))).bind fun y625 => ((laws_markText.f k1 (wrap64 ((wrap64 ((wrap64 ((wrap64 (x1_1 + 1)) + 1)) + 1)) + 1))).bind fun t626 => ((some (y625.set (x5_1 : Int).toNat (⟨(rd_T31 y625 x5_1).f0, (rd_T31 y625 x5_1).f1, (rd_T31 y625 x5_1).f2, (rd_T31 y625 x5_1).f3, t626, (rd_T31 y625 x5_1).f5, (rd_T31 y625 x5_1).f6⟩ : S31) : List (S31))).bind fun y627 => ((some (y627.set (x5_1 : Int).toNat (⟨(rd_T31 y627 x5_1).f0, (rd_T31 y627 x5_1).f1, (rd_T31 y627 x5_1).f2, (rd_T31 y627 x5_1).f3, (rd_T31 y627 x5_1).f4, wrap64 ((wrap64 ((wrap64 ((wrap64 ((wrap64 (x1_1 + 1)) + 1)) + 1)) + 1)) + 1), (rd_T31 y627 x5_1).f6⟩ : S31) : List (S31))).bind fun y628 => ((laws_markText.f k1 (wrap64 ((wrap64 ((wrap64 ((wrap64 ((wrap64 ((wrap64 (x1_1 + 1)) + 1)) + 1)) + 1)) + 1)) + 1))).bind fun t629 => (laws_markOpS.l0 k1 (y628.set (x5_1 : Int).toNat (⟨(rd_T31 y628 x5_1).f0, (rd_T31 y628 x5_1).f1, (rd_T31 y628 x5_1).f2, (rd_T31 y628 x5_1).f3, (rd_T31 y628 x5_1).f4, (rd_T31 y628 x5_1).f5, t629⟩ : S31)) (wrap64 ((wrap64 ((wrap64 ((wrap64 ((wrap64 ((wrap64 ((wrap64 (x1_1 + 1)) + 1)) + 1)) + 1)) + 1)) + 1)) + 1)) (wrap64 (x5_1 + 1))))))))) = some (r1, r2) := H
          have A7 := Aside0.mk A70
          clear A70
          obtain ⟨y624, hy624⟩ : ∃ y_ : List (S31), y_ = (y622.set (x5_1 : Int).toNat (⟨(rd_T31 y622 x5_1).f0, (rd_T31 y622 x5_1).f1, t623, (rd_T31 y622 x5_1).f3, (rd_T31 y622 x5_1).f4, (rd_T31 y622 x5_1).f5, (rd_T31 y622 x5_1).f6⟩ : S31)) := ⟨_, rfl⟩
          replace H : ((some (y624.set (x5_1 : Int).toNat (⟨(rd_T31 y624 x5_1).f0, (rd_T31 y624 x5_1).f1, (rd_T31 y624 x5_1).f2, wrap64 ((wrap64 ((wrap64 (x1_1 + 1)) + 1)) + 1), (rd_T31 y624 x5_1).f4, (rd_T31 y624 x5_1).f5, (rd_T31 y624 x5_1).f6⟩ : S31) : List (S31))).bind fun y625 => ((laws_markText.f k1 (wrap64 ((wrap64 ((wrap64 ((wrap64 (x1_1 + 1)) + 1)) + 1)) + 1))).bind fun t626 => ((some (y625.set (x5_1 : Int).toNat (⟨(rd_T31 y625 x5_1).f0, (rd_T31 y625 x5_1).f1, (rd_T31 y625 x5_1).f2, (rd_T31 y625 x5_1).f3, t626, (rd_T31 y625 x5_1).f5, (rd_T31 y625 x5_1).f6⟩ : S31) : List (S31))).bind fun y627 => ((some (y627.set (x5_1 : Int).toNat (⟨(rd_T31 y627 x5_1).f0, (rd_T31 y627 x5_1).f1, (rd_T31 y627 x5_1).f2, (rd_T31 y627 x5_1).f3, (rd_T31 y627 x5_1).f4, wrap64 ((wrap64 ((wrap64 ((wrap64 ((wrap64 (x1_1 + 1)) + 1)) + 1)) + 1)) + 1), (rd_T31 y627 x5_1).f6⟩ : S31) : List (S31))).bind fun y628 => ((laws_markText.f k1 (wrap64 ((wrap64 ((wrap64 ((wrap64 ((wrap64 ((wrap64 (x1_1 + 1)) + 1)) + 1)) + 1)) + 1)) + 1))).bind fun t629 => (laws_markOpS.l0 k1 (y628.set (x5_1 : Int).toNat (⟨(rd_T31 y628 x5_1).f0, (rd_T31 y628 x5_1).f1, (rd_T31 y628 x5_1).f2, (rd_T31 y628 x5_1).f3, (rd_T31 y628 x5_1).f4, (rd_T31 y628 x5_1).f5, t629⟩ : S31)) (wrap64 ((wrap64 ((wrap64 ((wrap64 ((wrap64 ((wrap64 ((wrap64 (x1_1 + 1)) + 1)) + 1)) + 1)) + 1)) + 1)) + 1)) (wrap64 (x5_1 + 1)))))))) = some (r1, r2) := by first | (rw [hy624]; with_reducible exact H) | (have H2_ := (Option.bind_some _ _).symm.trans H; rw [hy624]; with_reducible exact H2_) | (have H2_ := (Option.bind_some _ _).symm.trans H; with_reducible exact H2_) | with_reducible exact H | (rw [hy624]; exact H) | exact H
          have Ny624 := Aside0.mk hy624
          clear hy624
          obtain ⟨y625, hy625⟩ : ∃ y_ : List (S31), y_ = (y624.set (x5_1 : Int).toNat (⟨(rd_T31 y624 x5_1).f0, (rd_T31 y624 x5_1).f1, (rd_T31 y624 x5_1).f2, wrap64 ((wrap64 ((wrap64 (x1_1 + 1)) + 1)) + 1), (rd_T31 y624 x5_1).f4, (rd_T31 y624 x5_1).f5, (rd_T31 y624 x5_1).f6⟩ : S31)) := ⟨_, rfl⟩
          replace H : ((laws_markText.f k1 (wrap64 ((wrap64 ((wrap64 ((wrap64 (x1_1 + 1)) + 1)) + 1)) + 1))).bind fun t626 => ((some (y625.set (x5_1 : Int).toNat (⟨(rd_T31 y625 x5_1).f0, (rd_T31 y625 x5_1).f1, (rd_T31 y625 x5_1).f2, (rd_T31 y625 x5_1).f3, t626, (rd_T31 y625 x5_1).f5, (rd_T31 y625 x5_1).f6⟩ : S31) : List (S31))).bind fun y627 => ((some (y627.set (x5_1 : Int).toNat (⟨(rd_T31 y627 x5_1).f0, (rd_T31 y627 x5_1).f1, (rd_T31 y627 x5_1).f2, (rd_T31 y627 x5_1).f3, (rd_T31 y627 x5_1).f4, wrap64 ((wrap64 ((wrap64 ((wrap64 ((wrap64 (x1_1 + 1)) + 1)) + 1)) + 1)) + 1), (rd_T31 y627 x5_1).f6⟩ : S31) : List (S31))).bind fun y628 => ((laws_markText.f k1 (wrap64 ((wrap64 ((wrap64 ((wrap64 ((wrap64 ((wrap64 (x1_1 + 1)) + 1)) + 1)) + 1)) + 1)) + 1))).bind fun t629 => (laws_markOpS.l0 k1 (y628.set (x5_1 : Int).toNat (⟨(rd_T31 y628 x5_1).f0, (rd_T31 y628 x5_1).f1, (rd_T31 y628 x5_1).f2, (rd_T31 y628 x5_1).f3, (rd_T31 y628 x5_1).f4, (rd_T31 y628 x5_1).f5, t629⟩ : S31)) (wrap64 ((wrap64 ((wrap64 ((wrap64 ((wrap64 ((wrap64 ((wrap64 (x1_1 + 1)) + 1)) + 1)) + 1)) + 1)) + 1)) + 1)) (wrap64 (x5_1 + 1))))))) = some (r1, r2) := by first | (rw [hy625]; with_reducible exact H) | (have H2_ := (Option.bind_some _ _).symm.trans H; rw [hy625]; with_reducible exact H2_) | (have H2_ := (Option.bind_some _ _).symm.trans H; with_reducible exact H2_) | with_reducible exact H | (rw [hy625]; exact H) | exact H
          have Ny625 := Aside0.mk hy625
          clear hy625
          replace H := Option.bind_eq_some_iff.mp H
          obtain ⟨t626, A100, H⟩ := H
          replace H : ((some (y625.set (x5_1 : Int).toNat (⟨(rd_T31 y625 x5_1).f0, (rd_T31 y625 x5_1).f1, (rd_T31 y625 x5_1).f2, (rd_T31 y625 x5_1).f3, t626, (rd_T31 y625 x5_1).f5, (rd_T31 y625 x5_1).f6⟩ : S31) : List (S31))).bind fun y627 => ((some (y627.set (x5_1 : Int).toNat (⟨(rd_T31 y627 x5_1).f0, (rd_T31 y627 x5_1).f1, (rd_T31 y627 x5_1).f2, (rd_T31 y627 x5_1).f3, (rd_T31 y627 x5_1).f4, wrap64 ((wrap64 ((wrap64 ((wrap64 ((wrap64 (x1_1 + 1)) + 1)) + 1)) + 1)) + 1), (rd_T31 y627 x5_1).f6⟩ : S31) : List (S31))).bind fun y628 => ((laws_markText.f k1 (wrap64 ((wrap64 ((wrap64 ((wrap64 ((wrap64 ((wrap64 (x1_1 + 1)) + 1)) + 1)) + 1)) + 1)) + 1))).bind fun t629 => (laws_markOpS.l0 k1 (y628.set (x5_1 : Int).toNat (⟨(rd_T31 y628 x5_1).f0, (rd_T31 y628 x5_1).f1, (rd_T31 y628 x5_1).f2, (rd_T31 y628 x5_1).f3, (rd_T31 y628 x5_1).f4, (rd_T31 y628 x5_1).f5, t629⟩ : S31)) (wrap64 ((wrap64 ((wrap64 ((wrap64 ((wrap64 ((wrap64 ((wrap64 (x1_1 + 1)) + 1)) + 1)) + 1)) + 1)) + 1)) + 1)) (wrap64 (x5_1 + 1)))))) = some (r1, r2) := H
          have A10 := Aside0.mk A100
          clear A100
          obtain ⟨y627, hy627⟩ : ∃ y_ : List (S31), y_ = (y625.set (x5_1 : Int).toNat (⟨(rd_T31 y625 x5_1).f0, (rd_T31 y625 x5_1).f1, (rd_T31 y625 x5_1).f2, (rd_T31 y625 x5_1).f3, t626, (rd_T31 y625 x5_1).f5, (rd_T31 y625 x5_1).f6⟩ : S31)) := ⟨_, rfl⟩
          replace H : ((some (y627.set (x5_1 : Int).toNat (⟨(rd_T31 y627 x5_1).f0, (rd_T31 y627 x5_1).f1, (rd_T31 y627 x5_1).f2, (rd_T31 y627 x5_1).f3, (rd_T31 y627 x5_1).f4, wrap64 ((wrap64 ((wrap64 ((wrap64 ((wrap64 (x1_1 + 1)) + 1)) + 1)) + 1)) + 1), (rd_T31 y627 x5_1).f6⟩ : S31) : List (S31))).bind fun y628 => ((laws_markText.f k1 (wrap64 ((wrap64 ((wrap64 ((wrap64 ((wrap64 ((wrap64 (x1_1 + 1)) + 1)) + 1)) + 1)) + 1)) + 1))).bind fun t629 => (laws_markOpS.l0 k1 (y628.set (x5_1 : Int).toNat (⟨(rd_T31 y628 x5_1).f0, (rd_T31 y628 x5_1).f1, (rd_T31 y628 x5_1).f2, (rd_T31 y628 x5_1).f3, (rd_T31 y628 x5_1).f4, (rd_T31 y628 x5_1).f5, t629⟩ : S31)) (wrap64 ((wrap64 ((wrap64 ((wrap64 ((wrap64 ((wrap64 ((wrap64 (x1_1 + 1)) + 1)) + 1)) + 1)) + 1)) + 1)) + 1)) (wrap64 (x5_1 + 1))))) = some (r1, r2) := by first | (rw [hy627]; with_reducible exact H) | (have H2_ := (Option.bind_some _ _).symm.trans H; rw [hy627]; with_reducible exact H2_) | (have H2_ := (Option.bind_some _ _).symm.trans H; with_reducible exact H2_) | with_reducible exact H | (rw [hy627]; exact H) | exact H
          have Ny627 := Aside0.mk hy627
          clear hy627
          obtain ⟨y628, hy628⟩ : ∃ y_ : List (S31), y_ = (y627.set (x5_1 : Int).toNat (⟨(rd_T31 y627 x5_1).f0, (rd_T31 y627 x5_1).f1, (rd_T31 y627 x5_1).f2, (rd_T31 y627 x5_1).f3, (rd_T31 y627 x5_1).f4, wrap64 ((wrap64 ((wrap64 ((wrap64 ((wrap64 (x1_1 + 1)) + 1)) + 1)) + 1)) + 1), (rd_T31 y627 x5_1).f6⟩ : S31)) := ⟨_, rfl⟩
          replace H : ((laws_markText.f k1 (wrap64 ((wrap64 ((wrap64 ((wrap64 ((wrap64 ((wrap64 (x1_1 + 1)) + 1)) + 1)) + 1)) + 1)) + 1))).bind fun t629 => (laws_markOpS.l0 k1 (y628.set (x5_1 : Int).toNat (⟨(rd_T31 y628 x5_1).f0, (rd_T31 y628 x5_1).f1, (rd_T31 y628 x5_1).f2, (rd_T31 y628 x5_1).f3, (rd_T31 y628 x5_1).f4, (rd_T31 y628 x5_1).f5, t629⟩ : S31)) (wrap64 ((wrap64 ((wrap64 ((wrap64 ((wrap64 ((wrap64 ((wrap64 (x1_1 + 1)) + 1)) + 1)) + 1)) + 1)) + 1)) + 1)) (wrap64 (x5_1 + 1)))) = some (r1, r2) := by first | (rw [hy628]; with_reducible exact H) | (have H2_ := (Option.bind_some _ _).symm.trans H; rw [hy628]; with_reducible exact H2_) | (have H2_ := (Option.bind_some _ _).symm.trans H; with_reducible exact H2_) | with_reducible exact H | (rw [hy628]; exact H) | exact H
          have Ny628 := Aside0.mk hy628
          clear hy628
          replace H := Option.bind_eq_some_iff.mp H
          obtain ⟨t629, A130, H⟩ := H
          replace H : (laws_markOpS.l0 k1 (y628.set (x5_1 : Int).toNat (⟨(rd_T31 y628 x5_1).f0, (rd_T31 y628 x5_1).f1, (rd_T31 y628 x5_1).f2, (rd_T31 y628 x5_1).f3, (rd_T31 y628 x5_1).f4, (rd_T31 y628 x5_1).f5, t629⟩ : S31)) (wrap64 ((wrap64 ((wrap64 ((wrap64 ((wrap64 ((wrap64 ((wrap64 (x1_1 + 1)) + 1)) + 1)) + 1)) + 1)) + 1)) + 1)) (wrap64 (x5_1 + 1))) = some (r1, r2) := H
          have A13 := Aside0.mk A130
          clear A130
          obtain ⟨y630, hy630⟩ : ∃ y_ : List (S31), y_ = (y628.set (x5_1 : Int).toNat (⟨(rd_T31 y628 x5_1).f0, (rd_T31 y628 x5_1).f1, (rd_T31 y628 x5_1).f2, (rd_T31 y628 x5_1).f3, (rd_T31 y628 x5_1).f4, (rd_T31 y628 x5_1).f5, t629⟩ : S31)) := ⟨_, rfl⟩
          replace H : (laws_markOpS.l0 k1 y630 (wrap64 ((wrap64 ((wrap64 ((wrap64 ((wrap64 ((wrap64 ((wrap64 (x1_1 + 1)) + 1)) + 1)) + 1)) + 1)) + 1)) + 1)) (wrap64 (x5_1 + 1))) = some (r1, r2) := by first | (rw [hy630]; with_reducible exact H) | (have H2_ := (Option.bind_some _ _).symm.trans H; rw [hy630]; with_reducible exact H2_) | (have H2_ := (Option.bind_some _ _).symm.trans H; with_reducible exact H2_) | with_reducible exact H | (rw [hy630]; exact H) | exact H
          have Ny630 := Aside0.mk hy630
          clear hy630
          have H' := Aside0.mk H
          clear H
          obtain ⟨Ao15, co15, eo15⟩ := Kd.R_slice HO_0.out
          subst eo15
          have p5 : 0 ≤ (x5_1 : Int) := of_decide_eq_true (by first | (with_reducible assumption) | assumption)
          have q5 : (x5_1 : Int) < ((x0_1.length : Int) : Int) := of_decide_eq_true (by first | (with_reducible assumption) | assumption)
          obtain ⟨go5, co5, eo5, gb5, gl5, cl5, HG5⟩ := Kd.R_form HO_0.out (by omega)
          (first | cases eo5 | (injection eo5 with ea_ en_ ec_; (first | subst ea_ | (injection ea_ with ea_; subst ea_)); subst ec_; clear en_))
          have GB5 := Aside0.mk gb5
          have GG5 := Aside0.mk HG5
          clear gb5 gl5 HG5
          have HMgo5 := Aside0.mk (show (P0_ go5 ∨ w.heap.size ≤ go5) from (HO_0.out.1 _ rfl))
          obtain ⟨ce5, hcl5, hM5, hcc5, hfr5⟩ := Kd.R_elem HO_0.out z31 (x5_1 : Int) p5 q5
          obtain rfl := k31_openM hM5
          have hx5_0 : wr.cell? ⟨go5, (x5_1 : Int).toNat * 7, none⟩ = some (.int .i64 ((rd_T31 x0_1 x5_1).f0)) := hcc5 0 _ rfl
          have hx5_1 : wr.cell? ⟨go5, (x5_1 : Int).toNat * 7 + 1, none⟩ = some (.int .i64 ((rd_T31 x0_1 x5_1).f1)) := hcc5 1 _ rfl
          have hx5_2 : wr.cell? ⟨go5, (x5_1 : Int).toNat * 7 + 2, none⟩ = some (.string ((rd_T31 x0_1 x5_1).f2)) := hcc5 2 _ rfl
          have hx5_3 : wr.cell? ⟨go5, (x5_1 : Int).toNat * 7 + 3, none⟩ = some (.int .i64 ((rd_T31 x0_1 x5_1).f3)) := hcc5 3 _ rfl
          have hx5_4 : wr.cell? ⟨go5, (x5_1 : Int).toNat * 7 + 4, none⟩ = some (.string ((rd_T31 x0_1 x5_1).f4)) := hcc5 4 _ rfl
          have hx5_5 : wr.cell? ⟨go5, (x5_1 : Int).toNat * 7 + 5, none⟩ = some (.int .i64 ((rd_T31 x0_1 x5_1).f5)) := hcc5 5 _ rfl
          have hx5_6 : wr.cell? ⟨go5, (x5_1 : Int).toNat * 7 + 6, none⟩ = some (.string ((rd_T31 x0_1 x5_1).f6)) := hcc5 6 _ rfl
          have hf5_0 : wr.frozen? ⟨go5, (x5_1 : Int).toNat * 7, none⟩ = false := hfr5 0
          have hf5_1 : wr.frozen? ⟨go5, (x5_1 : Int).toNat * 7 + 1, none⟩ = false := hfr5 1
          have hf5_2 : wr.frozen? ⟨go5, (x5_1 : Int).toNat * 7 + 2, none⟩ = false := hfr5 2
          have hf5_3 : wr.frozen? ⟨go5, (x5_1 : Int).toNat * 7 + 3, none⟩ = false := hfr5 3
          have hf5_4 : wr.frozen? ⟨go5, (x5_1 : Int).toNat * 7 + 4, none⟩ = false := hfr5 4
          have hf5_5 : wr.frozen? ⟨go5, (x5_1 : Int).toNat * 7 + 5, none⟩ = false := hfr5 5
          have hf5_6 : wr.frozen? ⟨go5, (x5_1 : Int).toNat * 7 + 6, none⟩ = false := hfr5 6
          clear hcl5 hcc5 hfr5 hM5
          replace p5 := eq_true p5
          replace q5 := eq_true q5
          have HX16 := Aside0.mk (show Kd.R k31 31 wr w0.heap.size (fun k_ => (P0_ k_ ∨ w.heap.size ≤ k_)) (.slice (some ⟨go5, 0, none⟩) x0_1.length co15) x0_1 from (by (with_reducible repeat (first | apply Kd.R_alloc | apply Kd.R_drewN | apply Kd.R_drew)); exact HO_0.out))
          obtain ⟨ce16, hcl16, hM16, hcc16, hfr16⟩ := Kd.R_elem HX16.out z31 (x5_1 : Int) (of_decide_eq_true (by first | (with_reducible assumption) | assumption)) (by have h_ : (x5_1 : Int) < ((x0_1.length : Int) : Int) := of_decide_eq_true (by first | (with_reducible assumption) | assumption); first | exact h_ | (have e_ := (Kd.R_reads' HO_0.out).1; omega) | simpa using h_)
          obtain rfl := k31_openM hM16
          have HP16 := Kd.R_seg HX16.out (x5_1 : Int) (of_decide_eq_true (by first | (with_reducible assumption) | assumption)) (by have h_ : (x5_1 : Int) < ((x0_1.length : Int) : Int) := of_decide_eq_true (by first | (with_reducible assumption) | assumption); first | exact h_ | (have e_ := (Kd.R_reads' HO_0.out).1; omega) | simpa using h_) (seg := [.int .i64 x1_1]) (j := 0) hcl16 hcc16 (show 1 ≤ 7 from by decide) (x' := (⟨x1_1, (rd_T31 x0_1 x5_1).f1, (rd_T31 x0_1 x5_1).f2, (rd_T31 x0_1 x5_1).f3, (rd_T31 x0_1 x5_1).f4, (rd_T31 x0_1 x5_1).f5, (rd_T31 x0_1 x5_1).f6⟩ : S31)) (k31_mkM _ _ _ (⟨x1_1, (rd_T31 x0_1 x5_1).f1, (rd_T31 x0_1 x5_1).f2, (rd_T31 x0_1 x5_1).f3, (rd_T31 x0_1 x5_1).f4, (rd_T31 x0_1 x5_1).f5, (rd_T31 x0_1 x5_1).f6⟩ : S31) ) (fun _ hk => hk)
          have hx16_0 := hcc16 0 _ rfl
          (try simp only [show (k31).sz = 7 from rfl, Nat.mul_one, Nat.add_zero] at hx16_0)
          have hf16_0 := hfr16 0
          (try simp only [show (k31).sz = 7 from rfl, Nat.mul_one, Nat.add_zero] at hf16_0)
          clear hcl16 hcc16 hfr16 hM16
          go_wp2_with (first | ((with_reducible refine gate_store (t := 3) (p := 16) rfl ?_); refine store_event (t := 3) (p := 16) (v := ?vo_w17) (w1 := (wr.setCell ⟨go5, (x5_1 : Int).toNat * 7, none⟩ (.int .i64 x1_1))) ?hg ?ho ?hn ?hr ?_; (case ho => rfl); (case hg => rfl); (case hn => rfl); (case hr => first | (go_simp; done) | (go_simp; rfl)); intro w17 hw; have hg : wr.grownBy w17 (some go5) := (by rw [hw]; exact HP16.2); have hp_ : Kd.R k31 31 w17 w0.heap.size (fun k_ => (P0_ k_ ∨ w.heap.size ≤ k_)) (.slice (some ⟨go5, 0, none⟩) x0_1.length co15) y621 := (by rw [hw, Ny621.out]; exact HP16.1); clear HP16; have n0_ := Aside0.mk (hp_); have n1_ := Aside0.mk ((by rw [hw]; exact below_set (HB.out) GB5.out : Below w0.heap.size w0 w17)); have n2_ := Aside0.mk (Kept.of_grown (S := (fun k_ => P0_ k_)) hg (by repeat (first | (with_reducible first | exact HK.out | apply Kept.alloc | apply Kept.drewN | apply Kept.drew) | exact HK.out)) (fun k_ e_ => (HO_0.out.1 k_ e_))); clear HO_0; clear HB; clear HK; have HO_0 := n0_; have HB := n1_; have HK := n2_; clear n0_ n1_ n2_; clear hg hw hp_; have p6 : 0 ≤ (x5_1 : Int) := of_decide_eq_true (by first | (with_reducible assumption) | assumption); have q6 : (x5_1 : Int) < ((x0_1.length : Int) : Int) := of_decide_eq_true (by first | (with_reducible assumption) | assumption); obtain ⟨ce6, hcl6, hM6, hcc6, hfr6⟩ := Kd.R_elem HO_0.out z31 (x5_1 : Int) p6 q6; obtain rfl := k31_openM hM6; have hx6_0 : w17.cell? ⟨go5, (x5_1 : Int).toNat * 7, none⟩ = some (.int .i64 ((rd_T31 y621 x5_1).f0)) := hcc6 0 _ rfl; have hx6_1 : w17.cell? ⟨go5, (x5_1 : Int).toNat * 7 + 1, none⟩ = some (.int .i64 ((rd_T31 y621 x5_1).f1)) := hcc6 1 _ rfl; have hx6_2 : w17.cell? ⟨go5, (x5_1 : Int).toNat * 7 + 2, none⟩ = some (.string ((rd_T31 y621 x5_1).f2)) := hcc6 2 _ rfl; have hx6_3 : w17.cell? ⟨go5, (x5_1 : Int).toNat * 7 + 3, none⟩ = some (.int .i64 ((rd_T31 y621 x5_1).f3)) := hcc6 3 _ rfl; have hx6_4 : w17.cell? ⟨go5, (x5_1 : Int).toNat * 7 + 4, none⟩ = some (.string ((rd_T31 y621 x5_1).f4)) := hcc6 4 _ rfl; have hx6_5 : w17.cell? ⟨go5, (x5_1 : Int).toNat * 7 + 5, none⟩ = some (.int .i64 ((rd_T31 y621 x5_1).f5)) := hcc6 5 _ rfl; have hx6_6 : w17.cell? ⟨go5, (x5_1 : Int).toNat * 7 + 6, none⟩ = some (.string ((rd_T31 y621 x5_1).f6)) := hcc6 6 _ rfl; have hf6_0 : w17.frozen? ⟨go5, (x5_1 : Int).toNat * 7, none⟩ = false := hfr6 0; have hf6_1 : w17.frozen? ⟨go5, (x5_1 : Int).toNat * 7 + 1, none⟩ = false := hfr6 1; have hf6_2 : w17.frozen? ⟨go5, (x5_1 : Int).toNat * 7 + 2, none⟩ = false := hfr6 2; have hf6_3 : w17.frozen? ⟨go5, (x5_1 : Int).toNat * 7 + 3, none⟩ = false := hfr6 3; have hf6_4 : w17.frozen? ⟨go5, (x5_1 : Int).toNat * 7 + 4, none⟩ = false := hfr6 4; have hf6_5 : w17.frozen? ⟨go5, (x5_1 : Int).toNat * 7 + 5, none⟩ = false := hfr6 5; have hf6_6 : w17.frozen? ⟨go5, (x5_1 : Int).toNat * 7 + 6, none⟩ = false := hfr6 6; clear hcl6 hcc6 hfr6 hM6; replace p6 := eq_true p6; replace q6 := eq_true q6; have HX18 := Aside0.mk (show Kd.R k31 31 w17 w0.heap.size (fun k_ => (P0_ k_ ∨ w.heap.size ≤ k_)) (.slice (some ⟨go5, 0, none⟩) x0_1.length co15) y621 from (by (with_reducible repeat (first | apply Kd.R_alloc | apply Kd.R_drewN | apply Kd.R_drew)); exact HO_0.out)); obtain ⟨ce18, hcl18, hM18, hcc18, hfr18⟩ := Kd.R_elem HX18.out z31 (x5_1 : Int) (of_decide_eq_true (by first | (with_reducible assumption) | assumption)) (by have h_ : (x5_1 : Int) < ((x0_1.length : Int) : Int) := of_decide_eq_true (by first | (with_reducible assumption) | assumption); first | exact h_ | (have e_ := (Kd.R_reads' HO_0.out).1; omega) | simpa using h_); obtain rfl := k31_openM hM18; have HP18 := Kd.R_seg HX18.out (x5_1 : Int) (of_decide_eq_true (by first | (with_reducible assumption) | assumption)) (by have h_ : (x5_1 : Int) < ((x0_1.length : Int) : Int) := of_decide_eq_true (by first | (with_reducible assumption) | assumption); first | exact h_ | (have e_ := (Kd.R_reads' HO_0.out).1; omega) | simpa using h_) (seg := [.int .i64 (wrap64 (x1_1 + 1))]) (j := 1) hcl18 hcc18 (show 2 ≤ 7 from by decide) (x' := (⟨(rd_T31 y621 x5_1).f0, wrap64 (x1_1 + 1), (rd_T31 y621 x5_1).f2, (rd_T31 y621 x5_1).f3, (rd_T31 y621 x5_1).f4, (rd_T31 y621 x5_1).f5, (rd_T31 y621 x5_1).f6⟩ : S31)) (k31_mkM _ _ _ (⟨(rd_T31 y621 x5_1).f0, wrap64 (x1_1 + 1), (rd_T31 y621 x5_1).f2, (rd_T31 y621 x5_1).f3, (rd_T31 y621 x5_1).f4, (rd_T31 y621 x5_1).f5, (rd_T31 y621 x5_1).f6⟩ : S31) ) (fun _ hk => hk); have hx18_1 := hcc18 1 _ rfl; (try simp only [show (k31).sz = 7 from rfl, Nat.mul_one, Nat.add_zero] at hx18_1); have hf18_1 := hfr18 1; (try simp only [show (k31).sz = 7 from rfl, Nat.mul_one, Nat.add_zero] at hf18_1); clear hcl18 hcc18 hfr18 hM18) | ((with_reducible refine gate_store (t := 3) (p := 23) rfl ?_); refine store_event (t := 3) (p := 23) (v := ?vo_w19) (w1 := (w17.setCell ⟨go5, (x5_1 : Int).toNat * 7 + 1, none⟩ (.int .i64 (wrap64 (x1_1 + 1))))) ?hg ?ho ?hn ?hr ?_; (case ho => rfl); (case hg => rfl); (case hn => rfl); (case hr => first | (go_simp; done) | (go_simp; rfl)); intro w19 hw; have hg : w17.grownBy w19 (some go5) := (by rw [hw]; exact HP18.2); have hp_ : Kd.R k31 31 w19 w0.heap.size (fun k_ => (P0_ k_ ∨ w.heap.size ≤ k_)) (.slice (some ⟨go5, 0, none⟩) x0_1.length co15) y622 := (by rw [hw, Ny622.out]; exact HP18.1); clear HP18; have n0_ := Aside0.mk (hp_); have n1_ := Aside0.mk ((by rw [hw]; exact below_set (HB.out) GB5.out : Below w0.heap.size w0 w19)); have n2_ := Aside0.mk (Kept.of_grown (S := (fun k_ => P0_ k_)) hg (by repeat (first | (with_reducible first | exact HK.out | apply Kept.alloc | apply Kept.drewN | apply Kept.drew) | exact HK.out)) (fun k_ e_ => (HO_0.out.1 k_ e_))); clear HO_0; clear HB; clear HK; have HO_0 := n0_; have HB := n1_; have HK := n2_; clear n0_ n1_ n2_; clear hg hw hp_) | ((with_reducible refine gate_callee (f := 74) rfl ?_); refine goesL_ (some 29) rfl rfl Try.func74 (by kernel_rfl) rfl #[.int .i64 (wrap64 ((wrap64 (x1_1 + 1)) + 1))] rfl (by (try simp only [List.map_toArray, List.map_cons, List.map_nil]); first | done | rfl | (simp only [List.length_drop, List.length_take]; rfl)) ?_; (with_reducible refine (laws_markText.calls k1 (wrap64 ((wrap64 (x1_1 + 1)) + 1)) t623 _ A7.out).mono ?_); rintro e w20 ⟨rfl, hb⟩; refine ⟨_, rfl, ?_⟩; have n0_ := Aside0.mk (Kd.R_below (by (with_reducible repeat (first | apply Kd.R_alloc | apply Kd.R_drewN | apply Kd.R_drew)); exact HO_0.out) hb); have n1_ := Aside0.mk (Kept.below (S := (fun k_ => P0_ k_)) (by repeat (first | (with_reducible first | exact HK.out | apply Kept.alloc | apply Kept.drewN | apply Kept.drew) | exact HK.out)) hb); have n2_ := Aside0.mk (below_step (by repeat (first | (with_reducible first | exact HB.out | apply below_alloc | apply pw_below_drewN | apply below_drew1) | exact HB.out)) hb); clear HO_0; clear HK; clear HB; have HO_0 := n0_; have HK := n1_; have HB := n2_; clear n0_ n1_ n2_; (try clear hb); (try clear hb2); (try clear hk); (try clear hi); have p8 : 0 ≤ (x5_1 : Int) := of_decide_eq_true (by first | (with_reducible assumption) | assumption); have q8 : (x5_1 : Int) < ((x0_1.length : Int) : Int) := of_decide_eq_true (by first | (with_reducible assumption) | assumption); obtain ⟨ce8, hcl8, hM8, hcc8, hfr8⟩ := Kd.R_elem HO_0.out z31 (x5_1 : Int) p8 q8; obtain rfl := k31_openM hM8; have hx8_0 : w20.cell? ⟨go5, (x5_1 : Int).toNat * 7, none⟩ = some (.int .i64 ((rd_T31 y622 x5_1).f0)) := hcc8 0 _ rfl; have hx8_1 : w20.cell? ⟨go5, (x5_1 : Int).toNat * 7 + 1, none⟩ = some (.int .i64 ((rd_T31 y622 x5_1).f1)) := hcc8 1 _ rfl; have hx8_2 : w20.cell? ⟨go5, (x5_1 : Int).toNat * 7 + 2, none⟩ = some (.string ((rd_T31 y622 x5_1).f2)) := hcc8 2 _ rfl; have hx8_3 : w20.cell? ⟨go5, (x5_1 : Int).toNat * 7 + 3, none⟩ = some (.int .i64 ((rd_T31 y622 x5_1).f3)) := hcc8 3 _ rfl; have hx8_4 : w20.cell? ⟨go5, (x5_1 : Int).toNat * 7 + 4, none⟩ = some (.string ((rd_T31 y622 x5_1).f4)) := hcc8 4 _ rfl; have hx8_5 : w20.cell? ⟨go5, (x5_1 : Int).toNat * 7 + 5, none⟩ = some (.int .i64 ((rd_T31 y622 x5_1).f5)) := hcc8 5 _ rfl; have hx8_6 : w20.cell? ⟨go5, (x5_1 : Int).toNat * 7 + 6, none⟩ = some (.string ((rd_T31 y622 x5_1).f6)) := hcc8 6 _ rfl; have hf8_0 : w20.frozen? ⟨go5, (x5_1 : Int).toNat * 7, none⟩ = false := hfr8 0; have hf8_1 : w20.frozen? ⟨go5, (x5_1 : Int).toNat * 7 + 1, none⟩ = false := hfr8 1; have hf8_2 : w20.frozen? ⟨go5, (x5_1 : Int).toNat * 7 + 2, none⟩ = false := hfr8 2; have hf8_3 : w20.frozen? ⟨go5, (x5_1 : Int).toNat * 7 + 3, none⟩ = false := hfr8 3; have hf8_4 : w20.frozen? ⟨go5, (x5_1 : Int).toNat * 7 + 4, none⟩ = false := hfr8 4; have hf8_5 : w20.frozen? ⟨go5, (x5_1 : Int).toNat * 7 + 5, none⟩ = false := hfr8 5; have hf8_6 : w20.frozen? ⟨go5, (x5_1 : Int).toNat * 7 + 6, none⟩ = false := hfr8 6; clear hcl8 hcc8 hfr8 hM8; replace p8 := eq_true p8; replace q8 := eq_true q8; have HX21 := Aside0.mk (show Kd.R k31 31 w20 w0.heap.size (fun k_ => (P0_ k_ ∨ w.heap.size ≤ k_)) (.slice (some ⟨go5, 0, none⟩) x0_1.length co15) y622 from (by (with_reducible repeat (first | apply Kd.R_alloc | apply Kd.R_drewN | apply Kd.R_drew)); exact HO_0.out)); obtain ⟨ce21, hcl21, hM21, hcc21, hfr21⟩ := Kd.R_elem HX21.out z31 (x5_1 : Int) (of_decide_eq_true (by first | (with_reducible assumption) | assumption)) (by have h_ : (x5_1 : Int) < ((x0_1.length : Int) : Int) := of_decide_eq_true (by first | (with_reducible assumption) | assumption); first | exact h_ | (have e_ := (Kd.R_reads' HO_0.out).1; omega) | simpa using h_); obtain rfl := k31_openM hM21; have HP21 := Kd.R_seg HX21.out (x5_1 : Int) (of_decide_eq_true (by first | (with_reducible assumption) | assumption)) (by have h_ : (x5_1 : Int) < ((x0_1.length : Int) : Int) := of_decide_eq_true (by first | (with_reducible assumption) | assumption); first | exact h_ | (have e_ := (Kd.R_reads' HO_0.out).1; omega) | simpa using h_) (seg := [.string t623]) (j := 2) hcl21 hcc21 (show 3 ≤ 7 from by decide) (x' := (⟨(rd_T31 y622 x5_1).f0, (rd_T31 y622 x5_1).f1, t623, (rd_T31 y622 x5_1).f3, (rd_T31 y622 x5_1).f4, (rd_T31 y622 x5_1).f5, (rd_T31 y622 x5_1).f6⟩ : S31)) (k31_mkM _ _ _ (⟨(rd_T31 y622 x5_1).f0, (rd_T31 y622 x5_1).f1, t623, (rd_T31 y622 x5_1).f3, (rd_T31 y622 x5_1).f4, (rd_T31 y622 x5_1).f5, (rd_T31 y622 x5_1).f6⟩ : S31) ) (fun _ hk => hk); have hx21_2 := hcc21 2 _ rfl; (try simp only [show (k31).sz = 7 from rfl, Nat.mul_one, Nat.add_zero] at hx21_2); have hf21_2 := hfr21 2; (try simp only [show (k31).sz = 7 from rfl, Nat.mul_one, Nat.add_zero] at hf21_2); clear hcl21 hcc21 hfr21 hM21) | ((with_reducible refine gate_store (t := 9) (p := 31) rfl ?_); refine store_event (t := 9) (p := 31) (v := ?vo_w22) (w1 := (w20.setCell ⟨go5, (x5_1 : Int).toNat * 7 + 2, none⟩ (.string t623))) ?hg ?ho ?hn ?hr ?_; (case ho => rfl); (case hg => rfl); (case hn => rfl); (case hr => first | (go_simp; done) | (go_simp; rfl)); intro w22 hw; have hg : w20.grownBy w22 (some go5) := (by rw [hw]; exact HP21.2); have hp_ : Kd.R k31 31 w22 w0.heap.size (fun k_ => (P0_ k_ ∨ w.heap.size ≤ k_)) (.slice (some ⟨go5, 0, none⟩) x0_1.length co15) y624 := (by rw [hw, Ny624.out]; exact HP21.1); clear HP21; have n0_ := Aside0.mk (hp_); have n1_ := Aside0.mk ((by rw [hw]; exact below_set (HB.out) GB5.out : Below w0.heap.size w0 w22)); have n2_ := Aside0.mk (Kept.of_grown (S := (fun k_ => P0_ k_)) hg (by repeat (first | (with_reducible first | exact HK.out | apply Kept.alloc | apply Kept.drewN | apply Kept.drew) | exact HK.out)) (fun k_ e_ => (HO_0.out.1 k_ e_))); clear HO_0; clear HB; clear HK; have HO_0 := n0_; have HB := n1_; have HK := n2_; clear n0_ n1_ n2_; clear hg hw hp_; have p9 : 0 ≤ (x5_1 : Int) := of_decide_eq_true (by first | (with_reducible assumption) | assumption); have q9 : (x5_1 : Int) < ((x0_1.length : Int) : Int) := of_decide_eq_true (by first | (with_reducible assumption) | assumption); obtain ⟨ce9, hcl9, hM9, hcc9, hfr9⟩ := Kd.R_elem HO_0.out z31 (x5_1 : Int) p9 q9; obtain rfl := k31_openM hM9; have hx9_0 : w22.cell? ⟨go5, (x5_1 : Int).toNat * 7, none⟩ = some (.int .i64 ((rd_T31 y624 x5_1).f0)) := hcc9 0 _ rfl; have hx9_1 : w22.cell? ⟨go5, (x5_1 : Int).toNat * 7 + 1, none⟩ = some (.int .i64 ((rd_T31 y624 x5_1).f1)) := hcc9 1 _ rfl; have hx9_2 : w22.cell? ⟨go5, (x5_1 : Int).toNat * 7 + 2, none⟩ = some (.string ((rd_T31 y624 x5_1).f2)) := hcc9 2 _ rfl; have hx9_3 : w22.cell? ⟨go5, (x5_1 : Int).toNat * 7 + 3, none⟩ = some (.int .i64 ((rd_T31 y624 x5_1).f3)) := hcc9 3 _ rfl; have hx9_4 : w22.cell? ⟨go5, (x5_1 : Int).toNat * 7 + 4, none⟩ = some (.string ((rd_T31 y624 x5_1).f4)) := hcc9 4 _ rfl; have hx9_5 : w22.cell? ⟨go5, (x5_1 : Int).toNat * 7 + 5, none⟩ = some (.int .i64 ((rd_T31 y624 x5_1).f5)) := hcc9 5 _ rfl; have hx9_6 : w22.cell? ⟨go5, (x5_1 : Int).toNat * 7 + 6, none⟩ = some (.string ((rd_T31 y624 x5_1).f6)) := hcc9 6 _ rfl; have hf9_0 : w22.frozen? ⟨go5, (x5_1 : Int).toNat * 7, none⟩ = false := hfr9 0; have hf9_1 : w22.frozen? ⟨go5, (x5_1 : Int).toNat * 7 + 1, none⟩ = false := hfr9 1; have hf9_2 : w22.frozen? ⟨go5, (x5_1 : Int).toNat * 7 + 2, none⟩ = false := hfr9 2; have hf9_3 : w22.frozen? ⟨go5, (x5_1 : Int).toNat * 7 + 3, none⟩ = false := hfr9 3; have hf9_4 : w22.frozen? ⟨go5, (x5_1 : Int).toNat * 7 + 4, none⟩ = false := hfr9 4; have hf9_5 : w22.frozen? ⟨go5, (x5_1 : Int).toNat * 7 + 5, none⟩ = false := hfr9 5; have hf9_6 : w22.frozen? ⟨go5, (x5_1 : Int).toNat * 7 + 6, none⟩ = false := hfr9 6; clear hcl9 hcc9 hfr9 hM9; replace p9 := eq_true p9; replace q9 := eq_true q9; have HX23 := Aside0.mk (show Kd.R k31 31 w22 w0.heap.size (fun k_ => (P0_ k_ ∨ w.heap.size ≤ k_)) (.slice (some ⟨go5, 0, none⟩) x0_1.length co15) y624 from (by (with_reducible repeat (first | apply Kd.R_alloc | apply Kd.R_drewN | apply Kd.R_drew)); exact HO_0.out)); obtain ⟨ce23, hcl23, hM23, hcc23, hfr23⟩ := Kd.R_elem HX23.out z31 (x5_1 : Int) (of_decide_eq_true (by first | (with_reducible assumption) | assumption)) (by have h_ : (x5_1 : Int) < ((x0_1.length : Int) : Int) := of_decide_eq_true (by first | (with_reducible assumption) | assumption); first | exact h_ | (have e_ := (Kd.R_reads' HO_0.out).1; omega) | simpa using h_); obtain rfl := k31_openM hM23; have HP23 := Kd.R_seg HX23.out (x5_1 : Int) (of_decide_eq_true (by first | (with_reducible assumption) | assumption)) (by have h_ : (x5_1 : Int) < ((x0_1.length : Int) : Int) := of_decide_eq_true (by first | (with_reducible assumption) | assumption); first | exact h_ | (have e_ := (Kd.R_reads' HO_0.out).1; omega) | simpa using h_) (seg := [.int .i64 (wrap64 ((wrap64 ((wrap64 (x1_1 + 1)) + 1)) + 1))]) (j := 3) hcl23 hcc23 (show 4 ≤ 7 from by decide) (x' := (⟨(rd_T31 y624 x5_1).f0, (rd_T31 y624 x5_1).f1, (rd_T31 y624 x5_1).f2, wrap64 ((wrap64 ((wrap64 (x1_1 + 1)) + 1)) + 1), (rd_T31 y624 x5_1).f4, (rd_T31 y624 x5_1).f5, (rd_T31 y624 x5_1).f6⟩ : S31)) (k31_mkM _ _ _ (⟨(rd_T31 y624 x5_1).f0, (rd_T31 y624 x5_1).f1, (rd_T31 y624 x5_1).f2, wrap64 ((wrap64 ((wrap64 (x1_1 + 1)) + 1)) + 1), (rd_T31 y624 x5_1).f4, (rd_T31 y624 x5_1).f5, (rd_T31 y624 x5_1).f6⟩ : S31) ) (fun _ hk => hk); have hx23_3 := hcc23 3 _ rfl; (try simp only [show (k31).sz = 7 from rfl, Nat.mul_one, Nat.add_zero] at hx23_3); have hf23_3 := hfr23 3; (try simp only [show (k31).sz = 7 from rfl, Nat.mul_one, Nat.add_zero] at hf23_3); clear hcl23 hcc23 hfr23 hM23) | ((with_reducible refine gate_store (t := 3) (p := 38) rfl ?_); refine store_event (t := 3) (p := 38) (v := ?vo_w24) (w1 := (w22.setCell ⟨go5, (x5_1 : Int).toNat * 7 + 3, none⟩ (.int .i64 (wrap64 ((wrap64 ((wrap64 (x1_1 + 1)) + 1)) + 1))))) ?hg ?ho ?hn ?hr ?_; (case ho => rfl); (case hg => rfl); (case hn => rfl); (case hr => first | (go_simp; done) | (go_simp; rfl)); intro w24 hw; have hg : w22.grownBy w24 (some go5) := (by rw [hw]; exact HP23.2); have hp_ : Kd.R k31 31 w24 w0.heap.size (fun k_ => (P0_ k_ ∨ w.heap.size ≤ k_)) (.slice (some ⟨go5, 0, none⟩) x0_1.length co15) y625 := (by rw [hw, Ny625.out]; exact HP23.1); clear HP23; have n0_ := Aside0.mk (hp_); have n1_ := Aside0.mk ((by rw [hw]; exact below_set (HB.out) GB5.out : Below w0.heap.size w0 w24)); have n2_ := Aside0.mk (Kept.of_grown (S := (fun k_ => P0_ k_)) hg (by repeat (first | (with_reducible first | exact HK.out | apply Kept.alloc | apply Kept.drewN | apply Kept.drew) | exact HK.out)) (fun k_ e_ => (HO_0.out.1 k_ e_))); clear HO_0; clear HB; clear HK; have HO_0 := n0_; have HB := n1_; have HK := n2_; clear n0_ n1_ n2_; clear hg hw hp_) | ((with_reducible refine gate_callee (f := 74) rfl ?_); refine goesL_ (some 44) rfl rfl Try.func74 (by kernel_rfl) rfl #[.int .i64 (wrap64 ((wrap64 ((wrap64 ((wrap64 (x1_1 + 1)) + 1)) + 1)) + 1))] rfl (by (try simp only [List.map_toArray, List.map_cons, List.map_nil]); first | done | rfl | (simp only [List.length_drop, List.length_take]; rfl)) ?_; (with_reducible refine (laws_markText.calls k1 (wrap64 ((wrap64 ((wrap64 ((wrap64 (x1_1 + 1)) + 1)) + 1)) + 1)) t626 _ A10.out).mono ?_); rintro e w25 ⟨rfl, hb⟩; refine ⟨_, rfl, ?_⟩; have n0_ := Aside0.mk (Kd.R_below (by (with_reducible repeat (first | apply Kd.R_alloc | apply Kd.R_drewN | apply Kd.R_drew)); exact HO_0.out) hb); have n1_ := Aside0.mk (Kept.below (S := (fun k_ => P0_ k_)) (by repeat (first | (with_reducible first | exact HK.out | apply Kept.alloc | apply Kept.drewN | apply Kept.drew) | exact HK.out)) hb); have n2_ := Aside0.mk (below_step (by repeat (first | (with_reducible first | exact HB.out | apply below_alloc | apply pw_below_drewN | apply below_drew1) | exact HB.out)) hb); clear HO_0; clear HK; clear HB; have HO_0 := n0_; have HK := n1_; have HB := n2_; clear n0_ n1_ n2_; (try clear hb); (try clear hb2); (try clear hk); (try clear hi); have p11 : 0 ≤ (x5_1 : Int) := of_decide_eq_true (by first | (with_reducible assumption) | assumption); have q11 : (x5_1 : Int) < ((x0_1.length : Int) : Int) := of_decide_eq_true (by first | (with_reducible assumption) | assumption); obtain ⟨ce11, hcl11, hM11, hcc11, hfr11⟩ := Kd.R_elem HO_0.out z31 (x5_1 : Int) p11 q11; obtain rfl := k31_openM hM11; have hx11_0 : w25.cell? ⟨go5, (x5_1 : Int).toNat * 7, none⟩ = some (.int .i64 ((rd_T31 y625 x5_1).f0)) := hcc11 0 _ rfl; have hx11_1 : w25.cell? ⟨go5, (x5_1 : Int).toNat * 7 + 1, none⟩ = some (.int .i64 ((rd_T31 y625 x5_1).f1)) := hcc11 1 _ rfl; have hx11_2 : w25.cell? ⟨go5, (x5_1 : Int).toNat * 7 + 2, none⟩ = some (.string ((rd_T31 y625 x5_1).f2)) := hcc11 2 _ rfl; have hx11_3 : w25.cell? ⟨go5, (x5_1 : Int).toNat * 7 + 3, none⟩ = some (.int .i64 ((rd_T31 y625 x5_1).f3)) := hcc11 3 _ rfl; have hx11_4 : w25.cell? ⟨go5, (x5_1 : Int).toNat * 7 + 4, none⟩ = some (.string ((rd_T31 y625 x5_1).f4)) := hcc11 4 _ rfl; have hx11_5 : w25.cell? ⟨go5, (x5_1 : Int).toNat * 7 + 5, none⟩ = some (.int .i64 ((rd_T31 y625 x5_1).f5)) := hcc11 5 _ rfl; have hx11_6 : w25.cell? ⟨go5, (x5_1 : Int).toNat * 7 + 6, none⟩ = some (.string ((rd_T31 y625 x5_1).f6)) := hcc11 6 _ rfl; have hf11_0 : w25.frozen? ⟨go5, (x5_1 : Int).toNat * 7, none⟩ = false := hfr11 0; have hf11_1 : w25.frozen? ⟨go5, (x5_1 : Int).toNat * 7 + 1, none⟩ = false := hfr11 1; have hf11_2 : w25.frozen? ⟨go5, (x5_1 : Int).toNat * 7 + 2, none⟩ = false := hfr11 2; have hf11_3 : w25.frozen? ⟨go5, (x5_1 : Int).toNat * 7 + 3, none⟩ = false := hfr11 3; have hf11_4 : w25.frozen? ⟨go5, (x5_1 : Int).toNat * 7 + 4, none⟩ = false := hfr11 4; have hf11_5 : w25.frozen? ⟨go5, (x5_1 : Int).toNat * 7 + 5, none⟩ = false := hfr11 5; have hf11_6 : w25.frozen? ⟨go5, (x5_1 : Int).toNat * 7 + 6, none⟩ = false := hfr11 6; clear hcl11 hcc11 hfr11 hM11; replace p11 := eq_true p11; replace q11 := eq_true q11; have HX26 := Aside0.mk (show Kd.R k31 31 w25 w0.heap.size (fun k_ => (P0_ k_ ∨ w.heap.size ≤ k_)) (.slice (some ⟨go5, 0, none⟩) x0_1.length co15) y625 from (by (with_reducible repeat (first | apply Kd.R_alloc | apply Kd.R_drewN | apply Kd.R_drew)); exact HO_0.out)); obtain ⟨ce26, hcl26, hM26, hcc26, hfr26⟩ := Kd.R_elem HX26.out z31 (x5_1 : Int) (of_decide_eq_true (by first | (with_reducible assumption) | assumption)) (by have h_ : (x5_1 : Int) < ((x0_1.length : Int) : Int) := of_decide_eq_true (by first | (with_reducible assumption) | assumption); first | exact h_ | (have e_ := (Kd.R_reads' HO_0.out).1; omega) | simpa using h_); obtain rfl := k31_openM hM26; have HP26 := Kd.R_seg HX26.out (x5_1 : Int) (of_decide_eq_true (by first | (with_reducible assumption) | assumption)) (by have h_ : (x5_1 : Int) < ((x0_1.length : Int) : Int) := of_decide_eq_true (by first | (with_reducible assumption) | assumption); first | exact h_ | (have e_ := (Kd.R_reads' HO_0.out).1; omega) | simpa using h_) (seg := [.string t626]) (j := 4) hcl26 hcc26 (show 5 ≤ 7 from by decide) (x' := (⟨(rd_T31 y625 x5_1).f0, (rd_T31 y625 x5_1).f1, (rd_T31 y625 x5_1).f2, (rd_T31 y625 x5_1).f3, t626, (rd_T31 y625 x5_1).f5, (rd_T31 y625 x5_1).f6⟩ : S31)) (k31_mkM _ _ _ (⟨(rd_T31 y625 x5_1).f0, (rd_T31 y625 x5_1).f1, (rd_T31 y625 x5_1).f2, (rd_T31 y625 x5_1).f3, t626, (rd_T31 y625 x5_1).f5, (rd_T31 y625 x5_1).f6⟩ : S31) ) (fun _ hk => hk); have hx26_4 := hcc26 4 _ rfl; (try simp only [show (k31).sz = 7 from rfl, Nat.mul_one, Nat.add_zero] at hx26_4); have hf26_4 := hfr26 4; (try simp only [show (k31).sz = 7 from rfl, Nat.mul_one, Nat.add_zero] at hf26_4); clear hcl26 hcc26 hfr26 hM26) | ((with_reducible refine gate_store (t := 9) (p := 46) rfl ?_); refine store_event (t := 9) (p := 46) (v := ?vo_w27) (w1 := (w25.setCell ⟨go5, (x5_1 : Int).toNat * 7 + 4, none⟩ (.string t626))) ?hg ?ho ?hn ?hr ?_; (case ho => rfl); (case hg => rfl); (case hn => rfl); (case hr => first | (go_simp; done) | (go_simp; rfl)); intro w27 hw; have hg : w25.grownBy w27 (some go5) := (by rw [hw]; exact HP26.2); have hp_ : Kd.R k31 31 w27 w0.heap.size (fun k_ => (P0_ k_ ∨ w.heap.size ≤ k_)) (.slice (some ⟨go5, 0, none⟩) x0_1.length co15) y627 := (by rw [hw, Ny627.out]; exact HP26.1); clear HP26; have n0_ := Aside0.mk (hp_); have n1_ := Aside0.mk ((by rw [hw]; exact below_set (HB.out) GB5.out : Below w0.heap.size w0 w27)); have n2_ := Aside0.mk (Kept.of_grown (S := (fun k_ => P0_ k_)) hg (by repeat (first | (with_reducible first | exact HK.out | apply Kept.alloc | apply Kept.drewN | apply Kept.drew) | exact HK.out)) (fun k_ e_ => (HO_0.out.1 k_ e_))); clear HO_0; clear HB; clear HK; have HO_0 := n0_; have HB := n1_; have HK := n2_; clear n0_ n1_ n2_; clear hg hw hp_; have p12 : 0 ≤ (x5_1 : Int) := of_decide_eq_true (by first | (with_reducible assumption) | assumption); have q12 : (x5_1 : Int) < ((x0_1.length : Int) : Int) := of_decide_eq_true (by first | (with_reducible assumption) | assumption); obtain ⟨ce12, hcl12, hM12, hcc12, hfr12⟩ := Kd.R_elem HO_0.out z31 (x5_1 : Int) p12 q12; obtain rfl := k31_openM hM12; have hx12_0 : w27.cell? ⟨go5, (x5_1 : Int).toNat * 7, none⟩ = some (.int .i64 ((rd_T31 y627 x5_1).f0)) := hcc12 0 _ rfl; have hx12_1 : w27.cell? ⟨go5, (x5_1 : Int).toNat * 7 + 1, none⟩ = some (.int .i64 ((rd_T31 y627 x5_1).f1)) := hcc12 1 _ rfl; have hx12_2 : w27.cell? ⟨go5, (x5_1 : Int).toNat * 7 + 2, none⟩ = some (.string ((rd_T31 y627 x5_1).f2)) := hcc12 2 _ rfl; have hx12_3 : w27.cell? ⟨go5, (x5_1 : Int).toNat * 7 + 3, none⟩ = some (.int .i64 ((rd_T31 y627 x5_1).f3)) := hcc12 3 _ rfl; have hx12_4 : w27.cell? ⟨go5, (x5_1 : Int).toNat * 7 + 4, none⟩ = some (.string ((rd_T31 y627 x5_1).f4)) := hcc12 4 _ rfl; have hx12_5 : w27.cell? ⟨go5, (x5_1 : Int).toNat * 7 + 5, none⟩ = some (.int .i64 ((rd_T31 y627 x5_1).f5)) := hcc12 5 _ rfl; have hx12_6 : w27.cell? ⟨go5, (x5_1 : Int).toNat * 7 + 6, none⟩ = some (.string ((rd_T31 y627 x5_1).f6)) := hcc12 6 _ rfl; have hf12_0 : w27.frozen? ⟨go5, (x5_1 : Int).toNat * 7, none⟩ = false := hfr12 0; have hf12_1 : w27.frozen? ⟨go5, (x5_1 : Int).toNat * 7 + 1, none⟩ = false := hfr12 1; have hf12_2 : w27.frozen? ⟨go5, (x5_1 : Int).toNat * 7 + 2, none⟩ = false := hfr12 2; have hf12_3 : w27.frozen? ⟨go5, (x5_1 : Int).toNat * 7 + 3, none⟩ = false := hfr12 3; have hf12_4 : w27.frozen? ⟨go5, (x5_1 : Int).toNat * 7 + 4, none⟩ = false := hfr12 4; have hf12_5 : w27.frozen? ⟨go5, (x5_1 : Int).toNat * 7 + 5, none⟩ = false := hfr12 5; have hf12_6 : w27.frozen? ⟨go5, (x5_1 : Int).toNat * 7 + 6, none⟩ = false := hfr12 6; clear hcl12 hcc12 hfr12 hM12; replace p12 := eq_true p12; replace q12 := eq_true q12; have HX28 := Aside0.mk (show Kd.R k31 31 w27 w0.heap.size (fun k_ => (P0_ k_ ∨ w.heap.size ≤ k_)) (.slice (some ⟨go5, 0, none⟩) x0_1.length co15) y627 from (by (with_reducible repeat (first | apply Kd.R_alloc | apply Kd.R_drewN | apply Kd.R_drew)); exact HO_0.out)); obtain ⟨ce28, hcl28, hM28, hcc28, hfr28⟩ := Kd.R_elem HX28.out z31 (x5_1 : Int) (of_decide_eq_true (by first | (with_reducible assumption) | assumption)) (by have h_ : (x5_1 : Int) < ((x0_1.length : Int) : Int) := of_decide_eq_true (by first | (with_reducible assumption) | assumption); first | exact h_ | (have e_ := (Kd.R_reads' HO_0.out).1; omega) | simpa using h_); obtain rfl := k31_openM hM28; have HP28 := Kd.R_seg HX28.out (x5_1 : Int) (of_decide_eq_true (by first | (with_reducible assumption) | assumption)) (by have h_ : (x5_1 : Int) < ((x0_1.length : Int) : Int) := of_decide_eq_true (by first | (with_reducible assumption) | assumption); first | exact h_ | (have e_ := (Kd.R_reads' HO_0.out).1; omega) | simpa using h_) (seg := [.int .i64 (wrap64 ((wrap64 ((wrap64 ((wrap64 ((wrap64 (x1_1 + 1)) + 1)) + 1)) + 1)) + 1))]) (j := 5) hcl28 hcc28 (show 6 ≤ 7 from by decide) (x' := (⟨(rd_T31 y627 x5_1).f0, (rd_T31 y627 x5_1).f1, (rd_T31 y627 x5_1).f2, (rd_T31 y627 x5_1).f3, (rd_T31 y627 x5_1).f4, wrap64 ((wrap64 ((wrap64 ((wrap64 ((wrap64 (x1_1 + 1)) + 1)) + 1)) + 1)) + 1), (rd_T31 y627 x5_1).f6⟩ : S31)) (k31_mkM _ _ _ (⟨(rd_T31 y627 x5_1).f0, (rd_T31 y627 x5_1).f1, (rd_T31 y627 x5_1).f2, (rd_T31 y627 x5_1).f3, (rd_T31 y627 x5_1).f4, wrap64 ((wrap64 ((wrap64 ((wrap64 ((wrap64 (x1_1 + 1)) + 1)) + 1)) + 1)) + 1), (rd_T31 y627 x5_1).f6⟩ : S31) ) (fun _ hk => hk); have hx28_5 := hcc28 5 _ rfl; (try simp only [show (k31).sz = 7 from rfl, Nat.mul_one, Nat.add_zero] at hx28_5); have hf28_5 := hfr28 5; (try simp only [show (k31).sz = 7 from rfl, Nat.mul_one, Nat.add_zero] at hf28_5); clear hcl28 hcc28 hfr28 hM28) | ((with_reducible refine gate_store (t := 3) (p := 53) rfl ?_); refine store_event (t := 3) (p := 53) (v := ?vo_w29) (w1 := (w27.setCell ⟨go5, (x5_1 : Int).toNat * 7 + 5, none⟩ (.int .i64 (wrap64 ((wrap64 ((wrap64 ((wrap64 ((wrap64 (x1_1 + 1)) + 1)) + 1)) + 1)) + 1))))) ?hg ?ho ?hn ?hr ?_; (case ho => rfl); (case hg => rfl); (case hn => rfl); (case hr => first | (go_simp; done) | (go_simp; rfl)); intro w29 hw; have hg : w27.grownBy w29 (some go5) := (by rw [hw]; exact HP28.2); have hp_ : Kd.R k31 31 w29 w0.heap.size (fun k_ => (P0_ k_ ∨ w.heap.size ≤ k_)) (.slice (some ⟨go5, 0, none⟩) x0_1.length co15) y628 := (by rw [hw, Ny628.out]; exact HP28.1); clear HP28; have n0_ := Aside0.mk (hp_); have n1_ := Aside0.mk ((by rw [hw]; exact below_set (HB.out) GB5.out : Below w0.heap.size w0 w29)); have n2_ := Aside0.mk (Kept.of_grown (S := (fun k_ => P0_ k_)) hg (by repeat (first | (with_reducible first | exact HK.out | apply Kept.alloc | apply Kept.drewN | apply Kept.drew) | exact HK.out)) (fun k_ e_ => (HO_0.out.1 k_ e_))); clear HO_0; clear HB; clear HK; have HO_0 := n0_; have HB := n1_; have HK := n2_; clear n0_ n1_ n2_; clear hg hw hp_) | ((with_reducible refine gate_callee (f := 74) rfl ?_); refine goesL_ (some 59) rfl rfl Try.func74 (by kernel_rfl) rfl #[.int .i64 (wrap64 ((wrap64 ((wrap64 ((wrap64 ((wrap64 ((wrap64 (x1_1 + 1)) + 1)) + 1)) + 1)) + 1)) + 1))] rfl (by (try simp only [List.map_toArray, List.map_cons, List.map_nil]); first | done | rfl | (simp only [List.length_drop, List.length_take]; rfl)) ?_; (with_reducible refine (laws_markText.calls k1 (wrap64 ((wrap64 ((wrap64 ((wrap64 ((wrap64 ((wrap64 (x1_1 + 1)) + 1)) + 1)) + 1)) + 1)) + 1)) t629 _ A13.out).mono ?_); rintro e w30 ⟨rfl, hb⟩; refine ⟨_, rfl, ?_⟩; have n0_ := Aside0.mk (Kd.R_below (by (with_reducible repeat (first | apply Kd.R_alloc | apply Kd.R_drewN | apply Kd.R_drew)); exact HO_0.out) hb); have n1_ := Aside0.mk (Kept.below (S := (fun k_ => P0_ k_)) (by repeat (first | (with_reducible first | exact HK.out | apply Kept.alloc | apply Kept.drewN | apply Kept.drew) | exact HK.out)) hb); have n2_ := Aside0.mk (below_step (by repeat (first | (with_reducible first | exact HB.out | apply below_alloc | apply pw_below_drewN | apply below_drew1) | exact HB.out)) hb); clear HO_0; clear HK; clear HB; have HO_0 := n0_; have HK := n1_; have HB := n2_; clear n0_ n1_ n2_; (try clear hb); (try clear hb2); (try clear hk); (try clear hi); have p14 : 0 ≤ (x5_1 : Int) := of_decide_eq_true (by first | (with_reducible assumption) | assumption); have q14 : (x5_1 : Int) < ((x0_1.length : Int) : Int) := of_decide_eq_true (by first | (with_reducible assumption) | assumption); obtain ⟨ce14, hcl14, hM14, hcc14, hfr14⟩ := Kd.R_elem HO_0.out z31 (x5_1 : Int) p14 q14; obtain rfl := k31_openM hM14; have hx14_0 : w30.cell? ⟨go5, (x5_1 : Int).toNat * 7, none⟩ = some (.int .i64 ((rd_T31 y628 x5_1).f0)) := hcc14 0 _ rfl; have hx14_1 : w30.cell? ⟨go5, (x5_1 : Int).toNat * 7 + 1, none⟩ = some (.int .i64 ((rd_T31 y628 x5_1).f1)) := hcc14 1 _ rfl; have hx14_2 : w30.cell? ⟨go5, (x5_1 : Int).toNat * 7 + 2, none⟩ = some (.string ((rd_T31 y628 x5_1).f2)) := hcc14 2 _ rfl; have hx14_3 : w30.cell? ⟨go5, (x5_1 : Int).toNat * 7 + 3, none⟩ = some (.int .i64 ((rd_T31 y628 x5_1).f3)) := hcc14 3 _ rfl; have hx14_4 : w30.cell? ⟨go5, (x5_1 : Int).toNat * 7 + 4, none⟩ = some (.string ((rd_T31 y628 x5_1).f4)) := hcc14 4 _ rfl; have hx14_5 : w30.cell? ⟨go5, (x5_1 : Int).toNat * 7 + 5, none⟩ = some (.int .i64 ((rd_T31 y628 x5_1).f5)) := hcc14 5 _ rfl; have hx14_6 : w30.cell? ⟨go5, (x5_1 : Int).toNat * 7 + 6, none⟩ = some (.string ((rd_T31 y628 x5_1).f6)) := hcc14 6 _ rfl; have hf14_0 : w30.frozen? ⟨go5, (x5_1 : Int).toNat * 7, none⟩ = false := hfr14 0; have hf14_1 : w30.frozen? ⟨go5, (x5_1 : Int).toNat * 7 + 1, none⟩ = false := hfr14 1; have hf14_2 : w30.frozen? ⟨go5, (x5_1 : Int).toNat * 7 + 2, none⟩ = false := hfr14 2; have hf14_3 : w30.frozen? ⟨go5, (x5_1 : Int).toNat * 7 + 3, none⟩ = false := hfr14 3; have hf14_4 : w30.frozen? ⟨go5, (x5_1 : Int).toNat * 7 + 4, none⟩ = false := hfr14 4; have hf14_5 : w30.frozen? ⟨go5, (x5_1 : Int).toNat * 7 + 5, none⟩ = false := hfr14 5; have hf14_6 : w30.frozen? ⟨go5, (x5_1 : Int).toNat * 7 + 6, none⟩ = false := hfr14 6; clear hcl14 hcc14 hfr14 hM14; replace p14 := eq_true p14; replace q14 := eq_true q14; have HX31 := Aside0.mk (show Kd.R k31 31 w30 w0.heap.size (fun k_ => (P0_ k_ ∨ w.heap.size ≤ k_)) (.slice (some ⟨go5, 0, none⟩) x0_1.length co15) y628 from (by (with_reducible repeat (first | apply Kd.R_alloc | apply Kd.R_drewN | apply Kd.R_drew)); exact HO_0.out)); obtain ⟨ce31, hcl31, hM31, hcc31, hfr31⟩ := Kd.R_elem HX31.out z31 (x5_1 : Int) (of_decide_eq_true (by first | (with_reducible assumption) | assumption)) (by have h_ : (x5_1 : Int) < ((x0_1.length : Int) : Int) := of_decide_eq_true (by first | (with_reducible assumption) | assumption); first | exact h_ | (have e_ := (Kd.R_reads' HO_0.out).1; omega) | simpa using h_); obtain rfl := k31_openM hM31; have HP31 := Kd.R_seg HX31.out (x5_1 : Int) (of_decide_eq_true (by first | (with_reducible assumption) | assumption)) (by have h_ : (x5_1 : Int) < ((x0_1.length : Int) : Int) := of_decide_eq_true (by first | (with_reducible assumption) | assumption); first | exact h_ | (have e_ := (Kd.R_reads' HO_0.out).1; omega) | simpa using h_) (seg := [.string t629]) (j := 6) hcl31 hcc31 (show 7 ≤ 7 from by decide) (x' := (⟨(rd_T31 y628 x5_1).f0, (rd_T31 y628 x5_1).f1, (rd_T31 y628 x5_1).f2, (rd_T31 y628 x5_1).f3, (rd_T31 y628 x5_1).f4, (rd_T31 y628 x5_1).f5, t629⟩ : S31)) (k31_mkM _ _ _ (⟨(rd_T31 y628 x5_1).f0, (rd_T31 y628 x5_1).f1, (rd_T31 y628 x5_1).f2, (rd_T31 y628 x5_1).f3, (rd_T31 y628 x5_1).f4, (rd_T31 y628 x5_1).f5, t629⟩ : S31) ) (fun _ hk => hk); have hx31_6 := hcc31 6 _ rfl; (try simp only [show (k31).sz = 7 from rfl, Nat.mul_one, Nat.add_zero] at hx31_6); have hf31_6 := hfr31 6; (try simp only [show (k31).sz = 7 from rfl, Nat.mul_one, Nat.add_zero] at hf31_6); clear hcl31 hcc31 hfr31 hM31) | ((with_reducible refine gate_store (t := 9) (p := 61) rfl ?_); refine store_event (t := 9) (p := 61) (v := ?vo_w32) (w1 := (w30.setCell ⟨go5, (x5_1 : Int).toNat * 7 + 6, none⟩ (.string t629))) ?hg ?ho ?hn ?hr ?_; (case ho => rfl); (case hg => rfl); (case hn => rfl); (case hr => first | (go_simp; done) | (go_simp; rfl)); intro w32 hw; have hg : w30.grownBy w32 (some go5) := (by rw [hw]; exact HP31.2); have hp_ : Kd.R k31 31 w32 w0.heap.size (fun k_ => (P0_ k_ ∨ w.heap.size ≤ k_)) (.slice (some ⟨go5, 0, none⟩) x0_1.length co15) y630 := (by rw [hw, Ny630.out]; exact HP31.1); clear HP31; have n0_ := Aside0.mk (hp_); have n1_ := Aside0.mk ((by rw [hw]; exact below_set (HB.out) GB5.out : Below w0.heap.size w0 w32)); have n2_ := Aside0.mk (Kept.of_grown (S := (fun k_ => P0_ k_)) hg (by repeat (first | (with_reducible first | exact HK.out | apply Kept.alloc | apply Kept.drewN | apply Kept.drew) | exact HK.out)) (fun k_ e_ => (HO_0.out.1 k_ e_))); clear HO_0; clear HB; clear HK; have HO_0 := n0_; have HB := n1_; have HK := n2_; clear n0_ n1_ n2_; clear hg hw hp_))
          go_roundg k1
          case measure => have := HK1.out; omega
          case rel => exact ⟨(y630), (wrap64 ((wrap64 ((wrap64 ((wrap64 ((wrap64 ((wrap64 ((wrap64 (x1_1 + 1)) + 1)) + 1)) + 1)) + 1)) + 1)) + 1)), (wrap64 (x5_1 + 1)), (by first | rfl | (simp; done) | (simp [*]; done)), (by first | rfl | (simp; done) | (simp [*]; done)), H', ⟨by have := HK1.out; omega⟩, ⟨by (with_reducible repeat (first | apply Kd.R_alloc | apply Kd.R_drewN | apply Kd.R_drew)); exact HO_0.out⟩, ⟨by repeat (first | (with_reducible first | exact HK.out | apply Kept.alloc | apply Kept.drewN | apply Kept.drew) | exact HK.out)⟩, ⟨by repeat (first | (with_reducible first | exact HB.out | apply below_alloc | apply pw_below_drewN | apply below_drew1) | exact HB.out)⟩⟩
        · rw [if_neg c4] at H
          exact absurd H (by simp)
      · rw [if_neg c3] at H
        have c3b0 : decide (x5_1 < (x0_1.length : Int)) = false := decide_eq_false c3
        clear c3
        simp only [Option.some.injEq, Prod.mk.injEq] at H
        obtain ⟨rfl, rfl⟩ := H
        obtain ⟨Ao33, co33, eo33⟩ := Kd.R_slice HO_0.out
        subst eo33
        go_wp2
        go_ret
        exact ⟨by first | rfl | (simp [errW_none, errW_some] <;> rfl) | (simp [*, errW_none, errW_some] <;> rfl), by (with_reducible repeat (first | apply Kd.R_alloc | apply Kd.R_drewN | apply Kd.R_drew)); exact HO_0.out, by repeat (first | (with_reducible first | exact HB.out | apply below_alloc | apply pw_below_drewN | apply below_drew1) | exact HB.out), by repeat (first | (with_reducible first | exact HK.out | apply Kept.alloc | apply Kept.drewN | apply Kept.drew) | exact HK.out)⟩
end Go.Proofs.Ythmmleheahkeeaa.Q
namespace Go.Proofs.Ythmmleheahkeeaa.Q
open Go.RowKit Go.Proofs.YthmmleheahkeeaaW.PrintWords Go.Proofs.YthmmleheahkeeaaW.PrintLast Go.Proofs.YthmmleheahkeeaaW.PrintMore
attribute [local go_sem] max2_int min2_int max_two min_two max_three min_three max_four min_four   -- for this text's walks alone
set_option linter.unusedVariables false
set_option linter.unusedSimpArgs false
def laws_FnExactLogIds.j0 : Nat → List (S28) → List Int → List Int → Bool → Option (Bool)
  | 0, _, _, _, _ => none
  | k + 1, x0, x4, x6, x42 => if x42 = true then (some false) else ((laws_markIntS.f k x6 1).bind fun bt652 => ((laws_heldIntS.f k bt652.2 1).bind fun t654 => (if t654 < 0 then (some false) else (if t654 = bt652.1 then ((laws_toOpS.f k x0).bind fun t655 => ((impl_LogIds.f k t655).bind fun t658 => ((laws_eqIntS.f k t658 x4).bind fun t661 => (if t661 = true then ((laws_heldIntS.f k bt652.2 1).bind fun t662 => (if t662 < 0 then (some false) else (if t662 = bt652.1 then (some true) else (some false)))) else (some false))))) else (some false)))))
def laws_FnExactLogIds.f (k : Nat) (l0 : List (S28)) : Option (Bool) := (laws_szOpS.f k l0 1048576).bind fun t631 => (if t631 < 0 then (some true) else ((laws_toOpS.f k l0).bind fun t632 => ((spec_LogIds.f k t632).bind fun t635 => ((laws_toOpS.f k l0).bind fun t638 => ((impl_LogIds.f k t638).bind fun t641 => ((laws_eqIntS.f k t641 t635).bind fun t644 => (if t644 = true then ((laws_toOpS.f k l0).bind fun t645 => ((laws_eqOpS.f k t638 t645).bind fun t648 => (if t648 = true then ((laws_markOpS.f k t638 1).bind fun bt649 => (if bt649.1 < 0 then (laws_FnExactLogIds.j0 k l0 t635 t641 true) else ((laws_eqIntS.f k t641 t635).bind fun t651 => (laws_FnExactLogIds.j0 k l0 t635 t641 (!t651))))) else (some false)))) else (some false))))))))
set_option maxHeartbeats 8000000 in
set_option maxRecDepth 100000 in
theorem laws_FnExactLogIds.calls (k : Nat) (A0 : Option Addr) (c0 : Nat) (l0 : List (S28)) (r : Bool) (w : World) (hr0 : Kd.C k28 w A0 l0.length l0) (hc0 : l0.length ≤ c0) (h : laws_FnExactLogIds.f k l0 = some r) :
    Calls Try.prog 14 #[.slice A0 l0.length c0] w fun e w' => e = .returned (.bool r) ∧ Below w.heap.size w w' := by
  have HR0 := Aside0.mk hr0
  have HC0 := Aside0.mk hc0
  clear hr0 hc0
  have HB := Aside0.mk (Below.refl w.heap.size w)
  have H : ((laws_szOpS.f k l0 1048576).bind fun t631 => (if t631 < 0 then (some true) else ((laws_toOpS.f k l0).bind fun t632 => ((spec_LogIds.f k t632).bind fun t635 => ((laws_toOpS.f k l0).bind fun t638 => ((impl_LogIds.f k t638).bind fun t641 => ((laws_eqIntS.f k t641 t635).bind fun t644 => (if t644 = true then ((laws_toOpS.f k l0).bind fun t645 => ((laws_eqOpS.f k t638 t645).bind fun t648 => (if t648 = true then ((laws_markOpS.f k t638 1).bind fun bt649 => (if bt649.1 < 0 then (laws_FnExactLogIds.j0 k l0 t635 t641 true) else ((laws_eqIntS.f k t641 t635).bind fun t651 => (laws_FnExactLogIds.j0 k l0 t635 t641 (!t651))))) else (some false)))) else (some false))))))))) = some r := h
  clear h
  replace H := Option.bind_eq_some_iff.mp H
  obtain ⟨t631, A20, H⟩ := H
  replace H : (if t631 < 0 then (some true) else ((laws_toOpS.f k l0).bind fun t632 => ((spec_LogIds.f k t632).bind fun t635 => ((laws_toOpS.f k l0).bind fun t638 => ((impl_LogIds.f k t638).bind fun t641 => ((laws_eqIntS.f k t641 t635).bind fun t644 => (if t644 = true then ((laws_toOpS.f k l0).bind fun t645 => ((laws_eqOpS.f k t638 t645).bind fun t648 => (if t648 = true then ((laws_markOpS.f k t638 1).bind fun bt649 => (if bt649.1 < 0 then (laws_FnExactLogIds.j0 k l0 t635 t641 true) else ((laws_eqIntS.f k t641 t635).bind fun t651 => (laws_FnExactLogIds.j0 k l0 t635 t641 (!t651))))) else (some false)))) else (some false)))))))) = some r := H
  have A2 := Aside0.mk A20
  clear A20
  by_cases c3 : t631 < 0
  · rw [if_pos c3] at H
    have c3b0 : decide (t631 < 0) = true := decide_eq_true c3
    clear c3
    obtain rfl := Option.some.inj H
    go_enter Try.func14, Try.ntmps14
    go_wp2_with (first | ((with_reducible refine gate_callee (f := 25) rfl ?_); refine goesL_ (some 13) rfl rfl Try.func25 (by kernel_rfl) rfl #[.slice A0 l0.length c0, .int .i64 1048576] rfl (by (try simp only [List.map_toArray, List.map_cons, List.map_nil]); first | done | rfl | (simp only [List.length_drop, List.length_take]; rfl)) ?_; (with_reducible refine (laws_szOpS.calls k _ _ l0 1048576 t631 _ ?side1 ?side2 A2.out).mono ?_); (case side1 => repeat (first | exact HR0.out | (with_reducible refine Kd.C_alloc ?_ _) | (with_reducible refine Kd.C_drewN ?_ _) | (with_reducible refine Kd.C_drew ?_))); (case side2 => exact HC0.out); rintro e w4 ⟨rfl, hb⟩; refine ⟨_, rfl, ?_⟩; have n0_ := Aside0.mk (below_step (by repeat (first | (with_reducible first | exact HB.out | apply below_alloc | apply pw_below_drewN | apply below_drew1) | exact HB.out)) hb); clear HB; have HB := n0_; clear n0_; (try clear hb); (try clear hb2); (try clear hk); (try clear hi)))
    go_ret
    exact ⟨by first | rfl | (simp [errW_none, errW_some] <;> rfl) | (simp [*, errW_none, errW_some] <;> rfl), by repeat (first | (with_reducible first | exact HB.out | apply below_alloc | apply pw_below_drewN | apply below_drew1) | exact HB.out)⟩
  · rw [if_neg c3] at H
    have c3b0 : decide (t631 < 0) = false := decide_eq_false c3
    clear c3
    replace H := Option.bind_eq_some_iff.mp H
    obtain ⟨t632, A50, H⟩ := H
    replace H : ((spec_LogIds.f k t632).bind fun t635 => ((laws_toOpS.f k l0).bind fun t638 => ((impl_LogIds.f k t638).bind fun t641 => ((laws_eqIntS.f k t641 t635).bind fun t644 => (if t644 = true then ((laws_toOpS.f k l0).bind fun t645 => ((laws_eqOpS.f k t638 t645).bind fun t648 => (if t648 = true then ((laws_markOpS.f k t638 1).bind fun bt649 => (if bt649.1 < 0 then (laws_FnExactLogIds.j0 k l0 t635 t641 true) else ((laws_eqIntS.f k t641 t635).bind fun t651 => (laws_FnExactLogIds.j0 k l0 t635 t641 (!t651))))) else (some false)))) else (some false)))))) = some r := H
    have A5 := Aside0.mk A50
    clear A50
    replace H := Option.bind_eq_some_iff.mp H
    obtain ⟨t635, A60, H⟩ := H
    replace H : ((laws_toOpS.f k l0).bind fun t638 => ((impl_LogIds.f k t638).bind fun t641 => ((laws_eqIntS.f k t641 t635).bind fun t644 => (if t644 = true then ((laws_toOpS.f k l0).bind fun t645 => ((laws_eqOpS.f k t638 t645).bind fun t648 => (if t648 = true then ((laws_markOpS.f k t638 1).bind fun bt649 => (if bt649.1 < 0 then (laws_FnExactLogIds.j0 k l0 t635 t641 true) else ((laws_eqIntS.f k t641 t635).bind fun t651 => (laws_FnExactLogIds.j0 k l0 t635 t641 (!t651))))) else (some false)))) else (some false))))) = some r := H
    have A6 := Aside0.mk A60
    clear A60
    replace H := Option.bind_eq_some_iff.mp H
    obtain ⟨t638, A70, H⟩ := H
    replace H : ((impl_LogIds.f k t638).bind fun t641 => ((laws_eqIntS.f k t641 t635).bind fun t644 => (if t644 = true then ((laws_toOpS.f k l0).bind fun t645 => ((laws_eqOpS.f k t638 t645).bind fun t648 => (if t648 = true then ((laws_markOpS.f k t638 1).bind fun bt649 => (if bt649.1 < 0 then (laws_FnExactLogIds.j0 k l0 t635 t641 true) else ((laws_eqIntS.f k t641 t635).bind fun t651 => (laws_FnExactLogIds.j0 k l0 t635 t641 (!t651))))) else (some false)))) else (some false)))) = some r := H
    have A7 := Aside0.mk A70
    clear A70
    replace H := Option.bind_eq_some_iff.mp H
    obtain ⟨t641, A80, H⟩ := H
    replace H : ((laws_eqIntS.f k t641 t635).bind fun t644 => (if t644 = true then ((laws_toOpS.f k l0).bind fun t645 => ((laws_eqOpS.f k t638 t645).bind fun t648 => (if t648 = true then ((laws_markOpS.f k t638 1).bind fun bt649 => (if bt649.1 < 0 then (laws_FnExactLogIds.j0 k l0 t635 t641 true) else ((laws_eqIntS.f k t641 t635).bind fun t651 => (laws_FnExactLogIds.j0 k l0 t635 t641 (!t651))))) else (some false)))) else (some false))) = some r := H
    have A8 := Aside0.mk A80
    clear A80
    replace H := Option.bind_eq_some_iff.mp H
    obtain ⟨t644, A90, H⟩ := H
    replace H : (if t644 = true then ((laws_toOpS.f k l0).bind fun t645 => ((laws_eqOpS.f k t638 t645).bind fun t648 => (if t648 = true then ((laws_markOpS.f k t638 1).bind fun bt649 => (if bt649.1 < 0 then (laws_FnExactLogIds.j0 k l0 t635 t641 true) else ((laws_eqIntS.f k t641 t635).bind fun t651 => (laws_FnExactLogIds.j0 k l0 t635 t641 (!t651))))) else (some false)))) else (some false)) = some r := H
    have A9 := Aside0.mk A90
    clear A90
    by_cases c10 : t644 = true
    · subst c10
      have H1 : ((laws_toOpS.f k l0).bind fun t645 => ((laws_eqOpS.f k t638 t645).bind fun t648 => (if t648 = true then ((laws_markOpS.f k t638 1).bind fun bt649 => (if bt649.1 < 0 then (laws_FnExactLogIds.j0 k l0 t635 t641 true) else ((laws_eqIntS.f k t641 t635).bind fun t651 => (laws_FnExactLogIds.j0 k l0 t635 t641 (!t651))))) else (some false)))) = some r := by rw [if_pos rfl] at H; exact H
      clear H
      have H := H1
      clear H1
      replace H := Option.bind_eq_some_iff.mp H
      obtain ⟨t645, A110, H⟩ := H
      replace H : ((laws_eqOpS.f k t638 t645).bind fun t648 => (if t648 = true then ((laws_markOpS.f k t638 1).bind fun bt649 => (if bt649.1 < 0 then (laws_FnExactLogIds.j0 k l0 t635 t641 true) else ((laws_eqIntS.f k t641 t635).bind fun t651 => (laws_FnExactLogIds.j0 k l0 t635 t641 (!t651))))) else (some false))) = some r := H
      have A11 := Aside0.mk A110
      clear A110
      replace H := Option.bind_eq_some_iff.mp H
      obtain ⟨t648, A120, H⟩ := H
      replace H : (if t648 = true then ((laws_markOpS.f k t638 1).bind fun bt649 => (if bt649.1 < 0 then (laws_FnExactLogIds.j0 k l0 t635 t641 true) else ((laws_eqIntS.f k t641 t635).bind fun t651 => (laws_FnExactLogIds.j0 k l0 t635 t641 (!t651))))) else (some false)) = some r := H
      have A12 := Aside0.mk A120
      clear A120
      by_cases c13 : t648 = true
      · subst c13
        have H1 : ((laws_markOpS.f k t638 1).bind fun bt649 => (if bt649.1 < 0 then (laws_FnExactLogIds.j0 k l0 t635 t641 true) else ((laws_eqIntS.f k t641 t635).bind fun t651 => (laws_FnExactLogIds.j0 k l0 t635 t641 (!t651))))) = some r := by rw [if_pos rfl] at H; exact H
        clear H
        have H := H1
        clear H1
        replace H := Option.bind_eq_some_iff.mp H
        obtain ⟨⟨t649, t650⟩, A140, H⟩ := H
        replace H : (if t649 < 0 then (laws_FnExactLogIds.j0 k l0 t635 t641 true) else ((laws_eqIntS.f k t641 t635).bind fun t651 => (laws_FnExactLogIds.j0 k l0 t635 t641 (!t651)))) = some r := H
        have A14 := Aside0.mk A140
        clear A140
        have HC15 := Aside0.mk H
        clear H
        go_enter Try.func14, Try.ntmps14
        go_upto_region 14 with (first | ((with_reducible refine gate_callee (f := 25) rfl ?_); refine goesL_ (some 13) rfl rfl Try.func25 (by kernel_rfl) rfl #[.slice A0 l0.length c0, .int .i64 1048576] rfl (by (try simp only [List.map_toArray, List.map_cons, List.map_nil]); first | done | rfl | (simp only [List.length_drop, List.length_take]; rfl)) ?_; (with_reducible refine (laws_szOpS.calls k _ _ l0 1048576 t631 _ ?side1 ?side2 A2.out).mono ?_); (case side1 => repeat (first | exact HR0.out | (with_reducible refine Kd.C_alloc ?_ _) | (with_reducible refine Kd.C_drewN ?_ _) | (with_reducible refine Kd.C_drew ?_))); (case side2 => exact HC0.out); rintro e w16 ⟨rfl, hb⟩; refine ⟨_, rfl, ?_⟩; have n0_ := Aside0.mk (below_step (by repeat (first | (with_reducible first | exact HB.out | apply below_alloc | apply pw_below_drewN | apply below_drew1) | exact HB.out)) hb); clear HB; have HB := n0_; clear n0_; (try clear hb); (try clear hb2); (try clear hk); (try clear hi)) | ((with_reducible refine gate_callee (f := 27) rfl ?_); refine goesL_ (some 17) rfl rfl Try.func27 (by kernel_rfl) rfl #[.slice A0 l0.length c0] rfl (by (try simp only [List.map_toArray, List.map_cons, List.map_nil]); first | done | rfl | (simp only [List.length_drop, List.length_take]; rfl)) ?_; (with_reducible refine (laws_toOpS.calls k _ _ l0 t632 _ ?side1 ?side2 A5.out).mono ?_); (case side1 => repeat (first | exact (Kd.C_below HR0.out HB.out) | (with_reducible refine Kd.C_alloc ?_ _) | (with_reducible refine Kd.C_drewN ?_ _) | (with_reducible refine Kd.C_drew ?_))); (case side2 => exact HC0.out); rintro e w17 ⟨v633, rfl, ho0, hb⟩; refine ⟨_, rfl, ?_⟩; have n0_ := Aside0.mk (Kd.R_lower ho0 (below_size (by repeat (first | (with_reducible first | exact HB.out | apply below_alloc | apply pw_below_drewN | apply below_drew1) | exact HB.out)))); have n1_ := Aside0.mk (below_step (by repeat (first | (with_reducible first | exact HB.out | apply below_alloc | apply pw_below_drewN | apply below_drew1) | exact HB.out)) hb); clear HB; have HO634 := n0_; have HB := n1_; clear n0_ n1_; (try clear hb); (try clear hb2); (try clear hk); (try clear hi); (try clear ho0); obtain ⟨Ao18, co18, eo18⟩ := Kd.R_slice HO634.out; subst eo18) | ((with_reducible refine gate_callee (f := 51) rfl ?_); refine goesL_ (some 18) rfl rfl Try.func51 (by kernel_rfl) rfl #[.slice Ao18 t632.length co18] rfl (by (try simp only [List.map_toArray, List.map_cons, List.map_nil]); first | done | rfl | (simp only [List.length_drop, List.length_take]; rfl)) ?_; (with_reducible refine (spec_LogIds.calls k _ _ t632 t635 _ ?side1 ?side2 A6.out).mono ?_); (case side1 => repeat (first | exact (Kd.R_reads' HO634.out).2.2 | (with_reducible refine Kd.C_alloc ?_ _) | (with_reducible refine Kd.C_drewN ?_ _) | (with_reducible refine Kd.C_drew ?_))); (case side2 => exact (Kd.R_reads' HO634.out).2.1); rintro e w19 ⟨v636, rfl, ho0, hb⟩; refine ⟨_, rfl, ?_⟩; have n0_ := Aside0.mk (Kd.R_below (by (with_reducible repeat (first | apply Kd.R_alloc | apply Kd.R_drewN | apply Kd.R_drew)); exact HO634.out) hb); have n1_ := Aside0.mk (Kd.R_lower ho0 (below_size (by repeat (first | (with_reducible first | exact HB.out | apply below_alloc | apply pw_below_drewN | apply below_drew1) | exact HB.out)))); have n2_ := Aside0.mk (below_step (by repeat (first | (with_reducible first | exact HB.out | apply below_alloc | apply pw_below_drewN | apply below_drew1) | exact HB.out)) hb); clear HO634; clear HB; have HO634 := n0_; have HO637 := n1_; have HB := n2_; clear n0_ n1_ n2_; (try clear hb); (try clear hb2); (try clear hk); (try clear hi); (try clear ho0)) | ((with_reducible refine gate_callee (f := 27) rfl ?_); refine goesL_ (some 20) rfl rfl Try.func27 (by kernel_rfl) rfl #[.slice A0 l0.length c0] rfl (by (try simp only [List.map_toArray, List.map_cons, List.map_nil]); first | done | rfl | (simp only [List.length_drop, List.length_take]; rfl)) ?_; (with_reducible refine (laws_toOpS.calls k _ _ l0 t638 _ ?side1 ?side2 A7.out).mono ?_); (case side1 => repeat (first | exact (Kd.C_below HR0.out HB.out) | (with_reducible refine Kd.C_alloc ?_ _) | (with_reducible refine Kd.C_drewN ?_ _) | (with_reducible refine Kd.C_drew ?_))); (case side2 => exact HC0.out); rintro e w20 ⟨v639, rfl, ho0, hb⟩; refine ⟨_, rfl, ?_⟩; have n0_ := Aside0.mk (Kd.R_elder' (by (with_reducible repeat (first | apply Kd.R_alloc | apply Kd.R_drewN | apply Kd.R_drew)); exact HO634.out) (Kd.R_base ho0) hb); have n1_ := Aside0.mk (Kd.R_below (by (with_reducible repeat (first | apply Kd.R_alloc | apply Kd.R_drewN | apply Kd.R_drew)); exact HO637.out) hb); have n2_ := Aside0.mk (Kd.R_lower (Kd.R_new' ho0 (Kd.R_lt (by (with_reducible repeat (first | apply Kd.R_alloc | apply Kd.R_drewN | apply Kd.R_drew)); exact HO634.out))) (below_size (by repeat (first | (with_reducible first | exact HB.out | apply below_alloc | apply pw_below_drewN | apply below_drew1) | exact HB.out)))); have n3_ := Aside0.mk (below_step (by repeat (first | (with_reducible first | exact HB.out | apply below_alloc | apply pw_below_drewN | apply below_drew1) | exact HB.out)) hb); clear HO634; clear HO637; clear HB; have HO634 := n0_; have HO637 := n1_; have HO640 := n2_; have HB := n3_; clear n0_ n1_ n2_ n3_; (try clear hb); (try clear hb2); (try clear hk); (try clear hi); (try clear ho0); obtain ⟨Ao21, co21, eo21⟩ := Kd.R_slice HO640.out; subst eo21) | ((with_reducible refine gate_callee (f := 52) rfl ?_); refine goesL_ (some 22) rfl rfl Try.func52 (by kernel_rfl) rfl #[.slice Ao21 t638.length co21] rfl (by (try simp only [List.map_toArray, List.map_cons, List.map_nil]); first | done | rfl | (simp only [List.length_drop, List.length_take]; rfl)) ?_; (with_reducible refine (impl_LogIds.calls k _ _ t638 t641 _ ?side1 ?side2 A8.out).mono ?_); (case side1 => repeat (first | exact (Kd.R_reads' HO640.out).2.2 | (with_reducible refine Kd.C_alloc ?_ _) | (with_reducible refine Kd.C_drewN ?_ _) | (with_reducible refine Kd.C_drew ?_))); (case side2 => exact (Kd.R_reads' HO640.out).2.1); rintro e w22 ⟨v642, rfl, ho0, hb⟩; refine ⟨_, rfl, ?_⟩; have n0_ := Aside0.mk (Kd.R_below (by (with_reducible repeat (first | apply Kd.R_alloc | apply Kd.R_drewN | apply Kd.R_drew)); exact HO634.out) hb); have n1_ := Aside0.mk (Kd.R_elder' (by (with_reducible repeat (first | apply Kd.R_alloc | apply Kd.R_drewN | apply Kd.R_drew)); exact HO637.out) (Kd.R_base ho0) hb); have n2_ := Aside0.mk (Kd.R_below (by (with_reducible repeat (first | apply Kd.R_alloc | apply Kd.R_drewN | apply Kd.R_drew)); exact HO640.out) hb); have n3_ := Aside0.mk (Kd.R_lower (Kd.R_new' ho0 (Kd.R_lt (by (with_reducible repeat (first | apply Kd.R_alloc | apply Kd.R_drewN | apply Kd.R_drew)); exact HO637.out))) (below_size (by repeat (first | (with_reducible first | exact HB.out | apply below_alloc | apply pw_below_drewN | apply below_drew1) | exact HB.out)))); have n4_ := Aside0.mk (below_step (by repeat (first | (with_reducible first | exact HB.out | apply below_alloc | apply pw_below_drewN | apply below_drew1) | exact HB.out)) hb); clear HO634; clear HO637; clear HO640; clear HB; have HO634 := n0_; have HO637 := n1_; have HO640 := n2_; have HO643 := n3_; have HB := n4_; clear n0_ n1_ n2_ n3_ n4_; (try clear hb); (try clear hb2); (try clear hk); (try clear hi); (try clear ho0); obtain ⟨Ao23, co23, eo23⟩ := Kd.R_slice HO643.out; subst eo23; obtain ⟨Ao24, co24, eo24⟩ := Kd.R_slice HO637.out; subst eo24) | ((with_reducible refine gate_callee (f := 37) rfl ?_); refine goesL_ (some 25) rfl rfl Try.func37 (by kernel_rfl) rfl #[.slice Ao23 t641.length co23, .slice Ao24 t635.length co24] rfl (by (try simp only [List.map_toArray, List.map_cons, List.map_nil]); first | done | rfl | (simp only [List.length_drop, List.length_take]; rfl)) ?_; (with_reducible refine (laws_eqIntS.calls k _ _ t641 _ _ t635 true _ ?side1 ?side2 ?side3 ?side4 A9.out).mono ?_); (case side1 => repeat (first | exact (Kd.R_reads' HO643.out).2.2 | (with_reducible refine Kd.C_alloc ?_ _) | (with_reducible refine Kd.C_drewN ?_ _) | (with_reducible refine Kd.C_drew ?_))); (case side2 => exact (Kd.R_reads' HO643.out).2.1); (case side3 => repeat (first | exact (Kd.R_reads' HO637.out).2.2 | (with_reducible refine Kd.C_alloc ?_ _) | (with_reducible refine Kd.C_drewN ?_ _) | (with_reducible refine Kd.C_drew ?_))); (case side4 => exact (Kd.R_reads' HO637.out).2.1); rintro e w' ⟨rfl, ⟨nd, rfl⟩⟩; refine ⟨_, rfl, ?_⟩) | ((with_reducible refine gate_callee (f := 27) rfl ?_); refine goesL_ (some 29) rfl rfl Try.func27 (by kernel_rfl) rfl #[.slice A0 l0.length c0] rfl (by (try simp only [List.map_toArray, List.map_cons, List.map_nil]); first | done | rfl | (simp only [List.length_drop, List.length_take]; rfl)) ?_; (with_reducible refine (laws_toOpS.calls k _ _ l0 t645 _ ?side1 ?side2 A11.out).mono ?_); (case side1 => repeat (first | exact (Kd.C_below HR0.out (by repeat (first | (with_reducible first | exact HB.out | apply below_alloc | apply pw_below_drewN | apply below_drew1) | exact HB.out))) | (with_reducible refine Kd.C_alloc ?_ _) | (with_reducible refine Kd.C_drewN ?_ _) | (with_reducible refine Kd.C_drew ?_))); (case side2 => exact HC0.out); rintro e w25 ⟨v646, rfl, ho0, hb⟩; refine ⟨_, rfl, ?_⟩; have n0_ := Aside0.mk (Kd.R_elder' (by (with_reducible repeat (first | apply Kd.R_alloc | apply Kd.R_drewN | apply Kd.R_drew)); exact HO634.out) (Kd.R_base ho0) hb); have n1_ := Aside0.mk (Kd.R_below (by (with_reducible repeat (first | apply Kd.R_alloc | apply Kd.R_drewN | apply Kd.R_drew)); exact HO637.out) hb); have n2_ := Aside0.mk (Kd.R_elder' (by (with_reducible repeat (first | apply Kd.R_alloc | apply Kd.R_drewN | apply Kd.R_drew)); exact HO640.out) (Kd.R_base ho0) hb); have n3_ := Aside0.mk (Kd.R_below (by (with_reducible repeat (first | apply Kd.R_alloc | apply Kd.R_drewN | apply Kd.R_drew)); exact HO643.out) hb); have n4_ := Aside0.mk (Kd.R_lower (Kd.R_new' (Kd.R_new' ho0 (Kd.R_lt (by (with_reducible repeat (first | apply Kd.R_alloc | apply Kd.R_drewN | apply Kd.R_drew)); exact HO634.out))) (Kd.R_lt (by (with_reducible repeat (first | apply Kd.R_alloc | apply Kd.R_drewN | apply Kd.R_drew)); exact HO640.out))) (below_size (by repeat (first | (with_reducible first | exact HB.out | apply below_alloc | apply pw_below_drewN | apply below_drew1) | exact HB.out)))); have n5_ := Aside0.mk (below_step (by repeat (first | (with_reducible first | exact HB.out | apply below_alloc | apply pw_below_drewN | apply below_drew1) | exact HB.out)) hb); clear HO634; clear HO637; clear HO640; clear HO643; clear HB; have HO634 := n0_; have HO637 := n1_; have HO640 := n2_; have HO643 := n3_; have HO647 := n4_; have HB := n5_; clear n0_ n1_ n2_ n3_ n4_ n5_; (try clear hb); (try clear hb2); (try clear hk); (try clear hi); (try clear ho0); obtain ⟨Ao26, co26, eo26⟩ := Kd.R_slice HO647.out; subst eo26) | ((with_reducible refine gate_callee (f := 29) rfl ?_); refine goesL_ (some 30) rfl rfl Try.func29 (by kernel_rfl) rfl #[.slice Ao21 t638.length co21, .slice Ao26 t645.length co26] rfl (by (try simp only [List.map_toArray, List.map_cons, List.map_nil]); first | done | rfl | (simp only [List.length_drop, List.length_take]; rfl)) ?_; (with_reducible refine (laws_eqOpS.calls k _ _ t638 _ _ t645 true _ ?side1 ?side2 ?side3 ?side4 A12.out).mono ?_); (case side1 => repeat (first | exact (Kd.R_reads' HO640.out).2.2 | (with_reducible refine Kd.C_alloc ?_ _) | (with_reducible refine Kd.C_drewN ?_ _) | (with_reducible refine Kd.C_drew ?_))); (case side2 => exact (Kd.R_reads' HO640.out).2.1); (case side3 => repeat (first | exact (Kd.R_reads' HO647.out).2.2 | (with_reducible refine Kd.C_alloc ?_ _) | (with_reducible refine Kd.C_drewN ?_ _) | (with_reducible refine Kd.C_drew ?_))); (case side4 => exact (Kd.R_reads' HO647.out).2.1); rintro e w27 ⟨rfl, hb⟩; refine ⟨_, rfl, ?_⟩; have n0_ := Aside0.mk (Kd.R_below (by (with_reducible repeat (first | apply Kd.R_alloc | apply Kd.R_drewN | apply Kd.R_drew)); exact HO634.out) hb); have n1_ := Aside0.mk (Kd.R_below (by (with_reducible repeat (first | apply Kd.R_alloc | apply Kd.R_drewN | apply Kd.R_drew)); exact HO637.out) hb); have n2_ := Aside0.mk (Kd.R_below (by (with_reducible repeat (first | apply Kd.R_alloc | apply Kd.R_drewN | apply Kd.R_drew)); exact HO640.out) hb); have n3_ := Aside0.mk (Kd.R_below (by (with_reducible repeat (first | apply Kd.R_alloc | apply Kd.R_drewN | apply Kd.R_drew)); exact HO643.out) hb); have n4_ := Aside0.mk (Kd.R_below (by (with_reducible repeat (first | apply Kd.R_alloc | apply Kd.R_drewN | apply Kd.R_drew)); exact HO647.out) hb); have n5_ := Aside0.mk (below_step (by repeat (first | (with_reducible first | exact HB.out | apply below_alloc | apply pw_below_drewN | apply below_drew1) | exact HB.out)) hb); clear HO634; clear HO637; clear HO640; clear HO643; clear HO647; clear HB; have HO634 := n0_; have HO637 := n1_; have HO640 := n2_; have HO643 := n3_; have HO647 := n4_; have HB := n5_; clear n0_ n1_ n2_ n3_ n4_ n5_; (try clear hb); (try clear hb2); (try clear hk); (try clear hi)) | ((with_reducible refine gate_callee (f := 53) rfl ?_); refine goesL_ (some 34) rfl rfl Try.func53 (by kernel_rfl) rfl #[.slice Ao21 t638.length co21, .int .i64 1] rfl (by (try simp only [List.map_toArray, List.map_cons, List.map_nil]); first | done | rfl | (simp only [List.length_drop, List.length_take]; rfl)) ?_; (with_reducible refine (laws_markOpS.calls k (fun k_ => some k_ = (.slice Ao21 t638.length co21 : Value).ownBlock) (.slice Ao21 t638.length co21) t638 1 t649 t650 w _ ?side1 ?side2 A14.out).mono ?_); (case side1 => repeat (first | (with_reducible first | exact HB.out | apply below_alloc | apply pw_below_drewN | apply below_drew1) | exact HB.out)); (case side2 => exact Kd.R_tight rfl HO640.out); rintro e w28 ⟨rfl, hy0, hb, hkp⟩; refine ⟨_, rfl, ?_⟩; have n0_ := Aside0.mk (Kd.R_mono (ok' := fun k_ => some k_ ≠ (.slice Ao21 t638.length co21 : Value).ownBlock ∧ some k_ ≠ (.slice Ao26 t645.length co26 : Value).ownBlock) (Kd.R_keptB (HO634.out) hkp (fun k_ hk_ hs_ => (hk_.1.2) hs_)) (fun k_ hk_ => ⟨hk_.1.1.2, hk_.1.2⟩)); have n1_ := Aside0.mk (Kd.R_mono (ok' := fun k_ => some k_ ≠ (.slice Ao23 t641.length co23 : Value).ownBlock) (Kd.R_keptB ((Kd.R_apart' HO637.out (Kd.R_typed HO640.out) (by decide))) hkp (fun k_ hk_ hs_ => (hk_.2) hs_)) (fun k_ hk_ => hk_.1.1.2)); have n2_ := Aside0.mk (Kd.R_reok rfl hy0 (fun k_ e_ => HO640.out.1 k_ e_)); have n3_ := Aside0.mk (Kd.R_mono (ok' := fun k_ => some k_ ≠ (.slice Ao24 t635.length co24 : Value).ownBlock) (Kd.R_keptB ((Kd.R_apart' HO643.out (Kd.R_typed HO640.out) (by decide))) hkp (fun k_ hk_ hs_ => (hk_.2) hs_)) (fun k_ hk_ => hk_.1.1.2)); have n4_ := Aside0.mk (Kd.R_mono (ok' := fun k_ => some k_ ≠ (.slice Ao18 t632.length co18 : Value).ownBlock ∧ some k_ ≠ (.slice Ao21 t638.length co21 : Value).ownBlock) (Kd.R_keptB (HO647.out) hkp (fun k_ hk_ hs_ => (hk_.2) hs_)) (fun k_ hk_ => ⟨hk_.1.1.2, hk_.1.2⟩)); have n5_ := Aside0.mk (hb); clear HO634; clear HO637; clear HO640; clear HO643; clear HO647; clear HB; have HO634 := n0_; have HO637 := n1_; have HO640 := n2_; have HO643 := n3_; have HO647 := n4_; have HB := n5_; clear n0_ n1_ n2_ n3_ n4_ n5_; (try clear hb); (try clear hkp); (try clear hy0)))
        (try simp only [Act.put, List.setIfInBounds_toArray, List.set_cons_zero, List.set_cons_succ])
        go_cut [42] (fun v42 wc => ∃ (kq : Nat) (x42_14 : Bool), v42 = .bool x42_14 ∧ Aside0 (laws_FnExactLogIds.j0 kq l0 t635 t641 x42_14 = some r) ∧ Aside0 (kq ≤ k) ∧ Aside0 (Kd.R (Kd.int .i64) 3 wc w.heap.size (fun k_ => some k_ ≠ ((.slice Ao23 t641.length co23) : Value).ownBlock) (.slice Ao24 t635.length co24) t635) ∧ Aside0 (Kd.R (Kd.int .i64) 3 wc w.heap.size (fun k_ => some k_ ≠ ((.slice Ao24 t635.length co24) : Value).ownBlock) (.slice Ao23 t641.length co23) t641) ∧ Aside0 (Below w.heap.size w wc))
        case first =>
          have H := HC15.out
          clear HC15
          by_cases c29 : t649 < 0
          · rw [if_pos c29] at H
            have c29b0 : decide (t649 < 0) = true := decide_eq_true c29
            clear c29
            (first | rw [c29b0] | (simp only [i64_w, i32_w]; rw [c29b0]) | skip)
            have H' := Aside0.mk H
            clear H
            go_wp2
            go_meet
            case rel => exact ⟨_, (true), (by first | rfl | (simp; done) | (simp [*]; done)), H', ⟨by first | omega | exact Nat.le_refl _⟩, ⟨by (with_reducible repeat (first | apply Kd.R_alloc | apply Kd.R_drewN | apply Kd.R_drew)); exact HO637.out⟩, ⟨by (with_reducible repeat (first | apply Kd.R_alloc | apply Kd.R_drewN | apply Kd.R_drew)); exact HO643.out⟩, ⟨by repeat (first | (with_reducible first | exact HB.out | apply below_alloc | apply pw_below_drewN | apply below_drew1) | exact HB.out)⟩⟩
          · rw [if_neg c29] at H
            have c29b0 : decide (t649 < 0) = false := decide_eq_false c29
            clear c29
            (first | rw [c29b0] | (simp only [i64_w, i32_w]; rw [c29b0]) | skip)
            replace H := Option.bind_eq_some_iff.mp H
            obtain ⟨t651, A300, H⟩ := H
            replace H : (laws_FnExactLogIds.j0 k l0 t635 t641 (!t651)) = some r := H
            have A30 := Aside0.mk A300
            clear A300
            have H' := Aside0.mk H
            clear H
            go_wp2_with (first | (go_at_call 37; (with_reducible refine (laws_eqIntS.calls k _ _ t641 _ _ t635 t651 _ ?side1 ?side2 ?side3 ?side4 A30.out).mono ?_); (case side1 => repeat (first | exact (Kd.R_reads' HO643.out).2.2 | (with_reducible refine Kd.C_alloc ?_ _) | (with_reducible refine Kd.C_drewN ?_ _) | (with_reducible refine Kd.C_drew ?_))); (case side2 => exact (Kd.R_reads' HO643.out).2.1); (case side3 => repeat (first | exact (Kd.R_reads' HO637.out).2.2 | (with_reducible refine Kd.C_alloc ?_ _) | (with_reducible refine Kd.C_drewN ?_ _) | (with_reducible refine Kd.C_drew ?_))); (case side4 => exact (Kd.R_reads' HO637.out).2.1); rintro e w' ⟨rfl, ⟨nd, rfl⟩⟩))
            go_meet
            case rel => exact ⟨_, (!t651), (by first | rfl | (simp; done) | (simp [*]; done)), H', ⟨by first | omega | exact Nat.le_refl _⟩, ⟨by (with_reducible repeat (first | apply Kd.R_alloc | apply Kd.R_drewN | apply Kd.R_drew)); exact HO637.out⟩, ⟨by (with_reducible repeat (first | apply Kd.R_alloc | apply Kd.R_drewN | apply Kd.R_drew)); exact HO643.out⟩, ⟨by repeat (first | (with_reducible first | exact HB.out | apply below_alloc | apply pw_below_drewN | apply below_drew1) | exact HB.out)⟩⟩
        case rest =>
          clear HC15
          try clear c1
          try clear c2
          try clear p2
          try clear c3
          try clear c3b0
          try clear c5
          try clear c10
          try clear c13
          try clear c14
          try clear c25
          try clear c27
          try clear c29
          try clear c29b0
          obtain ⟨kq, x42_14, rfl, HA, HJ14, HO_4, HO_6, HB⟩ := hcut
          cases kq with
          | zero => exact absurd HA.out (by simp [laws_FnExactLogIds.j0])
          | succ kj14 =>
            have H := HA.out
            clear HA
            simp only [laws_FnExactLogIds.j0] at H
            by_cases c31 : x42_14 = true
            · subst c31
              have H1 : (some false) = some r := by rw [if_pos rfl] at H; exact H
              clear H
              have H := H1
              clear H1
              obtain rfl := Option.some.inj H
              go_wp2
              go_ret
              exact ⟨by first | rfl | (simp [errW_none, errW_some] <;> rfl) | (simp [*, errW_none, errW_some] <;> rfl), by repeat (first | (with_reducible first | exact HB.out | apply below_alloc | apply pw_below_drewN | apply below_drew1) | exact HB.out)⟩
            · replace c31 := Bool.eq_false_iff.mpr c31
              subst c31
              have H1 : ((laws_markIntS.f kj14 t641 1).bind fun bt652 => ((laws_heldIntS.f kj14 bt652.2 1).bind fun t654 => (if t654 < 0 then (some false) else (if t654 = bt652.1 then ((laws_toOpS.f kj14 l0).bind fun t655 => ((impl_LogIds.f kj14 t655).bind fun t658 => ((laws_eqIntS.f kj14 t658 t635).bind fun t661 => (if t661 = true then ((laws_heldIntS.f kj14 bt652.2 1).bind fun t662 => (if t662 < 0 then (some false) else (if t662 = bt652.1 then (some true) else (some false)))) else (some false))))) else (some false))))) = some r := by rw [if_neg (show ¬ (false = true) by decide)] at H; exact H
              clear H
              have H := H1
              clear H1
              replace H := Option.bind_eq_some_iff.mp H
              obtain ⟨⟨t652, t653⟩, A320, H⟩ := H
              replace H : ((laws_heldIntS.f kj14 t653 1).bind fun t654 => (if t654 < 0 then (some false) else (if t654 = t652 then ((laws_toOpS.f kj14 l0).bind fun t655 => ((impl_LogIds.f kj14 t655).bind fun t658 => ((laws_eqIntS.f kj14 t658 t635).bind fun t661 => (if t661 = true then ((laws_heldIntS.f kj14 t653 1).bind fun t662 => (if t662 < 0 then (some false) else (if t662 = t652 then (some true) else (some false)))) else (some false))))) else (some false)))) = some r := H
              have A32 := Aside0.mk A320
              clear A320
              replace H := Option.bind_eq_some_iff.mp H
              obtain ⟨t654, A330, H⟩ := H
              replace H : (if t654 < 0 then (some false) else (if t654 = t652 then ((laws_toOpS.f kj14 l0).bind fun t655 => ((impl_LogIds.f kj14 t655).bind fun t658 => ((laws_eqIntS.f kj14 t658 t635).bind fun t661 => (if t661 = true then ((laws_heldIntS.f kj14 t653 1).bind fun t662 => (if t662 < 0 then (some false) else (if t662 = t652 then (some true) else (some false)))) else (some false))))) else (some false))) = some r := H
              have A33 := Aside0.mk A330
              clear A330
              by_cases c34 : t654 < 0
              · rw [if_pos c34] at H
                have c34b0 : decide (t654 < 0) = true := decide_eq_true c34
                clear c34
                obtain rfl := Option.some.inj H
                go_wp2_with (first | ((with_reducible refine gate_callee (f := 38) rfl ?_); refine goesL_ (some 45) rfl rfl Try.func38 (by kernel_rfl) rfl #[.slice Ao23 t641.length co23, .int .i64 1] rfl (by (try simp only [List.map_toArray, List.map_cons, List.map_nil]); first | done | rfl | (simp only [List.length_drop, List.length_take]; rfl)) ?_; (with_reducible refine (laws_markIntS.calls kj14 (fun k_ => some k_ = (.slice Ao23 t641.length co23 : Value).ownBlock) (.slice Ao23 t641.length co23) t641 1 t652 t653 w _ ?side1 ?side2 A32.out).mono ?_); (case side1 => repeat (first | (with_reducible first | exact HB.out | apply below_alloc | apply pw_below_drewN | apply below_drew1) | exact HB.out)); (case side2 => exact Kd.R_tight rfl HO_6.out); rintro e w35 ⟨rfl, hy0, hb, hkp⟩; refine ⟨_, rfl, ?_⟩; have n0_ := Aside0.mk (Kd.R_mono (ok' := fun k_ => some k_ ≠ (.slice Ao23 t641.length co23 : Value).ownBlock) (Kd.R_keptB (HO_4.out) hkp (fun k_ hk_ hs_ => (hk_) hs_)) (fun k_ hk_ => hk_.1)); have n1_ := Aside0.mk (Kd.R_reok rfl hy0 (fun k_ e_ => HO_6.out.1 k_ e_)); have n2_ := Aside0.mk (hb); clear HO_4; clear HO_6; clear HB; have HO_4 := n0_; have HO_6 := n1_; have HB := n2_; clear n0_ n1_ n2_; (try clear hb); (try clear hkp); (try clear hy0)) | ((with_reducible refine gate_callee (f := 39) rfl ?_); refine goesL_ (some 48) rfl rfl Try.func39 (by kernel_rfl) rfl #[.slice Ao23 t653.length co23, .int .i64 1] rfl (by (try simp only [List.map_toArray, List.map_cons, List.map_nil]); first | done | (rw [show t653.length = t641.length from (Kd.R_reads' HO_6.out).1.symm] <;> rfl) | rfl | (simp only [List.length_drop, List.length_take]; rfl)) ?_; (with_reducible refine (laws_heldIntS.calls kj14 _ _ t653 1 t654 _ ?side1 ?side2 A33.out).mono ?_); (case side1 => repeat (first | exact (Kd.R_reads' HO_6.out).2.2 | (with_reducible refine Kd.C_alloc ?_ _) | (with_reducible refine Kd.C_drewN ?_ _) | (with_reducible refine Kd.C_drew ?_))); (case side2 => rw [show t653.length = t641.length from (Kd.R_reads' HO_6.out).1.symm]; exact (Kd.R_reads' HO_6.out).2.1); rintro e w' ⟨rfl, ⟨nd, rfl⟩⟩; refine ⟨_, rfl, ?_⟩))
                go_ret
                exact ⟨by first | rfl | (simp [errW_none, errW_some] <;> rfl) | (simp [*, errW_none, errW_some] <;> rfl), by repeat (first | (with_reducible first | exact HB.out | apply below_alloc | apply pw_below_drewN | apply below_drew1) | exact HB.out)⟩
              · rw [if_neg c34] at H
                have c34b0 : decide (t654 < 0) = false := decide_eq_false c34
                clear c34
                by_cases c36 : t654 = t652
                · rw [if_pos c36] at H
                  have c36b0 : (t654 == t652) = true := beq_iff_eq.mpr c36
                  have c36b1 : (t654 != t652) = false := bne_eq_false_iff_eq.mpr c36
                  clear c36
                  replace H := Option.bind_eq_some_iff.mp H
                  obtain ⟨t655, A370, H⟩ := H
                  replace H : ((impl_LogIds.f kj14 t655).bind fun t658 => ((laws_eqIntS.f kj14 t658 t635).bind fun t661 => (if t661 = true then ((laws_heldIntS.f kj14 t653 1).bind fun t662 => (if t662 < 0 then (some false) else (if t662 = t652 then (some true) else (some false)))) else (some false)))) = some r := H
                  have A37 := Aside0.mk A370
                  clear A370
                  replace H := Option.bind_eq_some_iff.mp H
                  obtain ⟨t658, A380, H⟩ := H
                  replace H : ((laws_eqIntS.f kj14 t658 t635).bind fun t661 => (if t661 = true then ((laws_heldIntS.f kj14 t653 1).bind fun t662 => (if t662 < 0 then (some false) else (if t662 = t652 then (some true) else (some false)))) else (some false))) = some r := H
                  have A38 := Aside0.mk A380
                  clear A380
                  replace H := Option.bind_eq_some_iff.mp H
                  obtain ⟨t661, A390, H⟩ := H
                  replace H : (if t661 = true then ((laws_heldIntS.f kj14 t653 1).bind fun t662 => (if t662 < 0 then (some false) else (if t662 = t652 then (some true) else (some false)))) else (some false)) = some r := H
                  have A39 := Aside0.mk A390
                  clear A390
                  by_cases c40 : t661 = true
                  · subst c40
                    have H1 : ((laws_heldIntS.f kj14 t653 1).bind fun t662 => (if t662 < 0 then (some false) else (if t662 = t652 then (some true) else (some false)))) = some r := by rw [if_pos rfl] at H; exact H
                    clear H
                    have H := H1
                    clear H1
                    replace H := Option.bind_eq_some_iff.mp H
                    obtain ⟨t662, A410, H⟩ := H
                    replace H : (if t662 < 0 then (some false) else (if t662 = t652 then (some true) else (some false))) = some r := H
                    have A41 := Aside0.mk A410
                    clear A410
                    by_cases c42 : t662 < 0
                    · rw [if_pos c42] at H
                      have c42b0 : decide (t662 < 0) = true := decide_eq_true c42
                      clear c42
                      obtain rfl := Option.some.inj H
                      go_wp2_with (first | ((with_reducible refine gate_callee (f := 38) rfl ?_); refine goesL_ (some 45) rfl rfl Try.func38 (by kernel_rfl) rfl #[.slice Ao23 t641.length co23, .int .i64 1] rfl (by (try simp only [List.map_toArray, List.map_cons, List.map_nil]); first | done | rfl | (simp only [List.length_drop, List.length_take]; rfl)) ?_; (with_reducible refine (laws_markIntS.calls kj14 (fun k_ => some k_ = (.slice Ao23 t641.length co23 : Value).ownBlock) (.slice Ao23 t641.length co23) t641 1 t652 t653 w _ ?side1 ?side2 A32.out).mono ?_); (case side1 => repeat (first | (with_reducible first | exact HB.out | apply below_alloc | apply pw_below_drewN | apply below_drew1) | exact HB.out)); (case side2 => exact Kd.R_tight rfl HO_6.out); rintro e w43 ⟨rfl, hy0, hb, hkp⟩; refine ⟨_, rfl, ?_⟩; have n0_ := Aside0.mk (Kd.R_mono (ok' := fun k_ => some k_ ≠ (.slice Ao23 t641.length co23 : Value).ownBlock) (Kd.R_keptB (HO_4.out) hkp (fun k_ hk_ hs_ => (hk_) hs_)) (fun k_ hk_ => hk_.1)); have n1_ := Aside0.mk (Kd.R_reok rfl hy0 (fun k_ e_ => HO_6.out.1 k_ e_)); have n2_ := Aside0.mk (hb); clear HO_4; clear HO_6; clear HB; have HO_4 := n0_; have HO_6 := n1_; have HB := n2_; clear n0_ n1_ n2_; (try clear hb); (try clear hkp); (try clear hy0)) | ((with_reducible refine gate_callee (f := 39) rfl ?_); refine goesL_ (some 48) rfl rfl Try.func39 (by kernel_rfl) rfl #[.slice Ao23 t653.length co23, .int .i64 1] rfl (by (try simp only [List.map_toArray, List.map_cons, List.map_nil]); first | done | (rw [show t653.length = t641.length from (Kd.R_reads' HO_6.out).1.symm] <;> rfl) | rfl | (simp only [List.length_drop, List.length_take]; rfl)) ?_; (with_reducible refine (laws_heldIntS.calls kj14 _ _ t653 1 t654 _ ?side1 ?side2 A33.out).mono ?_); (case side1 => repeat (first | exact (Kd.R_reads' HO_6.out).2.2 | (with_reducible refine Kd.C_alloc ?_ _) | (with_reducible refine Kd.C_drewN ?_ _) | (with_reducible refine Kd.C_drew ?_))); (case side2 => rw [show t653.length = t641.length from (Kd.R_reads' HO_6.out).1.symm]; exact (Kd.R_reads' HO_6.out).2.1); rintro e w' ⟨rfl, ⟨nd, rfl⟩⟩; refine ⟨_, rfl, ?_⟩) | ((with_reducible refine gate_callee (f := 27) rfl ?_); refine goesL_ (some 55) rfl rfl Try.func27 (by kernel_rfl) rfl #[.slice A0 l0.length c0] rfl (by (try simp only [List.map_toArray, List.map_cons, List.map_nil]); first | done | rfl | (simp only [List.length_drop, List.length_take]; rfl)) ?_; (with_reducible refine (laws_toOpS.calls kj14 _ _ l0 t655 _ ?side1 ?side2 A37.out).mono ?_); (case side1 => repeat (first | exact (Kd.C_below HR0.out (by repeat (first | (with_reducible first | exact HB.out | apply below_alloc | apply pw_below_drewN | apply below_drew1) | exact HB.out))) | (with_reducible refine Kd.C_alloc ?_ _) | (with_reducible refine Kd.C_drewN ?_ _) | (with_reducible refine Kd.C_drew ?_))); (case side2 => exact HC0.out); rintro e w44 ⟨v656, rfl, ho0, hb⟩; refine ⟨_, rfl, ?_⟩; have n0_ := Aside0.mk (Kd.R_below (by (with_reducible repeat (first | apply Kd.R_alloc | apply Kd.R_drewN | apply Kd.R_drew)); exact HO_4.out) hb); have n1_ := Aside0.mk (Kd.R_below (by (with_reducible repeat (first | apply Kd.R_alloc | apply Kd.R_drewN | apply Kd.R_drew)); exact HO_6.out) hb); have n2_ := Aside0.mk (Kd.R_lower ho0 (below_size (by repeat (first | (with_reducible first | exact HB.out | apply below_alloc | apply pw_below_drewN | apply below_drew1) | exact HB.out)))); have n3_ := Aside0.mk (below_step (by repeat (first | (with_reducible first | exact HB.out | apply below_alloc | apply pw_below_drewN | apply below_drew1) | exact HB.out)) hb); clear HO_4; clear HO_6; clear HB; have HO_4 := n0_; have HO_6 := n1_; have HO657 := n2_; have HB := n3_; clear n0_ n1_ n2_ n3_; (try clear hb); (try clear hb2); (try clear hk); (try clear hi); (try clear ho0); obtain ⟨Ao45, co45, eo45⟩ := Kd.R_slice HO657.out; subst eo45) | ((with_reducible refine gate_callee (f := 52) rfl ?_); refine goesL_ (some 56) rfl rfl Try.func52 (by kernel_rfl) rfl #[.slice Ao45 t655.length co45] rfl (by (try simp only [List.map_toArray, List.map_cons, List.map_nil]); first | done | rfl | (simp only [List.length_drop, List.length_take]; rfl)) ?_; (with_reducible refine (impl_LogIds.calls kj14 _ _ t655 t658 _ ?side1 ?side2 A38.out).mono ?_); (case side1 => repeat (first | exact (Kd.R_reads' HO657.out).2.2 | (with_reducible refine Kd.C_alloc ?_ _) | (with_reducible refine Kd.C_drewN ?_ _) | (with_reducible refine Kd.C_drew ?_))); (case side2 => exact (Kd.R_reads' HO657.out).2.1); rintro e w46 ⟨v659, rfl, ho0, hb⟩; refine ⟨_, rfl, ?_⟩; have n0_ := Aside0.mk (Kd.R_elder' (by (with_reducible repeat (first | apply Kd.R_alloc | apply Kd.R_drewN | apply Kd.R_drew)); exact HO_4.out) (Kd.R_base ho0) hb); have n1_ := Aside0.mk (Kd.R_elder' (by (with_reducible repeat (first | apply Kd.R_alloc | apply Kd.R_drewN | apply Kd.R_drew)); exact HO_6.out) (Kd.R_base ho0) hb); have n2_ := Aside0.mk (Kd.R_below (by (with_reducible repeat (first | apply Kd.R_alloc | apply Kd.R_drewN | apply Kd.R_drew)); exact HO657.out) hb); have n3_ := Aside0.mk (Kd.R_lower (Kd.R_new' (Kd.R_new' ho0 (Kd.R_lt (by (with_reducible repeat (first | apply Kd.R_alloc | apply Kd.R_drewN | apply Kd.R_drew)); exact HO_4.out))) (Kd.R_lt (by (with_reducible repeat (first | apply Kd.R_alloc | apply Kd.R_drewN | apply Kd.R_drew)); exact HO_6.out))) (below_size (by repeat (first | (with_reducible first | exact HB.out | apply below_alloc | apply pw_below_drewN | apply below_drew1) | exact HB.out)))); have n4_ := Aside0.mk (below_step (by repeat (first | (with_reducible first | exact HB.out | apply below_alloc | apply pw_below_drewN | apply below_drew1) | exact HB.out)) hb); clear HO_4; clear HO_6; clear HO657; clear HB; have HO_4 := n0_; have HO_6 := n1_; have HO657 := n2_; have HO660 := n3_; have HB := n4_; clear n0_ n1_ n2_ n3_ n4_; (try clear hb); (try clear hb2); (try clear hk); (try clear hi); (try clear ho0); obtain ⟨Ao47, co47, eo47⟩ := Kd.R_slice HO660.out; subst eo47) | ((with_reducible refine gate_callee (f := 37) rfl ?_); refine goesL_ (some 59) rfl rfl Try.func37 (by kernel_rfl) rfl #[.slice Ao47 t658.length co47, .slice Ao24 t635.length co24] rfl (by (try simp only [List.map_toArray, List.map_cons, List.map_nil]); first | done | rfl | (simp only [List.length_drop, List.length_take]; rfl)) ?_; (with_reducible refine (laws_eqIntS.calls kj14 _ _ t658 _ _ t635 true _ ?side1 ?side2 ?side3 ?side4 A39.out).mono ?_); (case side1 => repeat (first | exact (Kd.R_reads' HO660.out).2.2 | (with_reducible refine Kd.C_alloc ?_ _) | (with_reducible refine Kd.C_drewN ?_ _) | (with_reducible refine Kd.C_drew ?_))); (case side2 => exact (Kd.R_reads' HO660.out).2.1); (case side3 => repeat (first | exact (Kd.R_reads' HO_4.out).2.2 | (with_reducible refine Kd.C_alloc ?_ _) | (with_reducible refine Kd.C_drewN ?_ _) | (with_reducible refine Kd.C_drew ?_))); (case side4 => exact (Kd.R_reads' HO_4.out).2.1); rintro e w' ⟨rfl, ⟨nd, rfl⟩⟩; refine ⟨_, rfl, ?_⟩) | ((with_reducible refine gate_callee (f := 39) rfl ?_); refine goesL_ (some 63) rfl rfl Try.func39 (by kernel_rfl) rfl #[.slice Ao23 t653.length co23, .int .i64 1] rfl (by (try simp only [List.map_toArray, List.map_cons, List.map_nil]); first | done | (rw [show t653.length = t641.length from (Kd.R_reads' HO_6.out).1.symm] <;> rfl) | rfl | (simp only [List.length_drop, List.length_take]; rfl)) ?_; (with_reducible refine (laws_heldIntS.calls kj14 _ _ t653 1 t662 _ ?side1 ?side2 A41.out).mono ?_); (case side1 => repeat (first | exact (Kd.R_reads' HO_6.out).2.2 | (with_reducible refine Kd.C_alloc ?_ _) | (with_reducible refine Kd.C_drewN ?_ _) | (with_reducible refine Kd.C_drew ?_))); (case side2 => rw [show t653.length = t641.length from (Kd.R_reads' HO_6.out).1.symm]; exact (Kd.R_reads' HO_6.out).2.1); rintro e w' ⟨rfl, ⟨nd, rfl⟩⟩; refine ⟨_, rfl, ?_⟩))
                      go_ret
                      exact ⟨by first | rfl | (simp [errW_none, errW_some] <;> rfl) | (simp [*, errW_none, errW_some] <;> rfl), by repeat (first | (with_reducible first | exact HB.out | apply below_alloc | apply pw_below_drewN | apply below_drew1) | exact HB.out)⟩
                    · rw [if_neg c42] at H
                      have c42b0 : decide (t662 < 0) = false := decide_eq_false c42
                      clear c42
                      by_cases c48 : t662 = t652
                      · rw [if_pos c48] at H
                        have c48b0 : (t662 == t652) = true := beq_iff_eq.mpr c48
                        have c48b1 : (t662 != t652) = false := bne_eq_false_iff_eq.mpr c48
                        clear c48
                        obtain rfl := Option.some.inj H
                        go_wp2_with (first | ((with_reducible refine gate_callee (f := 38) rfl ?_); refine goesL_ (some 45) rfl rfl Try.func38 (by kernel_rfl) rfl #[.slice Ao23 t641.length co23, .int .i64 1] rfl (by (try simp only [List.map_toArray, List.map_cons, List.map_nil]); first | done | rfl | (simp only [List.length_drop, List.length_take]; rfl)) ?_; (with_reducible refine (laws_markIntS.calls kj14 (fun k_ => some k_ = (.slice Ao23 t641.length co23 : Value).ownBlock) (.slice Ao23 t641.length co23) t641 1 t652 t653 w _ ?side1 ?side2 A32.out).mono ?_); (case side1 => repeat (first | (with_reducible first | exact HB.out | apply below_alloc | apply pw_below_drewN | apply below_drew1) | exact HB.out)); (case side2 => exact Kd.R_tight rfl HO_6.out); rintro e w49 ⟨rfl, hy0, hb, hkp⟩; refine ⟨_, rfl, ?_⟩; have n0_ := Aside0.mk (Kd.R_mono (ok' := fun k_ => some k_ ≠ (.slice Ao23 t641.length co23 : Value).ownBlock) (Kd.R_keptB (HO_4.out) hkp (fun k_ hk_ hs_ => (hk_) hs_)) (fun k_ hk_ => hk_.1)); have n1_ := Aside0.mk (Kd.R_reok rfl hy0 (fun k_ e_ => HO_6.out.1 k_ e_)); have n2_ := Aside0.mk (hb); clear HO_4; clear HO_6; clear HB; have HO_4 := n0_; have HO_6 := n1_; have HB := n2_; clear n0_ n1_ n2_; (try clear hb); (try clear hkp); (try clear hy0)) | ((with_reducible refine gate_callee (f := 39) rfl ?_); refine goesL_ (some 48) rfl rfl Try.func39 (by kernel_rfl) rfl #[.slice Ao23 t653.length co23, .int .i64 1] rfl (by (try simp only [List.map_toArray, List.map_cons, List.map_nil]); first | done | (rw [show t653.length = t641.length from (Kd.R_reads' HO_6.out).1.symm] <;> rfl) | rfl | (simp only [List.length_drop, List.length_take]; rfl)) ?_; (with_reducible refine (laws_heldIntS.calls kj14 _ _ t653 1 t654 _ ?side1 ?side2 A33.out).mono ?_); (case side1 => repeat (first | exact (Kd.R_reads' HO_6.out).2.2 | (with_reducible refine Kd.C_alloc ?_ _) | (with_reducible refine Kd.C_drewN ?_ _) | (with_reducible refine Kd.C_drew ?_))); (case side2 => rw [show t653.length = t641.length from (Kd.R_reads' HO_6.out).1.symm]; exact (Kd.R_reads' HO_6.out).2.1); rintro e w' ⟨rfl, ⟨nd, rfl⟩⟩; refine ⟨_, rfl, ?_⟩) | ((with_reducible refine gate_callee (f := 27) rfl ?_); refine goesL_ (some 55) rfl rfl Try.func27 (by kernel_rfl) rfl #[.slice A0 l0.length c0] rfl (by (try simp only [List.map_toArray, List.map_cons, List.map_nil]); first | done | rfl | (simp only [List.length_drop, List.length_take]; rfl)) ?_; (with_reducible refine (laws_toOpS.calls kj14 _ _ l0 t655 _ ?side1 ?side2 A37.out).mono ?_); (case side1 => repeat (first | exact (Kd.C_below HR0.out (by repeat (first | (with_reducible first | exact HB.out | apply below_alloc | apply pw_below_drewN | apply below_drew1) | exact HB.out))) | (with_reducible refine Kd.C_alloc ?_ _) | (with_reducible refine Kd.C_drewN ?_ _) | (with_reducible refine Kd.C_drew ?_))); (case side2 => exact HC0.out); rintro e w50 ⟨v656, rfl, ho0, hb⟩; refine ⟨_, rfl, ?_⟩; have n0_ := Aside0.mk (Kd.R_below (by (with_reducible repeat (first | apply Kd.R_alloc | apply Kd.R_drewN | apply Kd.R_drew)); exact HO_4.out) hb); have n1_ := Aside0.mk (Kd.R_below (by (with_reducible repeat (first | apply Kd.R_alloc | apply Kd.R_drewN | apply Kd.R_drew)); exact HO_6.out) hb); have n2_ := Aside0.mk (Kd.R_lower ho0 (below_size (by repeat (first | (with_reducible first | exact HB.out | apply below_alloc | apply pw_below_drewN | apply below_drew1) | exact HB.out)))); have n3_ := Aside0.mk (below_step (by repeat (first | (with_reducible first | exact HB.out | apply below_alloc | apply pw_below_drewN | apply below_drew1) | exact HB.out)) hb); clear HO_4; clear HO_6; clear HB; have HO_4 := n0_; have HO_6 := n1_; have HO657 := n2_; have HB := n3_; clear n0_ n1_ n2_ n3_; (try clear hb); (try clear hb2); (try clear hk); (try clear hi); (try clear ho0); obtain ⟨Ao51, co51, eo51⟩ := Kd.R_slice HO657.out; subst eo51) | ((with_reducible refine gate_callee (f := 52) rfl ?_); refine goesL_ (some 56) rfl rfl Try.func52 (by kernel_rfl) rfl #[.slice Ao51 t655.length co51] rfl (by (try simp only [List.map_toArray, List.map_cons, List.map_nil]); first | done | rfl | (simp only [List.length_drop, List.length_take]; rfl)) ?_; (with_reducible refine (impl_LogIds.calls kj14 _ _ t655 t658 _ ?side1 ?side2 A38.out).mono ?_); (case side1 => repeat (first | exact (Kd.R_reads' HO657.out).2.2 | (with_reducible refine Kd.C_alloc ?_ _) | (with_reducible refine Kd.C_drewN ?_ _) | (with_reducible refine Kd.C_drew ?_))); (case side2 => exact (Kd.R_reads' HO657.out).2.1); rintro e w52 ⟨v659, rfl, ho0, hb⟩; refine ⟨_, rfl, ?_⟩; have n0_ := Aside0.mk (Kd.R_elder' (by (with_reducible repeat (first | apply Kd.R_alloc | apply Kd.R_drewN | apply Kd.R_drew)); exact HO_4.out) (Kd.R_base ho0) hb); have n1_ := Aside0.mk (Kd.R_elder' (by (with_reducible repeat (first | apply Kd.R_alloc | apply Kd.R_drewN | apply Kd.R_drew)); exact HO_6.out) (Kd.R_base ho0) hb); have n2_ := Aside0.mk (Kd.R_below (by (with_reducible repeat (first | apply Kd.R_alloc | apply Kd.R_drewN | apply Kd.R_drew)); exact HO657.out) hb); have n3_ := Aside0.mk (Kd.R_lower (Kd.R_new' (Kd.R_new' ho0 (Kd.R_lt (by (with_reducible repeat (first | apply Kd.R_alloc | apply Kd.R_drewN | apply Kd.R_drew)); exact HO_4.out))) (Kd.R_lt (by (with_reducible repeat (first | apply Kd.R_alloc | apply Kd.R_drewN | apply Kd.R_drew)); exact HO_6.out))) (below_size (by repeat (first | (with_reducible first | exact HB.out | apply below_alloc | apply pw_below_drewN | apply below_drew1) | exact HB.out)))); have n4_ := Aside0.mk (below_step (by repeat (first | (with_reducible first | exact HB.out | apply below_alloc | apply pw_below_drewN | apply below_drew1) | exact HB.out)) hb); clear HO_4; clear HO_6; clear HO657; clear HB; have HO_4 := n0_; have HO_6 := n1_; have HO657 := n2_; have HO660 := n3_; have HB := n4_; clear n0_ n1_ n2_ n3_ n4_; (try clear hb); (try clear hb2); (try clear hk); (try clear hi); (try clear ho0); obtain ⟨Ao53, co53, eo53⟩ := Kd.R_slice HO660.out; subst eo53) | ((with_reducible refine gate_callee (f := 37) rfl ?_); refine goesL_ (some 59) rfl rfl Try.func37 (by kernel_rfl) rfl #[.slice Ao53 t658.length co53, .slice Ao24 t635.length co24] rfl (by (try simp only [List.map_toArray, List.map_cons, List.map_nil]); first | done | rfl | (simp only [List.length_drop, List.length_take]; rfl)) ?_; (with_reducible refine (laws_eqIntS.calls kj14 _ _ t658 _ _ t635 true _ ?side1 ?side2 ?side3 ?side4 A39.out).mono ?_); (case side1 => repeat (first | exact (Kd.R_reads' HO660.out).2.2 | (with_reducible refine Kd.C_alloc ?_ _) | (with_reducible refine Kd.C_drewN ?_ _) | (with_reducible refine Kd.C_drew ?_))); (case side2 => exact (Kd.R_reads' HO660.out).2.1); (case side3 => repeat (first | exact (Kd.R_reads' HO_4.out).2.2 | (with_reducible refine Kd.C_alloc ?_ _) | (with_reducible refine Kd.C_drewN ?_ _) | (with_reducible refine Kd.C_drew ?_))); (case side4 => exact (Kd.R_reads' HO_4.out).2.1); rintro e w' ⟨rfl, ⟨nd, rfl⟩⟩; refine ⟨_, rfl, ?_⟩) | ((with_reducible refine gate_callee (f := 39) rfl ?_); refine goesL_ (some 63) rfl rfl Try.func39 (by kernel_rfl) rfl #[.slice Ao23 t653.length co23, .int .i64 1] rfl (by (try simp only [List.map_toArray, List.map_cons, List.map_nil]); first | done | (rw [show t653.length = t641.length from (Kd.R_reads' HO_6.out).1.symm] <;> rfl) | rfl | (simp only [List.length_drop, List.length_take]; rfl)) ?_; (with_reducible refine (laws_heldIntS.calls kj14 _ _ t653 1 t662 _ ?side1 ?side2 A41.out).mono ?_); (case side1 => repeat (first | exact (Kd.R_reads' HO_6.out).2.2 | (with_reducible refine Kd.C_alloc ?_ _) | (with_reducible refine Kd.C_drewN ?_ _) | (with_reducible refine Kd.C_drew ?_))); (case side2 => rw [show t653.length = t641.length from (Kd.R_reads' HO_6.out).1.symm]; exact (Kd.R_reads' HO_6.out).2.1); rintro e w' ⟨rfl, ⟨nd, rfl⟩⟩; refine ⟨_, rfl, ?_⟩))
                        go_ret
                        exact ⟨by first | rfl | (simp [errW_none, errW_some] <;> rfl) | (simp [*, errW_none, errW_some] <;> rfl), by repeat (first | (with_reducible first | exact HB.out | apply below_alloc | apply pw_below_drewN | apply below_drew1) | exact HB.out)⟩
                      · rw [if_neg c48] at H
                        have c48b0 : (t662 == t652) = false := beq_eq_false_iff_ne.mpr c48
                        have c48b1 : (t662 != t652) = true := bne_iff_ne.mpr c48
                        obtain rfl := Option.some.inj H
                        go_wp2_with (first | ((with_reducible refine gate_callee (f := 38) rfl ?_); refine goesL_ (some 45) rfl rfl Try.func38 (by kernel_rfl) rfl #[.slice Ao23 t641.length co23, .int .i64 1] rfl (by (try simp only [List.map_toArray, List.map_cons, List.map_nil]); first | done | rfl | (simp only [List.length_drop, List.length_take]; rfl)) ?_; (with_reducible refine (laws_markIntS.calls kj14 (fun k_ => some k_ = (.slice Ao23 t641.length co23 : Value).ownBlock) (.slice Ao23 t641.length co23) t641 1 t652 t653 w _ ?side1 ?side2 A32.out).mono ?_); (case side1 => repeat (first | (with_reducible first | exact HB.out | apply below_alloc | apply pw_below_drewN | apply below_drew1) | exact HB.out)); (case side2 => exact Kd.R_tight rfl HO_6.out); rintro e w54 ⟨rfl, hy0, hb, hkp⟩; refine ⟨_, rfl, ?_⟩; have n0_ := Aside0.mk (Kd.R_mono (ok' := fun k_ => some k_ ≠ (.slice Ao23 t641.length co23 : Value).ownBlock) (Kd.R_keptB (HO_4.out) hkp (fun k_ hk_ hs_ => (hk_) hs_)) (fun k_ hk_ => hk_.1)); have n1_ := Aside0.mk (Kd.R_reok rfl hy0 (fun k_ e_ => HO_6.out.1 k_ e_)); have n2_ := Aside0.mk (hb); clear HO_4; clear HO_6; clear HB; have HO_4 := n0_; have HO_6 := n1_; have HB := n2_; clear n0_ n1_ n2_; (try clear hb); (try clear hkp); (try clear hy0)) | ((with_reducible refine gate_callee (f := 39) rfl ?_); refine goesL_ (some 48) rfl rfl Try.func39 (by kernel_rfl) rfl #[.slice Ao23 t653.length co23, .int .i64 1] rfl (by (try simp only [List.map_toArray, List.map_cons, List.map_nil]); first | done | (rw [show t653.length = t641.length from (Kd.R_reads' HO_6.out).1.symm] <;> rfl) | rfl | (simp only [List.length_drop, List.length_take]; rfl)) ?_; (with_reducible refine (laws_heldIntS.calls kj14 _ _ t653 1 t654 _ ?side1 ?side2 A33.out).mono ?_); (case side1 => repeat (first | exact (Kd.R_reads' HO_6.out).2.2 | (with_reducible refine Kd.C_alloc ?_ _) | (with_reducible refine Kd.C_drewN ?_ _) | (with_reducible refine Kd.C_drew ?_))); (case side2 => rw [show t653.length = t641.length from (Kd.R_reads' HO_6.out).1.symm]; exact (Kd.R_reads' HO_6.out).2.1); rintro e w' ⟨rfl, ⟨nd, rfl⟩⟩; refine ⟨_, rfl, ?_⟩) | ((with_reducible refine gate_callee (f := 27) rfl ?_); refine goesL_ (some 55) rfl rfl Try.func27 (by kernel_rfl) rfl #[.slice A0 l0.length c0] rfl (by (try simp only [List.map_toArray, List.map_cons, List.map_nil]); first | done | rfl | (simp only [List.length_drop, List.length_take]; rfl)) ?_; (with_reducible refine (laws_toOpS.calls kj14 _ _ l0 t655 _ ?side1 ?side2 A37.out).mono ?_); (case side1 => repeat (first | exact (Kd.C_below HR0.out (by repeat (first | (with_reducible first | exact HB.out | apply below_alloc | apply pw_below_drewN | apply below_drew1) | exact HB.out))) | (with_reducible refine Kd.C_alloc ?_ _) | (with_reducible refine Kd.C_drewN ?_ _) | (with_reducible refine Kd.C_drew ?_))); (case side2 => exact HC0.out); rintro e w55 ⟨v656, rfl, ho0, hb⟩; refine ⟨_, rfl, ?_⟩; have n0_ := Aside0.mk (Kd.R_below (by (with_reducible repeat (first | apply Kd.R_alloc | apply Kd.R_drewN | apply Kd.R_drew)); exact HO_4.out) hb); have n1_ := Aside0.mk (Kd.R_below (by (with_reducible repeat (first | apply Kd.R_alloc | apply Kd.R_drewN | apply Kd.R_drew)); exact HO_6.out) hb); have n2_ := Aside0.mk (Kd.R_lower ho0 (below_size (by repeat (first | (with_reducible first | exact HB.out | apply below_alloc | apply pw_below_drewN | apply below_drew1) | exact HB.out)))); have n3_ := Aside0.mk (below_step (by repeat (first | (with_reducible first | exact HB.out | apply below_alloc | apply pw_below_drewN | apply below_drew1) | exact HB.out)) hb); clear HO_4; clear HO_6; clear HB; have HO_4 := n0_; have HO_6 := n1_; have HO657 := n2_; have HB := n3_; clear n0_ n1_ n2_ n3_; (try clear hb); (try clear hb2); (try clear hk); (try clear hi); (try clear ho0); obtain ⟨Ao56, co56, eo56⟩ := Kd.R_slice HO657.out; subst eo56) | ((with_reducible refine gate_callee (f := 52) rfl ?_); refine goesL_ (some 56) rfl rfl Try.func52 (by kernel_rfl) rfl #[.slice Ao56 t655.length co56] rfl (by (try simp only [List.map_toArray, List.map_cons, List.map_nil]); first | done | rfl | (simp only [List.length_drop, List.length_take]; rfl)) ?_; (with_reducible refine (impl_LogIds.calls kj14 _ _ t655 t658 _ ?side1 ?side2 A38.out).mono ?_); (case side1 => repeat (first | exact (Kd.R_reads' HO657.out).2.2 | (with_reducible refine Kd.C_alloc ?_ _) | (with_reducible refine Kd.C_drewN ?_ _) | (with_reducible refine Kd.C_drew ?_))); (case side2 => exact (Kd.R_reads' HO657.out).2.1); rintro e w57 ⟨v659, rfl, ho0, hb⟩; refine ⟨_, rfl, ?_⟩; have n0_ := Aside0.mk (Kd.R_elder' (by (with_reducible repeat (first | apply Kd.R_alloc | apply Kd.R_drewN | apply Kd.R_drew)); exact HO_4.out) (Kd.R_base ho0) hb); have n1_ := Aside0.mk (Kd.R_elder' (by (with_reducible repeat (first | apply Kd.R_alloc | apply Kd.R_drewN | apply Kd.R_drew)); exact HO_6.out) (Kd.R_base ho0) hb); have n2_ := Aside0.mk (Kd.R_below (by (with_reducible repeat (first | apply Kd.R_alloc | apply Kd.R_drewN | apply Kd.R_drew)); exact HO657.out) hb); have n3_ := Aside0.mk (Kd.R_lower (Kd.R_new' (Kd.R_new' ho0 (Kd.R_lt (by (with_reducible repeat (first | apply Kd.R_alloc | apply Kd.R_drewN | apply Kd.R_drew)); exact HO_4.out))) (Kd.R_lt (by (with_reducible repeat (first | apply Kd.R_alloc | apply Kd.R_drewN | apply Kd.R_drew)); exact HO_6.out))) (below_size (by repeat (first | (with_reducible first | exact HB.out | apply below_alloc | apply pw_below_drewN | apply below_drew1) | exact HB.out)))); have n4_ := Aside0.mk (below_step (by repeat (first | (with_reducible first | exact HB.out | apply below_alloc | apply pw_below_drewN | apply below_drew1) | exact HB.out)) hb); clear HO_4; clear HO_6; clear HO657; clear HB; have HO_4 := n0_; have HO_6 := n1_; have HO657 := n2_; have HO660 := n3_; have HB := n4_; clear n0_ n1_ n2_ n3_ n4_; (try clear hb); (try clear hb2); (try clear hk); (try clear hi); (try clear ho0); obtain ⟨Ao58, co58, eo58⟩ := Kd.R_slice HO660.out; subst eo58) | ((with_reducible refine gate_callee (f := 37) rfl ?_); refine goesL_ (some 59) rfl rfl Try.func37 (by kernel_rfl) rfl #[.slice Ao58 t658.length co58, .slice Ao24 t635.length co24] rfl (by (try simp only [List.map_toArray, List.map_cons, List.map_nil]); first | done | rfl | (simp only [List.length_drop, List.length_take]; rfl)) ?_; (with_reducible refine (laws_eqIntS.calls kj14 _ _ t658 _ _ t635 true _ ?side1 ?side2 ?side3 ?side4 A39.out).mono ?_); (case side1 => repeat (first | exact (Kd.R_reads' HO660.out).2.2 | (with_reducible refine Kd.C_alloc ?_ _) | (with_reducible refine Kd.C_drewN ?_ _) | (with_reducible refine Kd.C_drew ?_))); (case side2 => exact (Kd.R_reads' HO660.out).2.1); (case side3 => repeat (first | exact (Kd.R_reads' HO_4.out).2.2 | (with_reducible refine Kd.C_alloc ?_ _) | (with_reducible refine Kd.C_drewN ?_ _) | (with_reducible refine Kd.C_drew ?_))); (case side4 => exact (Kd.R_reads' HO_4.out).2.1); rintro e w' ⟨rfl, ⟨nd, rfl⟩⟩; refine ⟨_, rfl, ?_⟩) | ((with_reducible refine gate_callee (f := 39) rfl ?_); refine goesL_ (some 63) rfl rfl Try.func39 (by kernel_rfl) rfl #[.slice Ao23 t653.length co23, .int .i64 1] rfl (by (try simp only [List.map_toArray, List.map_cons, List.map_nil]); first | done | (rw [show t653.length = t641.length from (Kd.R_reads' HO_6.out).1.symm] <;> rfl) | rfl | (simp only [List.length_drop, List.length_take]; rfl)) ?_; (with_reducible refine (laws_heldIntS.calls kj14 _ _ t653 1 t662 _ ?side1 ?side2 A41.out).mono ?_); (case side1 => repeat (first | exact (Kd.R_reads' HO_6.out).2.2 | (with_reducible refine Kd.C_alloc ?_ _) | (with_reducible refine Kd.C_drewN ?_ _) | (with_reducible refine Kd.C_drew ?_))); (case side2 => rw [show t653.length = t641.length from (Kd.R_reads' HO_6.out).1.symm]; exact (Kd.R_reads' HO_6.out).2.1); rintro e w' ⟨rfl, ⟨nd, rfl⟩⟩; refine ⟨_, rfl, ?_⟩))
                        go_ret
                        exact ⟨by first | rfl | (simp [errW_none, errW_some] <;> rfl) | (simp [*, errW_none, errW_some] <;> rfl), by repeat (first | (with_reducible first | exact HB.out | apply below_alloc | apply pw_below_drewN | apply below_drew1) | exact HB.out)⟩
                  · replace c40 := Bool.eq_false_iff.mpr c40
                    subst c40
                    have H1 : (some false) = some r := by rw [if_neg (show ¬ (false = true) by decide)] at H; exact H
                    clear H
                    have H := H1
                    clear H1
                    obtain rfl := Option.some.inj H
                    go_wp2_with (first | ((with_reducible refine gate_callee (f := 38) rfl ?_); refine goesL_ (some 45) rfl rfl Try.func38 (by kernel_rfl) rfl #[.slice Ao23 t641.length co23, .int .i64 1] rfl (by (try simp only [List.map_toArray, List.map_cons, List.map_nil]); first | done | rfl | (simp only [List.length_drop, List.length_take]; rfl)) ?_; (with_reducible refine (laws_markIntS.calls kj14 (fun k_ => some k_ = (.slice Ao23 t641.length co23 : Value).ownBlock) (.slice Ao23 t641.length co23) t641 1 t652 t653 w _ ?side1 ?side2 A32.out).mono ?_); (case side1 => repeat (first | (with_reducible first | exact HB.out | apply below_alloc | apply pw_below_drewN | apply below_drew1) | exact HB.out)); (case side2 => exact Kd.R_tight rfl HO_6.out); rintro e w59 ⟨rfl, hy0, hb, hkp⟩; refine ⟨_, rfl, ?_⟩; have n0_ := Aside0.mk (Kd.R_mono (ok' := fun k_ => some k_ ≠ (.slice Ao23 t641.length co23 : Value).ownBlock) (Kd.R_keptB (HO_4.out) hkp (fun k_ hk_ hs_ => (hk_) hs_)) (fun k_ hk_ => hk_.1)); have n1_ := Aside0.mk (Kd.R_reok rfl hy0 (fun k_ e_ => HO_6.out.1 k_ e_)); have n2_ := Aside0.mk (hb); clear HO_4; clear HO_6; clear HB; have HO_4 := n0_; have HO_6 := n1_; have HB := n2_; clear n0_ n1_ n2_; (try clear hb); (try clear hkp); (try clear hy0)) | ((with_reducible refine gate_callee (f := 39) rfl ?_); refine goesL_ (some 48) rfl rfl Try.func39 (by kernel_rfl) rfl #[.slice Ao23 t653.length co23, .int .i64 1] rfl (by (try simp only [List.map_toArray, List.map_cons, List.map_nil]); first | done | (rw [show t653.length = t641.length from (Kd.R_reads' HO_6.out).1.symm] <;> rfl) | rfl | (simp only [List.length_drop, List.length_take]; rfl)) ?_; (with_reducible refine (laws_heldIntS.calls kj14 _ _ t653 1 t654 _ ?side1 ?side2 A33.out).mono ?_); (case side1 => repeat (first | exact (Kd.R_reads' HO_6.out).2.2 | (with_reducible refine Kd.C_alloc ?_ _) | (with_reducible refine Kd.C_drewN ?_ _) | (with_reducible refine Kd.C_drew ?_))); (case side2 => rw [show t653.length = t641.length from (Kd.R_reads' HO_6.out).1.symm]; exact (Kd.R_reads' HO_6.out).2.1); rintro e w' ⟨rfl, ⟨nd, rfl⟩⟩; refine ⟨_, rfl, ?_⟩) | ((with_reducible refine gate_callee (f := 27) rfl ?_); refine goesL_ (some 55) rfl rfl Try.func27 (by kernel_rfl) rfl #[.slice A0 l0.length c0] rfl (by (try simp only [List.map_toArray, List.map_cons, List.map_nil]); first | done | rfl | (simp only [List.length_drop, List.length_take]; rfl)) ?_; (with_reducible refine (laws_toOpS.calls kj14 _ _ l0 t655 _ ?side1 ?side2 A37.out).mono ?_); (case side1 => repeat (first | exact (Kd.C_below HR0.out (by repeat (first | (with_reducible first | exact HB.out | apply below_alloc | apply pw_below_drewN | apply below_drew1) | exact HB.out))) | (with_reducible refine Kd.C_alloc ?_ _) | (with_reducible refine Kd.C_drewN ?_ _) | (with_reducible refine Kd.C_drew ?_))); (case side2 => exact HC0.out); rintro e w60 ⟨v656, rfl, ho0, hb⟩; refine ⟨_, rfl, ?_⟩; have n0_ := Aside0.mk (Kd.R_below (by (with_reducible repeat (first | apply Kd.R_alloc | apply Kd.R_drewN | apply Kd.R_drew)); exact HO_4.out) hb); have n1_ := Aside0.mk (Kd.R_below (by (with_reducible repeat (first | apply Kd.R_alloc | apply Kd.R_drewN | apply Kd.R_drew)); exact HO_6.out) hb); have n2_ := Aside0.mk (Kd.R_lower ho0 (below_size (by repeat (first | (with_reducible first | exact HB.out | apply below_alloc | apply pw_below_drewN | apply below_drew1) | exact HB.out)))); have n3_ := Aside0.mk (below_step (by repeat (first | (with_reducible first | exact HB.out | apply below_alloc | apply pw_below_drewN | apply below_drew1) | exact HB.out)) hb); clear HO_4; clear HO_6; clear HB; have HO_4 := n0_; have HO_6 := n1_; have HO657 := n2_; have HB := n3_; clear n0_ n1_ n2_ n3_; (try clear hb); (try clear hb2); (try clear hk); (try clear hi); (try clear ho0); obtain ⟨Ao61, co61, eo61⟩ := Kd.R_slice HO657.out; subst eo61) | ((with_reducible refine gate_callee (f := 52) rfl ?_); refine goesL_ (some 56) rfl rfl Try.func52 (by kernel_rfl) rfl #[.slice Ao61 t655.length co61] rfl (by (try simp only [List.map_toArray, List.map_cons, List.map_nil]); first | done | rfl | (simp only [List.length_drop, List.length_take]; rfl)) ?_; (with_reducible refine (impl_LogIds.calls kj14 _ _ t655 t658 _ ?side1 ?side2 A38.out).mono ?_); (case side1 => repeat (first | exact (Kd.R_reads' HO657.out).2.2 | (with_reducible refine Kd.C_alloc ?_ _) | (with_reducible refine Kd.C_drewN ?_ _) | (with_reducible refine Kd.C_drew ?_))); (case side2 => exact (Kd.R_reads' HO657.out).2.1); rintro e w62 ⟨v659, rfl, ho0, hb⟩; refine ⟨_, rfl, ?_⟩; have n0_ := Aside0.mk (Kd.R_elder' (by (with_reducible repeat (first | apply Kd.R_alloc | apply Kd.R_drewN | apply Kd.R_drew)); exact HO_4.out) (Kd.R_base ho0) hb); have n1_ := Aside0.mk (Kd.R_elder' (by (with_reducible repeat (first | apply Kd.R_alloc | apply Kd.R_drewN | apply Kd.R_drew)); exact HO_6.out) (Kd.R_base ho0) hb); have n2_ := Aside0.mk (Kd.R_below (by (with_reducible repeat (first | apply Kd.R_alloc | apply Kd.R_drewN | apply Kd.R_drew)); exact HO657.out) hb); have n3_ := Aside0.mk (Kd.R_lower (Kd.R_new' (Kd.R_new' ho0 (Kd.R_lt (by (with_reducible repeat (first | apply Kd.R_alloc | apply Kd.R_drewN | apply Kd.R_drew)); exact HO_4.out))) (Kd.R_lt (by (with_reducible repeat (first | apply Kd.R_alloc | apply Kd.R_drewN | apply Kd.R_drew)); exact HO_6.out))) (below_size (by repeat (first | (with_reducible first | exact HB.out | apply below_alloc | apply pw_below_drewN | apply below_drew1) | exact HB.out)))); have n4_ := Aside0.mk (below_step (by repeat (first | (with_reducible first | exact HB.out | apply below_alloc | apply pw_below_drewN | apply below_drew1) | exact HB.out)) hb); clear HO_4; clear HO_6; clear HO657; clear HB; have HO_4 := n0_; have HO_6 := n1_; have HO657 := n2_; have HO660 := n3_; have HB := n4_; clear n0_ n1_ n2_ n3_ n4_; (try clear hb); (try clear hb2); (try clear hk); (try clear hi); (try clear ho0); obtain ⟨Ao63, co63, eo63⟩ := Kd.R_slice HO660.out; subst eo63) | ((with_reducible refine gate_callee (f := 37) rfl ?_); refine goesL_ (some 59) rfl rfl Try.func37 (by kernel_rfl) rfl #[.slice Ao63 t658.length co63, .slice Ao24 t635.length co24] rfl (by (try simp only [List.map_toArray, List.map_cons, List.map_nil]); first | done | rfl | (simp only [List.length_drop, List.length_take]; rfl)) ?_; (with_reducible refine (laws_eqIntS.calls kj14 _ _ t658 _ _ t635 false _ ?side1 ?side2 ?side3 ?side4 A39.out).mono ?_); (case side1 => repeat (first | exact (Kd.R_reads' HO660.out).2.2 | (with_reducible refine Kd.C_alloc ?_ _) | (with_reducible refine Kd.C_drewN ?_ _) | (with_reducible refine Kd.C_drew ?_))); (case side2 => exact (Kd.R_reads' HO660.out).2.1); (case side3 => repeat (first | exact (Kd.R_reads' HO_4.out).2.2 | (with_reducible refine Kd.C_alloc ?_ _) | (with_reducible refine Kd.C_drewN ?_ _) | (with_reducible refine Kd.C_drew ?_))); (case side4 => exact (Kd.R_reads' HO_4.out).2.1); rintro e w' ⟨rfl, ⟨nd, rfl⟩⟩; refine ⟨_, rfl, ?_⟩))
                    go_ret
                    exact ⟨by first | rfl | (simp [errW_none, errW_some] <;> rfl) | (simp [*, errW_none, errW_some] <;> rfl), by repeat (first | (with_reducible first | exact HB.out | apply below_alloc | apply pw_below_drewN | apply below_drew1) | exact HB.out)⟩
                · rw [if_neg c36] at H
                  have c36b0 : (t654 == t652) = false := beq_eq_false_iff_ne.mpr c36
                  have c36b1 : (t654 != t652) = true := bne_iff_ne.mpr c36
                  obtain rfl := Option.some.inj H
                  go_wp2_with (first | ((with_reducible refine gate_callee (f := 38) rfl ?_); refine goesL_ (some 45) rfl rfl Try.func38 (by kernel_rfl) rfl #[.slice Ao23 t641.length co23, .int .i64 1] rfl (by (try simp only [List.map_toArray, List.map_cons, List.map_nil]); first | done | rfl | (simp only [List.length_drop, List.length_take]; rfl)) ?_; (with_reducible refine (laws_markIntS.calls kj14 (fun k_ => some k_ = (.slice Ao23 t641.length co23 : Value).ownBlock) (.slice Ao23 t641.length co23) t641 1 t652 t653 w _ ?side1 ?side2 A32.out).mono ?_); (case side1 => repeat (first | (with_reducible first | exact HB.out | apply below_alloc | apply pw_below_drewN | apply below_drew1) | exact HB.out)); (case side2 => exact Kd.R_tight rfl HO_6.out); rintro e w64 ⟨rfl, hy0, hb, hkp⟩; refine ⟨_, rfl, ?_⟩; have n0_ := Aside0.mk (Kd.R_mono (ok' := fun k_ => some k_ ≠ (.slice Ao23 t641.length co23 : Value).ownBlock) (Kd.R_keptB (HO_4.out) hkp (fun k_ hk_ hs_ => (hk_) hs_)) (fun k_ hk_ => hk_.1)); have n1_ := Aside0.mk (Kd.R_reok rfl hy0 (fun k_ e_ => HO_6.out.1 k_ e_)); have n2_ := Aside0.mk (hb); clear HO_4; clear HO_6; clear HB; have HO_4 := n0_; have HO_6 := n1_; have HB := n2_; clear n0_ n1_ n2_; (try clear hb); (try clear hkp); (try clear hy0)) | ((with_reducible refine gate_callee (f := 39) rfl ?_); refine goesL_ (some 48) rfl rfl Try.func39 (by kernel_rfl) rfl #[.slice Ao23 t653.length co23, .int .i64 1] rfl (by (try simp only [List.map_toArray, List.map_cons, List.map_nil]); first | done | (rw [show t653.length = t641.length from (Kd.R_reads' HO_6.out).1.symm] <;> rfl) | rfl | (simp only [List.length_drop, List.length_take]; rfl)) ?_; (with_reducible refine (laws_heldIntS.calls kj14 _ _ t653 1 t654 _ ?side1 ?side2 A33.out).mono ?_); (case side1 => repeat (first | exact (Kd.R_reads' HO_6.out).2.2 | (with_reducible refine Kd.C_alloc ?_ _) | (with_reducible refine Kd.C_drewN ?_ _) | (with_reducible refine Kd.C_drew ?_))); (case side2 => rw [show t653.length = t641.length from (Kd.R_reads' HO_6.out).1.symm]; exact (Kd.R_reads' HO_6.out).2.1); rintro e w' ⟨rfl, ⟨nd, rfl⟩⟩; refine ⟨_, rfl, ?_⟩))
                  go_ret
                  exact ⟨by first | rfl | (simp [errW_none, errW_some] <;> rfl) | (simp [*, errW_none, errW_some] <;> rfl), by repeat (first | (with_reducible first | exact HB.out | apply below_alloc | apply pw_below_drewN | apply below_drew1) | exact HB.out)⟩
      · replace c13 := Bool.eq_false_iff.mpr c13
        subst c13
        have H1 : (some false) = some r := by rw [if_neg (show ¬ (false = true) by decide)] at H; exact H
        clear H
        have H := H1
        clear H1
        obtain rfl := Option.some.inj H
        go_enter Try.func14, Try.ntmps14
        go_wp2_with (first | ((with_reducible refine gate_callee (f := 25) rfl ?_); refine goesL_ (some 13) rfl rfl Try.func25 (by kernel_rfl) rfl #[.slice A0 l0.length c0, .int .i64 1048576] rfl (by (try simp only [List.map_toArray, List.map_cons, List.map_nil]); first | done | rfl | (simp only [List.length_drop, List.length_take]; rfl)) ?_; (with_reducible refine (laws_szOpS.calls k _ _ l0 1048576 t631 _ ?side1 ?side2 A2.out).mono ?_); (case side1 => repeat (first | exact HR0.out | (with_reducible refine Kd.C_alloc ?_ _) | (with_reducible refine Kd.C_drewN ?_ _) | (with_reducible refine Kd.C_drew ?_))); (case side2 => exact HC0.out); rintro e w65 ⟨rfl, hb⟩; refine ⟨_, rfl, ?_⟩; have n0_ := Aside0.mk (below_step (by repeat (first | (with_reducible first | exact HB.out | apply below_alloc | apply pw_below_drewN | apply below_drew1) | exact HB.out)) hb); clear HB; have HB := n0_; clear n0_; (try clear hb); (try clear hb2); (try clear hk); (try clear hi)) | ((with_reducible refine gate_callee (f := 27) rfl ?_); refine goesL_ (some 17) rfl rfl Try.func27 (by kernel_rfl) rfl #[.slice A0 l0.length c0] rfl (by (try simp only [List.map_toArray, List.map_cons, List.map_nil]); first | done | rfl | (simp only [List.length_drop, List.length_take]; rfl)) ?_; (with_reducible refine (laws_toOpS.calls k _ _ l0 t632 _ ?side1 ?side2 A5.out).mono ?_); (case side1 => repeat (first | exact (Kd.C_below HR0.out HB.out) | (with_reducible refine Kd.C_alloc ?_ _) | (with_reducible refine Kd.C_drewN ?_ _) | (with_reducible refine Kd.C_drew ?_))); (case side2 => exact HC0.out); rintro e w66 ⟨v633, rfl, ho0, hb⟩; refine ⟨_, rfl, ?_⟩; have n0_ := Aside0.mk (Kd.R_lower ho0 (below_size (by repeat (first | (with_reducible first | exact HB.out | apply below_alloc | apply pw_below_drewN | apply below_drew1) | exact HB.out)))); have n1_ := Aside0.mk (below_step (by repeat (first | (with_reducible first | exact HB.out | apply below_alloc | apply pw_below_drewN | apply below_drew1) | exact HB.out)) hb); clear HB; have HO634 := n0_; have HB := n1_; clear n0_ n1_; (try clear hb); (try clear hb2); (try clear hk); (try clear hi); (try clear ho0); obtain ⟨Ao67, co67, eo67⟩ := Kd.R_slice HO634.out; subst eo67) | ((with_reducible refine gate_callee (f := 51) rfl ?_); refine goesL_ (some 18) rfl rfl Try.func51 (by kernel_rfl) rfl #[.slice Ao67 t632.length co67] rfl (by (try simp only [List.map_toArray, List.map_cons, List.map_nil]); first | done | rfl | (simp only [List.length_drop, List.length_take]; rfl)) ?_; (with_reducible refine (spec_LogIds.calls k _ _ t632 t635 _ ?side1 ?side2 A6.out).mono ?_); (case side1 => repeat (first | exact (Kd.R_reads' HO634.out).2.2 | (with_reducible refine Kd.C_alloc ?_ _) | (with_reducible refine Kd.C_drewN ?_ _) | (with_reducible refine Kd.C_drew ?_))); (case side2 => exact (Kd.R_reads' HO634.out).2.1); rintro e w68 ⟨v636, rfl, ho0, hb⟩; refine ⟨_, rfl, ?_⟩; have n0_ := Aside0.mk (Kd.R_below (by (with_reducible repeat (first | apply Kd.R_alloc | apply Kd.R_drewN | apply Kd.R_drew)); exact HO634.out) hb); have n1_ := Aside0.mk (Kd.R_lower ho0 (below_size (by repeat (first | (with_reducible first | exact HB.out | apply below_alloc | apply pw_below_drewN | apply below_drew1) | exact HB.out)))); have n2_ := Aside0.mk (below_step (by repeat (first | (with_reducible first | exact HB.out | apply below_alloc | apply pw_below_drewN | apply below_drew1) | exact HB.out)) hb); clear HO634; clear HB; have HO634 := n0_; have HO637 := n1_; have HB := n2_; clear n0_ n1_ n2_; (try clear hb); (try clear hb2); (try clear hk); (try clear hi); (try clear ho0)) | ((with_reducible refine gate_callee (f := 27) rfl ?_); refine goesL_ (some 20) rfl rfl Try.func27 (by kernel_rfl) rfl #[.slice A0 l0.length c0] rfl (by (try simp only [List.map_toArray, List.map_cons, List.map_nil]); first | done | rfl | (simp only [List.length_drop, List.length_take]; rfl)) ?_; (with_reducible refine (laws_toOpS.calls k _ _ l0 t638 _ ?side1 ?side2 A7.out).mono ?_); (case side1 => repeat (first | exact (Kd.C_below HR0.out HB.out) | (with_reducible refine Kd.C_alloc ?_ _) | (with_reducible refine Kd.C_drewN ?_ _) | (with_reducible refine Kd.C_drew ?_))); (case side2 => exact HC0.out); rintro e w69 ⟨v639, rfl, ho0, hb⟩; refine ⟨_, rfl, ?_⟩; have n0_ := Aside0.mk (Kd.R_elder' (by (with_reducible repeat (first | apply Kd.R_alloc | apply Kd.R_drewN | apply Kd.R_drew)); exact HO634.out) (Kd.R_base ho0) hb); have n1_ := Aside0.mk (Kd.R_below (by (with_reducible repeat (first | apply Kd.R_alloc | apply Kd.R_drewN | apply Kd.R_drew)); exact HO637.out) hb); have n2_ := Aside0.mk (Kd.R_lower (Kd.R_new' ho0 (Kd.R_lt (by (with_reducible repeat (first | apply Kd.R_alloc | apply Kd.R_drewN | apply Kd.R_drew)); exact HO634.out))) (below_size (by repeat (first | (with_reducible first | exact HB.out | apply below_alloc | apply pw_below_drewN | apply below_drew1) | exact HB.out)))); have n3_ := Aside0.mk (below_step (by repeat (first | (with_reducible first | exact HB.out | apply below_alloc | apply pw_below_drewN | apply below_drew1) | exact HB.out)) hb); clear HO634; clear HO637; clear HB; have HO634 := n0_; have HO637 := n1_; have HO640 := n2_; have HB := n3_; clear n0_ n1_ n2_ n3_; (try clear hb); (try clear hb2); (try clear hk); (try clear hi); (try clear ho0); obtain ⟨Ao70, co70, eo70⟩ := Kd.R_slice HO640.out; subst eo70) | ((with_reducible refine gate_callee (f := 52) rfl ?_); refine goesL_ (some 22) rfl rfl Try.func52 (by kernel_rfl) rfl #[.slice Ao70 t638.length co70] rfl (by (try simp only [List.map_toArray, List.map_cons, List.map_nil]); first | done | rfl | (simp only [List.length_drop, List.length_take]; rfl)) ?_; (with_reducible refine (impl_LogIds.calls k _ _ t638 t641 _ ?side1 ?side2 A8.out).mono ?_); (case side1 => repeat (first | exact (Kd.R_reads' HO640.out).2.2 | (with_reducible refine Kd.C_alloc ?_ _) | (with_reducible refine Kd.C_drewN ?_ _) | (with_reducible refine Kd.C_drew ?_))); (case side2 => exact (Kd.R_reads' HO640.out).2.1); rintro e w71 ⟨v642, rfl, ho0, hb⟩; refine ⟨_, rfl, ?_⟩; have n0_ := Aside0.mk (Kd.R_below (by (with_reducible repeat (first | apply Kd.R_alloc | apply Kd.R_drewN | apply Kd.R_drew)); exact HO634.out) hb); have n1_ := Aside0.mk (Kd.R_elder' (by (with_reducible repeat (first | apply Kd.R_alloc | apply Kd.R_drewN | apply Kd.R_drew)); exact HO637.out) (Kd.R_base ho0) hb); have n2_ := Aside0.mk (Kd.R_below (by (with_reducible repeat (first | apply Kd.R_alloc | apply Kd.R_drewN | apply Kd.R_drew)); exact HO640.out) hb); have n3_ := Aside0.mk (Kd.R_lower (Kd.R_new' ho0 (Kd.R_lt (by (with_reducible repeat (first | apply Kd.R_alloc | apply Kd.R_drewN | apply Kd.R_drew)); exact HO637.out))) (below_size (by repeat (first | (with_reducible first | exact HB.out | apply below_alloc | apply pw_below_drewN | apply below_drew1) | exact HB.out)))); have n4_ := Aside0.mk (below_step (by repeat (first | (with_reducible first | exact HB.out | apply below_alloc | apply pw_below_drewN | apply below_drew1) | exact HB.out)) hb); clear HO634; clear HO637; clear HO640; clear HB; have HO634 := n0_; have HO637 := n1_; have HO640 := n2_; have HO643 := n3_; have HB := n4_; clear n0_ n1_ n2_ n3_ n4_; (try clear hb); (try clear hb2); (try clear hk); (try clear hi); (try clear ho0); obtain ⟨Ao72, co72, eo72⟩ := Kd.R_slice HO643.out; subst eo72; obtain ⟨Ao73, co73, eo73⟩ := Kd.R_slice HO637.out; subst eo73) | ((with_reducible refine gate_callee (f := 37) rfl ?_); refine goesL_ (some 25) rfl rfl Try.func37 (by kernel_rfl) rfl #[.slice Ao72 t641.length co72, .slice Ao73 t635.length co73] rfl (by (try simp only [List.map_toArray, List.map_cons, List.map_nil]); first | done | rfl | (simp only [List.length_drop, List.length_take]; rfl)) ?_; (with_reducible refine (laws_eqIntS.calls k _ _ t641 _ _ t635 true _ ?side1 ?side2 ?side3 ?side4 A9.out).mono ?_); (case side1 => repeat (first | exact (Kd.R_reads' HO643.out).2.2 | (with_reducible refine Kd.C_alloc ?_ _) | (with_reducible refine Kd.C_drewN ?_ _) | (with_reducible refine Kd.C_drew ?_))); (case side2 => exact (Kd.R_reads' HO643.out).2.1); (case side3 => repeat (first | exact (Kd.R_reads' HO637.out).2.2 | (with_reducible refine Kd.C_alloc ?_ _) | (with_reducible refine Kd.C_drewN ?_ _) | (with_reducible refine Kd.C_drew ?_))); (case side4 => exact (Kd.R_reads' HO637.out).2.1); rintro e w' ⟨rfl, ⟨nd, rfl⟩⟩; refine ⟨_, rfl, ?_⟩) | ((with_reducible refine gate_callee (f := 27) rfl ?_); refine goesL_ (some 29) rfl rfl Try.func27 (by kernel_rfl) rfl #[.slice A0 l0.length c0] rfl (by (try simp only [List.map_toArray, List.map_cons, List.map_nil]); first | done | rfl | (simp only [List.length_drop, List.length_take]; rfl)) ?_; (with_reducible refine (laws_toOpS.calls k _ _ l0 t645 _ ?side1 ?side2 A11.out).mono ?_); (case side1 => repeat (first | exact (Kd.C_below HR0.out (by repeat (first | (with_reducible first | exact HB.out | apply below_alloc | apply pw_below_drewN | apply below_drew1) | exact HB.out))) | (with_reducible refine Kd.C_alloc ?_ _) | (with_reducible refine Kd.C_drewN ?_ _) | (with_reducible refine Kd.C_drew ?_))); (case side2 => exact HC0.out); rintro e w74 ⟨v646, rfl, ho0, hb⟩; refine ⟨_, rfl, ?_⟩; have n0_ := Aside0.mk (Kd.R_elder' (by (with_reducible repeat (first | apply Kd.R_alloc | apply Kd.R_drewN | apply Kd.R_drew)); exact HO634.out) (Kd.R_base ho0) hb); have n1_ := Aside0.mk (Kd.R_below (by (with_reducible repeat (first | apply Kd.R_alloc | apply Kd.R_drewN | apply Kd.R_drew)); exact HO637.out) hb); have n2_ := Aside0.mk (Kd.R_elder' (by (with_reducible repeat (first | apply Kd.R_alloc | apply Kd.R_drewN | apply Kd.R_drew)); exact HO640.out) (Kd.R_base ho0) hb); have n3_ := Aside0.mk (Kd.R_below (by (with_reducible repeat (first | apply Kd.R_alloc | apply Kd.R_drewN | apply Kd.R_drew)); exact HO643.out) hb); have n4_ := Aside0.mk (Kd.R_lower (Kd.R_new' (Kd.R_new' ho0 (Kd.R_lt (by (with_reducible repeat (first | apply Kd.R_alloc | apply Kd.R_drewN | apply Kd.R_drew)); exact HO634.out))) (Kd.R_lt (by (with_reducible repeat (first | apply Kd.R_alloc | apply Kd.R_drewN | apply Kd.R_drew)); exact HO640.out))) (below_size (by repeat (first | (with_reducible first | exact HB.out | apply below_alloc | apply pw_below_drewN | apply below_drew1) | exact HB.out)))); have n5_ := Aside0.mk (below_step (by repeat (first | (with_reducible first | exact HB.out | apply below_alloc | apply pw_below_drewN | apply below_drew1) | exact HB.out)) hb); clear HO634; clear HO637; clear HO640; clear HO643; clear HB; have HO634 := n0_; have HO637 := n1_; have HO640 := n2_; have HO643 := n3_; have HO647 := n4_; have HB := n5_; clear n0_ n1_ n2_ n3_ n4_ n5_; (try clear hb); (try clear hb2); (try clear hk); (try clear hi); (try clear ho0); obtain ⟨Ao75, co75, eo75⟩ := Kd.R_slice HO647.out; subst eo75) | ((with_reducible refine gate_callee (f := 29) rfl ?_); refine goesL_ (some 30) rfl rfl Try.func29 (by kernel_rfl) rfl #[.slice Ao70 t638.length co70, .slice Ao75 t645.length co75] rfl (by (try simp only [List.map_toArray, List.map_cons, List.map_nil]); first | done | rfl | (simp only [List.length_drop, List.length_take]; rfl)) ?_; (with_reducible refine (laws_eqOpS.calls k _ _ t638 _ _ t645 false _ ?side1 ?side2 ?side3 ?side4 A12.out).mono ?_); (case side1 => repeat (first | exact (Kd.R_reads' HO640.out).2.2 | (with_reducible refine Kd.C_alloc ?_ _) | (with_reducible refine Kd.C_drewN ?_ _) | (with_reducible refine Kd.C_drew ?_))); (case side2 => exact (Kd.R_reads' HO640.out).2.1); (case side3 => repeat (first | exact (Kd.R_reads' HO647.out).2.2 | (with_reducible refine Kd.C_alloc ?_ _) | (with_reducible refine Kd.C_drewN ?_ _) | (with_reducible refine Kd.C_drew ?_))); (case side4 => exact (Kd.R_reads' HO647.out).2.1); rintro e w76 ⟨rfl, hb⟩; refine ⟨_, rfl, ?_⟩; have n0_ := Aside0.mk (Kd.R_below (by (with_reducible repeat (first | apply Kd.R_alloc | apply Kd.R_drewN | apply Kd.R_drew)); exact HO634.out) hb); have n1_ := Aside0.mk (Kd.R_below (by (with_reducible repeat (first | apply Kd.R_alloc | apply Kd.R_drewN | apply Kd.R_drew)); exact HO637.out) hb); have n2_ := Aside0.mk (Kd.R_below (by (with_reducible repeat (first | apply Kd.R_alloc | apply Kd.R_drewN | apply Kd.R_drew)); exact HO640.out) hb); have n3_ := Aside0.mk (Kd.R_below (by (with_reducible repeat (first | apply Kd.R_alloc | apply Kd.R_drewN | apply Kd.R_drew)); exact HO643.out) hb); have n4_ := Aside0.mk (Kd.R_below (by (with_reducible repeat (first | apply Kd.R_alloc | apply Kd.R_drewN | apply Kd.R_drew)); exact HO647.out) hb); have n5_ := Aside0.mk (below_step (by repeat (first | (with_reducible first | exact HB.out | apply below_alloc | apply pw_below_drewN | apply below_drew1) | exact HB.out)) hb); clear HO634; clear HO637; clear HO640; clear HO643; clear HO647; clear HB; have HO634 := n0_; have HO637 := n1_; have HO640 := n2_; have HO643 := n3_; have HO647 := n4_; have HB := n5_; clear n0_ n1_ n2_ n3_ n4_ n5_; (try clear hb); (try clear hb2); (try clear hk); (try clear hi)))
        go_ret
        exact ⟨by first | rfl | (simp [errW_none, errW_some] <;> rfl) | (simp [*, errW_none, errW_some] <;> rfl), by repeat (first | (with_reducible first | exact HB.out | apply below_alloc | apply pw_below_drewN | apply below_drew1) | exact HB.out)⟩
    · replace c10 := Bool.eq_false_iff.mpr c10
      subst c10
      have H1 : (some false) = some r := by rw [if_neg (show ¬ (false = true) by decide)] at H; exact H
      clear H
      have H := H1
      clear H1
      obtain rfl := Option.some.inj H
      go_enter Try.func14, Try.ntmps14
      go_wp2_with (first | ((with_reducible refine gate_callee (f := 25) rfl ?_); refine goesL_ (some 13) rfl rfl Try.func25 (by kernel_rfl) rfl #[.slice A0 l0.length c0, .int .i64 1048576] rfl (by (try simp only [List.map_toArray, List.map_cons, List.map_nil]); first | done | rfl | (simp only [List.length_drop, List.length_take]; rfl)) ?_; (with_reducible refine (laws_szOpS.calls k _ _ l0 1048576 t631 _ ?side1 ?side2 A2.out).mono ?_); (case side1 => repeat (first | exact HR0.out | (with_reducible refine Kd.C_alloc ?_ _) | (with_reducible refine Kd.C_drewN ?_ _) | (with_reducible refine Kd.C_drew ?_))); (case side2 => exact HC0.out); rintro e w77 ⟨rfl, hb⟩; refine ⟨_, rfl, ?_⟩; have n0_ := Aside0.mk (below_step (by repeat (first | (with_reducible first | exact HB.out | apply below_alloc | apply pw_below_drewN | apply below_drew1) | exact HB.out)) hb); clear HB; have HB := n0_; clear n0_; (try clear hb); (try clear hb2); (try clear hk); (try clear hi)) | ((with_reducible refine gate_callee (f := 27) rfl ?_); refine goesL_ (some 17) rfl rfl Try.func27 (by kernel_rfl) rfl #[.slice A0 l0.length c0] rfl (by (try simp only [List.map_toArray, List.map_cons, List.map_nil]); first | done | rfl | (simp only [List.length_drop, List.length_take]; rfl)) ?_; (with_reducible refine (laws_toOpS.calls k _ _ l0 t632 _ ?side1 ?side2 A5.out).mono ?_); (case side1 => repeat (first | exact (Kd.C_below HR0.out HB.out) | (with_reducible refine Kd.C_alloc ?_ _) | (with_reducible refine Kd.C_drewN ?_ _) | (with_reducible refine Kd.C_drew ?_))); (case side2 => exact HC0.out); rintro e w78 ⟨v633, rfl, ho0, hb⟩; refine ⟨_, rfl, ?_⟩; have n0_ := Aside0.mk (Kd.R_lower ho0 (below_size (by repeat (first | (with_reducible first | exact HB.out | apply below_alloc | apply pw_below_drewN | apply below_drew1) | exact HB.out)))); have n1_ := Aside0.mk (below_step (by repeat (first | (with_reducible first | exact HB.out | apply below_alloc | apply pw_below_drewN | apply below_drew1) | exact HB.out)) hb); clear HB; have HO634 := n0_; have HB := n1_; clear n0_ n1_; (try clear hb); (try clear hb2); (try clear hk); (try clear hi); (try clear ho0); obtain ⟨Ao79, co79, eo79⟩ := Kd.R_slice HO634.out; subst eo79) | ((with_reducible refine gate_callee (f := 51) rfl ?_); refine goesL_ (some 18) rfl rfl Try.func51 (by kernel_rfl) rfl #[.slice Ao79 t632.length co79] rfl (by (try simp only [List.map_toArray, List.map_cons, List.map_nil]); first | done | rfl | (simp only [List.length_drop, List.length_take]; rfl)) ?_; (with_reducible refine (spec_LogIds.calls k _ _ t632 t635 _ ?side1 ?side2 A6.out).mono ?_); (case side1 => repeat (first | exact (Kd.R_reads' HO634.out).2.2 | (with_reducible refine Kd.C_alloc ?_ _) | (with_reducible refine Kd.C_drewN ?_ _) | (with_reducible refine Kd.C_drew ?_))); (case side2 => exact (Kd.R_reads' HO634.out).2.1); rintro e w80 ⟨v636, rfl, ho0, hb⟩; refine ⟨_, rfl, ?_⟩; have n0_ := Aside0.mk (Kd.R_below (by (with_reducible repeat (first | apply Kd.R_alloc | apply Kd.R_drewN | apply Kd.R_drew)); exact HO634.out) hb); have n1_ := Aside0.mk (Kd.R_lower ho0 (below_size (by repeat (first | (with_reducible first | exact HB.out | apply below_alloc | apply pw_below_drewN | apply below_drew1) | exact HB.out)))); have n2_ := Aside0.mk (below_step (by repeat (first | (with_reducible first | exact HB.out | apply below_alloc | apply pw_below_drewN | apply below_drew1) | exact HB.out)) hb); clear HO634; clear HB; have HO634 := n0_; have HO637 := n1_; have HB := n2_; clear n0_ n1_ n2_; (try clear hb); (try clear hb2); (try clear hk); (try clear hi); (try clear ho0)) | ((with_reducible refine gate_callee (f := 27) rfl ?_); refine goesL_ (some 20) rfl rfl Try.func27 (by kernel_rfl) rfl #[.slice A0 l0.length c0] rfl (by (try simp only [List.map_toArray, List.map_cons, List.map_nil]); first | done | rfl | (simp only [List.length_drop, List.length_take]; rfl)) ?_; (with_reducible refine (laws_toOpS.calls k _ _ l0 t638 _ ?side1 ?side2 A7.out).mono ?_); (case side1 => repeat (first | exact (Kd.C_below HR0.out HB.out) | (with_reducible refine Kd.C_alloc ?_ _) | (with_reducible refine Kd.C_drewN ?_ _) | (with_reducible refine Kd.C_drew ?_))); (case side2 => exact HC0.out); rintro e w81 ⟨v639, rfl, ho0, hb⟩; refine ⟨_, rfl, ?_⟩; have n0_ := Aside0.mk (Kd.R_elder' (by (with_reducible repeat (first | apply Kd.R_alloc | apply Kd.R_drewN | apply Kd.R_drew)); exact HO634.out) (Kd.R_base ho0) hb); have n1_ := Aside0.mk (Kd.R_below (by (with_reducible repeat (first | apply Kd.R_alloc | apply Kd.R_drewN | apply Kd.R_drew)); exact HO637.out) hb); have n2_ := Aside0.mk (Kd.R_lower (Kd.R_new' ho0 (Kd.R_lt (by (with_reducible repeat (first | apply Kd.R_alloc | apply Kd.R_drewN | apply Kd.R_drew)); exact HO634.out))) (below_size (by repeat (first | (with_reducible first | exact HB.out | apply below_alloc | apply pw_below_drewN | apply below_drew1) | exact HB.out)))); have n3_ := Aside0.mk (below_step (by repeat (first | (with_reducible first | exact HB.out | apply below_alloc | apply pw_below_drewN | apply below_drew1) | exact HB.out)) hb); clear HO634; clear HO637; clear HB; have HO634 := n0_; have HO637 := n1_; have HO640 := n2_; have HB := n3_; clear n0_ n1_ n2_ n3_; (try clear hb); (try clear hb2); (try clear hk); (try clear hi); (try clear ho0); obtain ⟨Ao82, co82, eo82⟩ := Kd.R_slice HO640.out; subst eo82) | ((with_reducible refine gate_callee (f := 52) rfl ?_); refine goesL_ (some 22) rfl rfl Try.func52 (by kernel_rfl) rfl #[.slice Ao82 t638.length co82] rfl (by (try simp only [List.map_toArray, List.map_cons, List.map_nil]); first | done | rfl | (simp only [List.length_drop, List.length_take]; rfl)) ?_; (with_reducible refine (impl_LogIds.calls k _ _ t638 t641 _ ?side1 ?side2 A8.out).mono ?_); (case side1 => repeat (first | exact (Kd.R_reads' HO640.out).2.2 | (with_reducible refine Kd.C_alloc ?_ _) | (with_reducible refine Kd.C_drewN ?_ _) | (with_reducible refine Kd.C_drew ?_))); (case side2 => exact (Kd.R_reads' HO640.out).2.1); rintro e w83 ⟨v642, rfl, ho0, hb⟩; refine ⟨_, rfl, ?_⟩; have n0_ := Aside0.mk (Kd.R_below (by (with_reducible repeat (first | apply Kd.R_alloc | apply Kd.R_drewN | apply Kd.R_drew)); exact HO634.out) hb); have n1_ := Aside0.mk (Kd.R_elder' (by (with_reducible repeat (first | apply Kd.R_alloc | apply Kd.R_drewN | apply Kd.R_drew)); exact HO637.out) (Kd.R_base ho0) hb); have n2_ := Aside0.mk (Kd.R_below (by (with_reducible repeat (first | apply Kd.R_alloc | apply Kd.R_drewN | apply Kd.R_drew)); exact HO640.out) hb); have n3_ := Aside0.mk (Kd.R_lower (Kd.R_new' ho0 (Kd.R_lt (by (with_reducible repeat (first | apply Kd.R_alloc | apply Kd.R_drewN | apply Kd.R_drew)); exact HO637.out))) (below_size (by repeat (first | (with_reducible first | exact HB.out | apply below_alloc | apply pw_below_drewN | apply below_drew1) | exact HB.out)))); have n4_ := Aside0.mk (below_step (by repeat (first | (with_reducible first | exact HB.out | apply below_alloc | apply pw_below_drewN | apply below_drew1) | exact HB.out)) hb); clear HO634; clear HO637; clear HO640; clear HB; have HO634 := n0_; have HO637 := n1_; have HO640 := n2_; have HO643 := n3_; have HB := n4_; clear n0_ n1_ n2_ n3_ n4_; (try clear hb); (try clear hb2); (try clear hk); (try clear hi); (try clear ho0); obtain ⟨Ao84, co84, eo84⟩ := Kd.R_slice HO643.out; subst eo84; obtain ⟨Ao85, co85, eo85⟩ := Kd.R_slice HO637.out; subst eo85) | ((with_reducible refine gate_callee (f := 37) rfl ?_); refine goesL_ (some 25) rfl rfl Try.func37 (by kernel_rfl) rfl #[.slice Ao84 t641.length co84, .slice Ao85 t635.length co85] rfl (by (try simp only [List.map_toArray, List.map_cons, List.map_nil]); first | done | rfl | (simp only [List.length_drop, List.length_take]; rfl)) ?_; (with_reducible refine (laws_eqIntS.calls k _ _ t641 _ _ t635 false _ ?side1 ?side2 ?side3 ?side4 A9.out).mono ?_); (case side1 => repeat (first | exact (Kd.R_reads' HO643.out).2.2 | (with_reducible refine Kd.C_alloc ?_ _) | (with_reducible refine Kd.C_drewN ?_ _) | (with_reducible refine Kd.C_drew ?_))); (case side2 => exact (Kd.R_reads' HO643.out).2.1); (case side3 => repeat (first | exact (Kd.R_reads' HO637.out).2.2 | (with_reducible refine Kd.C_alloc ?_ _) | (with_reducible refine Kd.C_drewN ?_ _) | (with_reducible refine Kd.C_drew ?_))); (case side4 => exact (Kd.R_reads' HO637.out).2.1); rintro e w' ⟨rfl, ⟨nd, rfl⟩⟩; refine ⟨_, rfl, ?_⟩))
      go_ret
      exact ⟨by first | rfl | (simp [errW_none, errW_some] <;> rfl) | (simp [*, errW_none, errW_some] <;> rfl), by repeat (first | (with_reducible first | exact HB.out | apply below_alloc | apply pw_below_drewN | apply below_drew1) | exact HB.out)⟩
end Go.Proofs.Ythmmleheahkeeaa.Q
namespace Go.Proofs.Ythmmleheahkeeaa.Opened
open Go.ChangeShapes Go.WideShapes Go.Deep Go.RowKit Go.Proofs.YthmmleheahkeeaaW.PrintWords
/-- Cells of type t that can be read as data are of kind d; and what is good of what they say. -/
def Opens (P : Program) (t : TypeId) {α : Type} (d : Kd α) (good : α → Prop) : Prop :=
  P.cellsOf t = d.sz ∧ ∀ (H : Type) (enc : TypeId × Value → H) (w : World) (base : Nat) (spare : Nat → Bool) (held : Bool) (fuel : Nat) (cs : List Value) (x : DataW H × List MemPlace),
    DataW.trod enc P w base spare held fuel t cs = some x → ∃ a, d.K w a cs ∧ good a
section
variable {P : Program} {t e : TypeId}
theorem opens_int {k : IntKind} (hu : P.underlying t = some (.int k)) (hc : P.cellsOf t = 1) : Opens P t (Kd.int k) (fun n => (Lit.int k n).wf = true) := by
  refine ⟨hc, fun H enc w base spare held fuel cs x h => ?_⟩
  cases fuel with
  | zero => simp [DataW.trod] at h
  | succ fuel =>
    unfold DataW.trod at h
    rw [hu] at h
    split at h
    all_goals first | (cases h; done) | skip
    all_goals try simp_all
    obtain ⟨⟨rfl, h1⟩, _⟩ := h
    exact ⟨_, rfl, h1⟩
theorem opens_string (hu : P.underlying t = some .string) (hc : P.cellsOf t = 1) : Opens P t Kd.string (fun s => s.size ≤ 9223372036854775807) := by
  refine ⟨hc, fun H enc w base spare held fuel cs x h => ?_⟩
  cases fuel with
  | zero => simp [DataW.trod] at h
  | succ fuel =>
    unfold DataW.trod at h
    rw [hu] at h
    split at h
    all_goals first | (cases h; done) | skip
    all_goals try simp_all
    obtain ⟨h1, _⟩ := h
    simp only [maxLen] at h1
    exact ⟨_, rfl, h1⟩
theorem opens_slice {α : Type} {d : Kd α} {good : α → Prop} {e' : Nat} (hu : P.underlying t = some (.slice e)) (hc : P.cellsOf t = 1) (he : Opens P e d good) : Opens P t (Kd.slice e' d) (fun l => l.length ≤ 9223372036854775807 ∧ ∀ a ∈ l, good a) := by
  refine ⟨hc, fun H enc w base spare held fuel cs x h => ?_⟩
  rcases open_slice hu h with ⟨rfl, _⟩ | ⟨a, len, cap, m, n, D, Pl, rfl, hb, hl, hm, hmm, _, hi⟩
  · exact ⟨[], ⟨none, 0, rfl, Nat.le_refl _, rfl, by simp, fun h0 => absurd h0 (by simp)⟩, by simp, by simp⟩
  · have hlm : len ≤ m := by
      rw [hmm]
      split <;> omega
    have key : ∀ i, i < len → ∃ y cs', w.cells? base (a.add (i * d.sz)) d.sz = some cs' ∧ d.K w y cs' ∧ good y := by
      intro i hil
      obtain ⟨cs', h1, h2⟩ := hi i (by omega)
      rw [he.1] at h1
      obtain ⟨y, hy, hg⟩ := he.2 _ _ _ _ _ _ _ _ _ h2
      exact ⟨y, cs', h1, hy, hg⟩
    clear hi
    have build : ∀ k, k ≤ len → ∃ l : List α, l.length = k ∧ (∀ y ∈ l, good y) ∧ ∀ j p, l[j]? = some p → ∃ c, c.length = d.sz ∧ d.K w p c ∧ ∀ i u, c[i]? = some u → w.cell? (a.add (j * d.sz + i)) = some u := by
      intro k
      induction k with
      | zero => intro _; exact ⟨[], rfl, by simp, fun j p hj => by simp at hj⟩
      | succ k ih =>
        intro hk
        obtain ⟨l, hlen, hgood, hcell⟩ := ih (by omega)
        obtain ⟨y, cs', h1, hy, hg⟩ := key k (by omega)
        refine ⟨l ++ [y], by simp [hlen], ?_, ?_⟩
        · intro z hz
          rcases List.mem_append.1 hz with hz | hz
          · exact hgood z hz
          · rw [List.mem_singleton.1 hz]; exact hg
        · intro j p hj
          by_cases hjk : j < k
          · rw [List.getElem?_append_left (by omega)] at hj
            exact hcell j p hj
          · have hjl : j = k := by
              have := (List.getElem?_eq_some_iff.1 hj).1
              simp [hlen] at this
              omega
            subst hjl
            rw [List.getElem?_append_right (by omega), hlen, Nat.sub_self] at hj
            obtain rfl : y = p := by simpa using hj
            obtain ⟨_, hcl, hat⟩ := World.cells?_some h1
            refine ⟨cs', hcl, hy, fun i u hu => ?_⟩
            have hil : i < d.sz := by rw [← hcl]; exact (List.getElem?_eq_some_iff.1 hu).1
            have := hat i hil
            rw [← Go.Deep.add_add, this, hu]
    obtain ⟨l, hlen, hgood, hcell⟩ := build len (Nat.le_refl _)
    have hmx : maxLen = 9223372036854775807 := rfl
    exact ⟨l, ⟨some a, cap, by rw [hlen], by omega, rfl, by omega, fun _ => ⟨a, rfl, hcell⟩⟩, by omega, hgood⟩
/-- Fields in line from an offset on. -/
def OpensF (P : Program) (fs : List Field) (off : Nat) {α : Type} (d : Kd α) (good : α → Prop) : Prop :=
  ∀ (H : Type) (enc : TypeId × Value → H) (w : World) (base : Nat) (spare : Nat → Bool) (held : Bool) (fuel : Nat) (cs : List Value),
    off + d.sz ≤ cs.length → (∀ f ∈ fs, ∃ x, DataW.trod enc P w base spare held fuel f.type ((cs.drop f.offset).take (P.cellsOf f.type)) = some x) → ∃ a, d.K w a ((cs.drop off).take d.sz) ∧ good a
theorem opensF_one {α : Type} {d : Kd α} {good : α → Prop} {f : Field} {off : Nat} (h : Opens P f.type d good) (ho : f.offset = off) : OpensF P [f] off d good := by
  intro H enc w base spare held fuel cs hl hf
  obtain ⟨x, hx⟩ := hf f List.mem_cons_self
  rw [ho, h.1] at hx
  exact h.2 _ _ _ _ _ _ _ _ _ hx
theorem opensF_cons {α β : Type} {d : Kd α} {d2 : Kd β} {good : α → Prop} {good2 : β → Prop} {f : Field} {fs : List Field} {off : Nat} (h : Opens P f.type d good) (ho : f.offset = off) (h2 : OpensF P fs (off + d.sz) d2 good2) :
    OpensF P (f :: fs) off (Kd.pair d d2) (fun x => good x.1 ∧ good2 x.2) := by
  intro H enc w base spare held fuel cs hl hf
  have hsz : (Kd.pair d d2).sz = d.sz + d2.sz := rfl
  rw [hsz] at hl ⊢
  obtain ⟨x, hx⟩ := hf f List.mem_cons_self
  rw [ho, h.1] at hx
  obtain ⟨a, ha, hg⟩ := h.2 _ _ _ _ _ _ _ _ _ hx
  obtain ⟨b, hb, hg2⟩ := h2 H enc w base spare held fuel cs (by omega) (fun f hf' => hf f (List.mem_cons_of_mem _ hf'))
  refine ⟨(a, b), ⟨_, _, ?_, ha, hb⟩, hg, hg2⟩
  rw [← List.drop_drop, List.take_add]
theorem opens_struct {α β : Type} {d : Kd α} {good : α → Prop} {fs : Array Field} (f : β → α) (g : α → β) (hfg : ∀ a, f (g a) = a) (hu : P.underlying t = some (.struct fs)) (hc : P.cellsOf t = d.sz) (h : OpensF P fs.toList 0 d good) : Opens P t (Kd.iso d f) (fun x => good (f x)) := by
  refine ⟨hc, fun H enc w base spare held fuel cs x hx => ?_⟩
  obtain ⟨xs, n, _, _, hl, hlen, hf⟩ := DataW.trod_struct hu hx
  have hall : ∀ f ∈ fs.toList, ∃ x, DataW.trod enc P w base spare held n f.type ((cs.drop f.offset).take (P.cellsOf f.type)) = some x := by
    intro f hm
    obtain ⟨j, hj, rfl⟩ := List.mem_iff_getElem.1 hm
    have hj' : j < fs.size := by simpa using hj
    have h1 := hf j (fs[j]) (Array.getElem?_eq_getElem hj')
    have hjx : j < xs.length := by omega
    rw [List.getElem?_eq_getElem hjx] at h1
    refine ⟨xs[j], ?_⟩
    have h2 : fs.toList[j] = fs[j] := by simp
    rw [h2]
    exact h1
  obtain ⟨a, ha, hg⟩ := h H enc w base spare held n cs (by omega) hall
  rw [List.drop_zero, List.take_of_length_le (by omega)] at ha
  exact ⟨g a, by show d.K w (f (g a)) cs; rw [hfg]; exact ha, by show good (f (g a)); rw [hfg]; exact hg⟩
end
/-- A whole argument. -/
theorem open_arg {H : Type} {enc : TypeId × Value → H} {P : Program} {t : TypeId} {α : Type} {d : Kd α} {good : α → Prop} (h : Opens P t d good) {w : World} {base : Nat} {spare : Nat → Bool} {held : Bool} {v : Value} {x : DataW H} {ps : List MemPlace}
    (hx : DataW.Trod enc P w base spare held t v x ps) : ∃ a, d.K w a v.cells.toList ∧ good a := by
  obtain ⟨fuel, hf⟩ := hx
  exact h.2 _ _ _ _ _ _ _ _ _ hf
end Go.Proofs.Ythmmleheahkeeaa.Opened
namespace Go.Proofs.Ythmmleheahkeeaa.Base
open Go.RowKit Go.Proofs.YthmmleheahkeeaaW.PrintWords
theorem w64 {n : Int} (h0 : -9223372036854775808 ≤ n) (h1 : n ≤ 9223372036854775807) : wrap64 n = n := by unfold wrap64; omega
theorem w64s {n : Int} {b : Nat} (h0 : 0 ≤ n) (h1 : n < b) (hb : b ≤ 4611686018427387904) : wrap64 (n + 1) = n + 1 := w64 (by omega) (by omega)
section
variable {α β : Type} {g f : Nat → Option α} {r : α}
theorem Ev.of_eq {g f : Nat → Option α} (k : Ev f r) (h : ∀ k, g k = f k) : Ev g r := Ev.congr h k
theorem Ev.pos {c : Prop} [Decidable c] (h : c) (k : Ev g r) : Ev (fun n => if c then g n else f n) r := by simpa only [if_pos h] using k
theorem Ev.neg {c : Prop} [Decidable c] (h : ¬ c) (k : Ev f r) : Ev (fun n => if c then g n else f n) r := by simpa only [if_neg h] using k
theorem Ev.ite {c : Prop} [Decidable c] (h : c → Ev g r) (k : ¬ c → Ev f r) : Ev (fun n => if c then g n else f n) r := by
  by_cases hc : c
  · exact Ev.pos hc (h hc)
  · exact Ev.neg hc (k hc)
theorem Ev.sbind {a : β} {f : Nat → β → Option α} (k : Ev (fun n => f n a) r) : Ev (fun n => (some a).bind (f n)) r := by simpa only [Option.bind_some] using k
theorem Ev.const (r : α) {o : Option α} (h : o = some r) : Ev (fun _ => o) r := ⟨0, fun _ _ => h⟩
end
/-- p holds at i, i + 1, .., n - 1. -/
def allOf (p : Nat → Bool) (i n : Nat) : Bool := (List.range' i (n - i)).all p
theorem allOf_end (p : Nat → Bool) (n : Nat) : allOf p n n = true := by simp [allOf]
theorem allOf_step (p : Nat → Bool) {i n : Nat} (h : i < n) : allOf p i n = (p i && allOf p (i + 1) n) := by
  unfold allOf
  rw [show n - i = (n - (i + 1)) + 1 by omega, List.range'_succ, List.all_cons]
theorem allOf_iff (p : Nat → Bool) (i n : Nat) : allOf p i n = true ↔ ∀ j, i ≤ j → j < n → p j = true := by
  unfold allOf
  rw [List.all_eq_true]
  constructor
  · intro h j h1 h2
    exact h j (by rw [List.mem_range'_1]; omega)
  · intro h j hj
    rw [List.mem_range'_1] at hj
    exact h j hj.1 (by omega)
/-- A loop that asks a test of each index, and ends with 'no' at the first that fails. -/
theorem scan {β : Type} (g : Nat → Int → Option β) (n : Nat) (p : Nat → Bool) (yes no : β)
    (hend : Ev (fun k => g k (n : Int)) yes)
    (hgo : ∀ i : Nat, i < n → p i = true → ∀ r, Ev (fun k => g k ((i : Int) + 1)) r → Ev (fun k => g k (i : Int)) r)
    (hno : ∀ i : Nat, i < n → p i = false → Ev (fun k => g k (i : Int)) no) :
    ∀ d i : Nat, n - i = d → i ≤ n → Ev (fun k => g k (i : Int)) (if allOf p i n = true then yes else no) := by
  intro d
  induction d with
  | zero =>
    intro i hd hi
    have : i = n := by omega
    subst this
    rw [allOf_end, if_pos rfl]
    exact hend
  | succ d ih =>
    intro i hd hi
    rw [allOf_step p (by omega)]
    cases hp : p i with
    | true =>
      rw [Bool.true_and]
      exact hgo i (by omega) hp _ (ih (i + 1) (by omega) (by omega))
    | false =>
      rw [Bool.false_and, if_neg (by decide)]
      exact hno i (by omega) hp
theorem scan0 {β : Type} (g : Nat → Int → Option β) (n : Nat) (p : Nat → Bool) (yes no : β)
    (hend : Ev (fun k => g k (n : Int)) yes)
    (hgo : ∀ i : Nat, i < n → p i = true → ∀ r, Ev (fun k => g k ((i : Int) + 1)) r → Ev (fun k => g k (i : Int)) r)
    (hno : ∀ i : Nat, i < n → p i = false → Ev (fun k => g k (i : Int)) no) :
    Ev (fun k => g k 0) (if allOf p 0 n = true then yes else no) := scan g n p yes no hend hgo hno n 0 rfl (Nat.zero_le _)
theorem Ev.cast {α : Type} {g : Nat → Option α} {r r' : α} (h : Ev g r) (e : r = r') : Ev g r' := e ▸ h
theorem Ev.iteR {α : Type} {g f : Nat → Option α} {r s : α} {c : Prop} [Decidable c] (h : Ev g r) (k : Ev f s) : Ev (fun n => if c then g n else f n) (if c then r else s) := by
  split
  · exact h
  · exact k
theorem bytes_inj {s t : ByteArray} : s.toList = t.toList ↔ s = t := by
  constructor
  · intro h
    rw [ByteArray.toList_eq, ByteArray.toList_eq] at h
    exact ByteArray.ext (by rw [← Array.toList_inj]; exact h)
  · intro h; rw [h]
/-- A proposition as a Bool. -/
noncomputable def tr (p : Prop) : Bool := @decide p (Classical.propDecidable p)
theorem tr_iff {p : Prop} : tr p = true ↔ p := by unfold tr; exact @decide_eq_true_iff p (Classical.propDecidable p)
theorem tr_t {p : Prop} (h : p) : tr p = true := tr_iff.2 h
theorem tr_f {p : Prop} (h : ¬ p) : tr p = false := by
  cases e : tr p with
  | true => exact absurd (tr_iff.1 e) h
  | false => rfl
theorem of_tr_f {p : Prop} (h : tr p = false) : ¬ p := fun k => by rw [tr_t k] at h; cases h
/-- A loop that compares two lists of one length, element by element. -/
theorem eqLoop {α : Type} (g : Nat → Int → Option Bool) (a b : List α) (z : α) (hl : a.length = b.length)
    (hend : Ev (fun k => g k (a.length : Int)) true)
    (hgo : ∀ i : Nat, i < a.length → a.getD i z = b.getD i z → ∀ r, Ev (fun k => g k ((i : Int) + 1)) r → Ev (fun k => g k (i : Int)) r)
    (hno : ∀ i : Nat, i < a.length → a.getD i z ≠ b.getD i z → Ev (fun k => g k (i : Int)) false) :
    Ev (fun k => g k 0) (tr (a = b)) := by
  refine Ev.cast (scan0 g a.length (fun i => tr (a.getD i z = b.getD i z)) true false hend (fun i hi hp => hgo i hi (tr_iff.1 hp)) (fun i hi hp => hno i hi (of_tr_f hp))) ?_
  rw [Bool.eq_iff_iff, tr_iff]
  have : (∀ j, 0 ≤ j → j < a.length → tr (a.getD j z = b.getD j z) = true) ↔ a = b := by
    constructor
    · intro h
      apply List.ext_getElem hl
      intro i h1 h2
      have := tr_iff.1 (h i (Nat.zero_le _) h1)
      rwa [List.getD_eq_getElem?_getD, List.getD_eq_getElem?_getD, List.getElem?_eq_getElem h1, List.getElem?_eq_getElem h2] at this
    · rintro rfl j _ _
      exact tr_t rfl
  rw [← this, ← allOf_iff]
  split <;> simp_all
/-- A loop that fills a list made ahead of it. -/
theorem fillLoop {β : Type} (g : Nat → List β → Int → Option (List β)) (n : Nat) (F : Nat → β)
    (hend : ∀ out : List β, out.length = n → Ev (fun k => g k out (n : Int)) out)
    (hgo : ∀ (i : Nat) (out : List β), i < n → out.length = n → ∀ r, Ev (fun k => g k (out.set i (F i)) ((i : Int) + 1)) r → Ev (fun k => g k out (i : Int)) r) :
    ∀ d i : Nat, n - i = d → i ≤ n → ∀ out : List β, out.length = n → Ev (fun k => g k out (i : Int)) (out.take i ++ (List.range' i (n - i)).map F) := by
  intro d
  induction d with
  | zero =>
    intro i hd hi out ho
    have : i = n := by omega
    subst this
    rw [hd, List.take_of_length_le (by omega)]
    simpa using hend out ho
  | succ d ih =>
    intro i hd hi out ho
    have h := ih (i + 1) (by omega) (by omega) (out.set i (F i)) (by simpa using ho)
    refine Ev.cast (hgo i out (by omega) ho _ h) ?_
    rw [show n - i = (n - (i + 1)) + 1 by omega, List.range'_succ, List.map_cons, List.take_succ_eq_append_getElem (by rw [List.length_set]; omega)]
    simp [List.take_set_of_le]
theorem fill0 {β : Type} (g : Nat → List β → Int → Option (List β)) (n : Nat) (F : Nat → β) (out : List β) (ho : out.length = n)
    (hend : ∀ out : List β, out.length = n → Ev (fun k => g k out (n : Int)) out)
    (hgo : ∀ (i : Nat) (out : List β), i < n → out.length = n → ∀ r, Ev (fun k => g k (out.set i (F i)) ((i : Int) + 1)) r → Ev (fun k => g k out (i : Int)) r) :
    Ev (fun k => g k out 0) ((List.range n).map F) := by
  refine Ev.cast (fillLoop g n F hend hgo n 0 rfl (Nat.zero_le _) out ho) ?_
  simp [List.range_eq_range']
theorem map_range_get {α β : Type} (l : List α) (z : α) (f : α → β) : (List.range l.length).map (fun j => f (l.getD j z)) = l.map f := by
  apply List.ext_getElem (by simp)
  intro i h1 h2
  simp only [List.length_map, List.length_range] at h1
  simp [List.getD_eq_getElem?_getD, List.getElem?_eq_getElem h1]
/-- A loop that counts sizes down: it tells a negative number, or all it saw was small. -/
theorem sizeLoop (g : Nat → Int → Int → Option Int) (n : Nat) (P : Nat → Prop)
    (hend : ∀ a : Int, Ev (fun k => g k a (n : Int)) a)
    (step : ∀ (i : Nat) (a : Int), i < n → 0 ≤ a → a ≤ 1048576 → (Ev (fun k => g k a (i : Int)) (-1)) ∨ ∃ b, 0 ≤ b ∧ b ≤ a ∧ P i ∧ ∀ r, Ev (fun k => g k b ((i : Int) + 1)) r → Ev (fun k => g k a (i : Int)) r) :
    ∀ d i : Nat, n - i = d → i ≤ n → ∀ a : Int, 0 ≤ a → a ≤ 1048576 → ∃ r, Ev (fun k => g k a (i : Int)) r ∧ (0 ≤ r → r ≤ a ∧ ∀ j, i ≤ j → j < n → P j) := by
  intro d
  induction d with
  | zero =>
    intro i hd hi a h0 h1
    have : i = n := by omega
    subst this
    exact ⟨a, hend a, fun _ => ⟨Int.le_refl _, fun j h2 h3 => absurd h3 (by omega)⟩⟩
  | succ d ih =>
    intro i hd hi a h0 h1
    rcases step i a (by omega) h0 h1 with h | ⟨b, hb0, hb1, hP, hk⟩
    · exact ⟨-1, h, fun h => absurd h (by omega)⟩
    · obtain ⟨r, hr, hp⟩ := ih (i + 1) (by omega) (by omega) b hb0 (by omega)
      refine ⟨r, hk r hr, fun h => ⟨by have := (hp h).1; omega, fun j h2 h3 => ?_⟩⟩
      by_cases he : j = i
      · subst he; exact hP
      · exact (hp h).2 j (by omega) h3
/-- A loop that fills a list made ahead of it, and tells more than the list. -/
theorem fillG {β γ : Type} (g : Nat → List β → Int → Option γ) (n : Nat) (F : Nat → List β → β) (fin : List β → γ)
    (hF : ∀ i out out', out.length = n → out'.length = n → (∀ j, i ≤ j → out[j]? = out'[j]?) → F i out = F i out')
    (hend : ∀ out : List β, out.length = n → Ev (fun k => g k out (n : Int)) (fin out))
    (hgo : ∀ (i : Nat) (out : List β), i < n → out.length = n → ∀ r, Ev (fun k => g k (out.set i (F i out)) ((i : Int) + 1)) r → Ev (fun k => g k out (i : Int)) r) :
    ∀ d i : Nat, n - i = d → i ≤ n → ∀ out : List β, out.length = n → Ev (fun k => g k out (i : Int)) (fin (out.take i ++ (List.range' i (n - i)).map (fun j => F j out))) := by
  intro d
  induction d with
  | zero =>
    intro i hd hi out ho
    have : i = n := by omega
    subst this
    rw [hd, List.take_of_length_le (by omega)]
    simpa using hend out ho
  | succ d ih =>
    intro i hd hi out ho
    have h := ih (i + 1) (by omega) (by omega) (out.set i (F i out)) (by simpa using ho)
    refine Ev.cast (hgo i out (by omega) ho _ h) ?_
    congr 1
    rw [show n - i = (n - (i + 1)) + 1 by omega, List.range'_succ, List.map_cons, List.take_succ_eq_append_getElem (by rw [List.length_set]; omega)]
    have e : (List.range' (i + 1) (n - (i + 1))).map (fun j => F j (out.set i (F i out))) = (List.range' (i + 1) (n - (i + 1))).map (fun j => F j out) := by
      apply List.map_congr_left
      intro j hj
      rw [List.mem_range'_1] at hj
      exact hF j _ _ (by simpa using ho) ho (fun q hq => List.getElem?_set_ne (by omega))
    rw [e]
    simp [List.take_set_of_le]
theorem asc_ext : ∀ l m : List Int, l.Pairwise (· < ·) → m.Pairwise (· < ·) → (∀ x, x ∈ l ↔ x ∈ m) → l = m
  | [], [], _, _, _ => rfl
  | [], y :: m, _, _, h => absurd ((h y).2 List.mem_cons_self) (by simp)
  | x :: l, [], _, _, h => absurd ((h x).1 List.mem_cons_self) (by simp)
  | x :: l, y :: m, hl, hm, h => by
    rw [List.pairwise_cons] at hl hm
    have exy : x = y := by
      rcases List.mem_cons.1 ((h x).1 List.mem_cons_self) with h1 | h1
      · exact h1
      · rcases List.mem_cons.1 ((h y).2 List.mem_cons_self) with h2 | h2
        · exact h2.symm
        · have a := hm.1 x h1
          have b := hl.1 y h2
          omega
    subst exy
    congr 1
    refine asc_ext l m hl.2 hm.2 (fun z => ?_)
    constructor
    · intro hz
      rcases List.mem_cons.1 ((h z).1 (List.mem_cons_of_mem _ hz)) with h1 | h1
      · subst h1; have := hl.1 z hz; omega
      · exact h1
    · intro hz
      rcases List.mem_cons.1 ((h z).2 (List.mem_cons_of_mem _ hz)) with h1 | h1
      · subst h1; have := hm.1 z hz; omega
      · exact h1
/-- A number put into an ascending list. -/
def insL (n : Int) : List Int → List Int
  | [] => [n]
  | x :: xs => if x < n then x :: insL n xs else if x = n then x :: xs else n :: x :: xs
theorem mem_insL (n x : Int) : ∀ l : List Int, x ∈ insL n l ↔ x = n ∨ x ∈ l
  | [] => by simp [insL]
  | y :: l => by
    unfold insL
    have ih := mem_insL n x l
    split
    · rw [List.mem_cons, ih, List.mem_cons]
      grind
    · split
      · rename_i h; subst h; rw [List.mem_cons]; grind
      · rw [List.mem_cons]
theorem asc_insL (n : Int) : ∀ l : List Int, l.Pairwise (· < ·) → (insL n l).Pairwise (· < ·)
  | [], _ => by simp [insL]
  | y :: l, h => by
    unfold insL
    have ih := asc_insL n l
    rw [List.pairwise_cons] at h
    split
    · rename_i hy
      rw [List.pairwise_cons]
      refine ⟨fun z hz => ?_, ih h.2⟩
      rcases (mem_insL n z l).1 hz with h1 | h1
      · omega
      · exact h.1 z h1
    · split
      · rw [List.pairwise_cons]; exact h
      · rename_i h1 h2
        rw [List.pairwise_cons]
        refine ⟨fun z hz => ?_, List.pairwise_cons.2 h⟩
        rcases List.mem_cons.1 hz with h3 | h3
        · omega
        · have := h.1 z h3; omega
theorem insL_length (n : Int) : ∀ l : List Int, (insL n l).length ≤ l.length + 1
  | [] => by simp [insL]
  | y :: l => by
    unfold insL
    have ih := insL_length n l
    split
    · simp; omega
    · split
      · simp
      · simp
end Go.Proofs.Ythmmleheahkeeaa.Base
namespace Go.Proofs.Ythmmleheahkeeaa.WordLaw
open Go.RowKit Go.Proofs.YthmmleheahkeeaaW.PrintWords Go.Proofs.Ythmmleheahkeeaa.Base Go.Proofs.Ythmmleheahkeeaa.Q
def lowC (c : Int) : Bool := decide (97 ≤ c) && decide (c ≤ 122)
def bodyC (c : Int) : Bool := lowC c || (decide (48 ≤ c) && decide (c ≤ 57))
def bodyB (s : ByteArray) : Bool := if allOf (fun j => bodyC (bt s j)) 0 s.size = true then decide ((s.size : Int) ≤ 12) else false
def wordB (s : ByteArray) : Bool := if allOf (fun j => lowC (bt s j)) 0 s.size = true then decide (1 ≤ (s.size : Int)) && decide ((s.size : Int) ≤ 4) else false
theorem lowC_t {c : Int} (h : lowC c = true) : 97 ≤ c ∧ c ≤ 122 := by simpa [lowC] using h
theorem lowC_f {c : Int} (h : lowC c = false) : c < 97 ∨ 122 < c := by
  simp [lowC] at h
  omega
theorem in_is (a b c : Int) : impl_in.f a b c = some (decide (b ≤ a) && decide (a ≤ c)) := by
  unfold impl_in.f
  split
  · rename_i h
    have : b ≤ a := h
    simp [this]
  · rename_i h
    have : ¬ b ≤ a := h
    simp [this]
theorem wbt (s : ByteArray) (i : Int) : wrap64 (bt s i) = bt s i := by
  have := bt_range s i
  exact w64 (by omega) (by omega)
theorem impl_body (s : ByteArray) (h : s.size ≤ 4611686018427387903) : Ev (fun k => impl_TreeBody.f k s) (bodyB s) := by
  unfold impl_TreeBody.f bodyB
  refine scan0 (fun k i => impl_TreeBody.l0 k s i) s.size _ _ _ ?_ ?_ ?_
  · exact Ev.step (fun k => by rw [impl_TreeBody.l0, if_neg (by omega)]) (Ev.now _)
  · intro i hi hp r hr
    refine Ev.step (f := fun k => impl_TreeBody.l0 k s ((i : Int) + 1)) (fun k => ?_) hr
    rw [impl_TreeBody.l0, if_pos (by omega), if_pos (by omega), wbt, in_is, w64s (b := s.size) (by omega) (by omega) (by omega)]
    simp only [Option.bind_some, in_is]
    cases hl : lowC (bt s i) with
    | true => rw [lowC] at hl; rw [hl, if_pos rfl]
    | false =>
      have hb : (decide (48 ≤ bt s i) && decide (bt s i ≤ 57)) = true := by simpa [bodyC, hl] using hp
      rw [lowC] at hl
      rw [hl, hb, if_neg (by decide), if_pos rfl]
  · intro i hi hp
    refine Ev.step (f := fun _ => some false) (fun k => ?_) (Ev.now _)
    rw [impl_TreeBody.l0, if_pos (by omega), if_pos (by omega), wbt, in_is]
    have hp' : bodyC (bt s i) = false := hp
    unfold bodyC lowC at hp'
    rw [Bool.or_eq_false_iff] at hp'
    simp only [Option.bind_some, in_is, hp'.1, hp'.2, Bool.false_eq_true, if_false]
theorem impl_word (s : ByteArray) (h : s.size ≤ 4611686018427387903) : Ev (fun k => impl_TreeWord.f k s) (wordB s) := by
  unfold impl_TreeWord.f wordB
  refine scan0 (fun k i => impl_TreeWord.l0 k s i) s.size _ _ _ ?_ ?_ ?_
  · exact Ev.step (fun k => by rw [impl_TreeWord.l0, if_neg (by omega), in_is, Option.bind_some]) (Ev.now _)
  · intro i hi hp r hr
    refine Ev.step (f := fun k => impl_TreeWord.l0 k s ((i : Int) + 1)) (fun k => ?_) hr
    have hp' : lowC (bt s i) = true := hp
    rw [lowC] at hp'
    rw [impl_TreeWord.l0, if_pos (by omega), if_pos (by omega), wbt, in_is, w64s (b := s.size) (by omega) (by omega) (by omega)]
    simp only [Option.bind_some, hp', if_true]
  · intro i hi hp
    refine Ev.step (f := fun _ => some false) (fun k => ?_) (Ev.now _)
    have hp' : lowC (bt s i) = false := hp
    rw [lowC] at hp'
    rw [impl_TreeWord.l0, if_pos (by omega), if_pos (by omega), wbt, in_is]
    simp only [Option.bind_some, hp', Bool.false_eq_true, if_false]
theorem spec_body (s : ByteArray) (h : s.size ≤ 4611686018427387903) : Ev (fun k => spec_TreeBody.f k s) (bodyB s) := by
  unfold spec_TreeBody.f bodyB
  refine scan0 (fun k i => spec_TreeBody.l0 k s i) s.size _ _ _ ?_ ?_ ?_
  · exact Ev.step (fun k => by rw [spec_TreeBody.l0, if_neg (by omega)]) (Ev.now _)
  · intro i hi hp r hr
    refine Ev.step (f := fun k => spec_TreeBody.l0 k s ((i : Int) + 1)) (fun k => ?_) hr
    rw [spec_TreeBody.l0, if_pos (by omega), if_pos (by omega), w64s (b := s.size) (by omega) (by omega) (by omega)]
    simp only [bodyC, lowC, Bool.or_eq_true, Bool.and_eq_true, decide_eq_true_eq] at hp
    repeat' split
    all_goals first | rfl | omega
  · intro i hi hp
    refine Ev.step (f := fun _ => some false) (fun k => ?_) (Ev.now _)
    rw [spec_TreeBody.l0, if_pos (by omega), if_pos (by omega)]
    simp only [bodyC, lowC, Bool.or_eq_false_iff, Bool.and_eq_false_iff, decide_eq_false_iff_not] at hp
    repeat' split
    all_goals first | rfl | omega
theorem spec_word (s : ByteArray) (h : s.size ≤ 4611686018427387903) : Ev (fun k => spec_TreeWord.f k s) (wordB s) := by
  unfold spec_TreeWord.f wordB
  refine scan0 (fun k i => spec_TreeWord.l0 k s i) s.size _ _ _ ?_ ?_ ?_
  · refine Ev.step (f := fun _ => some (decide (1 ≤ (s.size : Int)) && decide ((s.size : Int) ≤ 4))) (fun k => ?_) (Ev.now _)
    rw [spec_TreeWord.l0, if_neg (by omega)]
    split
    · rename_i h1
      have : 1 ≤ (s.size : Int) := h1
      simp [this]
    · rename_i h1
      have : ¬ 1 ≤ (s.size : Int) := h1
      simp only [this, decide_false, Bool.false_and]
  · intro i hi hp r hr
    refine Ev.step (f := fun k => spec_TreeWord.l0 k s ((i : Int) + 1)) (fun k => ?_) hr
    have := lowC_t hp
    rw [spec_TreeWord.l0, if_pos (by omega), if_pos (by omega), if_neg (by omega), if_neg (by omega), w64s (b := s.size) (by omega) (by omega) (by omega)]
  · intro i hi hp
    refine Ev.step (f := fun _ => some false) (fun k => ?_) (Ev.now _)
    have := lowC_f hp
    rw [spec_TreeWord.l0, if_pos (by omega), if_pos (by omega)]
    repeat' split
    all_goals first | rfl | omega
end Go.Proofs.Ythmmleheahkeeaa.WordLaw
namespace Go.Proofs.Ythmmleheahkeeaa.Ops
open Go.RowKit Go.Proofs.YthmmleheahkeeaaW.PrintWords Go.Proofs.Ythmmleheahkeeaa.Base Go.Proofs.Ythmmleheahkeeaa.Q Go.Proofs.Ythmmleheahkeeaa.WordLaw
def smallOp (x : S28) : Prop := x.f2.size ≤ 1048576 ∧ x.f4.size ≤ 1048576 ∧ x.f6.size ≤ 1048576
def cvOp (x : S28) : S31 := ⟨x.f0, x.f1, x.f2, x.f3, x.f4, x.f5, x.f6⟩
theorem size_step {a : Int} {s : Nat} (h0 : 0 ≤ a) (h1 : a ≤ 1048576) (hs : s ≤ 9223372036854775807) : wrap64 (a - (s : Int)) = a - s := w64 (by omega) (by omega)
theorem szOp (a0 a1 a3 a5 : Int) (s2 s4 s6 : ByteArray) (a : Int) (h0 : 0 ≤ a) (h1 : a ≤ 1048576) (z2 : s2.size ≤ 9223372036854775807) (z4 : s4.size ≤ 9223372036854775807) (z6 : s6.size ≤ 9223372036854775807) :
    ∃ r, laws_szOp.f a0 a1 s2 a3 s4 a5 s6 a = some r ∧ (r = -1 ∨ (0 ≤ r ∧ r ≤ a ∧ s2.size ≤ 1048576 ∧ s4.size ≤ 1048576 ∧ s6.size ≤ 1048576)) := by
  unfold laws_szOp.f
  rw [size_step h0 h1 z2]
  by_cases c2 : a - (s2.size : Int) < 0
  · rw [if_pos c2]; exact ⟨-1, rfl, .inl rfl⟩
  · rw [if_neg c2, size_step (a := a - (s2.size : Int)) (by omega) (by omega) z4]
    by_cases c4 : a - (s2.size : Int) - (s4.size : Int) < 0
    · rw [if_pos c4]; exact ⟨-1, rfl, .inl rfl⟩
    · rw [if_neg c4, size_step (a := a - (s2.size : Int) - (s4.size : Int)) (by omega) (by omega) z6]
      by_cases c6 : a - (s2.size : Int) - (s4.size : Int) - (s6.size : Int) < 0
      · rw [if_pos c6]; exact ⟨-1, rfl, .inl rfl⟩
      · rw [if_neg c6]
        exact ⟨_, rfl, .inr ⟨by omega, by omega, by omega, by omega, by omega⟩⟩
theorem szOpS (l : List S28) (hl : l.length ≤ 9223372036854775807) (hs : ∀ y ∈ l, y.f2.size ≤ 9223372036854775807 ∧ y.f4.size ≤ 9223372036854775807 ∧ y.f6.size ≤ 9223372036854775807) (a : Int) (h0 : 0 ≤ a) (h1 : a ≤ 1048576) :
    ∃ r, Ev (fun k => laws_szOpS.f k l a) r ∧ (0 ≤ r → r ≤ a ∧ l.length ≤ 1048576 ∧ ∀ x ∈ l, smallOp x) := by
  unfold laws_szOpS.f
  rw [size_step h0 h1 hl]
  by_cases c : a - (l.length : Int) < 0
  · exact ⟨-1, Ev.pos c (Ev.now _), fun h => absurd h (by omega)⟩
  · obtain ⟨r, hr, hp⟩ := sizeLoop (fun k a i => laws_szOpS.l0 k l a i) l.length (fun j => ∀ x, l[j]? = some x → smallOp x)
      (fun a => Ev.step (fun k => by rw [laws_szOpS.l0, if_neg (by omega)]) (Ev.now _))
      (fun i a hi h0 h1 => by
        have hx : l[i] ∈ l := List.getElem_mem hi
        have e : rd_T28 l (i : Int) = l[i] := by simp [rd_T28, List.getD_eq_getElem?_getD, List.getElem?_eq_getElem hi]
        obtain ⟨z2, z4, z6⟩ := hs _ hx
        obtain ⟨r, hr, hp⟩ := szOp l[i].f0 l[i].f1 l[i].f3 l[i].f5 l[i].f2 l[i].f4 l[i].f6 a h0 h1 z2 z4 z6
        have hstep : ∀ k, laws_szOpS.l0 (k + 1) l a (i : Int) = if r < 0 then some (-1) else laws_szOpS.l0 k l r ((i : Int) + 1) := by
          intro k
          rw [laws_szOpS.l0, if_pos (by omega), if_pos (by omega), e, hr, w64s (b := 4611686018427387904) (by omega) (by omega) (by omega)]
          rfl
        rcases hp with rfl | ⟨p0, p1, p2⟩
        · left
          exact Ev.step (f := fun _ => some (-1)) (fun k => by rw [hstep, if_pos (by decide)]) (Ev.now _)
        · right
          refine ⟨r, p0, p1, ?_, fun q hq => Ev.step (fun k => by rw [hstep, if_neg (by omega)]) hq⟩
          intro x hx'
          rw [List.getElem?_eq_getElem hi] at hx'
          injection hx' with hx'
          rw [← hx']
          exact p2)
      l.length 0 rfl (Nat.zero_le _) (a - (l.length : Int)) (by omega) (by omega)
    refine ⟨r, Ev.neg c hr, fun h => ⟨by have := (hp h).1; omega, by omega, fun x hx => ?_⟩⟩
    obtain ⟨j, hj, rfl⟩ := List.mem_iff_getElem.1 hx
    exact (hp h).2 j (Nat.zero_le _) hj _ (List.getElem?_eq_getElem hj)
theorem toOpS (l : List S28) (hl : l.length ≤ 1048576) : Ev (fun k => laws_toOpS.f k l) (l.map cvOp) := by
  unfold laws_toOpS.f
  refine Ev.pos (by omega) (Ev.pos (by omega) ?_)
  refine Ev.cast (fill0 (fun k out i => laws_toOpS.l0 k l out i) l.length (fun j => cvOp (l.getD j z28)) _ (by simp) ?_ ?_) (map_range_get l _ _)
  · intro out _
    exact Ev.step (fun k => by rw [laws_toOpS.l0, if_neg (by omega)]) (Ev.now _)
  · intro i out hi ho r hr
    refine Ev.step (fun k => ?_) hr
    rw [laws_toOpS.l0, if_pos (by omega), if_pos (by omega), w64s (b := l.length) (by omega) (by omega) (by omega)]
    unfold laws_toOp.f
    simp only [Option.bind_some]
    rw [if_pos (by omega)]
    rfl
theorem op_ext (x y : S31) : (x.f0 = y.f0 ∧ x.f1 = y.f1 ∧ x.f2.toList = y.f2.toList ∧ x.f3 = y.f3 ∧ x.f4.toList = y.f4.toList ∧ x.f5 = y.f5 ∧ x.f6.toList = y.f6.toList) ↔ x = y := by
  simp only [bytes_inj]
  constructor
  · rintro ⟨h0, h1, h2, h3, h4, h5, h6⟩
    cases x; cases y
    simp_all
  · rintro rfl
    simp
theorem eqOp_is (x y : S31) : laws_eqOp.f x.f0 x.f1 x.f2 x.f3 x.f4 x.f5 x.f6 y.f0 y.f1 y.f2 y.f3 y.f4 y.f5 y.f6 = some (tr (x = y)) := by
  have h := op_ext x y
  unfold laws_eqOp.f
  repeat' split
  all_goals (congr 1; symm)
  all_goals first | (rw [tr_iff, ← h]; grind) | (apply tr_f; rw [← h]; grind)
theorem eqOpS (a b : List S31) (hl : a.length ≤ 4611686018427387903) : Ev (fun k => laws_eqOpS.f k a b) (tr (a = b)) := by
  unfold laws_eqOpS.f
  by_cases c : (a.length : Int) = (b.length : Int)
  · refine Ev.pos c (eqLoop (fun k i => laws_eqOpS.l0 k a b i) a b z31 (by omega) ?_ ?_ ?_)
    · exact Ev.step (fun k => by rw [laws_eqOpS.l0, if_neg (by omega)]) (Ev.now _)
    · intro i hi he r hr
      refine Ev.step (fun k => ?_) hr
      have he' : rd_T31 a i = rd_T31 b i := by simpa [rd_T31] using he
      rw [laws_eqOpS.l0, if_pos (by omega), if_pos (by omega), if_pos (by omega), eqOp_is, Option.bind_some, if_pos (tr_t he'), w64s (b := a.length) (by omega) (by omega) (by omega)]
    · intro i hi he
      refine Ev.step (f := fun _ => some false) (fun k => ?_) (Ev.now _)
      have he' : rd_T31 a i ≠ rd_T31 b i := by simpa [rd_T31] using he
      rw [laws_eqOpS.l0, if_pos (by omega), if_pos (by omega), if_pos (by omega), eqOp_is, Option.bind_some, if_neg (fun h => he' (tr_iff.1 h))]
  · refine Ev.neg c (Ev.cast (Ev.now false) ?_)
    symm
    apply tr_f
    rintro rfl
    exact c rfl
end Go.Proofs.Ythmmleheahkeeaa.Ops
namespace Go.Proofs.Ythmmleheahkeeaa.OpOk
open Go.RowKit Go.Proofs.YthmmleheahkeeaaW.PrintWords Go.Proofs.Ythmmleheahkeeaa.Base Go.Proofs.Ythmmleheahkeeaa.Q Go.Proofs.Ythmmleheahkeeaa.WordLaw
def inB (a lo hi : Int) : Bool := decide (lo ≤ a) && decide (a ≤ hi)
def noB (s : ByteArray) : Bool := s.toList == ([] : List UInt8)
/-- Is this operation, by its fields, a valid one? -/
def opB (kind dir : Int) (name : ByteArray) (dir2 : Int) (name2 : ByteArray) (id : Int) (text : ByteArray) : Bool :=
  inB id 1 31 &&
    (if kind = 1 ∨ kind = 2 ∨ kind = 3 then inB dir 0 31 && wordB name && (decide (dir2 = 0) && noB name2) && noB text
    else if kind = 4 then inB dir 0 31 && wordB name && (inB dir2 0 31 && wordB name2) && noB text
    else if kind = 5 then decide (dir = 0) && noB name && (decide (dir2 = 0) && noB name2) && bodyB text
    else false)
theorem l1Id (a : Int) : spec_l1Id.f a = some (inB a 0 31) := by
  unfold spec_l1Id.f inB
  have e : decide (a < 32) = decide (a ≤ 31) := by rw [Bool.eq_iff_iff]; simp; omega
  split
  · rename_i h
    have : 0 ≤ a := h
    simp [this, e]
  · rename_i h
    have : ¬ 0 ≤ a := h
    simp [this]
section
variable {k d d2 i : Int} {n n2 t : ByteArray}
theorem spec4 (x3 x4 x5 x6 x41 : Bool) (ht : t.size ≤ 4611686018427387903) : Ev (fun j => spec_OpOk.j4 j x3 x4 x5 x6 k x41 k d n d2 n2 i t)
    (if x41 = true then x3 && x4 && x6 && noB t else if k = 4 then x3 && x4 && x5 && noB t else if k = 5 then x3 && (decide (d = 0) && noB n) && x6 && bodyB t else false) := by
  refine Ev.step (fun j => by rw [spec_OpOk.j4]) ?_
  refine Ev.iteR ?_ (Ev.iteR ?_ (Ev.iteR ?_ (Ev.now _)))
  · cases x3 <;> cases x4 <;> cases x6 <;> exact Ev.now _
  · cases x3 <;> cases x4 <;> cases x5 <;> exact Ev.now _
  · refine Ev.cast (Ev.iteR (Ev.iteR (Ev.iteR (Ev.iteR (Ev.bind (spec_body t ht) (Ev.now _)) (Ev.now _)) (Ev.now _)) (Ev.now _)) (Ev.now _)) ?_
    cases x3 <;> cases x6 <;> simp [noB]
    all_goals by_cases h : d = 0 <;> by_cases h2 : n.toList = [] <;> simp [h, h2]
theorem spec3 (x3 x4 x5 x6 : Bool) (ht : t.size ≤ 4611686018427387903) : Ev (fun j => spec_OpOk.j3 j x3 x4 x5 x6 k d n d2 n2 i t)
    (if k = 1 ∨ k = 2 ∨ k = 3 then x3 && x4 && x6 && noB t else if k = 4 then x3 && x4 && x5 && noB t else if k = 5 then x3 && (decide (d = 0) && noB n) && x6 && bodyB t else false) := by
  refine Ev.step (fun j => by rw [spec_OpOk.j3]) ?_
  refine Ev.cast (Ev.iteR (spec4 x3 x4 x5 x6 _ ht) (Ev.iteR (spec4 x3 x4 x5 x6 _ ht) (spec4 x3 x4 x5 x6 _ ht))) ?_
  by_cases h1 : k = 1
  · subst h1; simp
  · by_cases h2 : k = 2
    · subst h2; simp
    · by_cases h3 : k = 3
      · subst h3; simp
      · simp [h1, h2, h3]
theorem spec2 (x3 x4 x5 : Bool) (ht : t.size ≤ 4611686018427387903) : Ev (fun j => spec_OpOk.j2 j x3 x4 x5 k d n d2 n2 i t)
    (if k = 1 ∨ k = 2 ∨ k = 3 then x3 && x4 && (decide (d2 = 0) && noB n2) && noB t else if k = 4 then x3 && x4 && x5 && noB t else if k = 5 then x3 && (decide (d = 0) && noB n) && (decide (d2 = 0) && noB n2) && bodyB t else false) := by
  refine Ev.step (fun j => by rw [spec_OpOk.j2]) ?_
  refine Ev.cast (Ev.iteR (spec3 x3 x4 x5 _ ht) (spec3 x3 x4 x5 _ ht)) ?_
  by_cases h : d2 = 0 <;> simp [h, noB]
theorem spec_ok (hn : n.size ≤ 4611686018427387903) (hn2 : n2.size ≤ 4611686018427387903) (ht : t.size ≤ 4611686018427387903) : Ev (fun j => spec_OpOk.f j k d n d2 n2 i t) (opB k d n d2 n2 i t) := by
  unfold spec_OpOk.f
  have main : ∀ x3, Ev (fun j => spec_OpOk.j0 j x3 k d n d2 n2 i t) (if k = 1 ∨ k = 2 ∨ k = 3 then x3 && (inB d 0 31 && wordB n) && (decide (d2 = 0) && noB n2) && noB t else if k = 4 then x3 && (inB d 0 31 && wordB n) && (inB d2 0 31 && wordB n2) && noB t else if k = 5 then x3 && (decide (d = 0) && noB n) && (decide (d2 = 0) && noB n2) && bodyB t else false) := by
    intro x3
    have s1 : ∀ x4, Ev (fun j => spec_OpOk.j1 j x3 x4 k d n d2 n2 i t) (if k = 1 ∨ k = 2 ∨ k = 3 then x3 && x4 && (decide (d2 = 0) && noB n2) && noB t else if k = 4 then x3 && x4 && (inB d2 0 31 && wordB n2) && noB t else if k = 5 then x3 && (decide (d = 0) && noB n) && (decide (d2 = 0) && noB n2) && bodyB t else false) := by
      intro x4
      refine Ev.step (fun j => by rw [spec_OpOk.j1, l1Id, Option.bind_some]) ?_
      refine Ev.cast (Ev.iteR (Ev.bind (spec_word n2 hn2) (spec2 x3 x4 _ ht)) (spec2 x3 x4 _ ht)) ?_
      cases inB d2 0 31 <;> simp
    refine Ev.step (fun j => by rw [spec_OpOk.j0, l1Id, Option.bind_some]) ?_
    refine Ev.cast (Ev.iteR (Ev.bind (spec_word n hn) (s1 _)) (s1 _)) ?_
    cases inB d 0 31 <;> simp
  refine Ev.cast (r := if i ≥ 1 then _ else _) (Ev.iteR (Ev.of_eq (f := fun j => spec_OpOk.j0 j (inB i 0 31) k d n d2 n2 i t) (main _) (fun j => by rw [l1Id, Option.bind_some])) (main false)) ?_
  unfold opB
  have e : inB i 1 31 = (decide (i ≥ 1) && inB i 0 31) := by
    unfold inB
    rw [Bool.eq_iff_iff]
    simp
    omega
  rw [e]
  by_cases h : i ≥ 1
  · rw [if_pos h, decide_eq_true h, Bool.true_and]
    cases inB i 0 31 <;> simp [Bool.and_assoc]
  · rw [if_neg h, decide_eq_false h]
    simp
theorem impl2 (x3 x4 x27 : Bool) (hn2 : n2.size ≤ 4611686018427387903) (ht : t.size ≤ 4611686018427387903) : Ev (fun j => impl_OpOk.j2 j x3 x4 k x27 k d n d2 n2 i t)
    (if x27 = true then x3 && x4 && noB t else if k = 4 then x3 && (inB d2 0 31 && wordB n2) && noB t else if k = 5 then (decide (d = 0) && noB n) && x4 && bodyB t else false) := by
  refine Ev.step (fun j => by rw [impl_OpOk.j2]) ?_
  refine Ev.iteR ?_ (Ev.iteR ?_ (Ev.iteR ?_ (Ev.now _)))
  · cases x3 <;> cases x4 <;> exact Ev.now _
  · refine Ev.cast (Ev.iteR (Ev.of_eq (f := fun j => if inB d2 0 31 = true then (impl_TreeWord.f j n2).bind fun t178 => if t178 = true then some (t.toList == ([] : List UInt8)) else some false else some false) (Ev.iteR (Ev.bind (impl_word n2 hn2) (Ev.iteR (Ev.now _) (Ev.now _))) (Ev.now _)) (fun j => by rw [in_is, Option.bind_some]; rfl)) (Ev.now _)) ?_
    cases x3 <;> cases inB d2 0 31 <;> cases wordB n2 <;> simp [noB]
  · refine Ev.cast (Ev.iteR (Ev.iteR (Ev.iteR (Ev.bind (impl_body t ht) (Ev.now _)) (Ev.now _)) (Ev.now _)) (Ev.now _)) ?_
    by_cases h : d = 0 <;> by_cases h2 : n.toList = [] <;> cases x4 <;> simp [h, h2, noB]
theorem impl1 (x3 x4 : Bool) (hn2 : n2.size ≤ 4611686018427387903) (ht : t.size ≤ 4611686018427387903) : Ev (fun j => impl_OpOk.j1 j x3 x4 k d n d2 n2 i t)
    (if k = 1 ∨ k = 2 ∨ k = 3 then x3 && x4 && noB t else if k = 4 then x3 && (inB d2 0 31 && wordB n2) && noB t else if k = 5 then (decide (d = 0) && noB n) && x4 && bodyB t else false) := by
  refine Ev.step (fun j => by rw [impl_OpOk.j1]) ?_
  refine Ev.cast (Ev.iteR (impl2 x3 x4 _ hn2 ht) (Ev.iteR (impl2 x3 x4 _ hn2 ht) (impl2 x3 x4 _ hn2 ht))) ?_
  by_cases h1 : k = 1
  · subst h1; simp
  · by_cases h2 : k = 2
    · subst h2; simp
    · by_cases h3 : k = 3
      · subst h3; simp
      · simp [h1, h2, h3]
theorem impl_ok (hn : n.size ≤ 4611686018427387903) (hn2 : n2.size ≤ 4611686018427387903) (ht : t.size ≤ 4611686018427387903) : Ev (fun j => impl_OpOk.f j k d n d2 n2 i t) (opB k d n d2 n2 i t) := by
  unfold impl_OpOk.f
  have main : ∀ x3, Ev (fun j => impl_OpOk.j0 j x3 k d n d2 n2 i t) (if k = 1 ∨ k = 2 ∨ k = 3 then x3 && (decide (d2 = 0) && noB n2) && noB t else if k = 4 then x3 && (inB d2 0 31 && wordB n2) && noB t else if k = 5 then (decide (d = 0) && noB n) && (decide (d2 = 0) && noB n2) && bodyB t else false) := by
    intro x3
    refine Ev.step (fun j => by rw [impl_OpOk.j0]) ?_
    refine Ev.cast (Ev.iteR (impl1 x3 _ hn2 ht) (impl1 x3 _ hn2 ht)) ?_
    by_cases h : d2 = 0 <;> simp [h, noB]
  have inner : Ev (fun j => (impl_in.f d 0 31).bind fun t175 => if t175 = true then (impl_TreeWord.f j n).bind fun t176 => impl_OpOk.j0 j t176 k d n d2 n2 i t else impl_OpOk.j0 j false k d n d2 n2 i t) (if k = 1 ∨ k = 2 ∨ k = 3 then (inB d 0 31 && wordB n) && (decide (d2 = 0) && noB n2) && noB t else if k = 4 then (inB d 0 31 && wordB n) && (inB d2 0 31 && wordB n2) && noB t else if k = 5 then (decide (d = 0) && noB n) && (decide (d2 = 0) && noB n2) && bodyB t else false) := by
    refine Ev.of_eq (f := fun j => if inB d 0 31 = true then (impl_TreeWord.f j n).bind fun t176 => impl_OpOk.j0 j t176 k d n d2 n2 i t else impl_OpOk.j0 j false k d n d2 n2 i t) ?_ (fun j => by rw [in_is, Option.bind_some]; rfl)
    refine Ev.cast (Ev.iteR (Ev.bind (impl_word n hn) (main _)) (main _)) ?_
    cases inB d 0 31 <;> simp
  refine Ev.of_eq (f := fun j => if inB i 1 31 = true then (impl_in.f d 0 31).bind fun t175 => if t175 = true then (impl_TreeWord.f j n).bind fun t176 => impl_OpOk.j0 j t176 k d n d2 n2 i t else impl_OpOk.j0 j false k d n d2 n2 i t else some false) ?_ (fun j => by rw [in_is, Option.bind_some]; rfl)
  refine Ev.cast (Ev.iteR inner (Ev.now false)) ?_
  unfold opB
  cases inB i 1 31 <;> simp
end
end Go.Proofs.Ythmmleheahkeeaa.OpOk
namespace Go.Proofs.Ythmmleheahkeeaa.Ids
open Go.RowKit Go.Proofs.YthmmleheahkeeaaW.PrintWords Go.Proofs.Ythmmleheahkeeaa.Base Go.Proofs.Ythmmleheahkeeaa.Q Go.Proofs.Ythmmleheahkeeaa.OpOk
theorem rd_nat (l : List Int) (i : Nat) : rd l (i : Int) = l.getD i 0 := rfl
theorem rd_get {l : List Int} {i : Nat} (h : i < l.length) : rd l (i : Int) = l[i] := by
  rw [rd_nat, List.getD_eq_getElem?_getD, List.getElem?_eq_getElem h]; rfl
theorem eqIntS (a b : List Int) (hl : a.length ≤ 4611686018427387903) : Ev (fun k => laws_eqIntS.f k a b) (tr (a = b)) := by
  unfold laws_eqIntS.f
  by_cases c : (a.length : Int) = (b.length : Int)
  · refine Ev.pos c (eqLoop (fun k i => laws_eqIntS.l0 k a b i) a b 0 (by omega) ?_ ?_ ?_)
    · exact Ev.step (fun k => by rw [laws_eqIntS.l0, if_neg (by omega)]) (Ev.now _)
    · intro i hi he r hr
      refine Ev.step (fun k => ?_) hr
      rw [laws_eqIntS.l0, if_pos (by omega), if_pos (by omega), if_pos (by omega), if_pos (by rw [rd_nat, rd_nat]; exact he), w64s (b := a.length) (by omega) (by omega) (by omega)]
    · intro i hi he
      refine Ev.step (f := fun _ => some false) (fun k => ?_) (Ev.now _)
      rw [laws_eqIntS.l0, if_pos (by omega), if_pos (by omega), if_pos (by omega), if_neg (by rw [rd_nat, rd_nat]; exact he)]
  · refine Ev.neg c (Ev.cast (Ev.now false) ?_)
    symm
    apply tr_f
    rintro rfl
    exact c rfl
def marks (n : Nat) : List Int := (List.range' 0 n).map (fun (j : Nat) => (1 : Int) + j)
theorem marks_length (n : Nat) : (marks n).length = n := by simp [marks]
theorem marks_get {n i : Nat} (h : i < n) : rd (marks n) (i : Int) = 1 + i := by
  rw [rd_get (by rw [marks_length]; exact h)]
  simp [marks]
theorem markIntS (l : List Int) (hl : l.length ≤ 1048576) : Ev (fun k => laws_markIntS.f k l 1) (1 + l.length, marks l.length) := by
  unfold laws_markIntS.f
  have h := fillG (fun k out i => laws_markIntS.l0 k out (1 + i) i) l.length (fun i _ => (1 : Int) + i) (fun out => ((1 : Int) + l.length, out)) (fun _ _ _ _ _ _ => rfl)
    (fun out ho => Ev.step (f := fun _ => some ((1 : Int) + l.length, out)) (fun k => by rw [laws_markIntS.l0, if_neg (by omega)]) (Ev.now _))
    (fun i out hi ho r hr => by
      refine Ev.step (fun k => ?_) hr
      rw [laws_markIntS.l0, if_pos (by omega), if_pos (by omega), w64 (n := 1 + (i : Int) + 1) (by omega) (by omega), w64s (b := l.length) (by omega) (by omega) (by omega)]
      simp only [Int.toNat_natCast]
      rw [show (1 : Int) + (i : Int) + 1 = 1 + ((i : Int) + 1) from by omega])
    l.length 0 rfl (Nat.zero_le _) l rfl
  simpa [marks] using h
theorem heldIntS (n : Nat) (hn : n ≤ 1048576) : Ev (fun k => laws_heldIntS.f k (marks n) 1) (1 + (n : Int)) := by
  unfold laws_heldIntS.f
  have key : ∀ d i : Nat, n - i = d → i ≤ n → Ev (fun k => laws_heldIntS.l0 k (marks n) (1 + (i : Int)) (i : Int)) (1 + (n : Int)) := by
    intro d
    induction d with
    | zero =>
      intro i hd hi
      have : i = n := by omega
      subst this
      exact Ev.step (f := fun _ => some (1 + (i : Int))) (fun k => by rw [laws_heldIntS.l0, if_neg (by rw [marks_length]; omega)]) (Ev.now _)
    | succ d ih =>
      intro i hd hi
      refine Ev.step (fun k => ?_) (ih (i + 1) (by omega) (by omega))
      rw [laws_heldIntS.l0, if_pos (by rw [marks_length]; omega), if_pos (by omega), if_pos (marks_get (by omega)), w64 (n := 1 + (i : Int) + 1) (by omega) (by omega), w64s (b := n) (by omega) (by omega) (by omega)]
      rw [show (1 : Int) + (i : Int) + 1 = 1 + ((i + 1 : Nat) : Int) from by omega]
      rfl
  exact key n 0 rfl (Nat.zero_le _)
theorem mem_idsU (b : List Bool) (n : Nat) (x : Int) : x ∈ idsU b n ↔ ∃ i : Nat, i < n ∧ b.getD i false = true ∧ x = i := by
  unfold idsU
  simp only [List.mem_map, List.mem_filter, List.mem_range]
  constructor
  · rintro ⟨i, ⟨h1, h2⟩, rfl⟩; exact ⟨i, h1, h2, rfl⟩
  · rintro ⟨i, h1, h2, rfl⟩; exact ⟨i, ⟨h1, h2⟩, rfl⟩
theorem asc_idsU (b : List Bool) (n : Nat) : (idsU b n).Pairwise (· < ·) := by
  induction n with
  | zero => simp [idsU]
  | succ n ih =>
    rw [idsU_succ]
    split
    · rw [List.pairwise_append]
      refine ⟨ih, by simp, ?_⟩
      intro x hx y hy
      rw [List.mem_singleton] at hy
      obtain ⟨i, hi, _, rfl⟩ := (mem_idsU b n x).1 hx
      omega
    · exact ih
theorem mem_idsU_set (b : List Bool) (hb : b.length = 32) (q : Int) (h0 : 0 ≤ q) (h1 : q < 32) (x : Int) : x ∈ idsU (b.set q.toNat true) 32 ↔ x = q ∨ x ∈ idsU b 32 := by
  rw [mem_idsU, mem_idsU]
  constructor
  · rintro ⟨i, hi, h2, rfl⟩
    by_cases he : i = q.toNat
    · left; omega
    · right
      refine ⟨i, hi, ?_, rfl⟩
      rw [List.getD_eq_getElem?_getD, List.getElem?_set_ne (by omega)] at h2
      rw [List.getD_eq_getElem?_getD]; exact h2
  · rintro (rfl | ⟨i, hi, h2, rfl⟩)
    · refine ⟨x.toNat, by omega, ?_, by omega⟩
      rw [List.getD_eq_getElem?_getD, List.getElem?_set_self (by omega)]
      rfl
    · refine ⟨i, hi, ?_, rfl⟩
      by_cases he : i = q.toNat
      · rw [he, List.getD_eq_getElem?_getD, List.getElem?_set_self (by omega)]; rfl
      · rw [List.getD_eq_getElem?_getD, List.getElem?_set_ne (by omega), ← List.getD_eq_getElem?_getD]; exact h2
/-- What a valid operation names. -/
def names (kind dir dir2 id : Int) : List Int := id :: ((if kind = 5 then [] else [dir]) ++ (if kind = 4 then [dir2] else []))
theorem op_ranges {k d d2 i : Int} {n n2 t : ByteArray} (h : opB k d n d2 n2 i t = true) : (1 ≤ i ∧ i ≤ 31) ∧ (0 ≤ d ∧ d ≤ 31) ∧ (k = 4 → 0 ≤ d2 ∧ d2 ≤ 31) ∧ (k = 1 ∨ k = 2 ∨ k = 3 ∨ k = 4 ∨ k = 5) := by
  unfold opB inB at h
  simp only [Bool.and_eq_true, decide_eq_true_eq] at h
  obtain ⟨h1, h2⟩ := h
  split at h2
  · simp only [Bool.and_eq_true, decide_eq_true_eq] at h2
    refine ⟨h1, h2.1.1.1, ?_, ?_⟩
    · intro h4; omega
    · omega
  · split at h2
    · simp only [Bool.and_eq_true, decide_eq_true_eq] at h2
      exact ⟨h1, h2.1.1.1, fun _ => h2.1.2.1, by omega⟩
    · split at h2
      · simp only [Bool.and_eq_true, decide_eq_true_eq] at h2
        have := h2.1.1.1
        exact ⟨h1, by omega, fun h4 => by omega, by omega⟩
      · cases h2
theorem nameSet_ok {k d d2 i : Int} {n n2 t : ByteArray} (h : opB k d n d2 n2 i t = true) (b : List Bool) (hb : b.length = 32) :
    ∃ b', nameSet b k d d2 i = some b' ∧ b'.length = 32 ∧ ∀ x, x ∈ idsU b' 32 ↔ x ∈ names k d d2 i ∨ x ∈ idsU b 32 := by
  obtain ⟨r1, r2, r3, r4⟩ := op_ranges h
  unfold nameSet
  rw [if_pos (by omega)]
  by_cases k5 : k = 5
  · rw [if_pos k5]
    refine ⟨_, rfl, by simpa using hb, fun x => ?_⟩
    rw [mem_idsU_set b hb i (by omega) (by omega)]
    have : ¬ k = 4 := by omega
    simp [names, k5]
  · rw [if_neg k5, if_pos (by omega)]
    by_cases k4 : k = 4
    · have := r3 k4
      rw [if_pos k4, if_pos (by omega)]
      refine ⟨_, rfl, by simpa using hb, fun x => ?_⟩
      rw [mem_idsU_set _ (by simpa using hb) d2 (by omega) (by omega), mem_idsU_set _ (by simpa using hb) d (by omega) (by omega), mem_idsU_set b hb i (by omega) (by omega)]
      simp only [names, if_neg k5, if_pos k4, List.mem_cons, List.cons_append, List.nil_append, List.not_mem_nil, or_false]
      grind
    · rw [if_neg k4]
      refine ⟨_, rfl, by simpa using hb, fun x => ?_⟩
      rw [mem_idsU_set _ (by simpa using hb) d (by omega) (by omega), mem_idsU_set b hb i (by omega) (by omega)]
      simp only [names, if_neg k5, if_neg k4, List.mem_cons, List.append_nil, List.not_mem_nil, or_false]
      grind
/-- What an operation names, ascending. -/
def idsOp (k d : Int) (n : ByteArray) (d2 : Int) (n2 : ByteArray) (i : Int) (t : ByteArray) : List Int :=
  if opB k d n d2 n2 i t = true then (if k = 5 then [i] else if k = 4 then insL d2 (insL d [i]) else insL d [i]) else []
theorem mem_idsOp {k d d2 i : Int} {n n2 t : ByteArray} (h : opB k d n d2 n2 i t = true) (x : Int) : x ∈ idsOp k d n d2 n2 i t ↔ x ∈ names k d d2 i := by
  unfold idsOp names
  rw [if_pos h]
  by_cases k5 : k = 5
  · simp [k5]
  · by_cases k4 : k = 4
    · rw [if_neg k5, if_pos k4, mem_insL, mem_insL, if_neg k5, if_pos k4]
      simp
      grind
    · rw [if_neg k5, if_neg k4, mem_insL, if_neg k5, if_neg k4]
      simp
      grind
theorem idsOp_length (k d : Int) (n : ByteArray) (d2 : Int) (n2 : ByteArray) (i : Int) (t : ByteArray) : (idsOp k d n d2 n2 i t).length ≤ 3 := by
  unfold idsOp
  split
  · split
    · simp
    · split
      · have h1 := insL_length d [i]
        have h2 := insL_length d2 (insL d [i])
        simp at h1
        omega
      · have h1 := insL_length d [i]
        simp at h1
        omega
  · simp
theorem idsU_zero : idsU (List.replicate 32 false) 32 = [] := by decide
section
variable {k d d2 i : Int} {n n2 t : ByteArray}
theorem nameF_ok (hn : n.size ≤ 4611686018427387903) (hn2 : n2.size ≤ 4611686018427387903) (ht : t.size ≤ 4611686018427387903) (b : List Bool) (hb : b.length = 32) :
    ∃ b', Ev (fun j => nameF j k d n d2 n2 i t b) b' ∧ b'.length = 32 ∧ ∀ x, x ∈ idsU b' 32 ↔ x ∈ idsOp k d n d2 n2 i t ∨ x ∈ idsU b 32 := by
  cases ho : opB k d n d2 n2 i t with
  | true =>
    obtain ⟨b', h1, h2, h3⟩ := nameSet_ok ho b hb
    refine ⟨b', ?_, h2, fun x => by rw [h3, mem_idsOp ho]⟩
    unfold nameF
    exact Ev.bind (impl_ok hn hn2 ht) (by rw [ho]; exact Ev.pos rfl (Ev.const _ h1))
  | false =>
    refine ⟨b, ?_, hb, fun x => by simp [idsOp, ho]⟩
    unfold nameF
    exact Ev.bind (impl_ok hn hn2 ht) (by rw [ho]; exact Ev.neg (by decide) (Ev.now _))
end
theorem l2Put (l : List Int) (q : Int) (hl : l.length ≤ 1000) : Ev (fun k => spec_l2Put.f k l q) (insL q l) := by
  unfold spec_l2Put.f
  have key : ∀ dd j : Nat, l.length - j = dd → j ≤ l.length → Ev (fun k => spec_l2Put.l0 k l q (j : Int)) (l.take j ++ insL q (l.drop j)) := by
    intro dd
    induction dd with
    | zero =>
      intro j hd hj
      have : j = l.length := by omega
      subst this
      refine Ev.step (f := fun _ => some (l.take l.length ++ insL q (l.drop l.length))) (fun k => ?_) (Ev.now _)
      rw [spec_l2Put.l0, if_neg (by omega), List.drop_length, List.take_length]
      simp only [Option.bind_some, Int.toNat_natCast, List.drop_length, List.take_length, List.append_nil, insL]
      rw [if_pos (by omega), if_pos (by omega), if_pos (by simp), if_pos (by omega), if_pos (by simp; omega)]
    | succ dd ih =>
      intro j hd hj
      have hlt : j < l.length := by omega
      have hr := rd_get hlt
      have hdr : l.drop j = l[j] :: l.drop (j + 1) := List.drop_eq_getElem_cons hlt
      by_cases c1 : l[j] < q
      · have h := ih (j + 1) (by omega) (by omega)
        refine Ev.cast (Ev.step (fun k => ?_) h) ?_
        · rw [spec_l2Put.l0, if_pos (by omega), if_pos (by omega), hr, if_pos c1, w64s (b := l.length) (by omega) (by omega) (by omega)]
          rfl
        · rw [hdr, insL, if_pos c1, List.take_succ_eq_append_getElem hlt]
          simp only [List.append_assoc, List.singleton_append]
      · by_cases c2 : l[j] = q
        · refine Ev.step (f := fun _ => some (l.take j ++ insL q (l.drop j))) (fun k => ?_) (Ev.now _)
          rw [spec_l2Put.l0, if_pos (by omega), if_pos (by omega), hr, if_neg c1, if_pos c2, hdr, insL, if_neg c1, if_pos c2, ← hdr, List.take_append_drop]
        · refine Ev.step (f := fun _ => some (l.take j ++ insL q (l.drop j))) (fun k => ?_) (Ev.now _)
          rw [spec_l2Put.l0, if_pos (by omega), if_pos (by omega), hr, if_neg c1, if_neg c2]
          simp only [Option.bind_some, Int.toNat_natCast, List.nil_append, List.length_nil, List.length_append, List.length_take, List.length_drop, List.length_cons]
          rw [if_pos (by omega), if_pos (by omega), if_pos (by omega), if_pos (by omega), hdr, insL, if_neg c1, if_neg c2, ← hdr]
          simp
  exact key l.length 0 rfl (Nat.zero_le _)
section
variable {k d d2 i : Int} {n n2 t : ByteArray}
theorem spec_ids (hn : n.size ≤ 4611686018427387903) (hn2 : n2.size ≤ 4611686018427387903) (ht : t.size ≤ 4611686018427387903) : Ev (fun j => spec_OpIds.f j k d n d2 n2 i t) (idsOp k d n d2 n2 i t) := by
  unfold spec_OpIds.f
  refine Ev.bind (spec_ok hn hn2 ht) ?_
  cases ho : opB k d n d2 n2 i t with
  | false =>
    refine Ev.neg (by decide) (Ev.cast (Ev.now _) ?_)
    simp [idsOp, ho]
  | true =>
    refine Ev.pos rfl (Ev.sbind ?_)
    unfold idsOp
    rw [if_pos ho]
    by_cases k5 : k = 5
    · rw [if_pos k5]
      exact Ev.pos k5 (Ev.neg (by omega) (Ev.now _))
    · rw [if_neg k5]
      have h1 := insL_length d [i]
      simp at h1
      refine Ev.neg k5 (Ev.bind (l2Put [i] d (by simp)) ?_)
      by_cases k4 : k = 4
      · rw [if_pos k4]
        exact Ev.pos k4 (Ev.bind (l2Put _ d2 (by omega)) (Ev.now _))
      · rw [if_neg k4]
        exact Ev.neg k4 (Ev.now _)
end
end Go.Proofs.Ythmmleheahkeeaa.Ids
namespace Go.Proofs.Ythmmleheahkeeaa.LogIds
open Go.RowKit Go.Proofs.YthmmleheahkeeaaW.PrintWords Go.Proofs.Ythmmleheahkeeaa.Base Go.Proofs.Ythmmleheahkeeaa.Q Go.Proofs.Ythmmleheahkeeaa.OpOk Go.Proofs.Ythmmleheahkeeaa.Ids
/-- The texts of an operation are short enough for a loop's counter. -/
def wideOp (x : S31) : Prop := x.f2.size ≤ 4611686018427387903 ∧ x.f4.size ≤ 4611686018427387903 ∧ x.f6.size ≤ 4611686018427387903
def idsX (x : S31) : List Int := idsOp x.f0 x.f1 x.f2 x.f3 x.f4 x.f5 x.f6
def foldIns (o : List Int) (l : List Int) : List Int := l.foldl (fun o q => insL q o) o
theorem mem_foldIns (x : Int) : ∀ (l o : List Int), x ∈ foldIns o l ↔ x ∈ l ∨ x ∈ o
  | [], o => by simp [foldIns]
  | q :: l, o => by
    have h := mem_foldIns x l (insL q o)
    unfold foldIns at h ⊢
    rw [List.foldl_cons, h, mem_insL, List.mem_cons]
    grind
theorem asc_foldIns : ∀ (l o : List Int), o.Pairwise (· < ·) → (foldIns o l).Pairwise (· < ·)
  | [], _, h => h
  | q :: l, o, h => asc_foldIns l (insL q o) (asc_insL q o h)
theorem foldIns_length : ∀ (l o : List Int), (foldIns o l).length ≤ o.length + l.length
  | [], o => by simp [foldIns]
  | q :: l, o => by
    have h := foldIns_length l (insL q o)
    have h2 := insL_length q o
    unfold foldIns at h ⊢
    rw [List.foldl_cons, List.length_cons]
    omega
def logFold (o : List Int) (l : List S31) : List Int := l.foldl (fun o x => foldIns o (idsX x)) o
theorem mem_logFold (q : Int) : ∀ (l : List S31) (o : List Int), q ∈ logFold o l ↔ (∃ x ∈ l, q ∈ idsX x) ∨ q ∈ o
  | [], o => by simp [logFold]
  | x :: l, o => by
    have h := mem_logFold q l (foldIns o (idsX x))
    unfold logFold at h ⊢
    rw [List.foldl_cons, h, mem_foldIns]
    simp only [List.mem_cons, exists_eq_or_imp]
    grind
theorem asc_logFold : ∀ (l : List S31) (o : List Int), o.Pairwise (· < ·) → (logFold o l).Pairwise (· < ·)
  | [], _, h => h
  | x :: l, o, h => asc_logFold l (foldIns o (idsX x)) (asc_foldIns _ _ h)
theorem rdOp {l : List S31} {i : Nat} (hi : i < l.length) : rd_T31 l (i : Int) = l[i] := by simp [rd_T31, List.getD_eq_getElem?_getD, List.getElem?_eq_getElem hi]
theorem logSet_ok : ∀ (l : List S31), (∀ x ∈ l, wideOp x) → ∀ b : List Bool, b.length = 32 →
    ∃ b', Ev (fun k => logSet k l b) b' ∧ b'.length = 32 ∧ ∀ q, q ∈ idsU b' 32 ↔ (∃ x ∈ l, q ∈ idsX x) ∨ q ∈ idsU b 32
  | [], _, b, hb => ⟨b, Ev.now _, hb, fun q => by simp⟩
  | x :: l, hw, b, hb => by
    have hx := hw x List.mem_cons_self
    obtain ⟨b1, h1, h2, h3⟩ := nameF_ok (k := x.f0) (d := x.f1) (d2 := x.f3) (i := x.f5) hx.1 hx.2.1 hx.2.2 b hb
    obtain ⟨b2, h4, h5, h6⟩ := logSet_ok l (fun y hy => hw y (List.mem_cons_of_mem _ hy)) b1 h2
    refine ⟨b2, Ev.bind h1 h4, h5, fun q => ?_⟩
    rw [h6, h3]
    simp only [List.mem_cons, exists_eq_or_imp]
    unfold idsX
    grind
theorem impl_logIds (l : List S31) (hw : ∀ x ∈ l, wideOp x) : Ev (fun k => impl_LogIds.f k l) (logFold [] (l.take 60)) := by
  obtain ⟨b, h1, h2, h3⟩ := logSet_ok (l.take 60) (fun x hx => hw x (List.mem_of_mem_take hx)) (List.replicate 32 false) (by simp)
  unfold impl_LogIds.f
  refine Ev.bind h1 (Ev.cast (Ev.now _) ?_)
  refine asc_ext _ _ (asc_idsU _ _) (asc_logFold _ _ List.Pairwise.nil) (fun q => ?_)
  rw [h3, mem_logFold, idsU_zero]
theorem spec_logIds (l : List S31) (hl : l.length ≤ 4611686018427387903) (hw : ∀ x ∈ l, wideOp x) : Ev (fun k => spec_LogIds.f k l) (logFold [] (l.take 60)) := by
  unfold spec_LogIds.f
  have inner : ∀ (r : List Int) (i : Int) (ids : List Int), ids.length ≤ 3 → ∀ d j : Nat, ids.length - j = d → j ≤ ids.length → ∀ o : List Int, o.length + d ≤ 1000 →
      Ev (fun k => spec_LogIds.l0 k l (foldIns o (ids.drop j)) (wrap64 (i + 1))) r → Ev (fun k => spec_LogIds.l1 k l o i ids (j : Int)) r := by
    intro r i ids hids d
    induction d with
    | zero =>
      intro j hd hj o ho hr
      have : j = ids.length := by omega
      subst this
      have hr : Ev (fun k => spec_LogIds.l0 k l o (wrap64 (i + 1))) r := by rw [List.drop_length] at hr; exact hr
      exact Ev.step (fun k => by rw [spec_LogIds.l1, if_neg (by omega)]) hr
    | succ d ih =>
      intro j hd hj o ho hr
      have hlt : j < ids.length := by omega
      have h1 := insL_length (rd ids (j : Int)) o
      refine Ev.step (fun k => by rw [spec_LogIds.l1, if_pos (by omega), if_pos (by omega), w64s (b := ids.length) (by omega) (by omega) (by omega)]) (Ev.bind (l2Put o _ (by omega)) ?_)
      refine ih (j + 1) (by omega) (by omega) _ (by omega) ?_
      rw [List.drop_eq_getElem_cons hlt] at hr
      rw [rd_get hlt]
      exact hr
  have key : ∀ d i : Nat, (l.take 60).length - i = d → i ≤ (l.take 60).length → ∀ o : List Int, o.length ≤ 3 * i → Ev (fun k => spec_LogIds.l0 k l o (i : Int)) (logFold o ((l.take 60).drop i)) := by
    intro d
    induction d with
    | zero =>
      intro i hd hi o ho
      have hi' : i = (l.take 60).length := by omega
      have hlen := List.length_take (i := 60) (l := l)
      have e0 : (l.take 60).drop i = [] := List.drop_eq_nil_of_le (by omega)
      rw [e0]
      show Ev (fun k => spec_LogIds.l0 k l o (i : Int)) o
      have fin : Ev (fun k => spec_LogIds.j1 k l o (i : Int) false) o := Ev.step (f := fun _ => some o) (fun k => by rw [spec_LogIds.j1, if_neg (by decide)]) (Ev.now _)
      refine Ev.step (fun k => by rw [spec_LogIds.l0]) (Ev.ite (fun h => ?_) (fun _ => fin))
      rw [decide_eq_false (by omega)]
      exact fin
    | succ d ih =>
      intro i hd hi o ho
      have hlt : i < (l.take 60).length := by omega
      have hlen := List.length_take (i := 60) (l := l)
      have hil : i < l.length := by omega
      have hx := hw _ (List.getElem_mem hil)
      have e60 : (l.take 60)[i] = l[i] := List.getElem_take
      rw [List.drop_eq_getElem_cons hlt, e60]
      have hids : idsX l[i] = idsOp l[i].f0 l[i].f1 l[i].f2 l[i].f3 l[i].f4 l[i].f5 l[i].f6 := rfl
      have h3 : (idsX l[i]).length ≤ 3 := idsOp_length _ _ _ _ _ _ _
      have hf := foldIns_length (idsX l[i]) o
      refine Ev.step (fun k => by rw [spec_LogIds.l0, if_pos (by omega), decide_eq_true (by omega)]) ?_
      refine Ev.step (fun k => by rw [spec_LogIds.j1, if_pos rfl, if_pos (by omega), if_pos (by omega), rdOp hil]) ?_
      refine Ev.bind (spec_ids hx.1 hx.2.1 hx.2.2) ?_
      refine inner _ _ _ h3 (idsX l[i]).length 0 (by omega) (Nat.zero_le _) o (by omega) ?_
      rw [List.drop_zero, w64s (b := l.length) (by omega) (by omega) (by omega)]
      exact ih (i + 1) (by omega) (by omega) _ (by omega)
  exact key _ 0 rfl (Nat.zero_le _) [] (by simp)
theorem logFold_length (l : List S31) : (logFold [] (l.take 60)).length ≤ 180 := by
  have : ∀ (l : List S31) (o : List Int), (logFold o l).length ≤ o.length + 3 * l.length := by
    intro l
    induction l with
    | nil => intro o; simp [logFold]
    | cons x l ih =>
      intro o
      have h := ih (foldIns o (idsX x))
      have h2 := foldIns_length (idsX x) o
      have h3 : (idsX x).length ≤ 3 := idsOp_length _ _ _ _ _ _ _
      unfold logFold at h ⊢
      rw [List.foldl_cons, List.length_cons]
      omega
  have h := this (l.take 60) []
  have h2 := List.length_take (i := 60) (l := l)
  simp at h
  omega
end Go.Proofs.Ythmmleheahkeeaa.LogIds
namespace Go.Proofs.Ythmmleheahkeeaa.Marks
open Go.RowKit Go.Proofs.YthmmleheahkeeaaW.PrintWords Go.Proofs.Ythmmleheahkeeaa.Base Go.Proofs.Ythmmleheahkeeaa.Q
theorem strOf_size (x : Int) : (strOfNums [x]).size = 1 := by simp [strOfNums]; rfl
theorem markText_ex (a : Int) (h0 : 0 ≤ a) (h1 : a ≤ 1000000000000) : ∃ s, Ev (fun k => laws_markText.f k a) s := by
  unfold laws_markText.f
  by_cases hz : a ≤ 0
  · exact ⟨_, Ev.pos hz (Ev.now _)⟩
  · have key : ∀ n : Nat, ∀ (x : Int) (s : ByteArray), x.toNat = n → 0 ≤ x → x ≤ 1000000000000 → s.size + n ≤ 1000000000001 → ∃ r, Ev (fun k => laws_markText.l0 k x s) r := by
      intro n
      induction n using Nat.strongRecOn with
      | _ n ih =>
        intro x s hx hx0 hx1 hs
        by_cases hp : x > 0
        · have hd := Int.tdiv_eq_ediv_of_nonneg (a := x) (b := 10) hx0
          have hlt : x / 10 < x := by omega
          have hw : wrap64 (Int.tdiv x 10) = x / 10 := by rw [hd]; exact w64 (by omega) (by omega)
          obtain ⟨r, hr⟩ := ih (x / 10).toNat (by omega) (x / 10) (strOfNums [(wrap64 (48 + (Int.tmod x 10))) % 256] ++ s) rfl (by omega) (by omega) (by rw [ByteArray.size_append, strOf_size]; omega)
          refine ⟨r, Ev.step (fun k => ?_) hr⟩
          rw [laws_markText.l0, if_pos hp]
          simp only [Option.bind_some]
          rw [if_pos (by rw [strOf_size]; omega), hw]
        · refine ⟨_, Ev.step (f := fun _ => some ((⟨#[109]⟩ : ByteArray) ++ s)) (fun k => ?_) (Ev.now _)⟩
          rw [laws_markText.l0, if_neg hp, if_pos (by omega)]
    obtain ⟨r, hr⟩ := key a.toNat a ⟨#[]⟩ rfl h0 h1 (by show 0 + _ ≤ _; omega)
    exact ⟨r, Ev.neg hz hr⟩
open Classical in
/-- The text of a mark. -/
noncomputable def mt (a : Int) : ByteArray := if h : ∃ s, Ev (fun k => laws_markText.f k a) s then Classical.choose h else ByteArray.empty
theorem markText_is (a : Int) (h0 : 0 ≤ a) (h1 : a ≤ 1000000000000) : Ev (fun k => laws_markText.f k a) (mt a) := by
  have h := markText_ex a h0 h1
  unfold mt
  rw [dif_pos h]
  exact Classical.choose_spec h
/-- An operation marked from a on. -/
noncomputable def mkA (a : Int) : S31 := ⟨a, a + 1, mt (a + 2), a + 3, mt (a + 4), a + 5, mt (a + 6)⟩
/-- Operation number i, marked. -/
noncomputable def mkOp (i : Nat) : S31 := mkA (1 + 7 * (i : Int))
noncomputable def mkOps (n : Nat) : List S31 := (List.range' 0 n).map mkOp
theorem rd_set {l : List S31} {i : Nat} (h : i < l.length) (v : S31) : rd_T31 (l.set i v) (i : Int) = v := by
  unfold rd_T31
  rw [Int.toNat_natCast, List.getD_eq_getElem?_getD, List.getElem?_set_self h]
  rfl
theorem sbind_ {α β : Type} {a : β} {f : Nat → β → Option α} {r : α} (k : Ev (fun n => f n a) r) : Ev (fun n => (some a).bind (f n)) r := by simpa only [Option.bind_some] using k
theorem step_ (out : List S31) (i : Nat) (hi : i < out.length) (a b1 b2 b3 b4 b5 b6 b7 i' : Int) (e1 : wrap64 (a + 1) = b1) (e2 : wrap64 (b1 + 1) = b2) (e3 : wrap64 (b2 + 1) = b3) (e4 : wrap64 (b3 + 1) = b4) (e5 : wrap64 (b4 + 1) = b5) (e6 : wrap64 (b5 + 1) = b6) (e7 : wrap64 (b6 + 1) = b7) (e8 : wrap64 ((i : Int) + 1) = i')
    (h2 : 0 ≤ b2 ∧ b2 ≤ 1000000000000) (h4 : 0 ≤ b4 ∧ b4 ≤ 1000000000000) (h6 : 0 ≤ b6 ∧ b6 ≤ 1000000000000) (r : Int × List S31)
    (hr : Ev (fun k => laws_markOpS.l0 k (out.set i ⟨a, b1, mt b2, b3, mt b4, b5, mt b6⟩) b7 i') r) : Ev (fun k => laws_markOpS.l0 k out a (i : Int)) r := by
  refine Ev.step (fun k => by rw [laws_markOpS.l0, if_pos (by omega), if_pos (by omega), e1, e2, e3, e4, e5, e6, e7, e8]) ?_
  simp only [Int.toNat_natCast]
  refine sbind_ (sbind_ ?_)
  rw [rd_set (by first | exact hi | (simp only [List.length_set]; exact hi)), List.set_set]
  refine Ev.bind (markText_is _ h2.1 h2.2) (sbind_ ?_)
  rw [rd_set (by first | exact hi | (simp only [List.length_set]; exact hi)), List.set_set]
  refine sbind_ ?_
  rw [rd_set (by first | exact hi | (simp only [List.length_set]; exact hi)), List.set_set]
  refine Ev.bind (markText_is _ h4.1 h4.2) (sbind_ ?_)
  rw [rd_set (by first | exact hi | (simp only [List.length_set]; exact hi)), List.set_set]
  refine sbind_ ?_
  rw [rd_set (by first | exact hi | (simp only [List.length_set]; exact hi)), List.set_set]
  refine Ev.bind (markText_is _ h6.1 h6.2) ?_
  rw [rd_set (by first | exact hi | (simp only [List.length_set]; exact hi)), List.set_set]
  exact hr
theorem markOpS (l : List S31) (hl : l.length ≤ 1048576) : Ev (fun k => laws_markOpS.f k l 1) (1 + 7 * (l.length : Int), mkOps l.length) := by
  unfold laws_markOpS.f
  have h := fillG (fun k out i => laws_markOpS.l0 k out (1 + 7 * i) i) l.length (fun i _ => mkOp i) (fun out => ((1 : Int) + 7 * l.length, out)) (fun _ _ _ _ _ _ => rfl)
    (fun out ho => Ev.step (f := fun _ => some ((1 : Int) + 7 * l.length, out)) (fun k => by rw [laws_markOpS.l0, if_neg (by omega)]) (Ev.now _))
    (fun i out hi ho r hr => by
      have hi' : i < l.length := hi
      refine step_ out i (by omega) (1 + 7 * (i : Int)) (1 + 7 * (i : Int) + 1) (1 + 7 * (i : Int) + 2) (1 + 7 * (i : Int) + 3) (1 + 7 * (i : Int) + 4) (1 + 7 * (i : Int) + 5) (1 + 7 * (i : Int) + 6) (1 + 7 * ((i : Int) + 1)) ((i : Int) + 1) ?_ ?_ ?_ ?_ ?_ ?_ ?_ ?_ ?_ ?_ ?_ r hr
      all_goals first | omega | (rw [w64 (by omega) (by omega)]; omega) | (rw [w64 (by omega) (by omega)]))
    l.length 0 rfl (Nat.zero_le _) l rfl
  simpa [mkOps] using h
end Go.Proofs.Ythmmleheahkeeaa.Marks
namespace Go.Proofs.Ythmmleheahkeeaa.Pure
open Go.RowKit Go.Proofs.YthmmleheahkeeaaW.PrintWords Go.Proofs.Ythmmleheahkeeaa.Base Go.Proofs.Ythmmleheahkeeaa.Q Go.Proofs.Ythmmleheahkeeaa.Ops Go.Proofs.Ythmmleheahkeeaa.Ids Go.Proofs.Ythmmleheahkeeaa.LogIds Go.Proofs.Ythmmleheahkeeaa.Marks
theorem FnExactLogIds (l0 : List S28) (hg0 : l0.length ≤ 9223372036854775807 ∧ ∀ y0 ∈ l0, (Lit.int .i64 y0.f0).wf = true ∧ (Lit.int .i64 y0.f1).wf = true ∧ y0.f2.size ≤ 9223372036854775807 ∧ (Lit.int .i64 y0.f3).wf = true ∧ y0.f4.size ≤ 9223372036854775807 ∧ (Lit.int .i64 y0.f5).wf = true ∧ y0.f6.size ≤ 9223372036854775807) :
    ∃ k, laws_FnExactLogIds.f k l0 = some true := by
  refine Ev.rounds (?_ : Ev (fun k => laws_FnExactLogIds.f k l0) true)
  unfold laws_FnExactLogIds.f
  obtain ⟨r0, h0, p0⟩ := szOpS l0 hg0.1 (fun y hy => let ⟨_, _, h2, _, h4, _, h6⟩ := hg0.2 y hy; ⟨h2, h4, h6⟩) 1048576 (by omega) (by omega)
  refine Ev.bind h0 (Ev.ite (fun _ => Ev.now _) (fun c0 => ?_))
  obtain ⟨_, z0, zs⟩ := p0 (by omega)
  have t0 := toOpS l0 z0
  have L0 : (l0.map cvOp).length ≤ 1048576 := by rw [List.length_map]; omega
  have hw : ∀ x ∈ l0.map cvOp, wideOp x := by
    intro x hx
    obtain ⟨y, hy, rfl⟩ := List.mem_map.1 hx
    obtain ⟨a, b, c⟩ := zs y hy
    exact ⟨by show y.f2.size ≤ _; omega, by show y.f4.size ≤ _; omega, by show y.f6.size ≤ _; omega⟩
  have hlen := logFold_length (l0.map cvOp)
  have hi := impl_logIds _ hw
  have hh := heldIntS (logFold [] ((l0.map cvOp).take 60)).length (by omega)
  refine Ev.bind t0 (Ev.bind (spec_logIds _ (by omega) hw) (Ev.bind t0 (Ev.bind hi (Ev.bind (eqIntS _ _ (by omega)) (Ev.pos (tr_t rfl) ?_)))))
  refine Ev.bind t0 (Ev.bind (eqOpS _ _ (by omega)) (Ev.pos (tr_t rfl) (Ev.bind (markOpS _ (by omega)) (Ev.neg (by omega) (Ev.bind (eqIntS _ _ (by omega)) ?_)))))
  rw [tr_t rfl]
  refine Ev.step (fun k => by rw [laws_FnExactLogIds.j0, if_neg (by decide)]) ?_
  refine Ev.bind (markIntS _ (by omega)) (Ev.bind hh (Ev.neg (by omega) (Ev.pos rfl ?_)))
  exact Ev.bind t0 (Ev.bind hi (Ev.bind (eqIntS _ _ (by omega)) (Ev.pos (tr_t rfl) (Ev.bind hh (Ev.neg (by omega) (Ev.pos rfl (Ev.now _)))))))
end Go.Proofs.Ythmmleheahkeeaa.Pure
