/- Part 2 of what the proof of FnExactSlimTexts uses: plain functions with the answers of the Go functions, the proofs that the calls come to them, and plain lemmas. -/
import Derived.Test.YtjcpkplneflleaaVFnExactSlimTexts0
import Derived.Test.YtjcpkplneflleaaVFnExactSlimTexts1
namespace Go.Proofs.Ytjcpkplneflleaa.Q
open Go.RowKit Go.Proofs.YtjcpkplneflleaaW.PrintWords Go.Proofs.YtjcpkplneflleaaW.PrintLast Go.Proofs.YtjcpkplneflleaaW.PrintMore
attribute [local go_sem] max2_int min2_int max_two min_two max_three min_three max_four min_four   -- for this text's walks alone
set_option linter.unusedVariables false
set_option linter.unusedSimpArgs false
mutual
def impl_slimTexts.l0 : Nat → List (S72) → List (S72) → List (S72) → Int → Int → Option ((List (S72)))
  | 0, _, _, _, _, _ => none
  | k + 1, x0, x3, x9, x10, x11 => if x11 < x10 then (if 0 ≤ x11 then (if x11 < (x9.length : Int) then (if 0 ≤ (wrap64 (x11 + 1)) then (if (wrap64 (x11 + 1)) ≤ (x0.length : Int) then ((some (x0.drop ((wrap64 (x11 + 1)) : Int).toNat : List (S72))).bind fun y565 => (impl_slimTexts.l1 k x0 x3 false x9 x10 x11 y565 (y565.length : Int) 0 ((rd_T72 x9 x11).f0) ((rd_T72 x9 x11).f1) ((rd_T72 x9 x11).f2) ((rd_T72 x9 x11).f3) ((rd_T72 x9 x11).f4) ((rd_T72 x9 x11).f5) ((rd_T72 x9 x11).f6))) else (none)) else (none)) else (none)) else (none)) else (some x3)
def impl_slimTexts.l1 : Nat → List (S72) → List (S72) → Bool → List (S72) → Int → Int → List (S72) → Int → Int → Int → Int → ByteArray → Int → ByteArray → Int → ByteArray → Option ((List (S72)))
  | 0, _, _, _, _, _, _, _, _, _, _, _, _, _, _, _, _ => none
  | k + 1, x0, x3, x6, x9, x10, x11, x19, x20, x21, x565000, x565001, x565002, x565003, x565004, x565005, x565006 => if x21 < x20 then (if 0 ≤ x21 then (if x21 < (x19.length : Int) then (if x6 = true then (impl_slimTexts.l1 k x0 x3 true x9 x10 x11 x19 x20 (wrap64 (x21 + 1)) x565000 x565001 x565002 x565003 x565004 x565005 x565006) else (if ((rd_T72 x19 x21).f5) = x565005 then (if ((rd_T72 x19 x21).f0) = 5 then (impl_slimTexts.l1 k x0 x3 true x9 x10 x11 x19 x20 (wrap64 (x21 + 1)) x565000 x565001 x565002 x565003 x565004 x565005 x565006) else (impl_slimTexts.l1 k x0 x3 (((rd_T72 x19 x21).f0) == 3) x9 x10 x11 x19 x20 (wrap64 (x21 + 1)) x565000 x565001 x565002 x565003 x565004 x565005 x565006)) else (impl_slimTexts.l1 k x0 x3 false x9 x10 x11 x19 x20 (wrap64 (x21 + 1)) x565000 x565001 x565002 x565003 x565004 x565005 x565006))) else (none)) else (none)) else (if x565000 = 5 then (if x6 = true then (impl_slimTexts.l0 k x0 x3 x9 x10 (wrap64 (x11 + 1))) else (if x3.length < 1759218604441 then (impl_slimTexts.l0 k x0 (x3 ++ [(⟨x565000, x565001, x565002, x565003, x565004, x565005, x565006⟩ : S72)]) x9 x10 (wrap64 (x11 + 1))) else (none))) else (if x3.length < 1759218604441 then (impl_slimTexts.l0 k x0 (x3 ++ [(⟨x565000, x565001, x565002, x565003, x565004, x565005, x565006⟩ : S72)]) x9 x10 (wrap64 (x11 + 1))) else (none)))
end
def impl_slimTexts.f (k : Nat) (l0 : List (S72)) : Option ((List (S72))) := impl_slimTexts.l0 k l0 ([] : List (S72)) l0 (l0.length : Int) 0
set_option maxHeartbeats 8000000 in
set_option maxRecDepth 100000 in
theorem impl_slimTexts.calls (k : Nat) (A0 : Option Addr) (c0 : Nat) (l0 : List (S72)) (r : List (S72)) (w : World) (hr0 : Kd.C k72 w A0 l0.length l0) (hc0 : l0.length ≤ c0) (h : impl_slimTexts.f k l0 = some r) :
    Calls Try.prog 96 #[.slice A0 l0.length c0] w fun e w' => ∃ v0_ : Value, e = .returned (v0_) ∧ Kd.R k72 72 w' w.heap.size (fun _ => True) v0_ r ∧ Below w.heap.size w w' := by
  have hu72 := Try.underlying72
  have HR0 := Aside0.mk hr0
  have HC0 := Aside0.mk hc0
  clear hr0 hc0
  have HB := Aside0.mk (Below.refl w.heap.size w)
  have H : (impl_slimTexts.l0 k l0 ([] : List (S72)) l0 (l0.length : Int) 0) = some r := h
  clear h
  have H' := Aside0.mk H
  clear H
  go_enter Try.func96, Try.ntmps96
  go_wp2
  go_loopg [3, 11] k (fun kq v3 v11 w' => ∃ (x3_1 : List (S72)) (x11_1 : Int), v11 = .int .i64 x11_1 ∧ Aside0 (impl_slimTexts.l0 kq l0 x3_1 l0 (l0.length : Int) x11_1 = some r) ∧ Aside0 (kq ≤ k) ∧ Aside0 (Kd.R k72 72 w' w.heap.size (fun _ => True) v3 x3_1) ∧ Aside0 (Below w.heap.size w w'))
  case atStart => exact ⟨(([] : List (S72))), (0), (by first | rfl | (simp; done) | (simp [*]; done)), H', ⟨Nat.le_refl _⟩, ⟨by first | exact Kd.R_nil _ _ _ _ _ | exact Kd.N_nil _ _ _ _ _ | exact Kd.V_nil _ _ _ _ _ | exact Kd.Q_nil _ _ _ _ _ | exact Kd.S_nil _ _ _ _ _⟩, ⟨by repeat (first | (with_reducible first | exact HB.out | apply below_alloc | apply pw_below_drewN | apply below_drew1) | exact HB.out)⟩⟩
  case round =>
    clear H'
    obtain ⟨x3_1, x11_1, rfl, HA, HK1, HO_3, HB⟩ := hrel
    cases gk with
    | zero => exact absurd HA.out (by simp [impl_slimTexts.l0])
    | succ k1 =>
      have H := HA.out
      clear HA
      simp only [impl_slimTexts.l0] at H
      by_cases c2 : x11_1 < (l0.length : Int)
      · rw [if_pos c2] at H
        have c2b0 : decide (x11_1 < (l0.length : Int)) = true := decide_eq_true c2
        clear c2
        by_cases c3 : 0 ≤ x11_1
        · rw [if_pos c3] at H
          have c3b0 : decide (0 ≤ x11_1) = true := decide_eq_true c3
          clear c3
          by_cases c4 : x11_1 < (l0.length : Int)
          · rw [if_pos c4] at H
            have c4b0 : decide (x11_1 < (l0.length : Int)) = true := decide_eq_true c4
            clear c4
            obtain ⟨ji5, hji5⟩ : ∃ j_ : Int, (wrap64 (x11_1 + 1)) = j_ := ⟨_, rfl⟩
            replace H : (if 0 ≤ (ji5) then (if (ji5) ≤ (l0.length : Int) then ((some (l0.drop ((ji5) : Int).toNat : List (S72))).bind fun y565 => (impl_slimTexts.l1 k1 l0 x3_1 false l0 (l0.length : Int) x11_1 y565 (y565.length : Int) 0 ((rd_T72 l0 x11_1).f0) ((rd_T72 l0 x11_1).f1) ((rd_T72 l0 x11_1).f2) ((rd_T72 l0 x11_1).f3) ((rd_T72 l0 x11_1).f4) ((rd_T72 l0 x11_1).f5) ((rd_T72 l0 x11_1).f6))) else (none)) else (none)) = some r := by first | (rw [hji5] at H; exact H) | (simp only [hji5] at H ⊢; exact H)
            have hji5w : (IntKind.i64.wrap (x11_1 + 1)) = ji5 := (i64_w _).trans hji5
            by_cases c6 : 0 ≤ (ji5)
            · rw [if_pos c6] at H
              have c6b0 := eq_true c6
              have c6b1 : decide (0 ≤ (ji5)) = true := decide_eq_true c6
              clear c6
              by_cases c7 : (ji5) ≤ (l0.length : Int)
              · rw [if_pos c7] at H
                have c7b0 := eq_true c7
                have c7b1 : decide ((ji5) ≤ (l0.length : Int)) = true := decide_eq_true c7
                clear c7
                obtain ⟨y565, hy565⟩ : ∃ y_ : List (S72), y_ = (l0.drop ((ji5) : Int).toNat) := ⟨_, rfl⟩
                replace H : (impl_slimTexts.l1 k1 l0 x3_1 false l0 (l0.length : Int) x11_1 y565 (y565.length : Int) 0 ((rd_T72 l0 x11_1).f0) ((rd_T72 l0 x11_1).f1) ((rd_T72 l0 x11_1).f2) ((rd_T72 l0 x11_1).f3) ((rd_T72 l0 x11_1).f4) ((rd_T72 l0 x11_1).f5) ((rd_T72 l0 x11_1).f6)) = some r := by first | (rw [hy565]; with_reducible exact H) | (have H2_ := (Option.bind_some _ _).symm.trans H; rw [hy565]; with_reducible exact H2_) | (have H2_ := (Option.bind_some _ _).symm.trans H; with_reducible exact H2_) | with_reducible exact H | (rw [hy565]; exact H) | exact H
                have Ny565 := Aside0.mk hy565
                clear hy565
                have H' := Aside0.mk H
                clear H
                have p563 : 0 ≤ (x11_1 : Int) := of_decide_eq_true (by first | (with_reducible assumption) | assumption)
                have q563 : x11_1 < (l0.length : Int) := of_decide_eq_true (by first | (with_reducible assumption) | assumption)
                obtain ⟨ad563, e563, hx563_0, hx563_1, hx563_2, hx563_3, hx563_4, hx563_5, hx563_6⟩ := at_T72 HR0.out x11_1 p563 q563
                cases e563
                replace hx563_0 := (HB.out.cell (World.block_lt_of_cell? w _ hx563_0)).trans hx563_0
                replace hx563_1 := (HB.out.cell (World.block_lt_of_cell? w _ hx563_1)).trans hx563_1
                replace hx563_2 := (HB.out.cell (World.block_lt_of_cell? w _ hx563_2)).trans hx563_2
                replace hx563_3 := (HB.out.cell (World.block_lt_of_cell? w _ hx563_3)).trans hx563_3
                replace hx563_4 := (HB.out.cell (World.block_lt_of_cell? w _ hx563_4)).trans hx563_4
                replace hx563_5 := (HB.out.cell (World.block_lt_of_cell? w _ hx563_5)).trans hx563_5
                replace hx563_6 := (HB.out.cell (World.block_lt_of_cell? w _ hx563_6)).trans hx563_6
                replace p563 := eq_true p563
                replace q563 := eq_true q563
                go_wp2_with (first | ((with_reducible refine gate_dst (N := 5) rfl ?_); refine box_event ?hg (N := 5) ?hd (cs := #[.int .i64 0, .int .i64 0, .string (⟨#[]⟩ : ByteArray), .int .i64 0, .string (⟨#[]⟩ : ByteArray), .int .i64 0, .string (⟨#[]⟩ : ByteArray)]) (t := 72) ?hr ?_; (case hd => rfl); (case hg => rfl); (case hr => first | (go_simp; done) | (go_simp; rfl)); intro gb564 hg w8 hbox hb; have n0_ := Aside0.mk (Kd.R_below (Kd.R_elderB (by (with_reducible repeat (first | apply Kd.R_alloc | apply Kd.R_drewN | apply Kd.R_drew)); exact HO_3.out) gb564 (Nat.le_of_eq hg.symm)) hb); have n1_ := Aside0.mk (below_step (by repeat (first | (with_reducible first | exact HB.out | apply below_alloc | apply pw_below_drewN | apply below_drew1) | exact HB.out)) hb); have n2_ := Aside0.mk (hbox); have n3_ := Aside0.mk ((by rw [hg]; exact (below_size (by repeat (first | (with_reducible first | exact HB.out | apply below_alloc | apply pw_below_drewN | apply below_drew1) | exact HB.out))) : w.heap.size ≤ gb564)); have n4_ := Aside0.mk ((by rw [hg]; exact (below_size (by repeat (first | (with_reducible first | exact HB.out | apply below_alloc | apply pw_below_drewN | apply below_drew1) | exact HB.out))) : w.heap.size ≤ gb564)); clear HO_3; clear HB; have HO_3 := n0_; have HB := n1_; have BK564 := n2_; have GW564 := n3_; have GE564 := n4_; clear n0_ n1_ n2_ n3_ n4_; clear hb hbox hg; have hcz9_0 : w8.cell? ⟨gb564, 0, none⟩ = some (.int .i64 0) := (blk_cell BK564.out 0).trans rfl; have hcz9_1 : w8.cell? ⟨gb564, 1, none⟩ = some (.int .i64 0) := (blk_cell BK564.out 1).trans rfl; have hcz9_2 : w8.cell? ⟨gb564, 2, none⟩ = some (.string (⟨#[]⟩ : ByteArray)) := (blk_cell BK564.out 2).trans rfl; have hcz9_3 : w8.cell? ⟨gb564, 3, none⟩ = some (.int .i64 0) := (blk_cell BK564.out 3).trans rfl; have hcz9_4 : w8.cell? ⟨gb564, 4, none⟩ = some (.string (⟨#[]⟩ : ByteArray)) := (blk_cell BK564.out 4).trans rfl; have hcz9_5 : w8.cell? ⟨gb564, 5, none⟩ = some (.int .i64 0) := (blk_cell BK564.out 5).trans rfl; have hcz9_6 : w8.cell? ⟨gb564, 6, none⟩ = some (.string (⟨#[]⟩ : ByteArray)) := (blk_cell BK564.out 6).trans rfl; have hfz9_0 := blk_frozen BK564.out 0; have hfz9_1 := blk_frozen BK564.out 1; have hfz9_2 := blk_frozen BK564.out 2; have hfz9_3 := blk_frozen BK564.out 3; have hfz9_4 := blk_frozen BK564.out 4; have hfz9_5 := blk_frozen BK564.out 5; have hfz9_6 := blk_frozen BK564.out 6) | ((with_reducible refine gate_store (t := 72) (p := 5) rfl ?_); refine store_event (t := 72) (p := 5) (v := ?vo_w10) (w1 := (((((((w8.setCell ⟨gb564, 0, none⟩ (.int .i64 ((rd_T72 l0 x11_1).f0))).setCell ⟨gb564, 1, none⟩ (.int .i64 ((rd_T72 l0 x11_1).f1))).setCell ⟨gb564, 2, none⟩ (.string ((rd_T72 l0 x11_1).f2))).setCell ⟨gb564, 3, none⟩ (.int .i64 ((rd_T72 l0 x11_1).f3))).setCell ⟨gb564, 4, none⟩ (.string ((rd_T72 l0 x11_1).f4))).setCell ⟨gb564, 5, none⟩ (.int .i64 ((rd_T72 l0 x11_1).f5))).setCell ⟨gb564, 6, none⟩ (.string ((rd_T72 l0 x11_1).f6)))) ?hg ?ho ?hn ?hr ?_; (case ho => rfl); (case hg => rfl); (case hn => rfl); (case hr => first | (go_simp; done) | (go_simp; rfl)); intro w10 hw; have n0_ : Aside0 (Kd.R k72 72 w10 w.heap.size (fun k_ => k_ ≠ gb564) u3 x3_1) := ⟨(by rw [hw]; exact (by (with_reducible repeat (first | apply Kd.R_alloc | apply Kd.R_drewN | apply Kd.R_drew)); exact Kd.R_mono (Kd.R_far (p := ⟨gb564, 6, none⟩) (Kd.R_far (p := ⟨gb564, 5, none⟩) (Kd.R_far (p := ⟨gb564, 4, none⟩) (Kd.R_far (p := ⟨gb564, 3, none⟩) (Kd.R_far (p := ⟨gb564, 2, none⟩) (Kd.R_far (p := ⟨gb564, 1, none⟩) (Kd.R_far (p := ⟨gb564, 0, none⟩) (Kd.R_mono HO_3.out (fun k_ hk => (⟨hk, hk.2⟩ : _ ∧ k_ ≠ gb564))) (fun _ hk => hk.2) (.int .i64 ((rd_T72 l0 x11_1).f0))) (fun _ hk => hk.2) (.int .i64 ((rd_T72 l0 x11_1).f1))) (fun _ hk => hk.2) (.string ((rd_T72 l0 x11_1).f2))) (fun _ hk => hk.2) (.int .i64 ((rd_T72 l0 x11_1).f3))) (fun _ hk => hk.2) (.string ((rd_T72 l0 x11_1).f4))) (fun _ hk => hk.2) (.int .i64 ((rd_T72 l0 x11_1).f5))) (fun _ hk => hk.2) (.string ((rd_T72 l0 x11_1).f6))) (fun _ hk => hk.1.2)))⟩; have n1_ : Aside0 (w10.heap[gb564]? = some (.cells #[.int .i64 ((rd_T72 l0 x11_1).f0), .int .i64 ((rd_T72 l0 x11_1).f1), .string ((rd_T72 l0 x11_1).f2), .int .i64 ((rd_T72 l0 x11_1).f3), .string ((rd_T72 l0 x11_1).f4), .int .i64 ((rd_T72 l0 x11_1).f5), .string ((rd_T72 l0 x11_1).f6)] 72 (0, 0))) := ⟨(by rw [hw]; exact (by (with_reducible repeat (first | refine blk_drewN ?_ _ | refine blk_drew ?_ | refine blk_alloc ?_ _)); refine blk_put (cs := #[.int .i64 ((rd_T72 l0 x11_1).f0), .int .i64 ((rd_T72 l0 x11_1).f1), .string ((rd_T72 l0 x11_1).f2), .int .i64 ((rd_T72 l0 x11_1).f3), .string ((rd_T72 l0 x11_1).f4), .int .i64 ((rd_T72 l0 x11_1).f5), .string (⟨#[]⟩ : ByteArray)]) ?_ 6 _ rfl; (with_reducible repeat (first | refine blk_drewN ?_ _ | refine blk_drew ?_ | refine blk_alloc ?_ _)); refine blk_put (cs := #[.int .i64 ((rd_T72 l0 x11_1).f0), .int .i64 ((rd_T72 l0 x11_1).f1), .string ((rd_T72 l0 x11_1).f2), .int .i64 ((rd_T72 l0 x11_1).f3), .string ((rd_T72 l0 x11_1).f4), .int .i64 0, .string (⟨#[]⟩ : ByteArray)]) ?_ 5 _ rfl; (with_reducible repeat (first | refine blk_drewN ?_ _ | refine blk_drew ?_ | refine blk_alloc ?_ _)); refine blk_put (cs := #[.int .i64 ((rd_T72 l0 x11_1).f0), .int .i64 ((rd_T72 l0 x11_1).f1), .string ((rd_T72 l0 x11_1).f2), .int .i64 ((rd_T72 l0 x11_1).f3), .string (⟨#[]⟩ : ByteArray), .int .i64 0, .string (⟨#[]⟩ : ByteArray)]) ?_ 4 _ rfl; (with_reducible repeat (first | refine blk_drewN ?_ _ | refine blk_drew ?_ | refine blk_alloc ?_ _)); refine blk_put (cs := #[.int .i64 ((rd_T72 l0 x11_1).f0), .int .i64 ((rd_T72 l0 x11_1).f1), .string ((rd_T72 l0 x11_1).f2), .int .i64 0, .string (⟨#[]⟩ : ByteArray), .int .i64 0, .string (⟨#[]⟩ : ByteArray)]) ?_ 3 _ rfl; (with_reducible repeat (first | refine blk_drewN ?_ _ | refine blk_drew ?_ | refine blk_alloc ?_ _)); refine blk_put (cs := #[.int .i64 ((rd_T72 l0 x11_1).f0), .int .i64 ((rd_T72 l0 x11_1).f1), .string (⟨#[]⟩ : ByteArray), .int .i64 0, .string (⟨#[]⟩ : ByteArray), .int .i64 0, .string (⟨#[]⟩ : ByteArray)]) ?_ 2 _ rfl; (with_reducible repeat (first | refine blk_drewN ?_ _ | refine blk_drew ?_ | refine blk_alloc ?_ _)); refine blk_put (cs := #[.int .i64 ((rd_T72 l0 x11_1).f0), .int .i64 0, .string (⟨#[]⟩ : ByteArray), .int .i64 0, .string (⟨#[]⟩ : ByteArray), .int .i64 0, .string (⟨#[]⟩ : ByteArray)]) ?_ 1 _ rfl; (with_reducible repeat (first | refine blk_drewN ?_ _ | refine blk_drew ?_ | refine blk_alloc ?_ _)); refine blk_put (cs := #[.int .i64 0, .int .i64 0, .string (⟨#[]⟩ : ByteArray), .int .i64 0, .string (⟨#[]⟩ : ByteArray), .int .i64 0, .string (⟨#[]⟩ : ByteArray)]) ?_ 0 _ rfl; (with_reducible repeat (first | refine blk_drewN ?_ _ | refine blk_drew ?_ | refine blk_alloc ?_ _)); exact BK564.out))⟩; have n2_ : Aside0 (Below w.heap.size w w10) := ⟨(by rw [hw]; exact (by repeat (first | (with_reducible first | exact HB.out | apply below_alloc | apply pw_below_drewN | apply below_drew1 | refine below_set ?_ GE564.out) | exact HB.out)))⟩; clear hw; clear HO_3; clear BK564; clear HB; have HO_3 := n0_; have BK564 := n1_; have HB := n2_; clear n0_ n1_ n2_; have q11 : ((ji5) : Int) ≤ ((l0.length : Int) : Int) := of_decide_eq_true (by first | (with_reducible assumption) | assumption); obtain ⟨i011, hi011, _, hsz11, _⟩ := info_parts info72; have hroom11 : l0.length ≤ c0 := HC0.out; have hC11 : Kd.C k72 _ (some ad563) l0.length l0 := HR0.out; have q011 : (0 : Int) ≤ ((ji5) : Int) := of_decide_eq_true (by first | (with_reducible assumption) | assumption); have hcut11 := cut_from (P := Try.prog) 34 72 .i64 Try.underlying34 hi011 7 hsz11 (some ad563) l0.length c0 (ji5) q011 q11; have hr11 := Kd.C_drop (m := ((ji5) : Int).toNat) (c := c0) hC11 (by omega) hroom11; obtain ⟨A11, hA11⟩ : ∃ A1, A1 = (if c0 = ((ji5) : Int).toNat then (some ad563) else ((some ad563) : Option Addr).map (·.add (((ji5) : Int).toNat * 7))) := ⟨_, rfl⟩; obtain ⟨c11, hc11⟩ : ∃ c1, c1 = c0 - ((ji5) : Int).toNat := ⟨_, rfl⟩; have hy11 : y565.length = l0.length - ((ji5) : Int).toNat := (by rw [Ny565.out, List.length_drop] <;> omega); rw [show (l0).drop ((ji5) : Int).toNat = y565 from Ny565.out.symm] at hr11; replace hr11 : Kd.C k72 _ A11 y565.length y565 := (by rw [hA11]; exact hr11); rw [← hy11, ← hA11, ← hc11] at hcut11; have HR568 := Aside0.mk hr11; have HC568 := Aside0.mk (show y565.length ≤ c11 from by rw [hy11, hc11]; exact Nat.sub_le_sub_right hroom11 _); clear hr11 hC11 hroom11 hi011 hsz11 hc11; have KY11 := Aside0.mk hy11; have KA11 := Aside0.mk hA11; clear hy11 hA11; replace q11 := eq_true q11))
                go_loopg [6, 21] k1 (fun kq v6 v21 w' => ∃ (x6_2 : Bool) (x21_2 : Int), v6 = .bool x6_2 ∧ v21 = .int .i64 x21_2 ∧ Aside0 (impl_slimTexts.l1 kq l0 x3_1 x6_2 l0 (l0.length : Int) x11_1 y565 (y565.length : Int) x21_2 ((rd_T72 l0 x11_1).f0) ((rd_T72 l0 x11_1).f1) ((rd_T72 l0 x11_1).f2) ((rd_T72 l0 x11_1).f3) ((rd_T72 l0 x11_1).f4) ((rd_T72 l0 x11_1).f5) ((rd_T72 l0 x11_1).f6) = some r) ∧ Aside0 (kq ≤ k1) ∧ Aside0 (Kd.R k72 72 w' w.heap.size (fun k_ => k_ ≠ gb564) u3 x3_1) ∧ Aside0 (w'.heap[gb564]? = some (.cells #[.int .i64 ((rd_T72 l0 x11_1).f0), .int .i64 ((rd_T72 l0 x11_1).f1), .string ((rd_T72 l0 x11_1).f2), .int .i64 ((rd_T72 l0 x11_1).f3), .string ((rd_T72 l0 x11_1).f4), .int .i64 ((rd_T72 l0 x11_1).f5), .string ((rd_T72 l0 x11_1).f6)] 72 (0, 0))) ∧ Aside0 (Below w.heap.size w w'))
                case atStart => exact ⟨(false), (0), (by first | rfl | (simp; done) | (simp [*]; done)), (by first | rfl | (simp; done) | (simp [*]; done)), H', ⟨Nat.le_refl _⟩, ⟨by (with_reducible repeat (first | apply Kd.R_alloc | apply Kd.R_drewN | apply Kd.R_drew)); exact HO_3.out⟩, ⟨by (with_reducible repeat (first | refine blk_drewN ?_ _ | refine blk_drew ?_ | refine blk_alloc ?_ _)); exact BK564.out⟩, ⟨by repeat (first | (with_reducible first | exact HB.out | apply below_alloc | apply pw_below_drewN | apply below_drew1 | refine below_set ?_ GE564.out) | exact HB.out)⟩⟩
                case round =>
                  clear H'
                  try clear c1
                  try clear q1
                  try clear c2
                  try clear c2b0
                  try clear p2
                  try clear c3
                  try clear c3b0
                  try clear c4
                  try clear c4b0
                  try clear p5
                  try clear q5
                  try clear hx5
                  try clear c6
                  try clear c6b0
                  try clear c6b1
                  try clear p6
                  try clear c7
                  try clear c7b0
                  try clear c7b1
                  try clear c9
                  try clear c11
                  try clear q11
                  try clear hcz9_0
                  try clear hcz9_1
                  try clear hcz9_2
                  try clear hcz9_3
                  try clear hcz9_4
                  try clear hcz9_5
                  try clear hcz9_6
                  try clear hfz9_0
                  try clear hfz9_1
                  try clear hfz9_2
                  try clear hfz9_3
                  try clear hfz9_4
                  try clear hfz9_5
                  try clear hfz9_6
                  try clear hx563_0
                  try clear hx563_1
                  try clear hx563_2
                  try clear hx563_3
                  try clear hx563_4
                  try clear hx563_5
                  try clear hx563_6
                  try clear p563
                  try clear q011
                  try clear q11
                  try clear q563
                  obtain ⟨x6_2, x21_2, rfl, rfl, HA, HK2, HO_3, BK564, HB⟩ := hrel
                  cases gk with
                  | zero => exact absurd HA.out (by simp [impl_slimTexts.l1])
                  | succ k2 =>
                    have H := HA.out
                    clear HA
                    simp only [impl_slimTexts.l1] at H
                    by_cases c12 : x21_2 < (y565.length : Int)
                    · rw [if_pos c12] at H
                      have c12b0 : decide (x21_2 < (y565.length : Int)) = true := decide_eq_true c12
                      clear c12
                      by_cases c13 : 0 ≤ x21_2
                      · rw [if_pos c13] at H
                        have c13b0 : decide (0 ≤ x21_2) = true := decide_eq_true c13
                        clear c13
                        by_cases c14 : x21_2 < (y565.length : Int)
                        · rw [if_pos c14] at H
                          have c14b0 : decide (x21_2 < (y565.length : Int)) = true := decide_eq_true c14
                          clear c14
                          by_cases c15 : x6_2 = true
                          · subst c15
                            have H1 : (impl_slimTexts.l1 k2 l0 x3_1 true l0 (l0.length : Int) x11_1 y565 (y565.length : Int) (wrap64 (x21_2 + 1)) ((rd_T72 l0 x11_1).f0) ((rd_T72 l0 x11_1).f1) ((rd_T72 l0 x11_1).f2) ((rd_T72 l0 x11_1).f3) ((rd_T72 l0 x11_1).f4) ((rd_T72 l0 x11_1).f5) ((rd_T72 l0 x11_1).f6)) = some r := by rw [if_pos rfl] at H; exact H
                            clear H
                            have H := H1
                            clear H1
                            have H' := Aside0.mk H
                            clear H
                            have p569 : 0 ≤ (x21_2 : Int) := of_decide_eq_true (by first | (with_reducible assumption) | assumption)
                            have q569 : x21_2 < (y565.length : Int) := of_decide_eq_true (by first | (with_reducible assumption) | assumption)
                            obtain ⟨ad569, e569, hx569_0, hx569_1, hx569_2, hx569_3, hx569_4, hx569_5, hx569_6⟩ := at_T72 HR568.out x21_2 p569 q569
                            cases e569
                            replace hx569_0 := (HB.out.cell (World.block_lt_of_cell? w _ hx569_0)).trans hx569_0
                            replace hx569_1 := (HB.out.cell (World.block_lt_of_cell? w _ hx569_1)).trans hx569_1
                            replace hx569_2 := (HB.out.cell (World.block_lt_of_cell? w _ hx569_2)).trans hx569_2
                            replace hx569_3 := (HB.out.cell (World.block_lt_of_cell? w _ hx569_3)).trans hx569_3
                            replace hx569_4 := (HB.out.cell (World.block_lt_of_cell? w _ hx569_4)).trans hx569_4
                            replace hx569_5 := (HB.out.cell (World.block_lt_of_cell? w _ hx569_5)).trans hx569_5
                            replace hx569_6 := (HB.out.cell (World.block_lt_of_cell? w _ hx569_6)).trans hx569_6
                            replace p569 := eq_true p569
                            replace q569 := eq_true q569
                            go_wp2_with (first | ((with_reducible refine gate_dst (N := 8) rfl ?_); refine box_event ?hg (N := 8) ?hd (cs := #[.int .i64 0, .int .i64 0, .string (⟨#[]⟩ : ByteArray), .int .i64 0, .string (⟨#[]⟩ : ByteArray), .int .i64 0, .string (⟨#[]⟩ : ByteArray)]) (t := 72) ?hr ?_; (case hd => rfl); (case hg => rfl); (case hr => first | (go_simp; done) | (go_simp; rfl)); intro gb570 hg w16 hbox hb; have n0_ := Aside0.mk (Kd.R_below (Kd.R_elderB (by (with_reducible repeat (first | apply Kd.R_alloc | apply Kd.R_drewN | apply Kd.R_drew)); exact HO_3.out) gb570 (Nat.le_of_eq hg.symm)) hb); have n1_ := Aside0.mk (blk_below (g := gb564) (o := .cells #[.int .i64 ((rd_T72 l0 x11_1).f0), .int .i64 ((rd_T72 l0 x11_1).f1), .string ((rd_T72 l0 x11_1).f2), .int .i64 ((rd_T72 l0 x11_1).f3), .string ((rd_T72 l0 x11_1).f4), .int .i64 ((rd_T72 l0 x11_1).f5), .string ((rd_T72 l0 x11_1).f6)] 72 (0, 0)) (by (with_reducible repeat (first | refine blk_drewN ?_ _ | refine blk_drew ?_ | refine blk_alloc ?_ _)); exact BK564.out) hb); have n2_ := Aside0.mk (below_step (by repeat (first | (with_reducible first | exact HB.out | apply below_alloc | apply pw_below_drewN | apply below_drew1 | refine below_set ?_ GE564.out) | exact HB.out)) hb); have n3_ := Aside0.mk (hbox); have n4_ := Aside0.mk ((by rw [hg]; exact (below_size (by repeat (first | (with_reducible first | exact HB.out | apply below_alloc | apply pw_below_drewN | apply below_drew1 | refine below_set ?_ GE564.out) | exact HB.out))) : w.heap.size ≤ gb570)); have n5_ := Aside0.mk ((by rw [hg]; exact (below_size (by repeat (first | (with_reducible first | exact HB.out | apply below_alloc | apply pw_below_drewN | apply below_drew1 | refine below_set ?_ GE564.out) | exact HB.out))) : w.heap.size ≤ gb570)); have n6_ := Aside0.mk ((by rw [hg]; exact Nat.ne_of_lt (blk_lt (g := gb564) (o := .cells #[.int .i64 ((rd_T72 l0 x11_1).f0), .int .i64 ((rd_T72 l0 x11_1).f1), .string ((rd_T72 l0 x11_1).f2), .int .i64 ((rd_T72 l0 x11_1).f3), .string ((rd_T72 l0 x11_1).f4), .int .i64 ((rd_T72 l0 x11_1).f5), .string ((rd_T72 l0 x11_1).f6)] 72 (0, 0)) (by (with_reducible repeat (first | refine blk_drewN ?_ _ | refine blk_drew ?_ | refine blk_alloc ?_ _)); exact BK564.out)) : gb564 ≠ gb570)); have n7_ := Aside0.mk ((by rw [hg]; exact Nat.ne_of_gt (blk_lt (g := gb564) (o := .cells #[.int .i64 ((rd_T72 l0 x11_1).f0), .int .i64 ((rd_T72 l0 x11_1).f1), .string ((rd_T72 l0 x11_1).f2), .int .i64 ((rd_T72 l0 x11_1).f3), .string ((rd_T72 l0 x11_1).f4), .int .i64 ((rd_T72 l0 x11_1).f5), .string ((rd_T72 l0 x11_1).f6)] 72 (0, 0)) (by (with_reducible repeat (first | refine blk_drewN ?_ _ | refine blk_drew ?_ | refine blk_alloc ?_ _)); exact BK564.out)) : gb570 ≠ gb564)); clear HO_3; clear BK564; clear HB; have HO_3 := n0_; have BK564 := n1_; have HB := n2_; have BK570 := n3_; have GW570 := n4_; have GE570 := n5_; have NB564_570 := n6_; have NB570_564 := n7_; clear n0_ n1_ n2_ n3_ n4_ n5_ n6_ n7_; clear hb hbox hg; have hnb17 := NB570_564.out; have hnc17 := NB564_570.out; have hcz18_0 : w16.cell? ⟨gb570, 0, none⟩ = some (.int .i64 0) := (blk_cell BK570.out 0).trans rfl; have hcz18_1 : w16.cell? ⟨gb570, 1, none⟩ = some (.int .i64 0) := (blk_cell BK570.out 1).trans rfl; have hcz18_2 : w16.cell? ⟨gb570, 2, none⟩ = some (.string (⟨#[]⟩ : ByteArray)) := (blk_cell BK570.out 2).trans rfl; have hcz18_3 : w16.cell? ⟨gb570, 3, none⟩ = some (.int .i64 0) := (blk_cell BK570.out 3).trans rfl; have hcz18_4 : w16.cell? ⟨gb570, 4, none⟩ = some (.string (⟨#[]⟩ : ByteArray)) := (blk_cell BK570.out 4).trans rfl; have hcz18_5 : w16.cell? ⟨gb570, 5, none⟩ = some (.int .i64 0) := (blk_cell BK570.out 5).trans rfl; have hcz18_6 : w16.cell? ⟨gb570, 6, none⟩ = some (.string (⟨#[]⟩ : ByteArray)) := (blk_cell BK570.out 6).trans rfl; have hfz18_0 := blk_frozen BK570.out 0; have hfz18_1 := blk_frozen BK570.out 1; have hfz18_2 := blk_frozen BK570.out 2; have hfz18_3 := blk_frozen BK570.out 3; have hfz18_4 := blk_frozen BK570.out 4; have hfz18_5 := blk_frozen BK570.out 5; have hfz18_6 := blk_frozen BK570.out 6))
                            go_roundg k2
                            case measure => have := HK1.out; have := HK2.out; omega
                            case rel => exact ⟨(true), (wrap64 (x21_2 + 1)), (by first | rfl | (simp; done) | (simp [*]; done)), (by first | rfl | (simp; done) | (simp [*]; done)), H', ⟨by have := HK1.out; have := HK2.out; omega⟩, ⟨by (with_reducible repeat (first | apply Kd.R_alloc | apply Kd.R_drewN | apply Kd.R_drew)); exact Kd.R_mono (Kd.R_far (p := ⟨gb570, 6, none⟩) (Kd.R_far (p := ⟨gb570, 5, none⟩) (Kd.R_far (p := ⟨gb570, 4, none⟩) (Kd.R_far (p := ⟨gb570, 3, none⟩) (Kd.R_far (p := ⟨gb570, 2, none⟩) (Kd.R_far (p := ⟨gb570, 1, none⟩) (Kd.R_far (p := ⟨gb570, 0, none⟩) (Kd.R_mono HO_3.out (fun k_ hk => (⟨hk, hk.2⟩ : _ ∧ k_ ≠ gb570))) (fun _ hk => hk.2) (.int .i64 ((rd_T72 y565 x21_2).f0))) (fun _ hk => hk.2) (.int .i64 ((rd_T72 y565 x21_2).f1))) (fun _ hk => hk.2) (.string ((rd_T72 y565 x21_2).f2))) (fun _ hk => hk.2) (.int .i64 ((rd_T72 y565 x21_2).f3))) (fun _ hk => hk.2) (.string ((rd_T72 y565 x21_2).f4))) (fun _ hk => hk.2) (.int .i64 ((rd_T72 y565 x21_2).f5))) (fun _ hk => hk.2) (.string ((rd_T72 y565 x21_2).f6))) (fun _ hk => hk.1.1)⟩, ⟨by (with_reducible repeat (first | refine blk_drewN ?_ _ | refine blk_drew ?_ | refine blk_alloc ?_ _)); refine blk_far ?_ NB564_570.out _; (with_reducible repeat (first | refine blk_drewN ?_ _ | refine blk_drew ?_ | refine blk_alloc ?_ _)); refine blk_far ?_ NB564_570.out _; (with_reducible repeat (first | refine blk_drewN ?_ _ | refine blk_drew ?_ | refine blk_alloc ?_ _)); refine blk_far ?_ NB564_570.out _; (with_reducible repeat (first | refine blk_drewN ?_ _ | refine blk_drew ?_ | refine blk_alloc ?_ _)); refine blk_far ?_ NB564_570.out _; (with_reducible repeat (first | refine blk_drewN ?_ _ | refine blk_drew ?_ | refine blk_alloc ?_ _)); refine blk_far ?_ NB564_570.out _; (with_reducible repeat (first | refine blk_drewN ?_ _ | refine blk_drew ?_ | refine blk_alloc ?_ _)); refine blk_far ?_ NB564_570.out _; (with_reducible repeat (first | refine blk_drewN ?_ _ | refine blk_drew ?_ | refine blk_alloc ?_ _)); refine blk_far ?_ NB564_570.out _; (with_reducible repeat (first | refine blk_drewN ?_ _ | refine blk_drew ?_ | refine blk_alloc ?_ _)); exact BK564.out⟩, ⟨by repeat (first | (with_reducible first | exact HB.out | apply below_alloc | apply pw_below_drewN | apply below_drew1 | refine below_set ?_ GE564.out | refine below_set ?_ GE570.out) | exact HB.out)⟩⟩
                          · replace c15 := Bool.eq_false_iff.mpr c15
                            subst c15
                            have H1 : (if ((rd_T72 y565 x21_2).f5) = ((rd_T72 l0 x11_1).f5) then (if ((rd_T72 y565 x21_2).f0) = 5 then (impl_slimTexts.l1 k2 l0 x3_1 true l0 (l0.length : Int) x11_1 y565 (y565.length : Int) (wrap64 (x21_2 + 1)) ((rd_T72 l0 x11_1).f0) ((rd_T72 l0 x11_1).f1) ((rd_T72 l0 x11_1).f2) ((rd_T72 l0 x11_1).f3) ((rd_T72 l0 x11_1).f4) ((rd_T72 l0 x11_1).f5) ((rd_T72 l0 x11_1).f6)) else (impl_slimTexts.l1 k2 l0 x3_1 (((rd_T72 y565 x21_2).f0) == 3) l0 (l0.length : Int) x11_1 y565 (y565.length : Int) (wrap64 (x21_2 + 1)) ((rd_T72 l0 x11_1).f0) ((rd_T72 l0 x11_1).f1) ((rd_T72 l0 x11_1).f2) ((rd_T72 l0 x11_1).f3) ((rd_T72 l0 x11_1).f4) ((rd_T72 l0 x11_1).f5) ((rd_T72 l0 x11_1).f6))) else (impl_slimTexts.l1 k2 l0 x3_1 false l0 (l0.length : Int) x11_1 y565 (y565.length : Int) (wrap64 (x21_2 + 1)) ((rd_T72 l0 x11_1).f0) ((rd_T72 l0 x11_1).f1) ((rd_T72 l0 x11_1).f2) ((rd_T72 l0 x11_1).f3) ((rd_T72 l0 x11_1).f4) ((rd_T72 l0 x11_1).f5) ((rd_T72 l0 x11_1).f6))) = some r := by rw [if_neg (show ¬ (false = true) by decide)] at H; exact H
                            clear H
                            have H := H1
                            clear H1
                            by_cases c19 : ((rd_T72 y565 x21_2).f5) = ((rd_T72 l0 x11_1).f5)
                            · rw [if_pos c19] at H
                              have c19b0 : (((rd_T72 y565 x21_2).f5) == ((rd_T72 l0 x11_1).f5)) = true := beq_iff_eq.mpr c19
                              have c19b1 : (((rd_T72 y565 x21_2).f5) != ((rd_T72 l0 x11_1).f5)) = false := bne_eq_false_iff_eq.mpr c19
                              clear c19
                              by_cases c20 : ((rd_T72 y565 x21_2).f0) = 5
                              · rw [if_pos c20] at H
                                have c20b0 : (((rd_T72 y565 x21_2).f0) == 5) = true := beq_iff_eq.mpr c20
                                have c20b1 : (((rd_T72 y565 x21_2).f0) != 5) = false := bne_eq_false_iff_eq.mpr c20
                                clear c20
                                have H' := Aside0.mk H
                                clear H
                                have p569 : 0 ≤ (x21_2 : Int) := of_decide_eq_true (by first | (with_reducible assumption) | assumption)
                                have q569 : x21_2 < (y565.length : Int) := of_decide_eq_true (by first | (with_reducible assumption) | assumption)
                                obtain ⟨ad569, e569, hx569_0, hx569_1, hx569_2, hx569_3, hx569_4, hx569_5, hx569_6⟩ := at_T72 HR568.out x21_2 p569 q569
                                cases e569
                                replace hx569_0 := (HB.out.cell (World.block_lt_of_cell? w _ hx569_0)).trans hx569_0
                                replace hx569_1 := (HB.out.cell (World.block_lt_of_cell? w _ hx569_1)).trans hx569_1
                                replace hx569_2 := (HB.out.cell (World.block_lt_of_cell? w _ hx569_2)).trans hx569_2
                                replace hx569_3 := (HB.out.cell (World.block_lt_of_cell? w _ hx569_3)).trans hx569_3
                                replace hx569_4 := (HB.out.cell (World.block_lt_of_cell? w _ hx569_4)).trans hx569_4
                                replace hx569_5 := (HB.out.cell (World.block_lt_of_cell? w _ hx569_5)).trans hx569_5
                                replace hx569_6 := (HB.out.cell (World.block_lt_of_cell? w _ hx569_6)).trans hx569_6
                                replace p569 := eq_true p569
                                replace q569 := eq_true q569
                                go_wp2_with (first | ((with_reducible refine gate_dst (N := 8) rfl ?_); refine box_event ?hg (N := 8) ?hd (cs := #[.int .i64 0, .int .i64 0, .string (⟨#[]⟩ : ByteArray), .int .i64 0, .string (⟨#[]⟩ : ByteArray), .int .i64 0, .string (⟨#[]⟩ : ByteArray)]) (t := 72) ?hr ?_; (case hd => rfl); (case hg => rfl); (case hr => first | (go_simp; done) | (go_simp; rfl)); intro gb570 hg w21 hbox hb; have n0_ := Aside0.mk (Kd.R_below (Kd.R_elderB (by (with_reducible repeat (first | apply Kd.R_alloc | apply Kd.R_drewN | apply Kd.R_drew)); exact HO_3.out) gb570 (Nat.le_of_eq hg.symm)) hb); have n1_ := Aside0.mk (blk_below (g := gb564) (o := .cells #[.int .i64 ((rd_T72 l0 x11_1).f0), .int .i64 ((rd_T72 l0 x11_1).f1), .string ((rd_T72 l0 x11_1).f2), .int .i64 ((rd_T72 l0 x11_1).f3), .string ((rd_T72 l0 x11_1).f4), .int .i64 ((rd_T72 l0 x11_1).f5), .string ((rd_T72 l0 x11_1).f6)] 72 (0, 0)) (by (with_reducible repeat (first | refine blk_drewN ?_ _ | refine blk_drew ?_ | refine blk_alloc ?_ _)); exact BK564.out) hb); have n2_ := Aside0.mk (below_step (by repeat (first | (with_reducible first | exact HB.out | apply below_alloc | apply pw_below_drewN | apply below_drew1 | refine below_set ?_ GE564.out) | exact HB.out)) hb); have n3_ := Aside0.mk (hbox); have n4_ := Aside0.mk ((by rw [hg]; exact (below_size (by repeat (first | (with_reducible first | exact HB.out | apply below_alloc | apply pw_below_drewN | apply below_drew1 | refine below_set ?_ GE564.out) | exact HB.out))) : w.heap.size ≤ gb570)); have n5_ := Aside0.mk ((by rw [hg]; exact (below_size (by repeat (first | (with_reducible first | exact HB.out | apply below_alloc | apply pw_below_drewN | apply below_drew1 | refine below_set ?_ GE564.out) | exact HB.out))) : w.heap.size ≤ gb570)); have n6_ := Aside0.mk ((by rw [hg]; exact Nat.ne_of_lt (blk_lt (g := gb564) (o := .cells #[.int .i64 ((rd_T72 l0 x11_1).f0), .int .i64 ((rd_T72 l0 x11_1).f1), .string ((rd_T72 l0 x11_1).f2), .int .i64 ((rd_T72 l0 x11_1).f3), .string ((rd_T72 l0 x11_1).f4), .int .i64 ((rd_T72 l0 x11_1).f5), .string ((rd_T72 l0 x11_1).f6)] 72 (0, 0)) (by (with_reducible repeat (first | refine blk_drewN ?_ _ | refine blk_drew ?_ | refine blk_alloc ?_ _)); exact BK564.out)) : gb564 ≠ gb570)); have n7_ := Aside0.mk ((by rw [hg]; exact Nat.ne_of_gt (blk_lt (g := gb564) (o := .cells #[.int .i64 ((rd_T72 l0 x11_1).f0), .int .i64 ((rd_T72 l0 x11_1).f1), .string ((rd_T72 l0 x11_1).f2), .int .i64 ((rd_T72 l0 x11_1).f3), .string ((rd_T72 l0 x11_1).f4), .int .i64 ((rd_T72 l0 x11_1).f5), .string ((rd_T72 l0 x11_1).f6)] 72 (0, 0)) (by (with_reducible repeat (first | refine blk_drewN ?_ _ | refine blk_drew ?_ | refine blk_alloc ?_ _)); exact BK564.out)) : gb570 ≠ gb564)); clear HO_3; clear BK564; clear HB; have HO_3 := n0_; have BK564 := n1_; have HB := n2_; have BK570 := n3_; have GW570 := n4_; have GE570 := n5_; have NB564_570 := n6_; have NB570_564 := n7_; clear n0_ n1_ n2_ n3_ n4_ n5_ n6_ n7_; clear hb hbox hg; have hnb22 := NB570_564.out; have hnc22 := NB564_570.out; have hcz23_0 : w21.cell? ⟨gb570, 0, none⟩ = some (.int .i64 0) := (blk_cell BK570.out 0).trans rfl; have hcz23_1 : w21.cell? ⟨gb570, 1, none⟩ = some (.int .i64 0) := (blk_cell BK570.out 1).trans rfl; have hcz23_2 : w21.cell? ⟨gb570, 2, none⟩ = some (.string (⟨#[]⟩ : ByteArray)) := (blk_cell BK570.out 2).trans rfl; have hcz23_3 : w21.cell? ⟨gb570, 3, none⟩ = some (.int .i64 0) := (blk_cell BK570.out 3).trans rfl; have hcz23_4 : w21.cell? ⟨gb570, 4, none⟩ = some (.string (⟨#[]⟩ : ByteArray)) := (blk_cell BK570.out 4).trans rfl; have hcz23_5 : w21.cell? ⟨gb570, 5, none⟩ = some (.int .i64 0) := (blk_cell BK570.out 5).trans rfl; have hcz23_6 : w21.cell? ⟨gb570, 6, none⟩ = some (.string (⟨#[]⟩ : ByteArray)) := (blk_cell BK570.out 6).trans rfl; have hfz23_0 := blk_frozen BK570.out 0; have hfz23_1 := blk_frozen BK570.out 1; have hfz23_2 := blk_frozen BK570.out 2; have hfz23_3 := blk_frozen BK570.out 3; have hfz23_4 := blk_frozen BK570.out 4; have hfz23_5 := blk_frozen BK570.out 5; have hfz23_6 := blk_frozen BK570.out 6; have hcz24_0 : w21.cell? ⟨gb564, 0, none⟩ = some (.int .i64 ((rd_T72 l0 x11_1).f0)) := (blk_cell BK564.out 0).trans rfl; have hcz24_1 : w21.cell? ⟨gb564, 1, none⟩ = some (.int .i64 ((rd_T72 l0 x11_1).f1)) := (blk_cell BK564.out 1).trans rfl; have hcz24_2 : w21.cell? ⟨gb564, 2, none⟩ = some (.string ((rd_T72 l0 x11_1).f2)) := (blk_cell BK564.out 2).trans rfl; have hcz24_3 : w21.cell? ⟨gb564, 3, none⟩ = some (.int .i64 ((rd_T72 l0 x11_1).f3)) := (blk_cell BK564.out 3).trans rfl; have hcz24_4 : w21.cell? ⟨gb564, 4, none⟩ = some (.string ((rd_T72 l0 x11_1).f4)) := (blk_cell BK564.out 4).trans rfl; have hcz24_5 : w21.cell? ⟨gb564, 5, none⟩ = some (.int .i64 ((rd_T72 l0 x11_1).f5)) := (blk_cell BK564.out 5).trans rfl; have hcz24_6 : w21.cell? ⟨gb564, 6, none⟩ = some (.string ((rd_T72 l0 x11_1).f6)) := (blk_cell BK564.out 6).trans rfl; have hfz24_0 := blk_frozen BK564.out 0; have hfz24_1 := blk_frozen BK564.out 1; have hfz24_2 := blk_frozen BK564.out 2; have hfz24_3 := blk_frozen BK564.out 3; have hfz24_4 := blk_frozen BK564.out 4; have hfz24_5 := blk_frozen BK564.out 5; have hfz24_6 := blk_frozen BK564.out 6))
                                go_roundg k2
                                case measure => have := HK1.out; have := HK2.out; omega
                                case rel => exact ⟨(true), (wrap64 (x21_2 + 1)), (by first | rfl | (simp; done) | (simp [*]; done)), (by first | rfl | (simp; done) | (simp [*]; done)), H', ⟨by have := HK1.out; have := HK2.out; omega⟩, ⟨by (with_reducible repeat (first | apply Kd.R_alloc | apply Kd.R_drewN | apply Kd.R_drew)); exact Kd.R_mono (Kd.R_far (p := ⟨gb570, 6, none⟩) (Kd.R_far (p := ⟨gb570, 5, none⟩) (Kd.R_far (p := ⟨gb570, 4, none⟩) (Kd.R_far (p := ⟨gb570, 3, none⟩) (Kd.R_far (p := ⟨gb570, 2, none⟩) (Kd.R_far (p := ⟨gb570, 1, none⟩) (Kd.R_far (p := ⟨gb570, 0, none⟩) (Kd.R_mono HO_3.out (fun k_ hk => (⟨hk, hk.2⟩ : _ ∧ k_ ≠ gb570))) (fun _ hk => hk.2) (.int .i64 ((rd_T72 y565 x21_2).f0))) (fun _ hk => hk.2) (.int .i64 ((rd_T72 y565 x21_2).f1))) (fun _ hk => hk.2) (.string ((rd_T72 y565 x21_2).f2))) (fun _ hk => hk.2) (.int .i64 ((rd_T72 y565 x21_2).f3))) (fun _ hk => hk.2) (.string ((rd_T72 y565 x21_2).f4))) (fun _ hk => hk.2) (.int .i64 ((rd_T72 y565 x21_2).f5))) (fun _ hk => hk.2) (.string ((rd_T72 y565 x21_2).f6))) (fun _ hk => hk.1.1)⟩, ⟨by (with_reducible repeat (first | refine blk_drewN ?_ _ | refine blk_drew ?_ | refine blk_alloc ?_ _)); refine blk_far ?_ NB564_570.out _; (with_reducible repeat (first | refine blk_drewN ?_ _ | refine blk_drew ?_ | refine blk_alloc ?_ _)); refine blk_far ?_ NB564_570.out _; (with_reducible repeat (first | refine blk_drewN ?_ _ | refine blk_drew ?_ | refine blk_alloc ?_ _)); refine blk_far ?_ NB564_570.out _; (with_reducible repeat (first | refine blk_drewN ?_ _ | refine blk_drew ?_ | refine blk_alloc ?_ _)); refine blk_far ?_ NB564_570.out _; (with_reducible repeat (first | refine blk_drewN ?_ _ | refine blk_drew ?_ | refine blk_alloc ?_ _)); refine blk_far ?_ NB564_570.out _; (with_reducible repeat (first | refine blk_drewN ?_ _ | refine blk_drew ?_ | refine blk_alloc ?_ _)); refine blk_far ?_ NB564_570.out _; (with_reducible repeat (first | refine blk_drewN ?_ _ | refine blk_drew ?_ | refine blk_alloc ?_ _)); refine blk_far ?_ NB564_570.out _; (with_reducible repeat (first | refine blk_drewN ?_ _ | refine blk_drew ?_ | refine blk_alloc ?_ _)); exact BK564.out⟩, ⟨by repeat (first | (with_reducible first | exact HB.out | apply below_alloc | apply pw_below_drewN | apply below_drew1 | refine below_set ?_ GE564.out | refine below_set ?_ GE570.out) | exact HB.out)⟩⟩
                              · rw [if_neg c20] at H
                                have c20b0 : (((rd_T72 y565 x21_2).f0) == 5) = false := beq_eq_false_iff_ne.mpr c20
                                have c20b1 : (((rd_T72 y565 x21_2).f0) != 5) = true := bne_iff_ne.mpr c20
                                have H' := Aside0.mk H
                                clear H
                                have p569 : 0 ≤ (x21_2 : Int) := of_decide_eq_true (by first | (with_reducible assumption) | assumption)
                                have q569 : x21_2 < (y565.length : Int) := of_decide_eq_true (by first | (with_reducible assumption) | assumption)
                                obtain ⟨ad569, e569, hx569_0, hx569_1, hx569_2, hx569_3, hx569_4, hx569_5, hx569_6⟩ := at_T72 HR568.out x21_2 p569 q569
                                cases e569
                                replace hx569_0 := (HB.out.cell (World.block_lt_of_cell? w _ hx569_0)).trans hx569_0
                                replace hx569_1 := (HB.out.cell (World.block_lt_of_cell? w _ hx569_1)).trans hx569_1
                                replace hx569_2 := (HB.out.cell (World.block_lt_of_cell? w _ hx569_2)).trans hx569_2
                                replace hx569_3 := (HB.out.cell (World.block_lt_of_cell? w _ hx569_3)).trans hx569_3
                                replace hx569_4 := (HB.out.cell (World.block_lt_of_cell? w _ hx569_4)).trans hx569_4
                                replace hx569_5 := (HB.out.cell (World.block_lt_of_cell? w _ hx569_5)).trans hx569_5
                                replace hx569_6 := (HB.out.cell (World.block_lt_of_cell? w _ hx569_6)).trans hx569_6
                                replace p569 := eq_true p569
                                replace q569 := eq_true q569
                                go_wp2_with (first | ((with_reducible refine gate_dst (N := 8) rfl ?_); refine box_event ?hg (N := 8) ?hd (cs := #[.int .i64 0, .int .i64 0, .string (⟨#[]⟩ : ByteArray), .int .i64 0, .string (⟨#[]⟩ : ByteArray), .int .i64 0, .string (⟨#[]⟩ : ByteArray)]) (t := 72) ?hr ?_; (case hd => rfl); (case hg => rfl); (case hr => first | (go_simp; done) | (go_simp; rfl)); intro gb570 hg w25 hbox hb; have n0_ := Aside0.mk (Kd.R_below (Kd.R_elderB (by (with_reducible repeat (first | apply Kd.R_alloc | apply Kd.R_drewN | apply Kd.R_drew)); exact HO_3.out) gb570 (Nat.le_of_eq hg.symm)) hb); have n1_ := Aside0.mk (blk_below (g := gb564) (o := .cells #[.int .i64 ((rd_T72 l0 x11_1).f0), .int .i64 ((rd_T72 l0 x11_1).f1), .string ((rd_T72 l0 x11_1).f2), .int .i64 ((rd_T72 l0 x11_1).f3), .string ((rd_T72 l0 x11_1).f4), .int .i64 ((rd_T72 l0 x11_1).f5), .string ((rd_T72 l0 x11_1).f6)] 72 (0, 0)) (by (with_reducible repeat (first | refine blk_drewN ?_ _ | refine blk_drew ?_ | refine blk_alloc ?_ _)); exact BK564.out) hb); have n2_ := Aside0.mk (below_step (by repeat (first | (with_reducible first | exact HB.out | apply below_alloc | apply pw_below_drewN | apply below_drew1 | refine below_set ?_ GE564.out) | exact HB.out)) hb); have n3_ := Aside0.mk (hbox); have n4_ := Aside0.mk ((by rw [hg]; exact (below_size (by repeat (first | (with_reducible first | exact HB.out | apply below_alloc | apply pw_below_drewN | apply below_drew1 | refine below_set ?_ GE564.out) | exact HB.out))) : w.heap.size ≤ gb570)); have n5_ := Aside0.mk ((by rw [hg]; exact (below_size (by repeat (first | (with_reducible first | exact HB.out | apply below_alloc | apply pw_below_drewN | apply below_drew1 | refine below_set ?_ GE564.out) | exact HB.out))) : w.heap.size ≤ gb570)); have n6_ := Aside0.mk ((by rw [hg]; exact Nat.ne_of_lt (blk_lt (g := gb564) (o := .cells #[.int .i64 ((rd_T72 l0 x11_1).f0), .int .i64 ((rd_T72 l0 x11_1).f1), .string ((rd_T72 l0 x11_1).f2), .int .i64 ((rd_T72 l0 x11_1).f3), .string ((rd_T72 l0 x11_1).f4), .int .i64 ((rd_T72 l0 x11_1).f5), .string ((rd_T72 l0 x11_1).f6)] 72 (0, 0)) (by (with_reducible repeat (first | refine blk_drewN ?_ _ | refine blk_drew ?_ | refine blk_alloc ?_ _)); exact BK564.out)) : gb564 ≠ gb570)); have n7_ := Aside0.mk ((by rw [hg]; exact Nat.ne_of_gt (blk_lt (g := gb564) (o := .cells #[.int .i64 ((rd_T72 l0 x11_1).f0), .int .i64 ((rd_T72 l0 x11_1).f1), .string ((rd_T72 l0 x11_1).f2), .int .i64 ((rd_T72 l0 x11_1).f3), .string ((rd_T72 l0 x11_1).f4), .int .i64 ((rd_T72 l0 x11_1).f5), .string ((rd_T72 l0 x11_1).f6)] 72 (0, 0)) (by (with_reducible repeat (first | refine blk_drewN ?_ _ | refine blk_drew ?_ | refine blk_alloc ?_ _)); exact BK564.out)) : gb570 ≠ gb564)); clear HO_3; clear BK564; clear HB; have HO_3 := n0_; have BK564 := n1_; have HB := n2_; have BK570 := n3_; have GW570 := n4_; have GE570 := n5_; have NB564_570 := n6_; have NB570_564 := n7_; clear n0_ n1_ n2_ n3_ n4_ n5_ n6_ n7_; clear hb hbox hg; have hnb26 := NB570_564.out; have hnc26 := NB564_570.out; have hcz27_0 : w25.cell? ⟨gb570, 0, none⟩ = some (.int .i64 0) := (blk_cell BK570.out 0).trans rfl; have hcz27_1 : w25.cell? ⟨gb570, 1, none⟩ = some (.int .i64 0) := (blk_cell BK570.out 1).trans rfl; have hcz27_2 : w25.cell? ⟨gb570, 2, none⟩ = some (.string (⟨#[]⟩ : ByteArray)) := (blk_cell BK570.out 2).trans rfl; have hcz27_3 : w25.cell? ⟨gb570, 3, none⟩ = some (.int .i64 0) := (blk_cell BK570.out 3).trans rfl; have hcz27_4 : w25.cell? ⟨gb570, 4, none⟩ = some (.string (⟨#[]⟩ : ByteArray)) := (blk_cell BK570.out 4).trans rfl; have hcz27_5 : w25.cell? ⟨gb570, 5, none⟩ = some (.int .i64 0) := (blk_cell BK570.out 5).trans rfl; have hcz27_6 : w25.cell? ⟨gb570, 6, none⟩ = some (.string (⟨#[]⟩ : ByteArray)) := (blk_cell BK570.out 6).trans rfl; have hfz27_0 := blk_frozen BK570.out 0; have hfz27_1 := blk_frozen BK570.out 1; have hfz27_2 := blk_frozen BK570.out 2; have hfz27_3 := blk_frozen BK570.out 3; have hfz27_4 := blk_frozen BK570.out 4; have hfz27_5 := blk_frozen BK570.out 5; have hfz27_6 := blk_frozen BK570.out 6; have hcz28_0 : w25.cell? ⟨gb564, 0, none⟩ = some (.int .i64 ((rd_T72 l0 x11_1).f0)) := (blk_cell BK564.out 0).trans rfl; have hcz28_1 : w25.cell? ⟨gb564, 1, none⟩ = some (.int .i64 ((rd_T72 l0 x11_1).f1)) := (blk_cell BK564.out 1).trans rfl; have hcz28_2 : w25.cell? ⟨gb564, 2, none⟩ = some (.string ((rd_T72 l0 x11_1).f2)) := (blk_cell BK564.out 2).trans rfl; have hcz28_3 : w25.cell? ⟨gb564, 3, none⟩ = some (.int .i64 ((rd_T72 l0 x11_1).f3)) := (blk_cell BK564.out 3).trans rfl; have hcz28_4 : w25.cell? ⟨gb564, 4, none⟩ = some (.string ((rd_T72 l0 x11_1).f4)) := (blk_cell BK564.out 4).trans rfl; have hcz28_5 : w25.cell? ⟨gb564, 5, none⟩ = some (.int .i64 ((rd_T72 l0 x11_1).f5)) := (blk_cell BK564.out 5).trans rfl; have hcz28_6 : w25.cell? ⟨gb564, 6, none⟩ = some (.string ((rd_T72 l0 x11_1).f6)) := (blk_cell BK564.out 6).trans rfl; have hfz28_0 := blk_frozen BK564.out 0; have hfz28_1 := blk_frozen BK564.out 1; have hfz28_2 := blk_frozen BK564.out 2; have hfz28_3 := blk_frozen BK564.out 3; have hfz28_4 := blk_frozen BK564.out 4; have hfz28_5 := blk_frozen BK564.out 5; have hfz28_6 := blk_frozen BK564.out 6))
                                go_roundg k2
                                case measure => have := HK1.out; have := HK2.out; omega
                                case rel => exact ⟨((((rd_T72 y565 x21_2).f0) == 3)), (wrap64 (x21_2 + 1)), (by first | rfl | (simp; done) | (simp [*]; done)), (by first | rfl | (simp; done) | (simp [*]; done)), H', ⟨by have := HK1.out; have := HK2.out; omega⟩, ⟨by (with_reducible repeat (first | apply Kd.R_alloc | apply Kd.R_drewN | apply Kd.R_drew)); exact Kd.R_mono (Kd.R_far (p := ⟨gb570, 6, none⟩) (Kd.R_far (p := ⟨gb570, 5, none⟩) (Kd.R_far (p := ⟨gb570, 4, none⟩) (Kd.R_far (p := ⟨gb570, 3, none⟩) (Kd.R_far (p := ⟨gb570, 2, none⟩) (Kd.R_far (p := ⟨gb570, 1, none⟩) (Kd.R_far (p := ⟨gb570, 0, none⟩) (Kd.R_mono HO_3.out (fun k_ hk => (⟨hk, hk.2⟩ : _ ∧ k_ ≠ gb570))) (fun _ hk => hk.2) (.int .i64 ((rd_T72 y565 x21_2).f0))) (fun _ hk => hk.2) (.int .i64 ((rd_T72 y565 x21_2).f1))) (fun _ hk => hk.2) (.string ((rd_T72 y565 x21_2).f2))) (fun _ hk => hk.2) (.int .i64 ((rd_T72 y565 x21_2).f3))) (fun _ hk => hk.2) (.string ((rd_T72 y565 x21_2).f4))) (fun _ hk => hk.2) (.int .i64 ((rd_T72 y565 x21_2).f5))) (fun _ hk => hk.2) (.string ((rd_T72 y565 x21_2).f6))) (fun _ hk => hk.1.1)⟩, ⟨by (with_reducible repeat (first | refine blk_drewN ?_ _ | refine blk_drew ?_ | refine blk_alloc ?_ _)); refine blk_far ?_ NB564_570.out _; (with_reducible repeat (first | refine blk_drewN ?_ _ | refine blk_drew ?_ | refine blk_alloc ?_ _)); refine blk_far ?_ NB564_570.out _; (with_reducible repeat (first | refine blk_drewN ?_ _ | refine blk_drew ?_ | refine blk_alloc ?_ _)); refine blk_far ?_ NB564_570.out _; (with_reducible repeat (first | refine blk_drewN ?_ _ | refine blk_drew ?_ | refine blk_alloc ?_ _)); refine blk_far ?_ NB564_570.out _; (with_reducible repeat (first | refine blk_drewN ?_ _ | refine blk_drew ?_ | refine blk_alloc ?_ _)); refine blk_far ?_ NB564_570.out _; (with_reducible repeat (first | refine blk_drewN ?_ _ | refine blk_drew ?_ | refine blk_alloc ?_ _)); refine blk_far ?_ NB564_570.out _; (with_reducible repeat (first | refine blk_drewN ?_ _ | refine blk_drew ?_ | refine blk_alloc ?_ _)); refine blk_far ?_ NB564_570.out _; (with_reducible repeat (first | refine blk_drewN ?_ _ | refine blk_drew ?_ | refine blk_alloc ?_ _)); exact BK564.out⟩, ⟨by repeat (first | (with_reducible first | exact HB.out | apply below_alloc | apply pw_below_drewN | apply below_drew1 | refine below_set ?_ GE564.out | refine below_set ?_ GE570.out) | exact HB.out)⟩⟩
                            · rw [if_neg c19] at H
                              have c19b0 : (((rd_T72 y565 x21_2).f5) == ((rd_T72 l0 x11_1).f5)) = false := beq_eq_false_iff_ne.mpr c19
                              have c19b1 : (((rd_T72 y565 x21_2).f5) != ((rd_T72 l0 x11_1).f5)) = true := bne_iff_ne.mpr c19
                              have H' := Aside0.mk H
                              clear H
                              have p569 : 0 ≤ (x21_2 : Int) := of_decide_eq_true (by first | (with_reducible assumption) | assumption)
                              have q569 : x21_2 < (y565.length : Int) := of_decide_eq_true (by first | (with_reducible assumption) | assumption)
                              obtain ⟨ad569, e569, hx569_0, hx569_1, hx569_2, hx569_3, hx569_4, hx569_5, hx569_6⟩ := at_T72 HR568.out x21_2 p569 q569
                              cases e569
                              replace hx569_0 := (HB.out.cell (World.block_lt_of_cell? w _ hx569_0)).trans hx569_0
                              replace hx569_1 := (HB.out.cell (World.block_lt_of_cell? w _ hx569_1)).trans hx569_1
                              replace hx569_2 := (HB.out.cell (World.block_lt_of_cell? w _ hx569_2)).trans hx569_2
                              replace hx569_3 := (HB.out.cell (World.block_lt_of_cell? w _ hx569_3)).trans hx569_3
                              replace hx569_4 := (HB.out.cell (World.block_lt_of_cell? w _ hx569_4)).trans hx569_4
                              replace hx569_5 := (HB.out.cell (World.block_lt_of_cell? w _ hx569_5)).trans hx569_5
                              replace hx569_6 := (HB.out.cell (World.block_lt_of_cell? w _ hx569_6)).trans hx569_6
                              replace p569 := eq_true p569
                              replace q569 := eq_true q569
                              go_wp2_with (first | ((with_reducible refine gate_dst (N := 8) rfl ?_); refine box_event ?hg (N := 8) ?hd (cs := #[.int .i64 0, .int .i64 0, .string (⟨#[]⟩ : ByteArray), .int .i64 0, .string (⟨#[]⟩ : ByteArray), .int .i64 0, .string (⟨#[]⟩ : ByteArray)]) (t := 72) ?hr ?_; (case hd => rfl); (case hg => rfl); (case hr => first | (go_simp; done) | (go_simp; rfl)); intro gb570 hg w29 hbox hb; have n0_ := Aside0.mk (Kd.R_below (Kd.R_elderB (by (with_reducible repeat (first | apply Kd.R_alloc | apply Kd.R_drewN | apply Kd.R_drew)); exact HO_3.out) gb570 (Nat.le_of_eq hg.symm)) hb); have n1_ := Aside0.mk (blk_below (g := gb564) (o := .cells #[.int .i64 ((rd_T72 l0 x11_1).f0), .int .i64 ((rd_T72 l0 x11_1).f1), .string ((rd_T72 l0 x11_1).f2), .int .i64 ((rd_T72 l0 x11_1).f3), .string ((rd_T72 l0 x11_1).f4), .int .i64 ((rd_T72 l0 x11_1).f5), .string ((rd_T72 l0 x11_1).f6)] 72 (0, 0)) (by (with_reducible repeat (first | refine blk_drewN ?_ _ | refine blk_drew ?_ | refine blk_alloc ?_ _)); exact BK564.out) hb); have n2_ := Aside0.mk (below_step (by repeat (first | (with_reducible first | exact HB.out | apply below_alloc | apply pw_below_drewN | apply below_drew1 | refine below_set ?_ GE564.out) | exact HB.out)) hb); have n3_ := Aside0.mk (hbox); have n4_ := Aside0.mk ((by rw [hg]; exact (below_size (by repeat (first | (with_reducible first | exact HB.out | apply below_alloc | apply pw_below_drewN | apply below_drew1 | refine below_set ?_ GE564.out) | exact HB.out))) : w.heap.size ≤ gb570)); have n5_ := Aside0.mk ((by rw [hg]; exact (below_size (by repeat (first | (with_reducible first | exact HB.out | apply below_alloc | apply pw_below_drewN | apply below_drew1 | refine below_set ?_ GE564.out) | exact HB.out))) : w.heap.size ≤ gb570)); have n6_ := Aside0.mk ((by rw [hg]; exact Nat.ne_of_lt (blk_lt (g := gb564) (o := .cells #[.int .i64 ((rd_T72 l0 x11_1).f0), .int .i64 ((rd_T72 l0 x11_1).f1), .string ((rd_T72 l0 x11_1).f2), .int .i64 ((rd_T72 l0 x11_1).f3), .string ((rd_T72 l0 x11_1).f4), .int .i64 ((rd_T72 l0 x11_1).f5), .string ((rd_T72 l0 x11_1).f6)] 72 (0, 0)) (by (with_reducible repeat (first | refine blk_drewN ?_ _ | refine blk_drew ?_ | refine blk_alloc ?_ _)); exact BK564.out)) : gb564 ≠ gb570)); have n7_ := Aside0.mk ((by rw [hg]; exact Nat.ne_of_gt (blk_lt (g := gb564) (o := .cells #[.int .i64 ((rd_T72 l0 x11_1).f0), .int .i64 ((rd_T72 l0 x11_1).f1), .string ((rd_T72 l0 x11_1).f2), .int .i64 ((rd_T72 l0 x11_1).f3), .string ((rd_T72 l0 x11_1).f4), .int .i64 ((rd_T72 l0 x11_1).f5), .string ((rd_T72 l0 x11_1).f6)] 72 (0, 0)) (by (with_reducible repeat (first | refine blk_drewN ?_ _ | refine blk_drew ?_ | refine blk_alloc ?_ _)); exact BK564.out)) : gb570 ≠ gb564)); clear HO_3; clear BK564; clear HB; have HO_3 := n0_; have BK564 := n1_; have HB := n2_; have BK570 := n3_; have GW570 := n4_; have GE570 := n5_; have NB564_570 := n6_; have NB570_564 := n7_; clear n0_ n1_ n2_ n3_ n4_ n5_ n6_ n7_; clear hb hbox hg; have hnb30 := NB570_564.out; have hnc30 := NB564_570.out; have hcz31_0 : w29.cell? ⟨gb570, 0, none⟩ = some (.int .i64 0) := (blk_cell BK570.out 0).trans rfl; have hcz31_1 : w29.cell? ⟨gb570, 1, none⟩ = some (.int .i64 0) := (blk_cell BK570.out 1).trans rfl; have hcz31_2 : w29.cell? ⟨gb570, 2, none⟩ = some (.string (⟨#[]⟩ : ByteArray)) := (blk_cell BK570.out 2).trans rfl; have hcz31_3 : w29.cell? ⟨gb570, 3, none⟩ = some (.int .i64 0) := (blk_cell BK570.out 3).trans rfl; have hcz31_4 : w29.cell? ⟨gb570, 4, none⟩ = some (.string (⟨#[]⟩ : ByteArray)) := (blk_cell BK570.out 4).trans rfl; have hcz31_5 : w29.cell? ⟨gb570, 5, none⟩ = some (.int .i64 0) := (blk_cell BK570.out 5).trans rfl; have hcz31_6 : w29.cell? ⟨gb570, 6, none⟩ = some (.string (⟨#[]⟩ : ByteArray)) := (blk_cell BK570.out 6).trans rfl; have hfz31_0 := blk_frozen BK570.out 0; have hfz31_1 := blk_frozen BK570.out 1; have hfz31_2 := blk_frozen BK570.out 2; have hfz31_3 := blk_frozen BK570.out 3; have hfz31_4 := blk_frozen BK570.out 4; have hfz31_5 := blk_frozen BK570.out 5; have hfz31_6 := blk_frozen BK570.out 6; have hcz32_0 : w29.cell? ⟨gb564, 0, none⟩ = some (.int .i64 ((rd_T72 l0 x11_1).f0)) := (blk_cell BK564.out 0).trans rfl; have hcz32_1 : w29.cell? ⟨gb564, 1, none⟩ = some (.int .i64 ((rd_T72 l0 x11_1).f1)) := (blk_cell BK564.out 1).trans rfl; have hcz32_2 : w29.cell? ⟨gb564, 2, none⟩ = some (.string ((rd_T72 l0 x11_1).f2)) := (blk_cell BK564.out 2).trans rfl; have hcz32_3 : w29.cell? ⟨gb564, 3, none⟩ = some (.int .i64 ((rd_T72 l0 x11_1).f3)) := (blk_cell BK564.out 3).trans rfl; have hcz32_4 : w29.cell? ⟨gb564, 4, none⟩ = some (.string ((rd_T72 l0 x11_1).f4)) := (blk_cell BK564.out 4).trans rfl; have hcz32_5 : w29.cell? ⟨gb564, 5, none⟩ = some (.int .i64 ((rd_T72 l0 x11_1).f5)) := (blk_cell BK564.out 5).trans rfl; have hcz32_6 : w29.cell? ⟨gb564, 6, none⟩ = some (.string ((rd_T72 l0 x11_1).f6)) := (blk_cell BK564.out 6).trans rfl; have hfz32_0 := blk_frozen BK564.out 0; have hfz32_1 := blk_frozen BK564.out 1; have hfz32_2 := blk_frozen BK564.out 2; have hfz32_3 := blk_frozen BK564.out 3; have hfz32_4 := blk_frozen BK564.out 4; have hfz32_5 := blk_frozen BK564.out 5; have hfz32_6 := blk_frozen BK564.out 6))
                              go_roundg k2
                              case measure => have := HK1.out; have := HK2.out; omega
                              case rel => exact ⟨(false), (wrap64 (x21_2 + 1)), (by first | rfl | (simp; done) | (simp [*]; done)), (by first | rfl | (simp; done) | (simp [*]; done)), H', ⟨by have := HK1.out; have := HK2.out; omega⟩, ⟨by (with_reducible repeat (first | apply Kd.R_alloc | apply Kd.R_drewN | apply Kd.R_drew)); exact Kd.R_mono (Kd.R_far (p := ⟨gb570, 6, none⟩) (Kd.R_far (p := ⟨gb570, 5, none⟩) (Kd.R_far (p := ⟨gb570, 4, none⟩) (Kd.R_far (p := ⟨gb570, 3, none⟩) (Kd.R_far (p := ⟨gb570, 2, none⟩) (Kd.R_far (p := ⟨gb570, 1, none⟩) (Kd.R_far (p := ⟨gb570, 0, none⟩) (Kd.R_mono HO_3.out (fun k_ hk => (⟨hk, hk.2⟩ : _ ∧ k_ ≠ gb570))) (fun _ hk => hk.2) (.int .i64 ((rd_T72 y565 x21_2).f0))) (fun _ hk => hk.2) (.int .i64 ((rd_T72 y565 x21_2).f1))) (fun _ hk => hk.2) (.string ((rd_T72 y565 x21_2).f2))) (fun _ hk => hk.2) (.int .i64 ((rd_T72 y565 x21_2).f3))) (fun _ hk => hk.2) (.string ((rd_T72 y565 x21_2).f4))) (fun _ hk => hk.2) (.int .i64 ((rd_T72 y565 x21_2).f5))) (fun _ hk => hk.2) (.string ((rd_T72 y565 x21_2).f6))) (fun _ hk => hk.1.1)⟩, ⟨by (with_reducible repeat (first | refine blk_drewN ?_ _ | refine blk_drew ?_ | refine blk_alloc ?_ _)); refine blk_far ?_ NB564_570.out _; (with_reducible repeat (first | refine blk_drewN ?_ _ | refine blk_drew ?_ | refine blk_alloc ?_ _)); refine blk_far ?_ NB564_570.out _; (with_reducible repeat (first | refine blk_drewN ?_ _ | refine blk_drew ?_ | refine blk_alloc ?_ _)); refine blk_far ?_ NB564_570.out _; (with_reducible repeat (first | refine blk_drewN ?_ _ | refine blk_drew ?_ | refine blk_alloc ?_ _)); refine blk_far ?_ NB564_570.out _; (with_reducible repeat (first | refine blk_drewN ?_ _ | refine blk_drew ?_ | refine blk_alloc ?_ _)); refine blk_far ?_ NB564_570.out _; (with_reducible repeat (first | refine blk_drewN ?_ _ | refine blk_drew ?_ | refine blk_alloc ?_ _)); refine blk_far ?_ NB564_570.out _; (with_reducible repeat (first | refine blk_drewN ?_ _ | refine blk_drew ?_ | refine blk_alloc ?_ _)); refine blk_far ?_ NB564_570.out _; (with_reducible repeat (first | refine blk_drewN ?_ _ | refine blk_drew ?_ | refine blk_alloc ?_ _)); exact BK564.out⟩, ⟨by repeat (first | (with_reducible first | exact HB.out | apply below_alloc | apply pw_below_drewN | apply below_drew1 | refine below_set ?_ GE564.out | refine below_set ?_ GE570.out) | exact HB.out)⟩⟩
                        · rw [if_neg c14] at H
                          exact absurd H (by simp)
                      · rw [if_neg c13] at H
                        exact absurd H (by simp)
                    · rw [if_neg c12] at H
                      have c12b0 : decide (x21_2 < (y565.length : Int)) = false := decide_eq_false c12
                      clear c12
                      by_cases c33 : ((rd_T72 l0 x11_1).f0) = 5
                      · rw [if_pos c33] at H
                        have c33b0 : (((rd_T72 l0 x11_1).f0) == 5) = true := beq_iff_eq.mpr c33
                        have c33b1 : (((rd_T72 l0 x11_1).f0) != 5) = false := bne_eq_false_iff_eq.mpr c33
                        clear c33
                        by_cases c34 : x6_2 = true
                        · subst c34
                          have H1 : (impl_slimTexts.l0 k2 l0 x3_1 l0 (l0.length : Int) (wrap64 (x11_1 + 1))) = some r := by rw [if_pos rfl] at H; exact H
                          clear H
                          have H := H1
                          clear H1
                          have H' := Aside0.mk H
                          clear H
                          have hcz35_0 : wr.cell? ⟨gb564, 0, none⟩ = some (.int .i64 ((rd_T72 l0 x11_1).f0)) := (blk_cell BK564.out 0).trans rfl
                          have hcz35_1 : wr.cell? ⟨gb564, 1, none⟩ = some (.int .i64 ((rd_T72 l0 x11_1).f1)) := (blk_cell BK564.out 1).trans rfl
                          have hcz35_2 : wr.cell? ⟨gb564, 2, none⟩ = some (.string ((rd_T72 l0 x11_1).f2)) := (blk_cell BK564.out 2).trans rfl
                          have hcz35_3 : wr.cell? ⟨gb564, 3, none⟩ = some (.int .i64 ((rd_T72 l0 x11_1).f3)) := (blk_cell BK564.out 3).trans rfl
                          have hcz35_4 : wr.cell? ⟨gb564, 4, none⟩ = some (.string ((rd_T72 l0 x11_1).f4)) := (blk_cell BK564.out 4).trans rfl
                          have hcz35_5 : wr.cell? ⟨gb564, 5, none⟩ = some (.int .i64 ((rd_T72 l0 x11_1).f5)) := (blk_cell BK564.out 5).trans rfl
                          have hcz35_6 : wr.cell? ⟨gb564, 6, none⟩ = some (.string ((rd_T72 l0 x11_1).f6)) := (blk_cell BK564.out 6).trans rfl
                          have hfz35_0 := blk_frozen BK564.out 0
                          have hfz35_1 := blk_frozen BK564.out 1
                          have hfz35_2 := blk_frozen BK564.out 2
                          have hfz35_3 := blk_frozen BK564.out 3
                          have hfz35_4 := blk_frozen BK564.out 4
                          have hfz35_5 := blk_frozen BK564.out 5
                          have hfz35_6 := blk_frozen BK564.out 6
                          go_wp2
                          go_roundg k2
                          case measure => have := HK1.out; have := HK2.out; omega
                          case rel => exact ⟨(x3_1), (wrap64 (x11_1 + 1)), (by first | rfl | (simp; done) | (simp [*]; done)), H', ⟨by have := HK1.out; have := HK2.out; omega⟩, ⟨by (with_reducible repeat (first | apply Kd.R_alloc | apply Kd.R_drewN | apply Kd.R_drew)); exact Kd.R_mono HO_3.out (fun _ hk => trivial)⟩, ⟨by repeat (first | (with_reducible first | exact HB.out | apply below_alloc | apply pw_below_drewN | apply below_drew1 | refine below_set ?_ GE564.out) | exact HB.out)⟩⟩
                        · replace c34 := Bool.eq_false_iff.mpr c34
                          subst c34
                          have H1 : (if x3_1.length < 1759218604441 then (impl_slimTexts.l0 k2 l0 (x3_1 ++ [(⟨((rd_T72 l0 x11_1).f0), ((rd_T72 l0 x11_1).f1), ((rd_T72 l0 x11_1).f2), ((rd_T72 l0 x11_1).f3), ((rd_T72 l0 x11_1).f4), ((rd_T72 l0 x11_1).f5), ((rd_T72 l0 x11_1).f6)⟩ : S72)]) l0 (l0.length : Int) (wrap64 (x11_1 + 1))) else (none)) = some r := by rw [if_neg (show ¬ (false = true) by decide)] at H; exact H
                          clear H
                          have H := H1
                          clear H1
                          by_cases c36 : x3_1.length < 1759218604441
                          · rw [if_pos c36] at H
                            have LMc36 := Aside0.mk c36
                            clear c36
                            obtain ⟨y571, hy571⟩ : ∃ y_ : List (S72), y_ = (x3_1 ++ [(⟨((rd_T72 l0 x11_1).f0), ((rd_T72 l0 x11_1).f1), ((rd_T72 l0 x11_1).f2), ((rd_T72 l0 x11_1).f3), ((rd_T72 l0 x11_1).f4), ((rd_T72 l0 x11_1).f5), ((rd_T72 l0 x11_1).f6)⟩ : S72)]) := ⟨_, rfl⟩
                            replace H : (impl_slimTexts.l0 k2 l0 y571 l0 (l0.length : Int) (wrap64 (x11_1 + 1))) = some r := by first | (rw [hy571]; with_reducible exact H) | (have H2_ := (Option.bind_some _ _).symm.trans H; rw [hy571]; with_reducible exact H2_) | (have H2_ := (Option.bind_some _ _).symm.trans H; with_reducible exact H2_) | with_reducible exact H | (rw [hy571]; exact H) | exact H
                            have Ny571 := Aside0.mk hy571
                            clear hy571
                            have H' := Aside0.mk H
                            clear H
                            have hcz37_0 : wr.cell? ⟨gb564, 0, none⟩ = some (.int .i64 ((rd_T72 l0 x11_1).f0)) := (blk_cell BK564.out 0).trans rfl
                            have hcz37_1 : wr.cell? ⟨gb564, 1, none⟩ = some (.int .i64 ((rd_T72 l0 x11_1).f1)) := (blk_cell BK564.out 1).trans rfl
                            have hcz37_2 : wr.cell? ⟨gb564, 2, none⟩ = some (.string ((rd_T72 l0 x11_1).f2)) := (blk_cell BK564.out 2).trans rfl
                            have hcz37_3 : wr.cell? ⟨gb564, 3, none⟩ = some (.int .i64 ((rd_T72 l0 x11_1).f3)) := (blk_cell BK564.out 3).trans rfl
                            have hcz37_4 : wr.cell? ⟨gb564, 4, none⟩ = some (.string ((rd_T72 l0 x11_1).f4)) := (blk_cell BK564.out 4).trans rfl
                            have hcz37_5 : wr.cell? ⟨gb564, 5, none⟩ = some (.int .i64 ((rd_T72 l0 x11_1).f5)) := (blk_cell BK564.out 5).trans rfl
                            have hcz37_6 : wr.cell? ⟨gb564, 6, none⟩ = some (.string ((rd_T72 l0 x11_1).f6)) := (blk_cell BK564.out 6).trans rfl
                            have hfz37_0 := blk_frozen BK564.out 0
                            have hfz37_1 := blk_frozen BK564.out 1
                            have hfz37_2 := blk_frozen BK564.out 2
                            have hfz37_3 := blk_frozen BK564.out 3
                            have hfz37_4 := blk_frozen BK564.out 4
                            have hfz37_5 := blk_frozen BK564.out 5
                            have hfz37_6 := blk_frozen BK564.out 6
                            go_wp2_with (first | ((with_reducible refine gate_builtin (b := .append) (xs := #[.tmp 51, .tmp 53]) rfl ?_); at_builtin; refine Kd.R_append k72 (w0 := w) w.heap.size rfl (.tmp 51) (.tmp 53) 34 72 (.agg #[(.int .i64 0), (.int .i64 0), (.string ⟨#[]⟩), (.int .i64 0), (.string ⟨#[]⟩), (.int .i64 0), (.string ⟨#[]⟩)]) 80 rfl Try.underlying34 info72 rfl (by decide) (by omega) u3 x3_1 (⟨((rd_T72 l0 x11_1).f0), ((rd_T72 l0 x11_1).f1), ((rd_T72 l0 x11_1).f2), ((rd_T72 l0 x11_1).f3), ((rd_T72 l0 x11_1).f4), ((rd_T72 l0 x11_1).f5), ((rd_T72 l0 x11_1).f6)⟩ : S72) [.int .i64 ((rd_T72 l0 x11_1).f0), .int .i64 ((rd_T72 l0 x11_1).f1), .string ((rd_T72 l0 x11_1).f2), .int .i64 ((rd_T72 l0 x11_1).f3), .string ((rd_T72 l0 x11_1).f4), .int .i64 ((rd_T72 l0 x11_1).f5), .string ((rd_T72 l0 x11_1).f6)] (fun k_ => k_ ≠ gb564) (fun _ => False) rfl rfl ?aP (fun _ hk => hk.elim) ?aF ?aO ?aB ?aS ?aL ?_; (case aP => exact k72_mkM _ _ _ (⟨((rd_T72 l0 x11_1).f0), ((rd_T72 l0 x11_1).f1), ((rd_T72 l0 x11_1).f2), ((rd_T72 l0 x11_1).f3), ((rd_T72 l0 x11_1).f4), ((rd_T72 l0 x11_1).f5), ((rd_T72 l0 x11_1).f6)⟩ : S72)); (case aB => exact (by repeat (first | (with_reducible first | exact HB.out | apply below_alloc | apply pw_below_drewN | apply below_drew1 | refine below_set ?_ GE564.out) | exact HB.out))); (case aF => exact (fun k_ hk => Kd.freshB (g := gb564) (o := .cells #[.int .i64 ((rd_T72 l0 x11_1).f0), .int .i64 ((rd_T72 l0 x11_1).f1), .string ((rd_T72 l0 x11_1).f2), .int .i64 ((rd_T72 l0 x11_1).f3), .string ((rd_T72 l0 x11_1).f4), .int .i64 ((rd_T72 l0 x11_1).f5), .string ((rd_T72 l0 x11_1).f6)] 72 (0, 0)) (by (with_reducible repeat (first | refine blk_drewN ?_ _ | refine blk_drew ?_ | refine blk_alloc ?_ _)); exact BK564.out) k_ hk)); (case aO => exact (by (with_reducible repeat (first | apply Kd.R_alloc | apply Kd.R_drewN | apply Kd.R_drew)); exact HO_3.out)); (case aS => exact (below_size (by repeat (first | (with_reducible first | exact HB.out | apply below_alloc | apply pw_below_drewN | apply below_drew1 | refine below_set ?_ GE564.out) | exact HB.out)))); (case aL => have := LMc36.out; omega); intro v572 w38 ho hb hg hat; rw [← Ny571.out] at ho; have n0_ := Aside0.mk (blk_grown (g := gb564) (o := .cells #[.int .i64 ((rd_T72 l0 x11_1).f0), .int .i64 ((rd_T72 l0 x11_1).f1), .string ((rd_T72 l0 x11_1).f2), .int .i64 ((rd_T72 l0 x11_1).f3), .string ((rd_T72 l0 x11_1).f4), .int .i64 ((rd_T72 l0 x11_1).f5), .string ((rd_T72 l0 x11_1).f6)] 72 (0, 0)) (by (with_reducible repeat (first | refine blk_drewN ?_ _ | refine blk_drew ?_ | refine blk_alloc ?_ _)); exact BK564.out) hg (Kd.R_away HO_3.out (fun _ hk => hk))); have n1_ := Aside0.mk (hb); have n2_ := Aside0.mk (ho); clear BK564; clear HB; clear HO_3; have BK564 := n0_; have HB := n1_; have HO573 := n2_; clear n0_ n1_ n2_; clear ho hb hg hat))
                            go_roundg k2
                            case measure => have := HK1.out; have := HK2.out; omega
                            case rel => exact ⟨(y571), (wrap64 (x11_1 + 1)), (by first | rfl | (simp; done) | (simp [*]; done)), H', ⟨by have := HK1.out; have := HK2.out; omega⟩, ⟨by (with_reducible repeat (first | apply Kd.R_alloc | apply Kd.R_drewN | apply Kd.R_drew)); exact Kd.R_mono HO573.out (fun _ hk => trivial)⟩, ⟨by repeat (first | (with_reducible first | exact HB.out | apply below_alloc | apply pw_below_drewN | apply below_drew1 | refine below_set ?_ GE564.out) | exact HB.out)⟩⟩
                          · rw [if_neg c36] at H
                            exact absurd H (by simp)
                      · rw [if_neg c33] at H
                        have c33b0 : (((rd_T72 l0 x11_1).f0) == 5) = false := beq_eq_false_iff_ne.mpr c33
                        have c33b1 : (((rd_T72 l0 x11_1).f0) != 5) = true := bne_iff_ne.mpr c33
                        by_cases c39 : x3_1.length < 1759218604441
                        · rw [if_pos c39] at H
                          have LMc39 := Aside0.mk c39
                          clear c39
                          obtain ⟨y574, hy574⟩ : ∃ y_ : List (S72), y_ = (x3_1 ++ [(⟨((rd_T72 l0 x11_1).f0), ((rd_T72 l0 x11_1).f1), ((rd_T72 l0 x11_1).f2), ((rd_T72 l0 x11_1).f3), ((rd_T72 l0 x11_1).f4), ((rd_T72 l0 x11_1).f5), ((rd_T72 l0 x11_1).f6)⟩ : S72)]) := ⟨_, rfl⟩
                          replace H : (impl_slimTexts.l0 k2 l0 y574 l0 (l0.length : Int) (wrap64 (x11_1 + 1))) = some r := by first | (rw [hy574]; with_reducible exact H) | (have H2_ := (Option.bind_some _ _).symm.trans H; rw [hy574]; with_reducible exact H2_) | (have H2_ := (Option.bind_some _ _).symm.trans H; with_reducible exact H2_) | with_reducible exact H | (rw [hy574]; exact H) | exact H
                          have Ny574 := Aside0.mk hy574
                          clear hy574
                          have H' := Aside0.mk H
                          clear H
                          have hcz40_0 : wr.cell? ⟨gb564, 0, none⟩ = some (.int .i64 ((rd_T72 l0 x11_1).f0)) := (blk_cell BK564.out 0).trans rfl
                          have hcz40_1 : wr.cell? ⟨gb564, 1, none⟩ = some (.int .i64 ((rd_T72 l0 x11_1).f1)) := (blk_cell BK564.out 1).trans rfl
                          have hcz40_2 : wr.cell? ⟨gb564, 2, none⟩ = some (.string ((rd_T72 l0 x11_1).f2)) := (blk_cell BK564.out 2).trans rfl
                          have hcz40_3 : wr.cell? ⟨gb564, 3, none⟩ = some (.int .i64 ((rd_T72 l0 x11_1).f3)) := (blk_cell BK564.out 3).trans rfl
                          have hcz40_4 : wr.cell? ⟨gb564, 4, none⟩ = some (.string ((rd_T72 l0 x11_1).f4)) := (blk_cell BK564.out 4).trans rfl
                          have hcz40_5 : wr.cell? ⟨gb564, 5, none⟩ = some (.int .i64 ((rd_T72 l0 x11_1).f5)) := (blk_cell BK564.out 5).trans rfl
                          have hcz40_6 : wr.cell? ⟨gb564, 6, none⟩ = some (.string ((rd_T72 l0 x11_1).f6)) := (blk_cell BK564.out 6).trans rfl
                          have hfz40_0 := blk_frozen BK564.out 0
                          have hfz40_1 := blk_frozen BK564.out 1
                          have hfz40_2 := blk_frozen BK564.out 2
                          have hfz40_3 := blk_frozen BK564.out 3
                          have hfz40_4 := blk_frozen BK564.out 4
                          have hfz40_5 := blk_frozen BK564.out 5
                          have hfz40_6 := blk_frozen BK564.out 6
                          go_wp2_with (first | ((with_reducible refine gate_builtin (b := .append) (xs := #[.tmp 51, .tmp 53]) rfl ?_); at_builtin; refine Kd.R_append k72 (w0 := w) w.heap.size rfl (.tmp 51) (.tmp 53) 34 72 (.agg #[(.int .i64 0), (.int .i64 0), (.string ⟨#[]⟩), (.int .i64 0), (.string ⟨#[]⟩), (.int .i64 0), (.string ⟨#[]⟩)]) 80 rfl Try.underlying34 info72 rfl (by decide) (by omega) u3 x3_1 (⟨((rd_T72 l0 x11_1).f0), ((rd_T72 l0 x11_1).f1), ((rd_T72 l0 x11_1).f2), ((rd_T72 l0 x11_1).f3), ((rd_T72 l0 x11_1).f4), ((rd_T72 l0 x11_1).f5), ((rd_T72 l0 x11_1).f6)⟩ : S72) [.int .i64 ((rd_T72 l0 x11_1).f0), .int .i64 ((rd_T72 l0 x11_1).f1), .string ((rd_T72 l0 x11_1).f2), .int .i64 ((rd_T72 l0 x11_1).f3), .string ((rd_T72 l0 x11_1).f4), .int .i64 ((rd_T72 l0 x11_1).f5), .string ((rd_T72 l0 x11_1).f6)] (fun k_ => k_ ≠ gb564) (fun _ => False) rfl rfl ?aP (fun _ hk => hk.elim) ?aF ?aO ?aB ?aS ?aL ?_; (case aP => exact k72_mkM _ _ _ (⟨((rd_T72 l0 x11_1).f0), ((rd_T72 l0 x11_1).f1), ((rd_T72 l0 x11_1).f2), ((rd_T72 l0 x11_1).f3), ((rd_T72 l0 x11_1).f4), ((rd_T72 l0 x11_1).f5), ((rd_T72 l0 x11_1).f6)⟩ : S72)); (case aB => exact (by repeat (first | (with_reducible first | exact HB.out | apply below_alloc | apply pw_below_drewN | apply below_drew1 | refine below_set ?_ GE564.out) | exact HB.out))); (case aF => exact (fun k_ hk => Kd.freshB (g := gb564) (o := .cells #[.int .i64 ((rd_T72 l0 x11_1).f0), .int .i64 ((rd_T72 l0 x11_1).f1), .string ((rd_T72 l0 x11_1).f2), .int .i64 ((rd_T72 l0 x11_1).f3), .string ((rd_T72 l0 x11_1).f4), .int .i64 ((rd_T72 l0 x11_1).f5), .string ((rd_T72 l0 x11_1).f6)] 72 (0, 0)) (by (with_reducible repeat (first | refine blk_drewN ?_ _ | refine blk_drew ?_ | refine blk_alloc ?_ _)); exact BK564.out) k_ hk)); (case aO => exact (by (with_reducible repeat (first | apply Kd.R_alloc | apply Kd.R_drewN | apply Kd.R_drew)); exact HO_3.out)); (case aS => exact (below_size (by repeat (first | (with_reducible first | exact HB.out | apply below_alloc | apply pw_below_drewN | apply below_drew1 | refine below_set ?_ GE564.out) | exact HB.out)))); (case aL => have := LMc39.out; omega); intro v575 w41 ho hb hg hat; rw [← Ny574.out] at ho; have n0_ := Aside0.mk (blk_grown (g := gb564) (o := .cells #[.int .i64 ((rd_T72 l0 x11_1).f0), .int .i64 ((rd_T72 l0 x11_1).f1), .string ((rd_T72 l0 x11_1).f2), .int .i64 ((rd_T72 l0 x11_1).f3), .string ((rd_T72 l0 x11_1).f4), .int .i64 ((rd_T72 l0 x11_1).f5), .string ((rd_T72 l0 x11_1).f6)] 72 (0, 0)) (by (with_reducible repeat (first | refine blk_drewN ?_ _ | refine blk_drew ?_ | refine blk_alloc ?_ _)); exact BK564.out) hg (Kd.R_away HO_3.out (fun _ hk => hk))); have n1_ := Aside0.mk (hb); have n2_ := Aside0.mk (ho); clear BK564; clear HB; clear HO_3; have BK564 := n0_; have HB := n1_; have HO576 := n2_; clear n0_ n1_ n2_; clear ho hb hg hat))
                          go_roundg k2
                          case measure => have := HK1.out; have := HK2.out; omega
                          case rel => exact ⟨(y574), (wrap64 (x11_1 + 1)), (by first | rfl | (simp; done) | (simp [*]; done)), H', ⟨by have := HK1.out; have := HK2.out; omega⟩, ⟨by (with_reducible repeat (first | apply Kd.R_alloc | apply Kd.R_drewN | apply Kd.R_drew)); exact Kd.R_mono HO576.out (fun _ hk => trivial)⟩, ⟨by repeat (first | (with_reducible first | exact HB.out | apply below_alloc | apply pw_below_drewN | apply below_drew1 | refine below_set ?_ GE564.out) | exact HB.out)⟩⟩
                        · rw [if_neg c39] at H
                          exact absurd H (by simp)
              · rw [if_neg c7] at H
                exact absurd H (by simp)
            · rw [if_neg c6] at H
              exact absurd H (by simp)
          · rw [if_neg c4] at H
            exact absurd H (by simp)
        · rw [if_neg c3] at H
          exact absurd H (by simp)
      · rw [if_neg c2] at H
        have c2b0 : decide (x11_1 < (l0.length : Int)) = false := decide_eq_false c2
        clear c2
        obtain rfl := Option.some.inj H
        go_wp2
        go_ret
        exact ⟨_, by first | rfl | (simp [errW_none, errW_some] <;> rfl) | (simp [*, errW_none, errW_some] <;> rfl), by (with_reducible repeat (first | apply Kd.R_alloc | apply Kd.R_drewN | apply Kd.R_drew)); exact HO_3.out, by repeat (first | (with_reducible first | exact HB.out | apply below_alloc | apply pw_below_drewN | apply below_drew1) | exact HB.out)⟩
end Go.Proofs.Ytjcpkplneflleaa.Q
namespace Go.Proofs.Ytjcpkplneflleaa.Q
open Go.RowKit Go.Proofs.YtjcpkplneflleaaW.PrintWords Go.Proofs.YtjcpkplneflleaaW.PrintLast Go.Proofs.YtjcpkplneflleaaW.PrintMore
attribute [local go_sem] max2_int min2_int max_two min_two max_three min_three max_four min_four   -- for this text's walks alone
set_option linter.unusedVariables false
set_option linter.unusedSimpArgs false
def impl_SlimTexts.f (k : Nat) (l0 : List (S72)) : Option ((List (S72))) := (impl_opsOk.f k l0 60).bind fun t577 => (if t577 = true then ((impl_slimTexts.f k l0).bind fun t578 => ((impl_Op_95.f t578).bind fun t581 => (some t581))) else (some ([] : List (S72))))
set_option maxHeartbeats 8000000 in
set_option maxRecDepth 100000 in
theorem impl_SlimTexts.calls (k : Nat) (A0 : Option Addr) (c0 : Nat) (l0 : List (S72)) (r : List (S72)) (w : World) (hr0 : Kd.C k72 w A0 l0.length l0) (hc0 : l0.length ≤ c0) (h : impl_SlimTexts.f k l0 = some r) :
    Calls Try.prog 40 #[.slice A0 l0.length c0] w fun e w' => ∃ v0_ : Value, e = .returned (v0_) ∧ Kd.R k72 72 w' w.heap.size (fun _ => True) v0_ r ∧ Below w.heap.size w w' := by
  have HR0 := Aside0.mk hr0
  have HC0 := Aside0.mk hc0
  clear hr0 hc0
  have HB := Aside0.mk (Below.refl w.heap.size w)
  have H : ((impl_opsOk.f k l0 60).bind fun t577 => (if t577 = true then ((impl_slimTexts.f k l0).bind fun t578 => ((impl_Op_95.f t578).bind fun t581 => (some t581))) else (some ([] : List (S72))))) = some r := h
  clear h
  replace H := Option.bind_eq_some_iff.mp H
  obtain ⟨t577, A20, H⟩ := H
  replace H : (if t577 = true then ((impl_slimTexts.f k l0).bind fun t578 => ((impl_Op_95.f t578).bind fun t581 => (some t581))) else (some ([] : List (S72)))) = some r := H
  have A2 := Aside0.mk A20
  clear A20
  by_cases c3 : t577 = true
  · subst c3
    have H1 : ((impl_slimTexts.f k l0).bind fun t578 => ((impl_Op_95.f t578).bind fun t581 => (some t581))) = some r := by rw [if_pos rfl] at H; exact H
    clear H
    have H := H1
    clear H1
    replace H := Option.bind_eq_some_iff.mp H
    obtain ⟨t578, A40, H⟩ := H
    replace H : ((impl_Op_95.f t578).bind fun t581 => (some t581)) = some r := H
    have A4 := Aside0.mk A40
    clear A40
    replace H := Option.bind_eq_some_iff.mp H
    obtain ⟨t581, A50, H⟩ := H
    replace H : (some t581) = some r := H
    have A5 := Aside0.mk A50
    clear A50
    obtain rfl := Option.some.inj H
    go_enter Try.func40, Try.ntmps40
    go_wp2_with (first | ((with_reducible refine gate_callee (f := 86) rfl ?_); refine goesL_ (some 4) rfl rfl Try.func86 (by kernel_rfl) rfl #[.slice A0 l0.length c0, .int .i64 60] rfl (by (try simp only [List.map_toArray, List.map_cons, List.map_nil]); first | done | rfl | (simp only [List.length_drop, List.length_take]; rfl)) ?_; (with_reducible refine (impl_opsOk.calls k _ _ l0 60 true _ ?side1 ?side2 A2.out).mono ?_); (case side1 => repeat (first | exact HR0.out | (with_reducible refine Kd.C_alloc ?_ _) | (with_reducible refine Kd.C_drewN ?_ _) | (with_reducible refine Kd.C_drew ?_))); (case side2 => exact HC0.out); rintro e w6 ⟨rfl, hb⟩; refine ⟨_, rfl, ?_⟩; have n0_ := Aside0.mk (below_step (by repeat (first | (with_reducible first | exact HB.out | apply below_alloc | apply pw_below_drewN | apply below_drew1) | exact HB.out)) hb); clear HB; have HB := n0_; clear n0_; (try clear hb); (try clear hb2); (try clear hk); (try clear hi)) | ((with_reducible refine gate_callee (f := 96) rfl ?_); refine goesL_ (some 7) rfl rfl Try.func96 (by kernel_rfl) rfl #[.slice A0 l0.length c0] rfl (by (try simp only [List.map_toArray, List.map_cons, List.map_nil]); first | done | rfl | (simp only [List.length_drop, List.length_take]; rfl)) ?_; (with_reducible refine (impl_slimTexts.calls k _ _ l0 t578 _ ?side1 ?side2 A4.out).mono ?_); (case side1 => repeat (first | exact (Kd.C_below HR0.out HB.out) | (with_reducible refine Kd.C_alloc ?_ _) | (with_reducible refine Kd.C_drewN ?_ _) | (with_reducible refine Kd.C_drew ?_))); (case side2 => exact HC0.out); rintro e w7 ⟨v579, rfl, ho0, hb⟩; refine ⟨_, rfl, ?_⟩; have n0_ := Aside0.mk (Kd.R_lower ho0 (below_size (by repeat (first | (with_reducible first | exact HB.out | apply below_alloc | apply pw_below_drewN | apply below_drew1) | exact HB.out)))); have n1_ := Aside0.mk (below_step (by repeat (first | (with_reducible first | exact HB.out | apply below_alloc | apply pw_below_drewN | apply below_drew1) | exact HB.out)) hb); clear HB; have HO580 := n0_; have HB := n1_; clear n0_ n1_; (try clear hb); (try clear hb2); (try clear hk); (try clear hi); (try clear ho0); obtain ⟨Ao8, co8, eo8⟩ := Kd.R_slice HO580.out; subst eo8) | ((with_reducible refine gate_callee (f := 95) rfl ?_); refine goesL_ (some 8) rfl rfl Try.func95 (by kernel_rfl) rfl #[.slice Ao8 t578.length co8] rfl (by (try simp only [List.map_toArray, List.map_cons, List.map_nil]); first | done | rfl | (simp only [List.length_drop, List.length_take]; rfl)) ?_; (with_reducible refine (impl_Op_95.calls _ _ t578 t581 _ ?side1 ?side2 A5.out).mono ?_); (case side1 => repeat (first | exact (Kd.R_reads' HO580.out).2.2 | (with_reducible refine Kd.C_alloc ?_ _) | (with_reducible refine Kd.C_drewN ?_ _) | (with_reducible refine Kd.C_drew ?_))); (case side2 => exact (Kd.R_reads' HO580.out).2.1); rintro e w9 ⟨v582, rfl, ho0, hb⟩; refine ⟨_, rfl, ?_⟩; have n0_ := Aside0.mk (Kd.R_elder' (by (with_reducible repeat (first | apply Kd.R_alloc | apply Kd.R_drewN | apply Kd.R_drew)); exact HO580.out) (Kd.R_base ho0) hb); have n1_ := Aside0.mk (Kd.R_lower (Kd.R_new' ho0 (Kd.R_lt (by (with_reducible repeat (first | apply Kd.R_alloc | apply Kd.R_drewN | apply Kd.R_drew)); exact HO580.out))) (below_size (by repeat (first | (with_reducible first | exact HB.out | apply below_alloc | apply pw_below_drewN | apply below_drew1) | exact HB.out)))); have n2_ := Aside0.mk (below_step (by repeat (first | (with_reducible first | exact HB.out | apply below_alloc | apply pw_below_drewN | apply below_drew1) | exact HB.out)) hb); clear HO580; clear HB; have HO580 := n0_; have HO583 := n1_; have HB := n2_; clear n0_ n1_ n2_; (try clear hb); (try clear hb2); (try clear hk); (try clear hi); (try clear ho0)))
    go_ret
    exact ⟨_, by first | rfl | (simp [errW_none, errW_some] <;> rfl) | (simp [*, errW_none, errW_some] <;> rfl), by (with_reducible repeat (first | apply Kd.R_alloc | apply Kd.R_drewN | apply Kd.R_drew)); exact Kd.R_mono HO583.out (fun _ hk => trivial), by repeat (first | (with_reducible first | exact HB.out | apply below_alloc | apply pw_below_drewN | apply below_drew1) | exact HB.out)⟩
  · replace c3 := Bool.eq_false_iff.mpr c3
    subst c3
    have H1 : (some ([] : List (S72))) = some r := by rw [if_neg (show ¬ (false = true) by decide)] at H; exact H
    clear H
    have H := H1
    clear H1
    obtain rfl := Option.some.inj H
    go_enter Try.func40, Try.ntmps40
    go_wp2_with (first | ((with_reducible refine gate_callee (f := 86) rfl ?_); refine goesL_ (some 4) rfl rfl Try.func86 (by kernel_rfl) rfl #[.slice A0 l0.length c0, .int .i64 60] rfl (by (try simp only [List.map_toArray, List.map_cons, List.map_nil]); first | done | rfl | (simp only [List.length_drop, List.length_take]; rfl)) ?_; (with_reducible refine (impl_opsOk.calls k _ _ l0 60 false _ ?side1 ?side2 A2.out).mono ?_); (case side1 => repeat (first | exact HR0.out | (with_reducible refine Kd.C_alloc ?_ _) | (with_reducible refine Kd.C_drewN ?_ _) | (with_reducible refine Kd.C_drew ?_))); (case side2 => exact HC0.out); rintro e w10 ⟨rfl, hb⟩; refine ⟨_, rfl, ?_⟩; have n0_ := Aside0.mk (below_step (by repeat (first | (with_reducible first | exact HB.out | apply below_alloc | apply pw_below_drewN | apply below_drew1) | exact HB.out)) hb); clear HB; have HB := n0_; clear n0_; (try clear hb); (try clear hb2); (try clear hk); (try clear hi)))
    go_ret
    exact ⟨_, by first | rfl | (simp [errW_none, errW_some] <;> rfl) | (simp [*, errW_none, errW_some] <;> rfl), by first | exact Kd.R_nil _ _ _ _ _ | exact Kd.N_nil _ _ _ _ _ | exact Kd.V_nil _ _ _ _ _ | exact Kd.Q_nil _ _ _ _ _ | exact Kd.S_nil _ _ _ _ _, by repeat (first | (with_reducible first | exact HB.out | apply below_alloc | apply pw_below_drewN | apply below_drew1) | exact HB.out)⟩
end Go.Proofs.Ytjcpkplneflleaa.Q
namespace Go.Proofs.Ytjcpkplneflleaa.Q
open Go.RowKit Go.Proofs.YtjcpkplneflleaaW.PrintWords Go.Proofs.YtjcpkplneflleaaW.PrintLast Go.Proofs.YtjcpkplneflleaaW.PrintMore
attribute [local go_sem] max2_int min2_int max_two min_two max_three min_three max_four min_four   -- for this text's walks alone
set_option linter.unusedVariables false
set_option linter.unusedSimpArgs false
def laws_heldOpS.l0 : Nat → List (S72) → Int → Int → Option (Int)
  | 0, _, _, _ => none
  | k + 1, x0, x1, x5 => if x5 < (x0.length : Int) then (if 0 ≤ x5 then (if ((rd_T72 x0 x5).f0) = x1 then (if ((rd_T72 x0 x5).f1) = (wrap64 (x1 + 1)) then ((laws_markText.f k (wrap64 ((wrap64 (x1 + 1)) + 1))).bind fun t587 => (if ((rd_T72 x0 x5).f2).toList = t587.toList then (if ((rd_T72 x0 x5).f3) = (wrap64 ((wrap64 ((wrap64 (x1 + 1)) + 1)) + 1)) then ((laws_markText.f k (wrap64 ((wrap64 ((wrap64 ((wrap64 (x1 + 1)) + 1)) + 1)) + 1))).bind fun t590 => (if ((rd_T72 x0 x5).f4).toList = t590.toList then (if ((rd_T72 x0 x5).f5) = (wrap64 ((wrap64 ((wrap64 ((wrap64 ((wrap64 (x1 + 1)) + 1)) + 1)) + 1)) + 1)) then ((laws_markText.f k (wrap64 ((wrap64 ((wrap64 ((wrap64 ((wrap64 ((wrap64 (x1 + 1)) + 1)) + 1)) + 1)) + 1)) + 1))).bind fun t593 => (if ((rd_T72 x0 x5).f6).toList = t593.toList then (laws_heldOpS.l0 k x0 (wrap64 ((wrap64 ((wrap64 ((wrap64 ((wrap64 ((wrap64 ((wrap64 (x1 + 1)) + 1)) + 1)) + 1)) + 1)) + 1)) + 1)) (wrap64 (x5 + 1))) else (some (-1)))) else (some (-1))) else (some (-1)))) else (some (-1))) else (some (-1)))) else (some (-1))) else (some (-1))) else (none)) else (some x1)
def laws_heldOpS.f (k : Nat) (l0 : List (S72)) (a1 : Int) : Option (Int) := laws_heldOpS.l0 k l0 a1 0
def laws_heldOpS.T10 : Bool × List (List Nat × List Nat) := (true, [([], []), ([], []), ([0, 1], [0, 1]), ([2], [2]), ([3], [3]), ([], []), ([5], [5]), ([4, 6], [4, 6])])
def laws_heldOpS.B10 : List Nat := [0, 0, 3, 7, 15, 0, 32, 127]
theorem laws_heldOpS.tab10 : rtab .any (opsOf Try.f41 10) = laws_heldOpS.T10 := by kernel_rfl
theorem laws_heldOpS.bits10 : waitsOk laws_heldOpS.T10.2 laws_heldOpS.B10 = true := by kernel_rfl
def laws_heldOpS.T16 : Bool × List (List Nat × List Nat) := (true, [([], []), ([], []), ([0, 1], [0, 1]), ([2], [2]), ([3], [3]), ([], []), ([5], [5]), ([4, 6], [4, 6])])
def laws_heldOpS.B16 : List Nat := [0, 0, 3, 7, 15, 0, 32, 127]
theorem laws_heldOpS.tab16 : rtab .any (opsOf Try.f41 16) = laws_heldOpS.T16 := by kernel_rfl
theorem laws_heldOpS.bits16 : waitsOk laws_heldOpS.T16.2 laws_heldOpS.B16 = true := by kernel_rfl
def laws_heldOpS.T22 : Bool × List (List Nat × List Nat) := (true, [([], []), ([], []), ([0, 1], [0, 1]), ([2], [2]), ([3], [3]), ([], []), ([5], [5]), ([4, 6], [4, 6])])
def laws_heldOpS.B22 : List Nat := [0, 0, 3, 7, 15, 0, 32, 127]
theorem laws_heldOpS.tab22 : rtab .any (opsOf Try.f41 22) = laws_heldOpS.T22 := by kernel_rfl
theorem laws_heldOpS.bits22 : waitsOk laws_heldOpS.T22.2 laws_heldOpS.B22 = true := by kernel_rfl
set_option maxHeartbeats 8000000 in
set_option maxRecDepth 100000 in
theorem laws_heldOpS.calls (k : Nat) (A0 : Option Addr) (c0 : Nat) (l0 : List (S72)) (a1 : Int) (r : Int) (w : World) (hr0 : Kd.C k72 w A0 l0.length l0) (hc0 : l0.length ≤ c0) (h : laws_heldOpS.f k l0 a1 = some r) :
    Calls Try.prog 41 #[.slice A0 l0.length c0, .int .i64 a1] w fun e w' => e = .returned (.int .i64 r) ∧ Below w.heap.size w w' := by
  have HR0 := Aside0.mk hr0
  have HC0 := Aside0.mk hc0
  clear hr0 hc0
  have HB := Aside0.mk (Below.refl w.heap.size w)
  have H : (laws_heldOpS.l0 k l0 a1 0) = some r := h
  clear h
  have H' := Aside0.mk H
  clear H
  go_enter Try.func41, Try.ntmps41
  go_wp2
  go_loopg [1, 5] k (fun kq v1 v5 w' => ∃ (x1_1 : Int) (x5_1 : Int), v1 = .int .i64 x1_1 ∧ v5 = .int .i64 x5_1 ∧ Aside0 (laws_heldOpS.l0 kq l0 x1_1 x5_1 = some r) ∧ Aside0 (kq ≤ k) ∧ Aside0 (Below w.heap.size w w'))
  case atStart => exact ⟨(a1), (0), (by first | rfl | (simp; done) | (simp [*]; done)), (by first | rfl | (simp; done) | (simp [*]; done)), H', ⟨Nat.le_refl _⟩, ⟨by repeat (first | (with_reducible first | exact HB.out | apply below_alloc | apply pw_below_drewN | apply below_drew1) | exact HB.out)⟩⟩
  case round =>
    clear H'
    try clear p2
    obtain ⟨x1_1, x5_1, rfl, rfl, HA, HK1, HB⟩ := hrel
    cases gk with
    | zero => exact absurd HA.out (by simp [laws_heldOpS.l0])
    | succ k1 =>
      have H := HA.out
      clear HA
      simp only [laws_heldOpS.l0] at H
      by_cases c3 : x5_1 < (l0.length : Int)
      · rw [if_pos c3] at H
        have c3b0 : decide (x5_1 < (l0.length : Int)) = true := decide_eq_true c3
        clear c3
        by_cases c4 : 0 ≤ x5_1
        · rw [if_pos c4] at H
          have c4b0 : decide (0 ≤ x5_1) = true := decide_eq_true c4
          clear c4
          by_cases c5 : ((rd_T72 l0 x5_1).f0) = x1_1
          · rw [if_pos c5] at H
            have c5b0 : (((rd_T72 l0 x5_1).f0) == x1_1) = true := beq_iff_eq.mpr c5
            have c5b1 : (((rd_T72 l0 x5_1).f0) != x1_1) = false := bne_eq_false_iff_eq.mpr c5
            clear c5
            by_cases c6 : ((rd_T72 l0 x5_1).f1) = (wrap64 (x1_1 + 1))
            · rw [if_pos c6] at H
              have c6b0 : (((rd_T72 l0 x5_1).f1) == (wrap64 (x1_1 + 1))) = true := beq_iff_eq.mpr c6
              have c6b1 : (((rd_T72 l0 x5_1).f1) != (wrap64 (x1_1 + 1))) = false := bne_eq_false_iff_eq.mpr c6
              clear c6
              replace H := Option.bind_eq_some_iff.mp H
              obtain ⟨t587, A70, H⟩ := H
              replace H : (if ((rd_T72 l0 x5_1).f2).toList = t587.toList then (if ((rd_T72 l0 x5_1).f3) = (wrap64 ((wrap64 ((wrap64 (x1_1 + 1)) + 1)) + 1)) then ((laws_markText.f k1 (wrap64 ((wrap64 ((wrap64 ((wrap64 (x1_1 + 1)) + 1)) + 1)) + 1))).bind fun t590 => (if ((rd_T72 l0 x5_1).f4).toList = t590.toList then (if ((rd_T72 l0 x5_1).f5) = (wrap64 ((wrap64 ((wrap64 ((wrap64 ((wrap64 (x1_1 + 1)) + 1)) + 1)) + 1)) + 1)) then ((laws_markText.f k1 (wrap64 ((wrap64 ((wrap64 ((wrap64 ((wrap64 ((wrap64 (x1_1 + 1)) + 1)) + 1)) + 1)) + 1)) + 1))).bind fun t593 => (if ((rd_T72 l0 x5_1).f6).toList = t593.toList then (laws_heldOpS.l0 k1 l0 (wrap64 ((wrap64 ((wrap64 ((wrap64 ((wrap64 ((wrap64 ((wrap64 (x1_1 + 1)) + 1)) + 1)) + 1)) + 1)) + 1)) + 1)) (wrap64 (x5_1 + 1))) else (some (-1)))) else (some (-1))) else (some (-1)))) else (some (-1))) else (some (-1))) = some r := H
              have A7 := Aside0.mk A70
              clear A70
              by_cases c8 : ((rd_T72 l0 x5_1).f2).toList = t587.toList
              · rw [if_pos c8] at H
                have c8b0 : (((rd_T72 l0 x5_1).f2).toList == t587.toList) = true := beq_iff_eq.mpr c8
                have c8b1 : (((rd_T72 l0 x5_1).f2).toList != t587.toList) = false := bne_eq_false_iff_eq.mpr c8
                clear c8
                by_cases c9 : ((rd_T72 l0 x5_1).f3) = (wrap64 ((wrap64 ((wrap64 (x1_1 + 1)) + 1)) + 1))
                · rw [if_pos c9] at H
                  have c9b0 : (((rd_T72 l0 x5_1).f3) == (wrap64 ((wrap64 ((wrap64 (x1_1 + 1)) + 1)) + 1))) = true := beq_iff_eq.mpr c9
                  have c9b1 : (((rd_T72 l0 x5_1).f3) != (wrap64 ((wrap64 ((wrap64 (x1_1 + 1)) + 1)) + 1))) = false := bne_eq_false_iff_eq.mpr c9
                  clear c9
                  replace H := Option.bind_eq_some_iff.mp H
                  obtain ⟨t590, A100, H⟩ := H
                  replace H : (if ((rd_T72 l0 x5_1).f4).toList = t590.toList then (if ((rd_T72 l0 x5_1).f5) = (wrap64 ((wrap64 ((wrap64 ((wrap64 ((wrap64 (x1_1 + 1)) + 1)) + 1)) + 1)) + 1)) then ((laws_markText.f k1 (wrap64 ((wrap64 ((wrap64 ((wrap64 ((wrap64 ((wrap64 (x1_1 + 1)) + 1)) + 1)) + 1)) + 1)) + 1))).bind fun t593 => (if ((rd_T72 l0 x5_1).f6).toList = t593.toList then (laws_heldOpS.l0 k1 l0 (wrap64 ((wrap64 ((wrap64 ((wrap64 ((wrap64 ((wrap64 ((wrap64 (x1_1 + 1)) + 1)) + 1)) + 1)) + 1)) + 1)) + 1)) (wrap64 (x5_1 + 1))) else (some (-1)))) else (some (-1))) else (some (-1))) = some r := H
                  have A10 := Aside0.mk A100
                  clear A100
                  by_cases c11 : ((rd_T72 l0 x5_1).f4).toList = t590.toList
                  · rw [if_pos c11] at H
                    have c11b0 : (((rd_T72 l0 x5_1).f4).toList == t590.toList) = true := beq_iff_eq.mpr c11
                    have c11b1 : (((rd_T72 l0 x5_1).f4).toList != t590.toList) = false := bne_eq_false_iff_eq.mpr c11
                    clear c11
                    by_cases c12 : ((rd_T72 l0 x5_1).f5) = (wrap64 ((wrap64 ((wrap64 ((wrap64 ((wrap64 (x1_1 + 1)) + 1)) + 1)) + 1)) + 1))
                    · rw [if_pos c12] at H
                      have c12b0 : (((rd_T72 l0 x5_1).f5) == (wrap64 ((wrap64 ((wrap64 ((wrap64 ((wrap64 (x1_1 + 1)) + 1)) + 1)) + 1)) + 1))) = true := beq_iff_eq.mpr c12
                      have c12b1 : (((rd_T72 l0 x5_1).f5) != (wrap64 ((wrap64 ((wrap64 ((wrap64 ((wrap64 (x1_1 + 1)) + 1)) + 1)) + 1)) + 1))) = false := bne_eq_false_iff_eq.mpr c12
                      clear c12
                      replace H := Option.bind_eq_some_iff.mp H
                      obtain ⟨t593, A130, H⟩ := H
                      replace H : (if ((rd_T72 l0 x5_1).f6).toList = t593.toList then (laws_heldOpS.l0 k1 l0 (wrap64 ((wrap64 ((wrap64 ((wrap64 ((wrap64 ((wrap64 ((wrap64 (x1_1 + 1)) + 1)) + 1)) + 1)) + 1)) + 1)) + 1)) (wrap64 (x5_1 + 1))) else (some (-1))) = some r := H
                      have A13 := Aside0.mk A130
                      clear A130
                      by_cases c14 : ((rd_T72 l0 x5_1).f6).toList = t593.toList
                      · rw [if_pos c14] at H
                        have c14b0 : (((rd_T72 l0 x5_1).f6).toList == t593.toList) = true := beq_iff_eq.mpr c14
                        have c14b1 : (((rd_T72 l0 x5_1).f6).toList != t593.toList) = false := bne_eq_false_iff_eq.mpr c14
                        clear c14
                        have H' := Aside0.mk H
                        clear H
                        have p584 : 0 ≤ (x5_1 : Int) := of_decide_eq_true (by first | (with_reducible assumption) | assumption)
                        have q584 : x5_1 < (l0.length : Int) := of_decide_eq_true (by first | (with_reducible assumption) | assumption)
                        obtain ⟨ad584, e584, hx584_0, hx584_1, hx584_2, hx584_3, hx584_4, hx584_5, hx584_6⟩ := at_T72 HR0.out x5_1 p584 q584
                        cases e584
                        replace hx584_0 := (HB.out.cell (World.block_lt_of_cell? w _ hx584_0)).trans hx584_0
                        replace hx584_1 := (HB.out.cell (World.block_lt_of_cell? w _ hx584_1)).trans hx584_1
                        replace hx584_2 := (HB.out.cell (World.block_lt_of_cell? w _ hx584_2)).trans hx584_2
                        replace hx584_3 := (HB.out.cell (World.block_lt_of_cell? w _ hx584_3)).trans hx584_3
                        replace hx584_4 := (HB.out.cell (World.block_lt_of_cell? w _ hx584_4)).trans hx584_4
                        replace hx584_5 := (HB.out.cell (World.block_lt_of_cell? w _ hx584_5)).trans hx584_5
                        replace hx584_6 := (HB.out.cell (World.block_lt_of_cell? w _ hx584_6)).trans hx584_6
                        replace p584 := eq_true p584
                        replace q584 := eq_true q584
                        have p585 : 0 ≤ (x5_1 : Int) := of_decide_eq_true (by first | (with_reducible assumption) | assumption)
                        have q585 : x5_1 < (l0.length : Int) := of_decide_eq_true (by first | (with_reducible assumption) | assumption)
                        obtain ⟨ad585, e585, hx585_0, hx585_1, hx585_2, hx585_3, hx585_4, hx585_5, hx585_6⟩ := at_T72 HR0.out x5_1 p585 q585
                        obtain rfl : ad584 = ad585 := (by injection e585)
                        replace hx585_0 := (HB.out.cell (World.block_lt_of_cell? w _ hx585_0)).trans hx585_0
                        replace hx585_1 := (HB.out.cell (World.block_lt_of_cell? w _ hx585_1)).trans hx585_1
                        replace hx585_2 := (HB.out.cell (World.block_lt_of_cell? w _ hx585_2)).trans hx585_2
                        replace hx585_3 := (HB.out.cell (World.block_lt_of_cell? w _ hx585_3)).trans hx585_3
                        replace hx585_4 := (HB.out.cell (World.block_lt_of_cell? w _ hx585_4)).trans hx585_4
                        replace hx585_5 := (HB.out.cell (World.block_lt_of_cell? w _ hx585_5)).trans hx585_5
                        replace hx585_6 := (HB.out.cell (World.block_lt_of_cell? w _ hx585_6)).trans hx585_6
                        replace p585 := eq_true p585
                        replace q585 := eq_true q585
                        try go_wp2
                        have n0_ := Aside0.mk (below_drew1 HB.out)
                        clear HB
                        have HB := n0_
                        clear n0_
                        have p586 : 0 ≤ (x5_1 : Int) := of_decide_eq_true (by first | (with_reducible assumption) | assumption)
                        have q586 : x5_1 < (l0.length : Int) := of_decide_eq_true (by first | (with_reducible assumption) | assumption)
                        obtain ⟨ad586, e586, hx586_0, hx586_1, hx586_2, hx586_3, hx586_4, hx586_5, hx586_6⟩ := at_T72 HR0.out x5_1 p586 q586
                        have hw586_6 := hx586_6
                        have hw586_5 := hx586_5
                        have hw586_4 := hx586_4
                        have hw586_3 := hx586_3
                        have hw586_2 := hx586_2
                        have hw586_1 := hx586_1
                        have hw586_0 := hx586_0
                        obtain rfl : ad584 = ad586 := (by injection e586)
                        replace hx586_0 := (HB.out.cell (World.block_lt_of_cell? w _ hx586_0)).trans hx586_0
                        replace hx586_1 := (HB.out.cell (World.block_lt_of_cell? w _ hx586_1)).trans hx586_1
                        replace hx586_2 := (HB.out.cell (World.block_lt_of_cell? w _ hx586_2)).trans hx586_2
                        replace hx586_3 := (HB.out.cell (World.block_lt_of_cell? w _ hx586_3)).trans hx586_3
                        replace hx586_4 := (HB.out.cell (World.block_lt_of_cell? w _ hx586_4)).trans hx586_4
                        replace hx586_5 := (HB.out.cell (World.block_lt_of_cell? w _ hx586_5)).trans hx586_5
                        replace hx586_6 := (HB.out.cell (World.block_lt_of_cell? w _ hx586_6)).trans hx586_6
                        replace p586 := eq_true p586
                        replace q586 := eq_true q586
                        refine start_ (n := 8) (S := fun w' => w'.cell? (ad584.add ((x5_1).toNat * 7)) = some (.int .i64 ((rd_T72 l0 x5_1).f0)) ∧ w'.cell? ⟨(ad584.add ((x5_1).toNat * 7)).block, (ad584.add ((x5_1).toNat * 7)).off + 1, none⟩ = some (.int .i64 ((rd_T72 l0 x5_1).f1)) ∧ w'.cell? ⟨(ad584.add ((x5_1).toNat * 7)).block, (ad584.add ((x5_1).toNat * 7)).off + 2, none⟩ = some (.string ((rd_T72 l0 x5_1).f2)) ∧ w'.cell? ⟨(ad584.add ((x5_1).toNat * 7)).block, (ad584.add ((x5_1).toNat * 7)).off + 3, none⟩ = some (.int .i64 ((rd_T72 l0 x5_1).f3)) ∧ w'.cell? ⟨(ad584.add ((x5_1).toNat * 7)).block, (ad584.add ((x5_1).toNat * 7)).off + 4, none⟩ = some (.string ((rd_T72 l0 x5_1).f4)) ∧ w'.cell? ⟨(ad584.add ((x5_1).toNat * 7)).block, (ad584.add ((x5_1).toNat * 7)).off + 5, none⟩ = some (.int .i64 ((rd_T72 l0 x5_1).f5)) ∧ w'.cell? ⟨(ad584.add ((x5_1).toNat * 7)).block, (ad584.add ((x5_1).toNat * 7)).off + 6, none⟩ = some (.string ((rd_T72 l0 x5_1).f6))) (ds := []) #[false, false, false, false, false, false, false, false] (by kernel_rfl) rfl rfl ⟨((HB.out.cell (World.block_lt_of_cell? w _ hw586_0)).trans hw586_0), ((HB.out.cell (World.block_lt_of_cell? w _ hw586_1)).trans hw586_1), ((HB.out.cell (World.block_lt_of_cell? w _ hw586_2)).trans hw586_2), ((HB.out.cell (World.block_lt_of_cell? w _ hw586_3)).trans hw586_3), ((HB.out.cell (World.block_lt_of_cell? w _ hw586_4)).trans hw586_4), ((HB.out.cell (World.block_lt_of_cell? w _ hw586_5)).trans hw586_5), ((HB.out.cell (World.block_lt_of_cell? w _ hw586_6)).trans hw586_6)⟩ (fun hHeld => ?_); refine with_tabW laws_heldOpS.tab10 laws_heldOpS.bits10 (fun HT_ HW_ => ?_)
                        generalize wr.drew = w15 at HB hx586_0 hx586_1 hx586_2 hx586_3 hx586_4 hx586_5 hx586_6 hHeld ⊢
                        refine pure_ (i := 0) (N := some 30) (v := ?_) (a' := ?_) #[true, false, false, false, false, false, false, false] rfl rfl (any_of HT_.out (by kernel_rfl)) (fun _ _ _ h => h) (Or.inl ⟨by rfl, ?_⟩) ?_ ?_
                        rotate_left
                        · intro w'
                          go_simp
                          with_reducible rfl
                        rotate_left
                        · simp only [Act.put, List.setIfInBounds_toArray, List.set_cons_zero, List.set_cons_succ, i64_w, i32_w]
                          rfl
                        refine pure_ (i := 1) (N := some 31) (v := ?_) (a' := ?_) #[true, true, false, false, false, false, false, false] rfl rfl (any_of HT_.out (by kernel_rfl)) (fun _ _ _ h => h) (Or.inl ⟨by rfl, ?_⟩) ?_ ?_
                        rotate_left
                        · intro w'
                          go_simp
                          with_reducible rfl
                        rotate_left
                        · simp only [Act.put, List.setIfInBounds_toArray, List.set_cons_zero, List.set_cons_succ, i64_w, i32_w]
                          rfl
                        refine pure_ (i := 2) (N := some 32) (v := ?_) (a' := ?_) #[true, true, true, false, false, false, false, false] rfl rfl (any_of HT_.out (by kernel_rfl)) (fun _ _ _ h => h) (Or.inl ⟨by rfl, ?_⟩) ?_ ?_
                        rotate_left
                        · intro w'
                          go_simp
                          with_reducible rfl
                        rotate_left
                        · simp only [Act.put, List.setIfInBounds_toArray, List.set_cons_zero, List.set_cons_succ, i64_w, i32_w]
                          rfl
                        refine pure_ (i := 3) (N := some 33) (v := ?_) (a' := ?_) #[true, true, true, true, false, false, false, false] rfl rfl (any_of HT_.out (by kernel_rfl)) (fun _ _ _ h => h) (Or.inl ⟨by rfl, ?_⟩) ?_ ?_
                        rotate_left
                        · intro w'
                          go_simp
                          with_reducible rfl
                        rotate_left
                        · simp only [Act.put, List.setIfInBounds_toArray, List.set_cons_zero, List.set_cons_succ, i64_w, i32_w]
                          rfl
                        refine pure_ (i := 5) (N := some 35) (v := ?_) (a' := ?_) #[true, true, true, true, false, true, false, false] rfl rfl (any_of HT_.out (by kernel_rfl)) (fun _ _ _ h => h) (Or.inl ⟨by rfl, ?_⟩) ?_ ?_
                        rotate_left
                        · intro w'
                          go_simp
                          with_reducible rfl
                        rotate_left
                        · simp only [Act.put, List.setIfInBounds_toArray, List.set_cons_zero, List.set_cons_succ, i64_w, i32_w]
                          rfl
                        refine take_ (i := 4) (N := some 34) (v := ?_) (a' := ?_) #[true, true, true, true, true, true, false, false] rfl rfl (take_ofW HT_.out HW_.out (by kernel_rfl)) (fun _ _ _ h => h) (Or.inl ⟨by rfl, ?_⟩) hHeld ?_ ?_
                        rotate_left
                        · rintro w' ⟨s0, s1, s2, s3, s4, s5, s6⟩
                          go_simp
                          with_reducible rfl
                        rotate_left
                        · simp only [Act.put, List.setIfInBounds_toArray, List.set_cons_zero, List.set_cons_succ, i64_w, i32_w]
                          rfl
                        refine one_ (i := 6) (N := some 36) #[true, true, true, true, true, true, true, false] rfl rfl (one_of HT_.out (by kernel_rfl)) (by decide) (fun K hK => ?_)
                        refine goes_ Try.func92 (by kernel_rfl) rfl #[.int .i64 (wrap64 ((wrap64 (x1_1 + 1)) + 1))] (by rfl) rfl rfl (by (try simp only [List.map_toArray, List.map_cons, List.map_nil]); first | done | rfl | (simp only [List.length_drop, List.length_take]; rfl)) ?_
                        with_reducible refine (laws_markText.calls k1 (wrap64 ((wrap64 (x1_1 + 1)) + 1)) t587 _ A7.out).mono ?_
                        rintro e w16 ⟨rfl, hb⟩
                        refine ⟨_, rfl, ?_⟩
                        have n0_ := Aside0.mk (below_step (by repeat (first | (with_reducible first | exact HB.out | apply below_alloc | apply pw_below_drewN | apply below_drew1) | exact HB.out)) hb)
                        clear HB
                        have HB := n0_
                        clear n0_
                        (try clear hb)
                        (try clear hb2)
                        (try clear hk)
                        (try clear hi)
                        refine hK.out _ _ ⟨((HB.out.cell (World.block_lt_of_cell? w _ hw586_0)).trans hw586_0), ((HB.out.cell (World.block_lt_of_cell? w _ hw586_1)).trans hw586_1), ((HB.out.cell (World.block_lt_of_cell? w _ hw586_2)).trans hw586_2), ((HB.out.cell (World.block_lt_of_cell? w _ hw586_3)).trans hw586_3), ((HB.out.cell (World.block_lt_of_cell? w _ hw586_4)).trans hw586_4), ((HB.out.cell (World.block_lt_of_cell? w _ hw586_5)).trans hw586_5), ((HB.out.cell (World.block_lt_of_cell? w _ hw586_6)).trans hw586_6)⟩ (fun hHeld => ?_)
                        clear hK K
                        refine norm_ (a' := ?_) ?_ ?_
                        rotate_left
                        · show Act.put _ (some 36) _ = _
                          simp only [Act.put, List.setIfInBounds_toArray, List.set_cons_zero, List.set_cons_succ, i64_w, i32_w]
                          rfl
                        refine pure_ (i := 7) (N := some 37) (v := ?_) (a' := ?_) #[true, true, true, true, true, true, true, true] rfl rfl (any_of HT_.out (by kernel_rfl)) (fun _ _ _ h => h) (Or.inl ⟨by rfl, ?_⟩) ?_ ?_
                        rotate_left
                        · intro w'
                          go_simp
                          with_reducible rfl
                        rotate_left
                        · simp only [Act.put, List.setIfInBounds_toArray, List.set_cons_zero, List.set_cons_succ, i64_w, i32_w]
                          rfl
                        refine done_ (done_of HT_.out (by kernel_rfl)) ?_
                        have p588 : 0 ≤ (x5_1 : Int) := of_decide_eq_true (by first | (with_reducible assumption) | assumption)
                        have q588 : x5_1 < (l0.length : Int) := of_decide_eq_true (by first | (with_reducible assumption) | assumption)
                        obtain ⟨ad588, e588, hx588_0, hx588_1, hx588_2, hx588_3, hx588_4, hx588_5, hx588_6⟩ := at_T72 HR0.out x5_1 p588 q588
                        obtain rfl : ad584 = ad588 := (by injection e588)
                        replace hx588_0 := (HB.out.cell (World.block_lt_of_cell? w _ hx588_0)).trans hx588_0
                        replace hx588_1 := (HB.out.cell (World.block_lt_of_cell? w _ hx588_1)).trans hx588_1
                        replace hx588_2 := (HB.out.cell (World.block_lt_of_cell? w _ hx588_2)).trans hx588_2
                        replace hx588_3 := (HB.out.cell (World.block_lt_of_cell? w _ hx588_3)).trans hx588_3
                        replace hx588_4 := (HB.out.cell (World.block_lt_of_cell? w _ hx588_4)).trans hx588_4
                        replace hx588_5 := (HB.out.cell (World.block_lt_of_cell? w _ hx588_5)).trans hx588_5
                        replace hx588_6 := (HB.out.cell (World.block_lt_of_cell? w _ hx588_6)).trans hx588_6
                        replace p588 := eq_true p588
                        replace q588 := eq_true q588
                        try go_wp2
                        have n0_ := Aside0.mk (below_drew1 HB.out)
                        clear HB
                        have HB := n0_
                        clear n0_
                        have p589 : 0 ≤ (x5_1 : Int) := of_decide_eq_true (by first | (with_reducible assumption) | assumption)
                        have q589 : x5_1 < (l0.length : Int) := of_decide_eq_true (by first | (with_reducible assumption) | assumption)
                        obtain ⟨ad589, e589, hx589_0, hx589_1, hx589_2, hx589_3, hx589_4, hx589_5, hx589_6⟩ := at_T72 HR0.out x5_1 p589 q589
                        have hw589_6 := hx589_6
                        have hw589_5 := hx589_5
                        have hw589_4 := hx589_4
                        have hw589_3 := hx589_3
                        have hw589_2 := hx589_2
                        have hw589_1 := hx589_1
                        have hw589_0 := hx589_0
                        obtain rfl : ad584 = ad589 := (by injection e589)
                        replace hx589_0 := (HB.out.cell (World.block_lt_of_cell? w _ hx589_0)).trans hx589_0
                        replace hx589_1 := (HB.out.cell (World.block_lt_of_cell? w _ hx589_1)).trans hx589_1
                        replace hx589_2 := (HB.out.cell (World.block_lt_of_cell? w _ hx589_2)).trans hx589_2
                        replace hx589_3 := (HB.out.cell (World.block_lt_of_cell? w _ hx589_3)).trans hx589_3
                        replace hx589_4 := (HB.out.cell (World.block_lt_of_cell? w _ hx589_4)).trans hx589_4
                        replace hx589_5 := (HB.out.cell (World.block_lt_of_cell? w _ hx589_5)).trans hx589_5
                        replace hx589_6 := (HB.out.cell (World.block_lt_of_cell? w _ hx589_6)).trans hx589_6
                        replace p589 := eq_true p589
                        replace q589 := eq_true q589
                        refine start_ (n := 8) (S := fun w' => w'.cell? (ad584.add ((x5_1).toNat * 7)) = some (.int .i64 ((rd_T72 l0 x5_1).f0)) ∧ w'.cell? ⟨(ad584.add ((x5_1).toNat * 7)).block, (ad584.add ((x5_1).toNat * 7)).off + 1, none⟩ = some (.int .i64 ((rd_T72 l0 x5_1).f1)) ∧ w'.cell? ⟨(ad584.add ((x5_1).toNat * 7)).block, (ad584.add ((x5_1).toNat * 7)).off + 2, none⟩ = some (.string ((rd_T72 l0 x5_1).f2)) ∧ w'.cell? ⟨(ad584.add ((x5_1).toNat * 7)).block, (ad584.add ((x5_1).toNat * 7)).off + 3, none⟩ = some (.int .i64 ((rd_T72 l0 x5_1).f3)) ∧ w'.cell? ⟨(ad584.add ((x5_1).toNat * 7)).block, (ad584.add ((x5_1).toNat * 7)).off + 4, none⟩ = some (.string ((rd_T72 l0 x5_1).f4)) ∧ w'.cell? ⟨(ad584.add ((x5_1).toNat * 7)).block, (ad584.add ((x5_1).toNat * 7)).off + 5, none⟩ = some (.int .i64 ((rd_T72 l0 x5_1).f5)) ∧ w'.cell? ⟨(ad584.add ((x5_1).toNat * 7)).block, (ad584.add ((x5_1).toNat * 7)).off + 6, none⟩ = some (.string ((rd_T72 l0 x5_1).f6))) (ds := []) #[false, false, false, false, false, false, false, false] (by kernel_rfl) rfl rfl ⟨((HB.out.cell (World.block_lt_of_cell? w _ hw589_0)).trans hw589_0), ((HB.out.cell (World.block_lt_of_cell? w _ hw589_1)).trans hw589_1), ((HB.out.cell (World.block_lt_of_cell? w _ hw589_2)).trans hw589_2), ((HB.out.cell (World.block_lt_of_cell? w _ hw589_3)).trans hw589_3), ((HB.out.cell (World.block_lt_of_cell? w _ hw589_4)).trans hw589_4), ((HB.out.cell (World.block_lt_of_cell? w _ hw589_5)).trans hw589_5), ((HB.out.cell (World.block_lt_of_cell? w _ hw589_6)).trans hw589_6)⟩ (fun hHeld => ?_); refine with_tabW laws_heldOpS.tab16 laws_heldOpS.bits16 (fun HT_ HW_ => ?_)
                        generalize w16.drew = w17 at HB hx589_0 hx589_1 hx589_2 hx589_3 hx589_4 hx589_5 hx589_6 hHeld ⊢
                        refine pure_ (i := 0) (N := some 49) (v := ?_) (a' := ?_) #[true, false, false, false, false, false, false, false] rfl rfl (any_of HT_.out (by kernel_rfl)) (fun _ _ _ h => h) (Or.inl ⟨by rfl, ?_⟩) ?_ ?_
                        rotate_left
                        · intro w'
                          go_simp
                          with_reducible rfl
                        rotate_left
                        · simp only [Act.put, List.setIfInBounds_toArray, List.set_cons_zero, List.set_cons_succ, i64_w, i32_w]
                          rfl
                        refine pure_ (i := 1) (N := some 50) (v := ?_) (a' := ?_) #[true, true, false, false, false, false, false, false] rfl rfl (any_of HT_.out (by kernel_rfl)) (fun _ _ _ h => h) (Or.inl ⟨by rfl, ?_⟩) ?_ ?_
                        rotate_left
                        · intro w'
                          go_simp
                          with_reducible rfl
                        rotate_left
                        · simp only [Act.put, List.setIfInBounds_toArray, List.set_cons_zero, List.set_cons_succ, i64_w, i32_w]
                          rfl
                        refine pure_ (i := 2) (N := some 51) (v := ?_) (a' := ?_) #[true, true, true, false, false, false, false, false] rfl rfl (any_of HT_.out (by kernel_rfl)) (fun _ _ _ h => h) (Or.inl ⟨by rfl, ?_⟩) ?_ ?_
                        rotate_left
                        · intro w'
                          go_simp
                          with_reducible rfl
                        rotate_left
                        · simp only [Act.put, List.setIfInBounds_toArray, List.set_cons_zero, List.set_cons_succ, i64_w, i32_w]
                          rfl
                        refine pure_ (i := 3) (N := some 52) (v := ?_) (a' := ?_) #[true, true, true, true, false, false, false, false] rfl rfl (any_of HT_.out (by kernel_rfl)) (fun _ _ _ h => h) (Or.inl ⟨by rfl, ?_⟩) ?_ ?_
                        rotate_left
                        · intro w'
                          go_simp
                          with_reducible rfl
                        rotate_left
                        · simp only [Act.put, List.setIfInBounds_toArray, List.set_cons_zero, List.set_cons_succ, i64_w, i32_w]
                          rfl
                        refine pure_ (i := 5) (N := some 54) (v := ?_) (a' := ?_) #[true, true, true, true, false, true, false, false] rfl rfl (any_of HT_.out (by kernel_rfl)) (fun _ _ _ h => h) (Or.inl ⟨by rfl, ?_⟩) ?_ ?_
                        rotate_left
                        · intro w'
                          go_simp
                          with_reducible rfl
                        rotate_left
                        · simp only [Act.put, List.setIfInBounds_toArray, List.set_cons_zero, List.set_cons_succ, i64_w, i32_w]
                          rfl
                        refine take_ (i := 4) (N := some 53) (v := ?_) (a' := ?_) #[true, true, true, true, true, true, false, false] rfl rfl (take_ofW HT_.out HW_.out (by kernel_rfl)) (fun _ _ _ h => h) (Or.inl ⟨by rfl, ?_⟩) hHeld ?_ ?_
                        rotate_left
                        · rintro w' ⟨s0, s1, s2, s3, s4, s5, s6⟩
                          go_simp
                          with_reducible rfl
                        rotate_left
                        · simp only [Act.put, List.setIfInBounds_toArray, List.set_cons_zero, List.set_cons_succ, i64_w, i32_w]
                          rfl
                        refine one_ (i := 6) (N := some 55) #[true, true, true, true, true, true, true, false] rfl rfl (one_of HT_.out (by kernel_rfl)) (by decide) (fun K hK => ?_)
                        refine goes_ Try.func92 (by kernel_rfl) rfl #[.int .i64 (wrap64 ((wrap64 ((wrap64 ((wrap64 (x1_1 + 1)) + 1)) + 1)) + 1))] (by rfl) rfl rfl (by (try simp only [List.map_toArray, List.map_cons, List.map_nil]); first | done | rfl | (simp only [List.length_drop, List.length_take]; rfl)) ?_
                        with_reducible refine (laws_markText.calls k1 (wrap64 ((wrap64 ((wrap64 ((wrap64 (x1_1 + 1)) + 1)) + 1)) + 1)) t590 _ A10.out).mono ?_
                        rintro e w18 ⟨rfl, hb⟩
                        refine ⟨_, rfl, ?_⟩
                        have n0_ := Aside0.mk (below_step (by repeat (first | (with_reducible first | exact HB.out | apply below_alloc | apply pw_below_drewN | apply below_drew1) | exact HB.out)) hb)
                        clear HB
                        have HB := n0_
                        clear n0_
                        (try clear hb)
                        (try clear hb2)
                        (try clear hk)
                        (try clear hi)
                        refine hK.out _ _ ⟨((HB.out.cell (World.block_lt_of_cell? w _ hw589_0)).trans hw589_0), ((HB.out.cell (World.block_lt_of_cell? w _ hw589_1)).trans hw589_1), ((HB.out.cell (World.block_lt_of_cell? w _ hw589_2)).trans hw589_2), ((HB.out.cell (World.block_lt_of_cell? w _ hw589_3)).trans hw589_3), ((HB.out.cell (World.block_lt_of_cell? w _ hw589_4)).trans hw589_4), ((HB.out.cell (World.block_lt_of_cell? w _ hw589_5)).trans hw589_5), ((HB.out.cell (World.block_lt_of_cell? w _ hw589_6)).trans hw589_6)⟩ (fun hHeld => ?_)
                        clear hK K
                        refine norm_ (a' := ?_) ?_ ?_
                        rotate_left
                        · show Act.put _ (some 55) _ = _
                          simp only [Act.put, List.setIfInBounds_toArray, List.set_cons_zero, List.set_cons_succ, i64_w, i32_w]
                          rfl
                        refine pure_ (i := 7) (N := some 56) (v := ?_) (a' := ?_) #[true, true, true, true, true, true, true, true] rfl rfl (any_of HT_.out (by kernel_rfl)) (fun _ _ _ h => h) (Or.inl ⟨by rfl, ?_⟩) ?_ ?_
                        rotate_left
                        · intro w'
                          go_simp
                          with_reducible rfl
                        rotate_left
                        · simp only [Act.put, List.setIfInBounds_toArray, List.set_cons_zero, List.set_cons_succ, i64_w, i32_w]
                          rfl
                        refine done_ (done_of HT_.out (by kernel_rfl)) ?_
                        have p591 : 0 ≤ (x5_1 : Int) := of_decide_eq_true (by first | (with_reducible assumption) | assumption)
                        have q591 : x5_1 < (l0.length : Int) := of_decide_eq_true (by first | (with_reducible assumption) | assumption)
                        obtain ⟨ad591, e591, hx591_0, hx591_1, hx591_2, hx591_3, hx591_4, hx591_5, hx591_6⟩ := at_T72 HR0.out x5_1 p591 q591
                        obtain rfl : ad584 = ad591 := (by injection e591)
                        replace hx591_0 := (HB.out.cell (World.block_lt_of_cell? w _ hx591_0)).trans hx591_0
                        replace hx591_1 := (HB.out.cell (World.block_lt_of_cell? w _ hx591_1)).trans hx591_1
                        replace hx591_2 := (HB.out.cell (World.block_lt_of_cell? w _ hx591_2)).trans hx591_2
                        replace hx591_3 := (HB.out.cell (World.block_lt_of_cell? w _ hx591_3)).trans hx591_3
                        replace hx591_4 := (HB.out.cell (World.block_lt_of_cell? w _ hx591_4)).trans hx591_4
                        replace hx591_5 := (HB.out.cell (World.block_lt_of_cell? w _ hx591_5)).trans hx591_5
                        replace hx591_6 := (HB.out.cell (World.block_lt_of_cell? w _ hx591_6)).trans hx591_6
                        replace p591 := eq_true p591
                        replace q591 := eq_true q591
                        try go_wp2
                        have n0_ := Aside0.mk (below_drew1 HB.out)
                        clear HB
                        have HB := n0_
                        clear n0_
                        have p592 : 0 ≤ (x5_1 : Int) := of_decide_eq_true (by first | (with_reducible assumption) | assumption)
                        have q592 : x5_1 < (l0.length : Int) := of_decide_eq_true (by first | (with_reducible assumption) | assumption)
                        obtain ⟨ad592, e592, hx592_0, hx592_1, hx592_2, hx592_3, hx592_4, hx592_5, hx592_6⟩ := at_T72 HR0.out x5_1 p592 q592
                        have hw592_6 := hx592_6
                        have hw592_5 := hx592_5
                        have hw592_4 := hx592_4
                        have hw592_3 := hx592_3
                        have hw592_2 := hx592_2
                        have hw592_1 := hx592_1
                        have hw592_0 := hx592_0
                        obtain rfl : ad584 = ad592 := (by injection e592)
                        replace hx592_0 := (HB.out.cell (World.block_lt_of_cell? w _ hx592_0)).trans hx592_0
                        replace hx592_1 := (HB.out.cell (World.block_lt_of_cell? w _ hx592_1)).trans hx592_1
                        replace hx592_2 := (HB.out.cell (World.block_lt_of_cell? w _ hx592_2)).trans hx592_2
                        replace hx592_3 := (HB.out.cell (World.block_lt_of_cell? w _ hx592_3)).trans hx592_3
                        replace hx592_4 := (HB.out.cell (World.block_lt_of_cell? w _ hx592_4)).trans hx592_4
                        replace hx592_5 := (HB.out.cell (World.block_lt_of_cell? w _ hx592_5)).trans hx592_5
                        replace hx592_6 := (HB.out.cell (World.block_lt_of_cell? w _ hx592_6)).trans hx592_6
                        replace p592 := eq_true p592
                        replace q592 := eq_true q592
                        refine start_ (n := 8) (S := fun w' => w'.cell? (ad584.add ((x5_1).toNat * 7)) = some (.int .i64 ((rd_T72 l0 x5_1).f0)) ∧ w'.cell? ⟨(ad584.add ((x5_1).toNat * 7)).block, (ad584.add ((x5_1).toNat * 7)).off + 1, none⟩ = some (.int .i64 ((rd_T72 l0 x5_1).f1)) ∧ w'.cell? ⟨(ad584.add ((x5_1).toNat * 7)).block, (ad584.add ((x5_1).toNat * 7)).off + 2, none⟩ = some (.string ((rd_T72 l0 x5_1).f2)) ∧ w'.cell? ⟨(ad584.add ((x5_1).toNat * 7)).block, (ad584.add ((x5_1).toNat * 7)).off + 3, none⟩ = some (.int .i64 ((rd_T72 l0 x5_1).f3)) ∧ w'.cell? ⟨(ad584.add ((x5_1).toNat * 7)).block, (ad584.add ((x5_1).toNat * 7)).off + 4, none⟩ = some (.string ((rd_T72 l0 x5_1).f4)) ∧ w'.cell? ⟨(ad584.add ((x5_1).toNat * 7)).block, (ad584.add ((x5_1).toNat * 7)).off + 5, none⟩ = some (.int .i64 ((rd_T72 l0 x5_1).f5)) ∧ w'.cell? ⟨(ad584.add ((x5_1).toNat * 7)).block, (ad584.add ((x5_1).toNat * 7)).off + 6, none⟩ = some (.string ((rd_T72 l0 x5_1).f6))) (ds := []) #[false, false, false, false, false, false, false, false] (by kernel_rfl) rfl rfl ⟨((HB.out.cell (World.block_lt_of_cell? w _ hw592_0)).trans hw592_0), ((HB.out.cell (World.block_lt_of_cell? w _ hw592_1)).trans hw592_1), ((HB.out.cell (World.block_lt_of_cell? w _ hw592_2)).trans hw592_2), ((HB.out.cell (World.block_lt_of_cell? w _ hw592_3)).trans hw592_3), ((HB.out.cell (World.block_lt_of_cell? w _ hw592_4)).trans hw592_4), ((HB.out.cell (World.block_lt_of_cell? w _ hw592_5)).trans hw592_5), ((HB.out.cell (World.block_lt_of_cell? w _ hw592_6)).trans hw592_6)⟩ (fun hHeld => ?_); refine with_tabW laws_heldOpS.tab22 laws_heldOpS.bits22 (fun HT_ HW_ => ?_)
                        generalize w18.drew = w19 at HB hx592_0 hx592_1 hx592_2 hx592_3 hx592_4 hx592_5 hx592_6 hHeld ⊢
                        refine pure_ (i := 0) (N := some 68) (v := ?_) (a' := ?_) #[true, false, false, false, false, false, false, false] rfl rfl (any_of HT_.out (by kernel_rfl)) (fun _ _ _ h => h) (Or.inl ⟨by rfl, ?_⟩) ?_ ?_
                        rotate_left
                        · intro w'
                          go_simp
                          with_reducible rfl
                        rotate_left
                        · simp only [Act.put, List.setIfInBounds_toArray, List.set_cons_zero, List.set_cons_succ, i64_w, i32_w]
                          rfl
                        refine pure_ (i := 1) (N := some 69) (v := ?_) (a' := ?_) #[true, true, false, false, false, false, false, false] rfl rfl (any_of HT_.out (by kernel_rfl)) (fun _ _ _ h => h) (Or.inl ⟨by rfl, ?_⟩) ?_ ?_
                        rotate_left
                        · intro w'
                          go_simp
                          with_reducible rfl
                        rotate_left
                        · simp only [Act.put, List.setIfInBounds_toArray, List.set_cons_zero, List.set_cons_succ, i64_w, i32_w]
                          rfl
                        refine pure_ (i := 2) (N := some 70) (v := ?_) (a' := ?_) #[true, true, true, false, false, false, false, false] rfl rfl (any_of HT_.out (by kernel_rfl)) (fun _ _ _ h => h) (Or.inl ⟨by rfl, ?_⟩) ?_ ?_
                        rotate_left
                        · intro w'
                          go_simp
                          with_reducible rfl
                        rotate_left
                        · simp only [Act.put, List.setIfInBounds_toArray, List.set_cons_zero, List.set_cons_succ, i64_w, i32_w]
                          rfl
                        refine pure_ (i := 3) (N := some 71) (v := ?_) (a' := ?_) #[true, true, true, true, false, false, false, false] rfl rfl (any_of HT_.out (by kernel_rfl)) (fun _ _ _ h => h) (Or.inl ⟨by rfl, ?_⟩) ?_ ?_
                        rotate_left
                        · intro w'
                          go_simp
                          with_reducible rfl
                        rotate_left
                        · simp only [Act.put, List.setIfInBounds_toArray, List.set_cons_zero, List.set_cons_succ, i64_w, i32_w]
                          rfl
                        refine pure_ (i := 5) (N := some 73) (v := ?_) (a' := ?_) #[true, true, true, true, false, true, false, false] rfl rfl (any_of HT_.out (by kernel_rfl)) (fun _ _ _ h => h) (Or.inl ⟨by rfl, ?_⟩) ?_ ?_
                        rotate_left
                        · intro w'
                          go_simp
                          with_reducible rfl
                        rotate_left
                        · simp only [Act.put, List.setIfInBounds_toArray, List.set_cons_zero, List.set_cons_succ, i64_w, i32_w]
                          rfl
                        refine take_ (i := 4) (N := some 72) (v := ?_) (a' := ?_) #[true, true, true, true, true, true, false, false] rfl rfl (take_ofW HT_.out HW_.out (by kernel_rfl)) (fun _ _ _ h => h) (Or.inl ⟨by rfl, ?_⟩) hHeld ?_ ?_
                        rotate_left
                        · rintro w' ⟨s0, s1, s2, s3, s4, s5, s6⟩
                          go_simp
                          with_reducible rfl
                        rotate_left
                        · simp only [Act.put, List.setIfInBounds_toArray, List.set_cons_zero, List.set_cons_succ, i64_w, i32_w]
                          rfl
                        refine one_ (i := 6) (N := some 74) #[true, true, true, true, true, true, true, false] rfl rfl (one_of HT_.out (by kernel_rfl)) (by decide) (fun K hK => ?_)
                        refine goes_ Try.func92 (by kernel_rfl) rfl #[.int .i64 (wrap64 ((wrap64 ((wrap64 ((wrap64 ((wrap64 ((wrap64 (x1_1 + 1)) + 1)) + 1)) + 1)) + 1)) + 1))] (by rfl) rfl rfl (by (try simp only [List.map_toArray, List.map_cons, List.map_nil]); first | done | rfl | (simp only [List.length_drop, List.length_take]; rfl)) ?_
                        with_reducible refine (laws_markText.calls k1 (wrap64 ((wrap64 ((wrap64 ((wrap64 ((wrap64 ((wrap64 (x1_1 + 1)) + 1)) + 1)) + 1)) + 1)) + 1)) t593 _ A13.out).mono ?_
                        rintro e w20 ⟨rfl, hb⟩
                        refine ⟨_, rfl, ?_⟩
                        have n0_ := Aside0.mk (below_step (by repeat (first | (with_reducible first | exact HB.out | apply below_alloc | apply pw_below_drewN | apply below_drew1) | exact HB.out)) hb)
                        clear HB
                        have HB := n0_
                        clear n0_
                        (try clear hb)
                        (try clear hb2)
                        (try clear hk)
                        (try clear hi)
                        refine hK.out _ _ ⟨((HB.out.cell (World.block_lt_of_cell? w _ hw592_0)).trans hw592_0), ((HB.out.cell (World.block_lt_of_cell? w _ hw592_1)).trans hw592_1), ((HB.out.cell (World.block_lt_of_cell? w _ hw592_2)).trans hw592_2), ((HB.out.cell (World.block_lt_of_cell? w _ hw592_3)).trans hw592_3), ((HB.out.cell (World.block_lt_of_cell? w _ hw592_4)).trans hw592_4), ((HB.out.cell (World.block_lt_of_cell? w _ hw592_5)).trans hw592_5), ((HB.out.cell (World.block_lt_of_cell? w _ hw592_6)).trans hw592_6)⟩ (fun hHeld => ?_)
                        clear hK K
                        refine norm_ (a' := ?_) ?_ ?_
                        rotate_left
                        · show Act.put _ (some 74) _ = _
                          simp only [Act.put, List.setIfInBounds_toArray, List.set_cons_zero, List.set_cons_succ, i64_w, i32_w]
                          rfl
                        refine pure_ (i := 7) (N := some 75) (v := ?_) (a' := ?_) #[true, true, true, true, true, true, true, true] rfl rfl (any_of HT_.out (by kernel_rfl)) (fun _ _ _ h => h) (Or.inl ⟨by rfl, ?_⟩) ?_ ?_
                        rotate_left
                        · intro w'
                          go_simp
                          with_reducible rfl
                        rotate_left
                        · simp only [Act.put, List.setIfInBounds_toArray, List.set_cons_zero, List.set_cons_succ, i64_w, i32_w]
                          rfl
                        refine done_ (done_of HT_.out (by kernel_rfl)) ?_
                        try go_wp2
                        go_roundg k1
                        case measure => have := HK1.out; omega
                        case rel => exact ⟨(wrap64 ((wrap64 ((wrap64 ((wrap64 ((wrap64 ((wrap64 ((wrap64 (x1_1 + 1)) + 1)) + 1)) + 1)) + 1)) + 1)) + 1)), (wrap64 (x5_1 + 1)), (by first | rfl | (simp; done) | (simp [*]; done)), (by first | rfl | (simp; done) | (simp [*]; done)), H', ⟨by have := HK1.out; omega⟩, ⟨by repeat (first | (with_reducible first | exact HB.out | apply below_alloc | apply pw_below_drewN | apply below_drew1) | exact HB.out)⟩⟩
                      · rw [if_neg c14] at H
                        have c14b0 : (((rd_T72 l0 x5_1).f6).toList == t593.toList) = false := beq_eq_false_iff_ne.mpr c14
                        have c14b1 : (((rd_T72 l0 x5_1).f6).toList != t593.toList) = true := bne_iff_ne.mpr c14
                        obtain rfl := Option.some.inj H
                        have p584 : 0 ≤ (x5_1 : Int) := of_decide_eq_true (by first | (with_reducible assumption) | assumption)
                        have q584 : x5_1 < (l0.length : Int) := of_decide_eq_true (by first | (with_reducible assumption) | assumption)
                        obtain ⟨ad584, e584, hx584_0, hx584_1, hx584_2, hx584_3, hx584_4, hx584_5, hx584_6⟩ := at_T72 HR0.out x5_1 p584 q584
                        cases e584
                        replace hx584_0 := (HB.out.cell (World.block_lt_of_cell? w _ hx584_0)).trans hx584_0
                        replace hx584_1 := (HB.out.cell (World.block_lt_of_cell? w _ hx584_1)).trans hx584_1
                        replace hx584_2 := (HB.out.cell (World.block_lt_of_cell? w _ hx584_2)).trans hx584_2
                        replace hx584_3 := (HB.out.cell (World.block_lt_of_cell? w _ hx584_3)).trans hx584_3
                        replace hx584_4 := (HB.out.cell (World.block_lt_of_cell? w _ hx584_4)).trans hx584_4
                        replace hx584_5 := (HB.out.cell (World.block_lt_of_cell? w _ hx584_5)).trans hx584_5
                        replace hx584_6 := (HB.out.cell (World.block_lt_of_cell? w _ hx584_6)).trans hx584_6
                        replace p584 := eq_true p584
                        replace q584 := eq_true q584
                        have p585 : 0 ≤ (x5_1 : Int) := of_decide_eq_true (by first | (with_reducible assumption) | assumption)
                        have q585 : x5_1 < (l0.length : Int) := of_decide_eq_true (by first | (with_reducible assumption) | assumption)
                        obtain ⟨ad585, e585, hx585_0, hx585_1, hx585_2, hx585_3, hx585_4, hx585_5, hx585_6⟩ := at_T72 HR0.out x5_1 p585 q585
                        obtain rfl : ad584 = ad585 := (by injection e585)
                        replace hx585_0 := (HB.out.cell (World.block_lt_of_cell? w _ hx585_0)).trans hx585_0
                        replace hx585_1 := (HB.out.cell (World.block_lt_of_cell? w _ hx585_1)).trans hx585_1
                        replace hx585_2 := (HB.out.cell (World.block_lt_of_cell? w _ hx585_2)).trans hx585_2
                        replace hx585_3 := (HB.out.cell (World.block_lt_of_cell? w _ hx585_3)).trans hx585_3
                        replace hx585_4 := (HB.out.cell (World.block_lt_of_cell? w _ hx585_4)).trans hx585_4
                        replace hx585_5 := (HB.out.cell (World.block_lt_of_cell? w _ hx585_5)).trans hx585_5
                        replace hx585_6 := (HB.out.cell (World.block_lt_of_cell? w _ hx585_6)).trans hx585_6
                        replace p585 := eq_true p585
                        replace q585 := eq_true q585
                        try go_wp2
                        have n0_ := Aside0.mk (below_drew1 HB.out)
                        clear HB
                        have HB := n0_
                        clear n0_
                        have p586 : 0 ≤ (x5_1 : Int) := of_decide_eq_true (by first | (with_reducible assumption) | assumption)
                        have q586 : x5_1 < (l0.length : Int) := of_decide_eq_true (by first | (with_reducible assumption) | assumption)
                        obtain ⟨ad586, e586, hx586_0, hx586_1, hx586_2, hx586_3, hx586_4, hx586_5, hx586_6⟩ := at_T72 HR0.out x5_1 p586 q586
                        have hw586_6 := hx586_6
                        have hw586_5 := hx586_5
                        have hw586_4 := hx586_4
                        have hw586_3 := hx586_3
                        have hw586_2 := hx586_2
                        have hw586_1 := hx586_1
                        have hw586_0 := hx586_0
                        obtain rfl : ad584 = ad586 := (by injection e586)
                        replace hx586_0 := (HB.out.cell (World.block_lt_of_cell? w _ hx586_0)).trans hx586_0
                        replace hx586_1 := (HB.out.cell (World.block_lt_of_cell? w _ hx586_1)).trans hx586_1
                        replace hx586_2 := (HB.out.cell (World.block_lt_of_cell? w _ hx586_2)).trans hx586_2
                        replace hx586_3 := (HB.out.cell (World.block_lt_of_cell? w _ hx586_3)).trans hx586_3
                        replace hx586_4 := (HB.out.cell (World.block_lt_of_cell? w _ hx586_4)).trans hx586_4
                        replace hx586_5 := (HB.out.cell (World.block_lt_of_cell? w _ hx586_5)).trans hx586_5
                        replace hx586_6 := (HB.out.cell (World.block_lt_of_cell? w _ hx586_6)).trans hx586_6
                        replace p586 := eq_true p586
                        replace q586 := eq_true q586
                        refine start_ (n := 8) (S := fun w' => w'.cell? (ad584.add ((x5_1).toNat * 7)) = some (.int .i64 ((rd_T72 l0 x5_1).f0)) ∧ w'.cell? ⟨(ad584.add ((x5_1).toNat * 7)).block, (ad584.add ((x5_1).toNat * 7)).off + 1, none⟩ = some (.int .i64 ((rd_T72 l0 x5_1).f1)) ∧ w'.cell? ⟨(ad584.add ((x5_1).toNat * 7)).block, (ad584.add ((x5_1).toNat * 7)).off + 2, none⟩ = some (.string ((rd_T72 l0 x5_1).f2)) ∧ w'.cell? ⟨(ad584.add ((x5_1).toNat * 7)).block, (ad584.add ((x5_1).toNat * 7)).off + 3, none⟩ = some (.int .i64 ((rd_T72 l0 x5_1).f3)) ∧ w'.cell? ⟨(ad584.add ((x5_1).toNat * 7)).block, (ad584.add ((x5_1).toNat * 7)).off + 4, none⟩ = some (.string ((rd_T72 l0 x5_1).f4)) ∧ w'.cell? ⟨(ad584.add ((x5_1).toNat * 7)).block, (ad584.add ((x5_1).toNat * 7)).off + 5, none⟩ = some (.int .i64 ((rd_T72 l0 x5_1).f5)) ∧ w'.cell? ⟨(ad584.add ((x5_1).toNat * 7)).block, (ad584.add ((x5_1).toNat * 7)).off + 6, none⟩ = some (.string ((rd_T72 l0 x5_1).f6))) (ds := []) #[false, false, false, false, false, false, false, false] (by kernel_rfl) rfl rfl ⟨((HB.out.cell (World.block_lt_of_cell? w _ hw586_0)).trans hw586_0), ((HB.out.cell (World.block_lt_of_cell? w _ hw586_1)).trans hw586_1), ((HB.out.cell (World.block_lt_of_cell? w _ hw586_2)).trans hw586_2), ((HB.out.cell (World.block_lt_of_cell? w _ hw586_3)).trans hw586_3), ((HB.out.cell (World.block_lt_of_cell? w _ hw586_4)).trans hw586_4), ((HB.out.cell (World.block_lt_of_cell? w _ hw586_5)).trans hw586_5), ((HB.out.cell (World.block_lt_of_cell? w _ hw586_6)).trans hw586_6)⟩ (fun hHeld => ?_); refine with_tabW laws_heldOpS.tab10 laws_heldOpS.bits10 (fun HT_ HW_ => ?_)
                        generalize wr.drew = w21 at HB hx586_0 hx586_1 hx586_2 hx586_3 hx586_4 hx586_5 hx586_6 hHeld ⊢
                        refine pure_ (i := 0) (N := some 30) (v := ?_) (a' := ?_) #[true, false, false, false, false, false, false, false] rfl rfl (any_of HT_.out (by kernel_rfl)) (fun _ _ _ h => h) (Or.inl ⟨by rfl, ?_⟩) ?_ ?_
                        rotate_left
                        · intro w'
                          go_simp
                          with_reducible rfl
                        rotate_left
                        · simp only [Act.put, List.setIfInBounds_toArray, List.set_cons_zero, List.set_cons_succ, i64_w, i32_w]
                          rfl
                        refine pure_ (i := 1) (N := some 31) (v := ?_) (a' := ?_) #[true, true, false, false, false, false, false, false] rfl rfl (any_of HT_.out (by kernel_rfl)) (fun _ _ _ h => h) (Or.inl ⟨by rfl, ?_⟩) ?_ ?_
                        rotate_left
                        · intro w'
                          go_simp
                          with_reducible rfl
                        rotate_left
                        · simp only [Act.put, List.setIfInBounds_toArray, List.set_cons_zero, List.set_cons_succ, i64_w, i32_w]
                          rfl
                        refine pure_ (i := 2) (N := some 32) (v := ?_) (a' := ?_) #[true, true, true, false, false, false, false, false] rfl rfl (any_of HT_.out (by kernel_rfl)) (fun _ _ _ h => h) (Or.inl ⟨by rfl, ?_⟩) ?_ ?_
                        rotate_left
                        · intro w'
                          go_simp
                          with_reducible rfl
                        rotate_left
                        · simp only [Act.put, List.setIfInBounds_toArray, List.set_cons_zero, List.set_cons_succ, i64_w, i32_w]
                          rfl
                        refine pure_ (i := 3) (N := some 33) (v := ?_) (a' := ?_) #[true, true, true, true, false, false, false, false] rfl rfl (any_of HT_.out (by kernel_rfl)) (fun _ _ _ h => h) (Or.inl ⟨by rfl, ?_⟩) ?_ ?_
                        rotate_left
                        · intro w'
                          go_simp
                          with_reducible rfl
                        rotate_left
                        · simp only [Act.put, List.setIfInBounds_toArray, List.set_cons_zero, List.set_cons_succ, i64_w, i32_w]
                          rfl
                        refine pure_ (i := 5) (N := some 35) (v := ?_) (a' := ?_) #[true, true, true, true, false, true, false, false] rfl rfl (any_of HT_.out (by kernel_rfl)) (fun _ _ _ h => h) (Or.inl ⟨by rfl, ?_⟩) ?_ ?_
                        rotate_left
                        · intro w'
                          go_simp
                          with_reducible rfl
                        rotate_left
                        · simp only [Act.put, List.setIfInBounds_toArray, List.set_cons_zero, List.set_cons_succ, i64_w, i32_w]
                          rfl
                        refine take_ (i := 4) (N := some 34) (v := ?_) (a' := ?_) #[true, true, true, true, true, true, false, false] rfl rfl (take_ofW HT_.out HW_.out (by kernel_rfl)) (fun _ _ _ h => h) (Or.inl ⟨by rfl, ?_⟩) hHeld ?_ ?_
                        rotate_left
                        · rintro w' ⟨s0, s1, s2, s3, s4, s5, s6⟩
                          go_simp
                          with_reducible rfl
                        rotate_left
                        · simp only [Act.put, List.setIfInBounds_toArray, List.set_cons_zero, List.set_cons_succ, i64_w, i32_w]
                          rfl
                        refine one_ (i := 6) (N := some 36) #[true, true, true, true, true, true, true, false] rfl rfl (one_of HT_.out (by kernel_rfl)) (by decide) (fun K hK => ?_)
                        refine goes_ Try.func92 (by kernel_rfl) rfl #[.int .i64 (wrap64 ((wrap64 (x1_1 + 1)) + 1))] (by rfl) rfl rfl (by (try simp only [List.map_toArray, List.map_cons, List.map_nil]); first | done | rfl | (simp only [List.length_drop, List.length_take]; rfl)) ?_
                        with_reducible refine (laws_markText.calls k1 (wrap64 ((wrap64 (x1_1 + 1)) + 1)) t587 _ A7.out).mono ?_
                        rintro e w22 ⟨rfl, hb⟩
                        refine ⟨_, rfl, ?_⟩
                        have n0_ := Aside0.mk (below_step (by repeat (first | (with_reducible first | exact HB.out | apply below_alloc | apply pw_below_drewN | apply below_drew1) | exact HB.out)) hb)
                        clear HB
                        have HB := n0_
                        clear n0_
                        (try clear hb)
                        (try clear hb2)
                        (try clear hk)
                        (try clear hi)
                        refine hK.out _ _ ⟨((HB.out.cell (World.block_lt_of_cell? w _ hw586_0)).trans hw586_0), ((HB.out.cell (World.block_lt_of_cell? w _ hw586_1)).trans hw586_1), ((HB.out.cell (World.block_lt_of_cell? w _ hw586_2)).trans hw586_2), ((HB.out.cell (World.block_lt_of_cell? w _ hw586_3)).trans hw586_3), ((HB.out.cell (World.block_lt_of_cell? w _ hw586_4)).trans hw586_4), ((HB.out.cell (World.block_lt_of_cell? w _ hw586_5)).trans hw586_5), ((HB.out.cell (World.block_lt_of_cell? w _ hw586_6)).trans hw586_6)⟩ (fun hHeld => ?_)
                        clear hK K
                        refine norm_ (a' := ?_) ?_ ?_
                        rotate_left
                        · show Act.put _ (some 36) _ = _
                          simp only [Act.put, List.setIfInBounds_toArray, List.set_cons_zero, List.set_cons_succ, i64_w, i32_w]
                          rfl
                        refine pure_ (i := 7) (N := some 37) (v := ?_) (a' := ?_) #[true, true, true, true, true, true, true, true] rfl rfl (any_of HT_.out (by kernel_rfl)) (fun _ _ _ h => h) (Or.inl ⟨by rfl, ?_⟩) ?_ ?_
                        rotate_left
                        · intro w'
                          go_simp
                          with_reducible rfl
                        rotate_left
                        · simp only [Act.put, List.setIfInBounds_toArray, List.set_cons_zero, List.set_cons_succ, i64_w, i32_w]
                          rfl
                        refine done_ (done_of HT_.out (by kernel_rfl)) ?_
                        have p588 : 0 ≤ (x5_1 : Int) := of_decide_eq_true (by first | (with_reducible assumption) | assumption)
                        have q588 : x5_1 < (l0.length : Int) := of_decide_eq_true (by first | (with_reducible assumption) | assumption)
                        obtain ⟨ad588, e588, hx588_0, hx588_1, hx588_2, hx588_3, hx588_4, hx588_5, hx588_6⟩ := at_T72 HR0.out x5_1 p588 q588
                        obtain rfl : ad584 = ad588 := (by injection e588)
                        replace hx588_0 := (HB.out.cell (World.block_lt_of_cell? w _ hx588_0)).trans hx588_0
                        replace hx588_1 := (HB.out.cell (World.block_lt_of_cell? w _ hx588_1)).trans hx588_1
                        replace hx588_2 := (HB.out.cell (World.block_lt_of_cell? w _ hx588_2)).trans hx588_2
                        replace hx588_3 := (HB.out.cell (World.block_lt_of_cell? w _ hx588_3)).trans hx588_3
                        replace hx588_4 := (HB.out.cell (World.block_lt_of_cell? w _ hx588_4)).trans hx588_4
                        replace hx588_5 := (HB.out.cell (World.block_lt_of_cell? w _ hx588_5)).trans hx588_5
                        replace hx588_6 := (HB.out.cell (World.block_lt_of_cell? w _ hx588_6)).trans hx588_6
                        replace p588 := eq_true p588
                        replace q588 := eq_true q588
                        try go_wp2
                        have n0_ := Aside0.mk (below_drew1 HB.out)
                        clear HB
                        have HB := n0_
                        clear n0_
                        have p589 : 0 ≤ (x5_1 : Int) := of_decide_eq_true (by first | (with_reducible assumption) | assumption)
                        have q589 : x5_1 < (l0.length : Int) := of_decide_eq_true (by first | (with_reducible assumption) | assumption)
                        obtain ⟨ad589, e589, hx589_0, hx589_1, hx589_2, hx589_3, hx589_4, hx589_5, hx589_6⟩ := at_T72 HR0.out x5_1 p589 q589
                        have hw589_6 := hx589_6
                        have hw589_5 := hx589_5
                        have hw589_4 := hx589_4
                        have hw589_3 := hx589_3
                        have hw589_2 := hx589_2
                        have hw589_1 := hx589_1
                        have hw589_0 := hx589_0
                        obtain rfl : ad584 = ad589 := (by injection e589)
                        replace hx589_0 := (HB.out.cell (World.block_lt_of_cell? w _ hx589_0)).trans hx589_0
                        replace hx589_1 := (HB.out.cell (World.block_lt_of_cell? w _ hx589_1)).trans hx589_1
                        replace hx589_2 := (HB.out.cell (World.block_lt_of_cell? w _ hx589_2)).trans hx589_2
                        replace hx589_3 := (HB.out.cell (World.block_lt_of_cell? w _ hx589_3)).trans hx589_3
                        replace hx589_4 := (HB.out.cell (World.block_lt_of_cell? w _ hx589_4)).trans hx589_4
                        replace hx589_5 := (HB.out.cell (World.block_lt_of_cell? w _ hx589_5)).trans hx589_5
                        replace hx589_6 := (HB.out.cell (World.block_lt_of_cell? w _ hx589_6)).trans hx589_6
                        replace p589 := eq_true p589
                        replace q589 := eq_true q589
                        refine start_ (n := 8) (S := fun w' => w'.cell? (ad584.add ((x5_1).toNat * 7)) = some (.int .i64 ((rd_T72 l0 x5_1).f0)) ∧ w'.cell? ⟨(ad584.add ((x5_1).toNat * 7)).block, (ad584.add ((x5_1).toNat * 7)).off + 1, none⟩ = some (.int .i64 ((rd_T72 l0 x5_1).f1)) ∧ w'.cell? ⟨(ad584.add ((x5_1).toNat * 7)).block, (ad584.add ((x5_1).toNat * 7)).off + 2, none⟩ = some (.string ((rd_T72 l0 x5_1).f2)) ∧ w'.cell? ⟨(ad584.add ((x5_1).toNat * 7)).block, (ad584.add ((x5_1).toNat * 7)).off + 3, none⟩ = some (.int .i64 ((rd_T72 l0 x5_1).f3)) ∧ w'.cell? ⟨(ad584.add ((x5_1).toNat * 7)).block, (ad584.add ((x5_1).toNat * 7)).off + 4, none⟩ = some (.string ((rd_T72 l0 x5_1).f4)) ∧ w'.cell? ⟨(ad584.add ((x5_1).toNat * 7)).block, (ad584.add ((x5_1).toNat * 7)).off + 5, none⟩ = some (.int .i64 ((rd_T72 l0 x5_1).f5)) ∧ w'.cell? ⟨(ad584.add ((x5_1).toNat * 7)).block, (ad584.add ((x5_1).toNat * 7)).off + 6, none⟩ = some (.string ((rd_T72 l0 x5_1).f6))) (ds := []) #[false, false, false, false, false, false, false, false] (by kernel_rfl) rfl rfl ⟨((HB.out.cell (World.block_lt_of_cell? w _ hw589_0)).trans hw589_0), ((HB.out.cell (World.block_lt_of_cell? w _ hw589_1)).trans hw589_1), ((HB.out.cell (World.block_lt_of_cell? w _ hw589_2)).trans hw589_2), ((HB.out.cell (World.block_lt_of_cell? w _ hw589_3)).trans hw589_3), ((HB.out.cell (World.block_lt_of_cell? w _ hw589_4)).trans hw589_4), ((HB.out.cell (World.block_lt_of_cell? w _ hw589_5)).trans hw589_5), ((HB.out.cell (World.block_lt_of_cell? w _ hw589_6)).trans hw589_6)⟩ (fun hHeld => ?_); refine with_tabW laws_heldOpS.tab16 laws_heldOpS.bits16 (fun HT_ HW_ => ?_)
                        generalize w22.drew = w23 at HB hx589_0 hx589_1 hx589_2 hx589_3 hx589_4 hx589_5 hx589_6 hHeld ⊢
                        refine pure_ (i := 0) (N := some 49) (v := ?_) (a' := ?_) #[true, false, false, false, false, false, false, false] rfl rfl (any_of HT_.out (by kernel_rfl)) (fun _ _ _ h => h) (Or.inl ⟨by rfl, ?_⟩) ?_ ?_
                        rotate_left
                        · intro w'
                          go_simp
                          with_reducible rfl
                        rotate_left
                        · simp only [Act.put, List.setIfInBounds_toArray, List.set_cons_zero, List.set_cons_succ, i64_w, i32_w]
                          rfl
                        refine pure_ (i := 1) (N := some 50) (v := ?_) (a' := ?_) #[true, true, false, false, false, false, false, false] rfl rfl (any_of HT_.out (by kernel_rfl)) (fun _ _ _ h => h) (Or.inl ⟨by rfl, ?_⟩) ?_ ?_
                        rotate_left
                        · intro w'
                          go_simp
                          with_reducible rfl
                        rotate_left
                        · simp only [Act.put, List.setIfInBounds_toArray, List.set_cons_zero, List.set_cons_succ, i64_w, i32_w]
                          rfl
                        refine pure_ (i := 2) (N := some 51) (v := ?_) (a' := ?_) #[true, true, true, false, false, false, false, false] rfl rfl (any_of HT_.out (by kernel_rfl)) (fun _ _ _ h => h) (Or.inl ⟨by rfl, ?_⟩) ?_ ?_
                        rotate_left
                        · intro w'
                          go_simp
                          with_reducible rfl
                        rotate_left
                        · simp only [Act.put, List.setIfInBounds_toArray, List.set_cons_zero, List.set_cons_succ, i64_w, i32_w]
                          rfl
                        refine pure_ (i := 3) (N := some 52) (v := ?_) (a' := ?_) #[true, true, true, true, false, false, false, false] rfl rfl (any_of HT_.out (by kernel_rfl)) (fun _ _ _ h => h) (Or.inl ⟨by rfl, ?_⟩) ?_ ?_
                        rotate_left
                        · intro w'
                          go_simp
                          with_reducible rfl
                        rotate_left
                        · simp only [Act.put, List.setIfInBounds_toArray, List.set_cons_zero, List.set_cons_succ, i64_w, i32_w]
                          rfl
                        refine pure_ (i := 5) (N := some 54) (v := ?_) (a' := ?_) #[true, true, true, true, false, true, false, false] rfl rfl (any_of HT_.out (by kernel_rfl)) (fun _ _ _ h => h) (Or.inl ⟨by rfl, ?_⟩) ?_ ?_
                        rotate_left
                        · intro w'
                          go_simp
                          with_reducible rfl
                        rotate_left
                        · simp only [Act.put, List.setIfInBounds_toArray, List.set_cons_zero, List.set_cons_succ, i64_w, i32_w]
                          rfl
                        refine take_ (i := 4) (N := some 53) (v := ?_) (a' := ?_) #[true, true, true, true, true, true, false, false] rfl rfl (take_ofW HT_.out HW_.out (by kernel_rfl)) (fun _ _ _ h => h) (Or.inl ⟨by rfl, ?_⟩) hHeld ?_ ?_
                        rotate_left
                        · rintro w' ⟨s0, s1, s2, s3, s4, s5, s6⟩
                          go_simp
                          with_reducible rfl
                        rotate_left
                        · simp only [Act.put, List.setIfInBounds_toArray, List.set_cons_zero, List.set_cons_succ, i64_w, i32_w]
                          rfl
                        refine one_ (i := 6) (N := some 55) #[true, true, true, true, true, true, true, false] rfl rfl (one_of HT_.out (by kernel_rfl)) (by decide) (fun K hK => ?_)
                        refine goes_ Try.func92 (by kernel_rfl) rfl #[.int .i64 (wrap64 ((wrap64 ((wrap64 ((wrap64 (x1_1 + 1)) + 1)) + 1)) + 1))] (by rfl) rfl rfl (by (try simp only [List.map_toArray, List.map_cons, List.map_nil]); first | done | rfl | (simp only [List.length_drop, List.length_take]; rfl)) ?_
                        with_reducible refine (laws_markText.calls k1 (wrap64 ((wrap64 ((wrap64 ((wrap64 (x1_1 + 1)) + 1)) + 1)) + 1)) t590 _ A10.out).mono ?_
                        rintro e w24 ⟨rfl, hb⟩
                        refine ⟨_, rfl, ?_⟩
                        have n0_ := Aside0.mk (below_step (by repeat (first | (with_reducible first | exact HB.out | apply below_alloc | apply pw_below_drewN | apply below_drew1) | exact HB.out)) hb)
                        clear HB
                        have HB := n0_
                        clear n0_
                        (try clear hb)
                        (try clear hb2)
                        (try clear hk)
                        (try clear hi)
                        refine hK.out _ _ ⟨((HB.out.cell (World.block_lt_of_cell? w _ hw589_0)).trans hw589_0), ((HB.out.cell (World.block_lt_of_cell? w _ hw589_1)).trans hw589_1), ((HB.out.cell (World.block_lt_of_cell? w _ hw589_2)).trans hw589_2), ((HB.out.cell (World.block_lt_of_cell? w _ hw589_3)).trans hw589_3), ((HB.out.cell (World.block_lt_of_cell? w _ hw589_4)).trans hw589_4), ((HB.out.cell (World.block_lt_of_cell? w _ hw589_5)).trans hw589_5), ((HB.out.cell (World.block_lt_of_cell? w _ hw589_6)).trans hw589_6)⟩ (fun hHeld => ?_)
                        clear hK K
                        refine norm_ (a' := ?_) ?_ ?_
                        rotate_left
                        · show Act.put _ (some 55) _ = _
                          simp only [Act.put, List.setIfInBounds_toArray, List.set_cons_zero, List.set_cons_succ, i64_w, i32_w]
                          rfl
                        refine pure_ (i := 7) (N := some 56) (v := ?_) (a' := ?_) #[true, true, true, true, true, true, true, true] rfl rfl (any_of HT_.out (by kernel_rfl)) (fun _ _ _ h => h) (Or.inl ⟨by rfl, ?_⟩) ?_ ?_
                        rotate_left
                        · intro w'
                          go_simp
                          with_reducible rfl
                        rotate_left
                        · simp only [Act.put, List.setIfInBounds_toArray, List.set_cons_zero, List.set_cons_succ, i64_w, i32_w]
                          rfl
                        refine done_ (done_of HT_.out (by kernel_rfl)) ?_
                        have p591 : 0 ≤ (x5_1 : Int) := of_decide_eq_true (by first | (with_reducible assumption) | assumption)
                        have q591 : x5_1 < (l0.length : Int) := of_decide_eq_true (by first | (with_reducible assumption) | assumption)
                        obtain ⟨ad591, e591, hx591_0, hx591_1, hx591_2, hx591_3, hx591_4, hx591_5, hx591_6⟩ := at_T72 HR0.out x5_1 p591 q591
                        obtain rfl : ad584 = ad591 := (by injection e591)
                        replace hx591_0 := (HB.out.cell (World.block_lt_of_cell? w _ hx591_0)).trans hx591_0
                        replace hx591_1 := (HB.out.cell (World.block_lt_of_cell? w _ hx591_1)).trans hx591_1
                        replace hx591_2 := (HB.out.cell (World.block_lt_of_cell? w _ hx591_2)).trans hx591_2
                        replace hx591_3 := (HB.out.cell (World.block_lt_of_cell? w _ hx591_3)).trans hx591_3
                        replace hx591_4 := (HB.out.cell (World.block_lt_of_cell? w _ hx591_4)).trans hx591_4
                        replace hx591_5 := (HB.out.cell (World.block_lt_of_cell? w _ hx591_5)).trans hx591_5
                        replace hx591_6 := (HB.out.cell (World.block_lt_of_cell? w _ hx591_6)).trans hx591_6
                        replace p591 := eq_true p591
                        replace q591 := eq_true q591
                        try go_wp2
                        have n0_ := Aside0.mk (below_drew1 HB.out)
                        clear HB
                        have HB := n0_
                        clear n0_
                        have p592 : 0 ≤ (x5_1 : Int) := of_decide_eq_true (by first | (with_reducible assumption) | assumption)
                        have q592 : x5_1 < (l0.length : Int) := of_decide_eq_true (by first | (with_reducible assumption) | assumption)
                        obtain ⟨ad592, e592, hx592_0, hx592_1, hx592_2, hx592_3, hx592_4, hx592_5, hx592_6⟩ := at_T72 HR0.out x5_1 p592 q592
                        have hw592_6 := hx592_6
                        have hw592_5 := hx592_5
                        have hw592_4 := hx592_4
                        have hw592_3 := hx592_3
                        have hw592_2 := hx592_2
                        have hw592_1 := hx592_1
                        have hw592_0 := hx592_0
                        obtain rfl : ad584 = ad592 := (by injection e592)
                        replace hx592_0 := (HB.out.cell (World.block_lt_of_cell? w _ hx592_0)).trans hx592_0
                        replace hx592_1 := (HB.out.cell (World.block_lt_of_cell? w _ hx592_1)).trans hx592_1
                        replace hx592_2 := (HB.out.cell (World.block_lt_of_cell? w _ hx592_2)).trans hx592_2
                        replace hx592_3 := (HB.out.cell (World.block_lt_of_cell? w _ hx592_3)).trans hx592_3
                        replace hx592_4 := (HB.out.cell (World.block_lt_of_cell? w _ hx592_4)).trans hx592_4
                        replace hx592_5 := (HB.out.cell (World.block_lt_of_cell? w _ hx592_5)).trans hx592_5
                        replace hx592_6 := (HB.out.cell (World.block_lt_of_cell? w _ hx592_6)).trans hx592_6
                        replace p592 := eq_true p592
                        replace q592 := eq_true q592
                        refine start_ (n := 8) (S := fun w' => w'.cell? (ad584.add ((x5_1).toNat * 7)) = some (.int .i64 ((rd_T72 l0 x5_1).f0)) ∧ w'.cell? ⟨(ad584.add ((x5_1).toNat * 7)).block, (ad584.add ((x5_1).toNat * 7)).off + 1, none⟩ = some (.int .i64 ((rd_T72 l0 x5_1).f1)) ∧ w'.cell? ⟨(ad584.add ((x5_1).toNat * 7)).block, (ad584.add ((x5_1).toNat * 7)).off + 2, none⟩ = some (.string ((rd_T72 l0 x5_1).f2)) ∧ w'.cell? ⟨(ad584.add ((x5_1).toNat * 7)).block, (ad584.add ((x5_1).toNat * 7)).off + 3, none⟩ = some (.int .i64 ((rd_T72 l0 x5_1).f3)) ∧ w'.cell? ⟨(ad584.add ((x5_1).toNat * 7)).block, (ad584.add ((x5_1).toNat * 7)).off + 4, none⟩ = some (.string ((rd_T72 l0 x5_1).f4)) ∧ w'.cell? ⟨(ad584.add ((x5_1).toNat * 7)).block, (ad584.add ((x5_1).toNat * 7)).off + 5, none⟩ = some (.int .i64 ((rd_T72 l0 x5_1).f5)) ∧ w'.cell? ⟨(ad584.add ((x5_1).toNat * 7)).block, (ad584.add ((x5_1).toNat * 7)).off + 6, none⟩ = some (.string ((rd_T72 l0 x5_1).f6))) (ds := []) #[false, false, false, false, false, false, false, false] (by kernel_rfl) rfl rfl ⟨((HB.out.cell (World.block_lt_of_cell? w _ hw592_0)).trans hw592_0), ((HB.out.cell (World.block_lt_of_cell? w _ hw592_1)).trans hw592_1), ((HB.out.cell (World.block_lt_of_cell? w _ hw592_2)).trans hw592_2), ((HB.out.cell (World.block_lt_of_cell? w _ hw592_3)).trans hw592_3), ((HB.out.cell (World.block_lt_of_cell? w _ hw592_4)).trans hw592_4), ((HB.out.cell (World.block_lt_of_cell? w _ hw592_5)).trans hw592_5), ((HB.out.cell (World.block_lt_of_cell? w _ hw592_6)).trans hw592_6)⟩ (fun hHeld => ?_); refine with_tabW laws_heldOpS.tab22 laws_heldOpS.bits22 (fun HT_ HW_ => ?_)
                        generalize w24.drew = w25 at HB hx592_0 hx592_1 hx592_2 hx592_3 hx592_4 hx592_5 hx592_6 hHeld ⊢
                        refine pure_ (i := 0) (N := some 68) (v := ?_) (a' := ?_) #[true, false, false, false, false, false, false, false] rfl rfl (any_of HT_.out (by kernel_rfl)) (fun _ _ _ h => h) (Or.inl ⟨by rfl, ?_⟩) ?_ ?_
                        rotate_left
                        · intro w'
                          go_simp
                          with_reducible rfl
                        rotate_left
                        · simp only [Act.put, List.setIfInBounds_toArray, List.set_cons_zero, List.set_cons_succ, i64_w, i32_w]
                          rfl
                        refine pure_ (i := 1) (N := some 69) (v := ?_) (a' := ?_) #[true, true, false, false, false, false, false, false] rfl rfl (any_of HT_.out (by kernel_rfl)) (fun _ _ _ h => h) (Or.inl ⟨by rfl, ?_⟩) ?_ ?_
                        rotate_left
                        · intro w'
                          go_simp
                          with_reducible rfl
                        rotate_left
                        · simp only [Act.put, List.setIfInBounds_toArray, List.set_cons_zero, List.set_cons_succ, i64_w, i32_w]
                          rfl
                        refine pure_ (i := 2) (N := some 70) (v := ?_) (a' := ?_) #[true, true, true, false, false, false, false, false] rfl rfl (any_of HT_.out (by kernel_rfl)) (fun _ _ _ h => h) (Or.inl ⟨by rfl, ?_⟩) ?_ ?_
                        rotate_left
                        · intro w'
                          go_simp
                          with_reducible rfl
                        rotate_left
                        · simp only [Act.put, List.setIfInBounds_toArray, List.set_cons_zero, List.set_cons_succ, i64_w, i32_w]
                          rfl
                        refine pure_ (i := 3) (N := some 71) (v := ?_) (a' := ?_) #[true, true, true, true, false, false, false, false] rfl rfl (any_of HT_.out (by kernel_rfl)) (fun _ _ _ h => h) (Or.inl ⟨by rfl, ?_⟩) ?_ ?_
                        rotate_left
                        · intro w'
                          go_simp
                          with_reducible rfl
                        rotate_left
                        · simp only [Act.put, List.setIfInBounds_toArray, List.set_cons_zero, List.set_cons_succ, i64_w, i32_w]
                          rfl
                        refine pure_ (i := 5) (N := some 73) (v := ?_) (a' := ?_) #[true, true, true, true, false, true, false, false] rfl rfl (any_of HT_.out (by kernel_rfl)) (fun _ _ _ h => h) (Or.inl ⟨by rfl, ?_⟩) ?_ ?_
                        rotate_left
                        · intro w'
                          go_simp
                          with_reducible rfl
                        rotate_left
                        · simp only [Act.put, List.setIfInBounds_toArray, List.set_cons_zero, List.set_cons_succ, i64_w, i32_w]
                          rfl
                        refine take_ (i := 4) (N := some 72) (v := ?_) (a' := ?_) #[true, true, true, true, true, true, false, false] rfl rfl (take_ofW HT_.out HW_.out (by kernel_rfl)) (fun _ _ _ h => h) (Or.inl ⟨by rfl, ?_⟩) hHeld ?_ ?_
                        rotate_left
                        · rintro w' ⟨s0, s1, s2, s3, s4, s5, s6⟩
                          go_simp
                          with_reducible rfl
                        rotate_left
                        · simp only [Act.put, List.setIfInBounds_toArray, List.set_cons_zero, List.set_cons_succ, i64_w, i32_w]
                          rfl
                        refine one_ (i := 6) (N := some 74) #[true, true, true, true, true, true, true, false] rfl rfl (one_of HT_.out (by kernel_rfl)) (by decide) (fun K hK => ?_)
                        refine goes_ Try.func92 (by kernel_rfl) rfl #[.int .i64 (wrap64 ((wrap64 ((wrap64 ((wrap64 ((wrap64 ((wrap64 (x1_1 + 1)) + 1)) + 1)) + 1)) + 1)) + 1))] (by rfl) rfl rfl (by (try simp only [List.map_toArray, List.map_cons, List.map_nil]); first | done | rfl | (simp only [List.length_drop, List.length_take]; rfl)) ?_
                        with_reducible refine (laws_markText.calls k1 (wrap64 ((wrap64 ((wrap64 ((wrap64 ((wrap64 ((wrap64 (x1_1 + 1)) + 1)) + 1)) + 1)) + 1)) + 1)) t593 _ A13.out).mono ?_
                        rintro e w26 ⟨rfl, hb⟩
                        refine ⟨_, rfl, ?_⟩
                        have n0_ := Aside0.mk (below_step (by repeat (first | (with_reducible first | exact HB.out | apply below_alloc | apply pw_below_drewN | apply below_drew1) | exact HB.out)) hb)
                        clear HB
                        have HB := n0_
                        clear n0_
                        (try clear hb)
                        (try clear hb2)
                        (try clear hk)
                        (try clear hi)
                        refine hK.out _ _ ⟨((HB.out.cell (World.block_lt_of_cell? w _ hw592_0)).trans hw592_0), ((HB.out.cell (World.block_lt_of_cell? w _ hw592_1)).trans hw592_1), ((HB.out.cell (World.block_lt_of_cell? w _ hw592_2)).trans hw592_2), ((HB.out.cell (World.block_lt_of_cell? w _ hw592_3)).trans hw592_3), ((HB.out.cell (World.block_lt_of_cell? w _ hw592_4)).trans hw592_4), ((HB.out.cell (World.block_lt_of_cell? w _ hw592_5)).trans hw592_5), ((HB.out.cell (World.block_lt_of_cell? w _ hw592_6)).trans hw592_6)⟩ (fun hHeld => ?_)
                        clear hK K
                        refine norm_ (a' := ?_) ?_ ?_
                        rotate_left
                        · show Act.put _ (some 74) _ = _
                          simp only [Act.put, List.setIfInBounds_toArray, List.set_cons_zero, List.set_cons_succ, i64_w, i32_w]
                          rfl
                        refine pure_ (i := 7) (N := some 75) (v := ?_) (a' := ?_) #[true, true, true, true, true, true, true, true] rfl rfl (any_of HT_.out (by kernel_rfl)) (fun _ _ _ h => h) (Or.inl ⟨by rfl, ?_⟩) ?_ ?_
                        rotate_left
                        · intro w'
                          go_simp
                          with_reducible rfl
                        rotate_left
                        · simp only [Act.put, List.setIfInBounds_toArray, List.set_cons_zero, List.set_cons_succ, i64_w, i32_w]
                          rfl
                        refine done_ (done_of HT_.out (by kernel_rfl)) ?_
                        try go_wp2
                        go_ret
                        exact ⟨by first | rfl | (simp [errW_none, errW_some] <;> rfl) | (simp [*, errW_none, errW_some] <;> rfl), by repeat (first | (with_reducible first | exact HB.out | apply below_alloc | apply pw_below_drewN | apply below_drew1) | exact HB.out)⟩
                    · rw [if_neg c12] at H
                      have c12b0 : (((rd_T72 l0 x5_1).f5) == (wrap64 ((wrap64 ((wrap64 ((wrap64 ((wrap64 (x1_1 + 1)) + 1)) + 1)) + 1)) + 1))) = false := beq_eq_false_iff_ne.mpr c12
                      have c12b1 : (((rd_T72 l0 x5_1).f5) != (wrap64 ((wrap64 ((wrap64 ((wrap64 ((wrap64 (x1_1 + 1)) + 1)) + 1)) + 1)) + 1))) = true := bne_iff_ne.mpr c12
                      obtain rfl := Option.some.inj H
                      have p584 : 0 ≤ (x5_1 : Int) := of_decide_eq_true (by first | (with_reducible assumption) | assumption)
                      have q584 : x5_1 < (l0.length : Int) := of_decide_eq_true (by first | (with_reducible assumption) | assumption)
                      obtain ⟨ad584, e584, hx584_0, hx584_1, hx584_2, hx584_3, hx584_4, hx584_5, hx584_6⟩ := at_T72 HR0.out x5_1 p584 q584
                      cases e584
                      replace hx584_0 := (HB.out.cell (World.block_lt_of_cell? w _ hx584_0)).trans hx584_0
                      replace hx584_1 := (HB.out.cell (World.block_lt_of_cell? w _ hx584_1)).trans hx584_1
                      replace hx584_2 := (HB.out.cell (World.block_lt_of_cell? w _ hx584_2)).trans hx584_2
                      replace hx584_3 := (HB.out.cell (World.block_lt_of_cell? w _ hx584_3)).trans hx584_3
                      replace hx584_4 := (HB.out.cell (World.block_lt_of_cell? w _ hx584_4)).trans hx584_4
                      replace hx584_5 := (HB.out.cell (World.block_lt_of_cell? w _ hx584_5)).trans hx584_5
                      replace hx584_6 := (HB.out.cell (World.block_lt_of_cell? w _ hx584_6)).trans hx584_6
                      replace p584 := eq_true p584
                      replace q584 := eq_true q584
                      have p585 : 0 ≤ (x5_1 : Int) := of_decide_eq_true (by first | (with_reducible assumption) | assumption)
                      have q585 : x5_1 < (l0.length : Int) := of_decide_eq_true (by first | (with_reducible assumption) | assumption)
                      obtain ⟨ad585, e585, hx585_0, hx585_1, hx585_2, hx585_3, hx585_4, hx585_5, hx585_6⟩ := at_T72 HR0.out x5_1 p585 q585
                      obtain rfl : ad584 = ad585 := (by injection e585)
                      replace hx585_0 := (HB.out.cell (World.block_lt_of_cell? w _ hx585_0)).trans hx585_0
                      replace hx585_1 := (HB.out.cell (World.block_lt_of_cell? w _ hx585_1)).trans hx585_1
                      replace hx585_2 := (HB.out.cell (World.block_lt_of_cell? w _ hx585_2)).trans hx585_2
                      replace hx585_3 := (HB.out.cell (World.block_lt_of_cell? w _ hx585_3)).trans hx585_3
                      replace hx585_4 := (HB.out.cell (World.block_lt_of_cell? w _ hx585_4)).trans hx585_4
                      replace hx585_5 := (HB.out.cell (World.block_lt_of_cell? w _ hx585_5)).trans hx585_5
                      replace hx585_6 := (HB.out.cell (World.block_lt_of_cell? w _ hx585_6)).trans hx585_6
                      replace p585 := eq_true p585
                      replace q585 := eq_true q585
                      try go_wp2
                      have n0_ := Aside0.mk (below_drew1 HB.out)
                      clear HB
                      have HB := n0_
                      clear n0_
                      have p586 : 0 ≤ (x5_1 : Int) := of_decide_eq_true (by first | (with_reducible assumption) | assumption)
                      have q586 : x5_1 < (l0.length : Int) := of_decide_eq_true (by first | (with_reducible assumption) | assumption)
                      obtain ⟨ad586, e586, hx586_0, hx586_1, hx586_2, hx586_3, hx586_4, hx586_5, hx586_6⟩ := at_T72 HR0.out x5_1 p586 q586
                      have hw586_6 := hx586_6
                      have hw586_5 := hx586_5
                      have hw586_4 := hx586_4
                      have hw586_3 := hx586_3
                      have hw586_2 := hx586_2
                      have hw586_1 := hx586_1
                      have hw586_0 := hx586_0
                      obtain rfl : ad584 = ad586 := (by injection e586)
                      replace hx586_0 := (HB.out.cell (World.block_lt_of_cell? w _ hx586_0)).trans hx586_0
                      replace hx586_1 := (HB.out.cell (World.block_lt_of_cell? w _ hx586_1)).trans hx586_1
                      replace hx586_2 := (HB.out.cell (World.block_lt_of_cell? w _ hx586_2)).trans hx586_2
                      replace hx586_3 := (HB.out.cell (World.block_lt_of_cell? w _ hx586_3)).trans hx586_3
                      replace hx586_4 := (HB.out.cell (World.block_lt_of_cell? w _ hx586_4)).trans hx586_4
                      replace hx586_5 := (HB.out.cell (World.block_lt_of_cell? w _ hx586_5)).trans hx586_5
                      replace hx586_6 := (HB.out.cell (World.block_lt_of_cell? w _ hx586_6)).trans hx586_6
                      replace p586 := eq_true p586
                      replace q586 := eq_true q586
                      refine start_ (n := 8) (S := fun w' => w'.cell? (ad584.add ((x5_1).toNat * 7)) = some (.int .i64 ((rd_T72 l0 x5_1).f0)) ∧ w'.cell? ⟨(ad584.add ((x5_1).toNat * 7)).block, (ad584.add ((x5_1).toNat * 7)).off + 1, none⟩ = some (.int .i64 ((rd_T72 l0 x5_1).f1)) ∧ w'.cell? ⟨(ad584.add ((x5_1).toNat * 7)).block, (ad584.add ((x5_1).toNat * 7)).off + 2, none⟩ = some (.string ((rd_T72 l0 x5_1).f2)) ∧ w'.cell? ⟨(ad584.add ((x5_1).toNat * 7)).block, (ad584.add ((x5_1).toNat * 7)).off + 3, none⟩ = some (.int .i64 ((rd_T72 l0 x5_1).f3)) ∧ w'.cell? ⟨(ad584.add ((x5_1).toNat * 7)).block, (ad584.add ((x5_1).toNat * 7)).off + 4, none⟩ = some (.string ((rd_T72 l0 x5_1).f4)) ∧ w'.cell? ⟨(ad584.add ((x5_1).toNat * 7)).block, (ad584.add ((x5_1).toNat * 7)).off + 5, none⟩ = some (.int .i64 ((rd_T72 l0 x5_1).f5)) ∧ w'.cell? ⟨(ad584.add ((x5_1).toNat * 7)).block, (ad584.add ((x5_1).toNat * 7)).off + 6, none⟩ = some (.string ((rd_T72 l0 x5_1).f6))) (ds := []) #[false, false, false, false, false, false, false, false] (by kernel_rfl) rfl rfl ⟨((HB.out.cell (World.block_lt_of_cell? w _ hw586_0)).trans hw586_0), ((HB.out.cell (World.block_lt_of_cell? w _ hw586_1)).trans hw586_1), ((HB.out.cell (World.block_lt_of_cell? w _ hw586_2)).trans hw586_2), ((HB.out.cell (World.block_lt_of_cell? w _ hw586_3)).trans hw586_3), ((HB.out.cell (World.block_lt_of_cell? w _ hw586_4)).trans hw586_4), ((HB.out.cell (World.block_lt_of_cell? w _ hw586_5)).trans hw586_5), ((HB.out.cell (World.block_lt_of_cell? w _ hw586_6)).trans hw586_6)⟩ (fun hHeld => ?_); refine with_tabW laws_heldOpS.tab10 laws_heldOpS.bits10 (fun HT_ HW_ => ?_)
                      generalize wr.drew = w27 at HB hx586_0 hx586_1 hx586_2 hx586_3 hx586_4 hx586_5 hx586_6 hHeld ⊢
                      refine pure_ (i := 0) (N := some 30) (v := ?_) (a' := ?_) #[true, false, false, false, false, false, false, false] rfl rfl (any_of HT_.out (by kernel_rfl)) (fun _ _ _ h => h) (Or.inl ⟨by rfl, ?_⟩) ?_ ?_
                      rotate_left
                      · intro w'
                        go_simp
                        with_reducible rfl
                      rotate_left
                      · simp only [Act.put, List.setIfInBounds_toArray, List.set_cons_zero, List.set_cons_succ, i64_w, i32_w]
                        rfl
                      refine pure_ (i := 1) (N := some 31) (v := ?_) (a' := ?_) #[true, true, false, false, false, false, false, false] rfl rfl (any_of HT_.out (by kernel_rfl)) (fun _ _ _ h => h) (Or.inl ⟨by rfl, ?_⟩) ?_ ?_
                      rotate_left
                      · intro w'
                        go_simp
                        with_reducible rfl
                      rotate_left
                      · simp only [Act.put, List.setIfInBounds_toArray, List.set_cons_zero, List.set_cons_succ, i64_w, i32_w]
                        rfl
                      refine pure_ (i := 2) (N := some 32) (v := ?_) (a' := ?_) #[true, true, true, false, false, false, false, false] rfl rfl (any_of HT_.out (by kernel_rfl)) (fun _ _ _ h => h) (Or.inl ⟨by rfl, ?_⟩) ?_ ?_
                      rotate_left
                      · intro w'
                        go_simp
                        with_reducible rfl
                      rotate_left
                      · simp only [Act.put, List.setIfInBounds_toArray, List.set_cons_zero, List.set_cons_succ, i64_w, i32_w]
                        rfl
                      refine pure_ (i := 3) (N := some 33) (v := ?_) (a' := ?_) #[true, true, true, true, false, false, false, false] rfl rfl (any_of HT_.out (by kernel_rfl)) (fun _ _ _ h => h) (Or.inl ⟨by rfl, ?_⟩) ?_ ?_
                      rotate_left
                      · intro w'
                        go_simp
                        with_reducible rfl
                      rotate_left
                      · simp only [Act.put, List.setIfInBounds_toArray, List.set_cons_zero, List.set_cons_succ, i64_w, i32_w]
                        rfl
                      refine pure_ (i := 5) (N := some 35) (v := ?_) (a' := ?_) #[true, true, true, true, false, true, false, false] rfl rfl (any_of HT_.out (by kernel_rfl)) (fun _ _ _ h => h) (Or.inl ⟨by rfl, ?_⟩) ?_ ?_
                      rotate_left
                      · intro w'
                        go_simp
                        with_reducible rfl
                      rotate_left
                      · simp only [Act.put, List.setIfInBounds_toArray, List.set_cons_zero, List.set_cons_succ, i64_w, i32_w]
                        rfl
                      refine take_ (i := 4) (N := some 34) (v := ?_) (a' := ?_) #[true, true, true, true, true, true, false, false] rfl rfl (take_ofW HT_.out HW_.out (by kernel_rfl)) (fun _ _ _ h => h) (Or.inl ⟨by rfl, ?_⟩) hHeld ?_ ?_
                      rotate_left
                      · rintro w' ⟨s0, s1, s2, s3, s4, s5, s6⟩
                        go_simp
                        with_reducible rfl
                      rotate_left
                      · simp only [Act.put, List.setIfInBounds_toArray, List.set_cons_zero, List.set_cons_succ, i64_w, i32_w]
                        rfl
                      refine one_ (i := 6) (N := some 36) #[true, true, true, true, true, true, true, false] rfl rfl (one_of HT_.out (by kernel_rfl)) (by decide) (fun K hK => ?_)
                      refine goes_ Try.func92 (by kernel_rfl) rfl #[.int .i64 (wrap64 ((wrap64 (x1_1 + 1)) + 1))] (by rfl) rfl rfl (by (try simp only [List.map_toArray, List.map_cons, List.map_nil]); first | done | rfl | (simp only [List.length_drop, List.length_take]; rfl)) ?_
                      with_reducible refine (laws_markText.calls k1 (wrap64 ((wrap64 (x1_1 + 1)) + 1)) t587 _ A7.out).mono ?_
                      rintro e w28 ⟨rfl, hb⟩
                      refine ⟨_, rfl, ?_⟩
                      have n0_ := Aside0.mk (below_step (by repeat (first | (with_reducible first | exact HB.out | apply below_alloc | apply pw_below_drewN | apply below_drew1) | exact HB.out)) hb)
                      clear HB
                      have HB := n0_
                      clear n0_
                      (try clear hb)
                      (try clear hb2)
                      (try clear hk)
                      (try clear hi)
                      refine hK.out _ _ ⟨((HB.out.cell (World.block_lt_of_cell? w _ hw586_0)).trans hw586_0), ((HB.out.cell (World.block_lt_of_cell? w _ hw586_1)).trans hw586_1), ((HB.out.cell (World.block_lt_of_cell? w _ hw586_2)).trans hw586_2), ((HB.out.cell (World.block_lt_of_cell? w _ hw586_3)).trans hw586_3), ((HB.out.cell (World.block_lt_of_cell? w _ hw586_4)).trans hw586_4), ((HB.out.cell (World.block_lt_of_cell? w _ hw586_5)).trans hw586_5), ((HB.out.cell (World.block_lt_of_cell? w _ hw586_6)).trans hw586_6)⟩ (fun hHeld => ?_)
                      clear hK K
                      refine norm_ (a' := ?_) ?_ ?_
                      rotate_left
                      · show Act.put _ (some 36) _ = _
                        simp only [Act.put, List.setIfInBounds_toArray, List.set_cons_zero, List.set_cons_succ, i64_w, i32_w]
                        rfl
                      refine pure_ (i := 7) (N := some 37) (v := ?_) (a' := ?_) #[true, true, true, true, true, true, true, true] rfl rfl (any_of HT_.out (by kernel_rfl)) (fun _ _ _ h => h) (Or.inl ⟨by rfl, ?_⟩) ?_ ?_
                      rotate_left
                      · intro w'
                        go_simp
                        with_reducible rfl
                      rotate_left
                      · simp only [Act.put, List.setIfInBounds_toArray, List.set_cons_zero, List.set_cons_succ, i64_w, i32_w]
                        rfl
                      refine done_ (done_of HT_.out (by kernel_rfl)) ?_
                      have p588 : 0 ≤ (x5_1 : Int) := of_decide_eq_true (by first | (with_reducible assumption) | assumption)
                      have q588 : x5_1 < (l0.length : Int) := of_decide_eq_true (by first | (with_reducible assumption) | assumption)
                      obtain ⟨ad588, e588, hx588_0, hx588_1, hx588_2, hx588_3, hx588_4, hx588_5, hx588_6⟩ := at_T72 HR0.out x5_1 p588 q588
                      obtain rfl : ad584 = ad588 := (by injection e588)
                      replace hx588_0 := (HB.out.cell (World.block_lt_of_cell? w _ hx588_0)).trans hx588_0
                      replace hx588_1 := (HB.out.cell (World.block_lt_of_cell? w _ hx588_1)).trans hx588_1
                      replace hx588_2 := (HB.out.cell (World.block_lt_of_cell? w _ hx588_2)).trans hx588_2
                      replace hx588_3 := (HB.out.cell (World.block_lt_of_cell? w _ hx588_3)).trans hx588_3
                      replace hx588_4 := (HB.out.cell (World.block_lt_of_cell? w _ hx588_4)).trans hx588_4
                      replace hx588_5 := (HB.out.cell (World.block_lt_of_cell? w _ hx588_5)).trans hx588_5
                      replace hx588_6 := (HB.out.cell (World.block_lt_of_cell? w _ hx588_6)).trans hx588_6
                      replace p588 := eq_true p588
                      replace q588 := eq_true q588
                      try go_wp2
                      have n0_ := Aside0.mk (below_drew1 HB.out)
                      clear HB
                      have HB := n0_
                      clear n0_
                      have p589 : 0 ≤ (x5_1 : Int) := of_decide_eq_true (by first | (with_reducible assumption) | assumption)
                      have q589 : x5_1 < (l0.length : Int) := of_decide_eq_true (by first | (with_reducible assumption) | assumption)
                      obtain ⟨ad589, e589, hx589_0, hx589_1, hx589_2, hx589_3, hx589_4, hx589_5, hx589_6⟩ := at_T72 HR0.out x5_1 p589 q589
                      have hw589_6 := hx589_6
                      have hw589_5 := hx589_5
                      have hw589_4 := hx589_4
                      have hw589_3 := hx589_3
                      have hw589_2 := hx589_2
                      have hw589_1 := hx589_1
                      have hw589_0 := hx589_0
                      obtain rfl : ad584 = ad589 := (by injection e589)
                      replace hx589_0 := (HB.out.cell (World.block_lt_of_cell? w _ hx589_0)).trans hx589_0
                      replace hx589_1 := (HB.out.cell (World.block_lt_of_cell? w _ hx589_1)).trans hx589_1
                      replace hx589_2 := (HB.out.cell (World.block_lt_of_cell? w _ hx589_2)).trans hx589_2
                      replace hx589_3 := (HB.out.cell (World.block_lt_of_cell? w _ hx589_3)).trans hx589_3
                      replace hx589_4 := (HB.out.cell (World.block_lt_of_cell? w _ hx589_4)).trans hx589_4
                      replace hx589_5 := (HB.out.cell (World.block_lt_of_cell? w _ hx589_5)).trans hx589_5
                      replace hx589_6 := (HB.out.cell (World.block_lt_of_cell? w _ hx589_6)).trans hx589_6
                      replace p589 := eq_true p589
                      replace q589 := eq_true q589
                      refine start_ (n := 8) (S := fun w' => w'.cell? (ad584.add ((x5_1).toNat * 7)) = some (.int .i64 ((rd_T72 l0 x5_1).f0)) ∧ w'.cell? ⟨(ad584.add ((x5_1).toNat * 7)).block, (ad584.add ((x5_1).toNat * 7)).off + 1, none⟩ = some (.int .i64 ((rd_T72 l0 x5_1).f1)) ∧ w'.cell? ⟨(ad584.add ((x5_1).toNat * 7)).block, (ad584.add ((x5_1).toNat * 7)).off + 2, none⟩ = some (.string ((rd_T72 l0 x5_1).f2)) ∧ w'.cell? ⟨(ad584.add ((x5_1).toNat * 7)).block, (ad584.add ((x5_1).toNat * 7)).off + 3, none⟩ = some (.int .i64 ((rd_T72 l0 x5_1).f3)) ∧ w'.cell? ⟨(ad584.add ((x5_1).toNat * 7)).block, (ad584.add ((x5_1).toNat * 7)).off + 4, none⟩ = some (.string ((rd_T72 l0 x5_1).f4)) ∧ w'.cell? ⟨(ad584.add ((x5_1).toNat * 7)).block, (ad584.add ((x5_1).toNat * 7)).off + 5, none⟩ = some (.int .i64 ((rd_T72 l0 x5_1).f5)) ∧ w'.cell? ⟨(ad584.add ((x5_1).toNat * 7)).block, (ad584.add ((x5_1).toNat * 7)).off + 6, none⟩ = some (.string ((rd_T72 l0 x5_1).f6))) (ds := []) #[false, false, false, false, false, false, false, false] (by kernel_rfl) rfl rfl ⟨((HB.out.cell (World.block_lt_of_cell? w _ hw589_0)).trans hw589_0), ((HB.out.cell (World.block_lt_of_cell? w _ hw589_1)).trans hw589_1), ((HB.out.cell (World.block_lt_of_cell? w _ hw589_2)).trans hw589_2), ((HB.out.cell (World.block_lt_of_cell? w _ hw589_3)).trans hw589_3), ((HB.out.cell (World.block_lt_of_cell? w _ hw589_4)).trans hw589_4), ((HB.out.cell (World.block_lt_of_cell? w _ hw589_5)).trans hw589_5), ((HB.out.cell (World.block_lt_of_cell? w _ hw589_6)).trans hw589_6)⟩ (fun hHeld => ?_); refine with_tabW laws_heldOpS.tab16 laws_heldOpS.bits16 (fun HT_ HW_ => ?_)
                      generalize w28.drew = w29 at HB hx589_0 hx589_1 hx589_2 hx589_3 hx589_4 hx589_5 hx589_6 hHeld ⊢
                      refine pure_ (i := 0) (N := some 49) (v := ?_) (a' := ?_) #[true, false, false, false, false, false, false, false] rfl rfl (any_of HT_.out (by kernel_rfl)) (fun _ _ _ h => h) (Or.inl ⟨by rfl, ?_⟩) ?_ ?_
                      rotate_left
                      · intro w'
                        go_simp
                        with_reducible rfl
                      rotate_left
                      · simp only [Act.put, List.setIfInBounds_toArray, List.set_cons_zero, List.set_cons_succ, i64_w, i32_w]
                        rfl
                      refine pure_ (i := 1) (N := some 50) (v := ?_) (a' := ?_) #[true, true, false, false, false, false, false, false] rfl rfl (any_of HT_.out (by kernel_rfl)) (fun _ _ _ h => h) (Or.inl ⟨by rfl, ?_⟩) ?_ ?_
                      rotate_left
                      · intro w'
                        go_simp
                        with_reducible rfl
                      rotate_left
                      · simp only [Act.put, List.setIfInBounds_toArray, List.set_cons_zero, List.set_cons_succ, i64_w, i32_w]
                        rfl
                      refine pure_ (i := 2) (N := some 51) (v := ?_) (a' := ?_) #[true, true, true, false, false, false, false, false] rfl rfl (any_of HT_.out (by kernel_rfl)) (fun _ _ _ h => h) (Or.inl ⟨by rfl, ?_⟩) ?_ ?_
                      rotate_left
                      · intro w'
                        go_simp
                        with_reducible rfl
                      rotate_left
                      · simp only [Act.put, List.setIfInBounds_toArray, List.set_cons_zero, List.set_cons_succ, i64_w, i32_w]
                        rfl
                      refine pure_ (i := 3) (N := some 52) (v := ?_) (a' := ?_) #[true, true, true, true, false, false, false, false] rfl rfl (any_of HT_.out (by kernel_rfl)) (fun _ _ _ h => h) (Or.inl ⟨by rfl, ?_⟩) ?_ ?_
                      rotate_left
                      · intro w'
                        go_simp
                        with_reducible rfl
                      rotate_left
                      · simp only [Act.put, List.setIfInBounds_toArray, List.set_cons_zero, List.set_cons_succ, i64_w, i32_w]
                        rfl
                      refine pure_ (i := 5) (N := some 54) (v := ?_) (a' := ?_) #[true, true, true, true, false, true, false, false] rfl rfl (any_of HT_.out (by kernel_rfl)) (fun _ _ _ h => h) (Or.inl ⟨by rfl, ?_⟩) ?_ ?_
                      rotate_left
                      · intro w'
                        go_simp
                        with_reducible rfl
                      rotate_left
                      · simp only [Act.put, List.setIfInBounds_toArray, List.set_cons_zero, List.set_cons_succ, i64_w, i32_w]
                        rfl
                      refine take_ (i := 4) (N := some 53) (v := ?_) (a' := ?_) #[true, true, true, true, true, true, false, false] rfl rfl (take_ofW HT_.out HW_.out (by kernel_rfl)) (fun _ _ _ h => h) (Or.inl ⟨by rfl, ?_⟩) hHeld ?_ ?_
                      rotate_left
                      · rintro w' ⟨s0, s1, s2, s3, s4, s5, s6⟩
                        go_simp
                        with_reducible rfl
                      rotate_left
                      · simp only [Act.put, List.setIfInBounds_toArray, List.set_cons_zero, List.set_cons_succ, i64_w, i32_w]
                        rfl
                      refine one_ (i := 6) (N := some 55) #[true, true, true, true, true, true, true, false] rfl rfl (one_of HT_.out (by kernel_rfl)) (by decide) (fun K hK => ?_)
                      refine goes_ Try.func92 (by kernel_rfl) rfl #[.int .i64 (wrap64 ((wrap64 ((wrap64 ((wrap64 (x1_1 + 1)) + 1)) + 1)) + 1))] (by rfl) rfl rfl (by (try simp only [List.map_toArray, List.map_cons, List.map_nil]); first | done | rfl | (simp only [List.length_drop, List.length_take]; rfl)) ?_
                      with_reducible refine (laws_markText.calls k1 (wrap64 ((wrap64 ((wrap64 ((wrap64 (x1_1 + 1)) + 1)) + 1)) + 1)) t590 _ A10.out).mono ?_
                      rintro e w30 ⟨rfl, hb⟩
                      refine ⟨_, rfl, ?_⟩
                      have n0_ := Aside0.mk (below_step (by repeat (first | (with_reducible first | exact HB.out | apply below_alloc | apply pw_below_drewN | apply below_drew1) | exact HB.out)) hb)
                      clear HB
                      have HB := n0_
                      clear n0_
                      (try clear hb)
                      (try clear hb2)
                      (try clear hk)
                      (try clear hi)
                      refine hK.out _ _ ⟨((HB.out.cell (World.block_lt_of_cell? w _ hw589_0)).trans hw589_0), ((HB.out.cell (World.block_lt_of_cell? w _ hw589_1)).trans hw589_1), ((HB.out.cell (World.block_lt_of_cell? w _ hw589_2)).trans hw589_2), ((HB.out.cell (World.block_lt_of_cell? w _ hw589_3)).trans hw589_3), ((HB.out.cell (World.block_lt_of_cell? w _ hw589_4)).trans hw589_4), ((HB.out.cell (World.block_lt_of_cell? w _ hw589_5)).trans hw589_5), ((HB.out.cell (World.block_lt_of_cell? w _ hw589_6)).trans hw589_6)⟩ (fun hHeld => ?_)
                      clear hK K
                      refine norm_ (a' := ?_) ?_ ?_
                      rotate_left
                      · show Act.put _ (some 55) _ = _
                        simp only [Act.put, List.setIfInBounds_toArray, List.set_cons_zero, List.set_cons_succ, i64_w, i32_w]
                        rfl
                      refine pure_ (i := 7) (N := some 56) (v := ?_) (a' := ?_) #[true, true, true, true, true, true, true, true] rfl rfl (any_of HT_.out (by kernel_rfl)) (fun _ _ _ h => h) (Or.inl ⟨by rfl, ?_⟩) ?_ ?_
                      rotate_left
                      · intro w'
                        go_simp
                        with_reducible rfl
                      rotate_left
                      · simp only [Act.put, List.setIfInBounds_toArray, List.set_cons_zero, List.set_cons_succ, i64_w, i32_w]
                        rfl
                      refine done_ (done_of HT_.out (by kernel_rfl)) ?_
                      have p591 : 0 ≤ (x5_1 : Int) := of_decide_eq_true (by first | (with_reducible assumption) | assumption)
                      have q591 : x5_1 < (l0.length : Int) := of_decide_eq_true (by first | (with_reducible assumption) | assumption)
                      obtain ⟨ad591, e591, hx591_0, hx591_1, hx591_2, hx591_3, hx591_4, hx591_5, hx591_6⟩ := at_T72 HR0.out x5_1 p591 q591
                      obtain rfl : ad584 = ad591 := (by injection e591)
                      replace hx591_0 := (HB.out.cell (World.block_lt_of_cell? w _ hx591_0)).trans hx591_0
                      replace hx591_1 := (HB.out.cell (World.block_lt_of_cell? w _ hx591_1)).trans hx591_1
                      replace hx591_2 := (HB.out.cell (World.block_lt_of_cell? w _ hx591_2)).trans hx591_2
                      replace hx591_3 := (HB.out.cell (World.block_lt_of_cell? w _ hx591_3)).trans hx591_3
                      replace hx591_4 := (HB.out.cell (World.block_lt_of_cell? w _ hx591_4)).trans hx591_4
                      replace hx591_5 := (HB.out.cell (World.block_lt_of_cell? w _ hx591_5)).trans hx591_5
                      replace hx591_6 := (HB.out.cell (World.block_lt_of_cell? w _ hx591_6)).trans hx591_6
                      replace p591 := eq_true p591
                      replace q591 := eq_true q591
                      try go_wp2
                      go_ret
                      exact ⟨by first | rfl | (simp [errW_none, errW_some] <;> rfl) | (simp [*, errW_none, errW_some] <;> rfl), by repeat (first | (with_reducible first | exact HB.out | apply below_alloc | apply pw_below_drewN | apply below_drew1) | exact HB.out)⟩
                  · rw [if_neg c11] at H
                    have c11b0 : (((rd_T72 l0 x5_1).f4).toList == t590.toList) = false := beq_eq_false_iff_ne.mpr c11
                    have c11b1 : (((rd_T72 l0 x5_1).f4).toList != t590.toList) = true := bne_iff_ne.mpr c11
                    obtain rfl := Option.some.inj H
                    have p584 : 0 ≤ (x5_1 : Int) := of_decide_eq_true (by first | (with_reducible assumption) | assumption)
                    have q584 : x5_1 < (l0.length : Int) := of_decide_eq_true (by first | (with_reducible assumption) | assumption)
                    obtain ⟨ad584, e584, hx584_0, hx584_1, hx584_2, hx584_3, hx584_4, hx584_5, hx584_6⟩ := at_T72 HR0.out x5_1 p584 q584
                    cases e584
                    replace hx584_0 := (HB.out.cell (World.block_lt_of_cell? w _ hx584_0)).trans hx584_0
                    replace hx584_1 := (HB.out.cell (World.block_lt_of_cell? w _ hx584_1)).trans hx584_1
                    replace hx584_2 := (HB.out.cell (World.block_lt_of_cell? w _ hx584_2)).trans hx584_2
                    replace hx584_3 := (HB.out.cell (World.block_lt_of_cell? w _ hx584_3)).trans hx584_3
                    replace hx584_4 := (HB.out.cell (World.block_lt_of_cell? w _ hx584_4)).trans hx584_4
                    replace hx584_5 := (HB.out.cell (World.block_lt_of_cell? w _ hx584_5)).trans hx584_5
                    replace hx584_6 := (HB.out.cell (World.block_lt_of_cell? w _ hx584_6)).trans hx584_6
                    replace p584 := eq_true p584
                    replace q584 := eq_true q584
                    have p585 : 0 ≤ (x5_1 : Int) := of_decide_eq_true (by first | (with_reducible assumption) | assumption)
                    have q585 : x5_1 < (l0.length : Int) := of_decide_eq_true (by first | (with_reducible assumption) | assumption)
                    obtain ⟨ad585, e585, hx585_0, hx585_1, hx585_2, hx585_3, hx585_4, hx585_5, hx585_6⟩ := at_T72 HR0.out x5_1 p585 q585
                    obtain rfl : ad584 = ad585 := (by injection e585)
                    replace hx585_0 := (HB.out.cell (World.block_lt_of_cell? w _ hx585_0)).trans hx585_0
                    replace hx585_1 := (HB.out.cell (World.block_lt_of_cell? w _ hx585_1)).trans hx585_1
                    replace hx585_2 := (HB.out.cell (World.block_lt_of_cell? w _ hx585_2)).trans hx585_2
                    replace hx585_3 := (HB.out.cell (World.block_lt_of_cell? w _ hx585_3)).trans hx585_3
                    replace hx585_4 := (HB.out.cell (World.block_lt_of_cell? w _ hx585_4)).trans hx585_4
                    replace hx585_5 := (HB.out.cell (World.block_lt_of_cell? w _ hx585_5)).trans hx585_5
                    replace hx585_6 := (HB.out.cell (World.block_lt_of_cell? w _ hx585_6)).trans hx585_6
                    replace p585 := eq_true p585
                    replace q585 := eq_true q585
                    try go_wp2
                    have n0_ := Aside0.mk (below_drew1 HB.out)
                    clear HB
                    have HB := n0_
                    clear n0_
                    have p586 : 0 ≤ (x5_1 : Int) := of_decide_eq_true (by first | (with_reducible assumption) | assumption)
                    have q586 : x5_1 < (l0.length : Int) := of_decide_eq_true (by first | (with_reducible assumption) | assumption)
                    obtain ⟨ad586, e586, hx586_0, hx586_1, hx586_2, hx586_3, hx586_4, hx586_5, hx586_6⟩ := at_T72 HR0.out x5_1 p586 q586
                    have hw586_6 := hx586_6
                    have hw586_5 := hx586_5
                    have hw586_4 := hx586_4
                    have hw586_3 := hx586_3
                    have hw586_2 := hx586_2
                    have hw586_1 := hx586_1
                    have hw586_0 := hx586_0
                    obtain rfl : ad584 = ad586 := (by injection e586)
                    replace hx586_0 := (HB.out.cell (World.block_lt_of_cell? w _ hx586_0)).trans hx586_0
                    replace hx586_1 := (HB.out.cell (World.block_lt_of_cell? w _ hx586_1)).trans hx586_1
                    replace hx586_2 := (HB.out.cell (World.block_lt_of_cell? w _ hx586_2)).trans hx586_2
                    replace hx586_3 := (HB.out.cell (World.block_lt_of_cell? w _ hx586_3)).trans hx586_3
                    replace hx586_4 := (HB.out.cell (World.block_lt_of_cell? w _ hx586_4)).trans hx586_4
                    replace hx586_5 := (HB.out.cell (World.block_lt_of_cell? w _ hx586_5)).trans hx586_5
                    replace hx586_6 := (HB.out.cell (World.block_lt_of_cell? w _ hx586_6)).trans hx586_6
                    replace p586 := eq_true p586
                    replace q586 := eq_true q586
                    refine start_ (n := 8) (S := fun w' => w'.cell? (ad584.add ((x5_1).toNat * 7)) = some (.int .i64 ((rd_T72 l0 x5_1).f0)) ∧ w'.cell? ⟨(ad584.add ((x5_1).toNat * 7)).block, (ad584.add ((x5_1).toNat * 7)).off + 1, none⟩ = some (.int .i64 ((rd_T72 l0 x5_1).f1)) ∧ w'.cell? ⟨(ad584.add ((x5_1).toNat * 7)).block, (ad584.add ((x5_1).toNat * 7)).off + 2, none⟩ = some (.string ((rd_T72 l0 x5_1).f2)) ∧ w'.cell? ⟨(ad584.add ((x5_1).toNat * 7)).block, (ad584.add ((x5_1).toNat * 7)).off + 3, none⟩ = some (.int .i64 ((rd_T72 l0 x5_1).f3)) ∧ w'.cell? ⟨(ad584.add ((x5_1).toNat * 7)).block, (ad584.add ((x5_1).toNat * 7)).off + 4, none⟩ = some (.string ((rd_T72 l0 x5_1).f4)) ∧ w'.cell? ⟨(ad584.add ((x5_1).toNat * 7)).block, (ad584.add ((x5_1).toNat * 7)).off + 5, none⟩ = some (.int .i64 ((rd_T72 l0 x5_1).f5)) ∧ w'.cell? ⟨(ad584.add ((x5_1).toNat * 7)).block, (ad584.add ((x5_1).toNat * 7)).off + 6, none⟩ = some (.string ((rd_T72 l0 x5_1).f6))) (ds := []) #[false, false, false, false, false, false, false, false] (by kernel_rfl) rfl rfl ⟨((HB.out.cell (World.block_lt_of_cell? w _ hw586_0)).trans hw586_0), ((HB.out.cell (World.block_lt_of_cell? w _ hw586_1)).trans hw586_1), ((HB.out.cell (World.block_lt_of_cell? w _ hw586_2)).trans hw586_2), ((HB.out.cell (World.block_lt_of_cell? w _ hw586_3)).trans hw586_3), ((HB.out.cell (World.block_lt_of_cell? w _ hw586_4)).trans hw586_4), ((HB.out.cell (World.block_lt_of_cell? w _ hw586_5)).trans hw586_5), ((HB.out.cell (World.block_lt_of_cell? w _ hw586_6)).trans hw586_6)⟩ (fun hHeld => ?_); refine with_tabW laws_heldOpS.tab10 laws_heldOpS.bits10 (fun HT_ HW_ => ?_)
                    generalize wr.drew = w31 at HB hx586_0 hx586_1 hx586_2 hx586_3 hx586_4 hx586_5 hx586_6 hHeld ⊢
                    refine pure_ (i := 0) (N := some 30) (v := ?_) (a' := ?_) #[true, false, false, false, false, false, false, false] rfl rfl (any_of HT_.out (by kernel_rfl)) (fun _ _ _ h => h) (Or.inl ⟨by rfl, ?_⟩) ?_ ?_
                    rotate_left
                    · intro w'
                      go_simp
                      with_reducible rfl
                    rotate_left
                    · simp only [Act.put, List.setIfInBounds_toArray, List.set_cons_zero, List.set_cons_succ, i64_w, i32_w]
                      rfl
                    refine pure_ (i := 1) (N := some 31) (v := ?_) (a' := ?_) #[true, true, false, false, false, false, false, false] rfl rfl (any_of HT_.out (by kernel_rfl)) (fun _ _ _ h => h) (Or.inl ⟨by rfl, ?_⟩) ?_ ?_
                    rotate_left
                    · intro w'
                      go_simp
                      with_reducible rfl
                    rotate_left
                    · simp only [Act.put, List.setIfInBounds_toArray, List.set_cons_zero, List.set_cons_succ, i64_w, i32_w]
                      rfl
                    refine pure_ (i := 2) (N := some 32) (v := ?_) (a' := ?_) #[true, true, true, false, false, false, false, false] rfl rfl (any_of HT_.out (by kernel_rfl)) (fun _ _ _ h => h) (Or.inl ⟨by rfl, ?_⟩) ?_ ?_
                    rotate_left
                    · intro w'
                      go_simp
                      with_reducible rfl
                    rotate_left
                    · simp only [Act.put, List.setIfInBounds_toArray, List.set_cons_zero, List.set_cons_succ, i64_w, i32_w]
                      rfl
                    refine pure_ (i := 3) (N := some 33) (v := ?_) (a' := ?_) #[true, true, true, true, false, false, false, false] rfl rfl (any_of HT_.out (by kernel_rfl)) (fun _ _ _ h => h) (Or.inl ⟨by rfl, ?_⟩) ?_ ?_
                    rotate_left
                    · intro w'
                      go_simp
                      with_reducible rfl
                    rotate_left
                    · simp only [Act.put, List.setIfInBounds_toArray, List.set_cons_zero, List.set_cons_succ, i64_w, i32_w]
                      rfl
                    refine pure_ (i := 5) (N := some 35) (v := ?_) (a' := ?_) #[true, true, true, true, false, true, false, false] rfl rfl (any_of HT_.out (by kernel_rfl)) (fun _ _ _ h => h) (Or.inl ⟨by rfl, ?_⟩) ?_ ?_
                    rotate_left
                    · intro w'
                      go_simp
                      with_reducible rfl
                    rotate_left
                    · simp only [Act.put, List.setIfInBounds_toArray, List.set_cons_zero, List.set_cons_succ, i64_w, i32_w]
                      rfl
                    refine take_ (i := 4) (N := some 34) (v := ?_) (a' := ?_) #[true, true, true, true, true, true, false, false] rfl rfl (take_ofW HT_.out HW_.out (by kernel_rfl)) (fun _ _ _ h => h) (Or.inl ⟨by rfl, ?_⟩) hHeld ?_ ?_
                    rotate_left
                    · rintro w' ⟨s0, s1, s2, s3, s4, s5, s6⟩
                      go_simp
                      with_reducible rfl
                    rotate_left
                    · simp only [Act.put, List.setIfInBounds_toArray, List.set_cons_zero, List.set_cons_succ, i64_w, i32_w]
                      rfl
                    refine one_ (i := 6) (N := some 36) #[true, true, true, true, true, true, true, false] rfl rfl (one_of HT_.out (by kernel_rfl)) (by decide) (fun K hK => ?_)
                    refine goes_ Try.func92 (by kernel_rfl) rfl #[.int .i64 (wrap64 ((wrap64 (x1_1 + 1)) + 1))] (by rfl) rfl rfl (by (try simp only [List.map_toArray, List.map_cons, List.map_nil]); first | done | rfl | (simp only [List.length_drop, List.length_take]; rfl)) ?_
                    with_reducible refine (laws_markText.calls k1 (wrap64 ((wrap64 (x1_1 + 1)) + 1)) t587 _ A7.out).mono ?_
                    rintro e w32 ⟨rfl, hb⟩
                    refine ⟨_, rfl, ?_⟩
                    have n0_ := Aside0.mk (below_step (by repeat (first | (with_reducible first | exact HB.out | apply below_alloc | apply pw_below_drewN | apply below_drew1) | exact HB.out)) hb)
                    clear HB
                    have HB := n0_
                    clear n0_
                    (try clear hb)
                    (try clear hb2)
                    (try clear hk)
                    (try clear hi)
                    refine hK.out _ _ ⟨((HB.out.cell (World.block_lt_of_cell? w _ hw586_0)).trans hw586_0), ((HB.out.cell (World.block_lt_of_cell? w _ hw586_1)).trans hw586_1), ((HB.out.cell (World.block_lt_of_cell? w _ hw586_2)).trans hw586_2), ((HB.out.cell (World.block_lt_of_cell? w _ hw586_3)).trans hw586_3), ((HB.out.cell (World.block_lt_of_cell? w _ hw586_4)).trans hw586_4), ((HB.out.cell (World.block_lt_of_cell? w _ hw586_5)).trans hw586_5), ((HB.out.cell (World.block_lt_of_cell? w _ hw586_6)).trans hw586_6)⟩ (fun hHeld => ?_)
                    clear hK K
                    refine norm_ (a' := ?_) ?_ ?_
                    rotate_left
                    · show Act.put _ (some 36) _ = _
                      simp only [Act.put, List.setIfInBounds_toArray, List.set_cons_zero, List.set_cons_succ, i64_w, i32_w]
                      rfl
                    refine pure_ (i := 7) (N := some 37) (v := ?_) (a' := ?_) #[true, true, true, true, true, true, true, true] rfl rfl (any_of HT_.out (by kernel_rfl)) (fun _ _ _ h => h) (Or.inl ⟨by rfl, ?_⟩) ?_ ?_
                    rotate_left
                    · intro w'
                      go_simp
                      with_reducible rfl
                    rotate_left
                    · simp only [Act.put, List.setIfInBounds_toArray, List.set_cons_zero, List.set_cons_succ, i64_w, i32_w]
                      rfl
                    refine done_ (done_of HT_.out (by kernel_rfl)) ?_
                    have p588 : 0 ≤ (x5_1 : Int) := of_decide_eq_true (by first | (with_reducible assumption) | assumption)
                    have q588 : x5_1 < (l0.length : Int) := of_decide_eq_true (by first | (with_reducible assumption) | assumption)
                    obtain ⟨ad588, e588, hx588_0, hx588_1, hx588_2, hx588_3, hx588_4, hx588_5, hx588_6⟩ := at_T72 HR0.out x5_1 p588 q588
                    obtain rfl : ad584 = ad588 := (by injection e588)
                    replace hx588_0 := (HB.out.cell (World.block_lt_of_cell? w _ hx588_0)).trans hx588_0
                    replace hx588_1 := (HB.out.cell (World.block_lt_of_cell? w _ hx588_1)).trans hx588_1
                    replace hx588_2 := (HB.out.cell (World.block_lt_of_cell? w _ hx588_2)).trans hx588_2
                    replace hx588_3 := (HB.out.cell (World.block_lt_of_cell? w _ hx588_3)).trans hx588_3
                    replace hx588_4 := (HB.out.cell (World.block_lt_of_cell? w _ hx588_4)).trans hx588_4
                    replace hx588_5 := (HB.out.cell (World.block_lt_of_cell? w _ hx588_5)).trans hx588_5
                    replace hx588_6 := (HB.out.cell (World.block_lt_of_cell? w _ hx588_6)).trans hx588_6
                    replace p588 := eq_true p588
                    replace q588 := eq_true q588
                    try go_wp2
                    have n0_ := Aside0.mk (below_drew1 HB.out)
                    clear HB
                    have HB := n0_
                    clear n0_
                    have p589 : 0 ≤ (x5_1 : Int) := of_decide_eq_true (by first | (with_reducible assumption) | assumption)
                    have q589 : x5_1 < (l0.length : Int) := of_decide_eq_true (by first | (with_reducible assumption) | assumption)
                    obtain ⟨ad589, e589, hx589_0, hx589_1, hx589_2, hx589_3, hx589_4, hx589_5, hx589_6⟩ := at_T72 HR0.out x5_1 p589 q589
                    have hw589_6 := hx589_6
                    have hw589_5 := hx589_5
                    have hw589_4 := hx589_4
                    have hw589_3 := hx589_3
                    have hw589_2 := hx589_2
                    have hw589_1 := hx589_1
                    have hw589_0 := hx589_0
                    obtain rfl : ad584 = ad589 := (by injection e589)
                    replace hx589_0 := (HB.out.cell (World.block_lt_of_cell? w _ hx589_0)).trans hx589_0
                    replace hx589_1 := (HB.out.cell (World.block_lt_of_cell? w _ hx589_1)).trans hx589_1
                    replace hx589_2 := (HB.out.cell (World.block_lt_of_cell? w _ hx589_2)).trans hx589_2
                    replace hx589_3 := (HB.out.cell (World.block_lt_of_cell? w _ hx589_3)).trans hx589_3
                    replace hx589_4 := (HB.out.cell (World.block_lt_of_cell? w _ hx589_4)).trans hx589_4
                    replace hx589_5 := (HB.out.cell (World.block_lt_of_cell? w _ hx589_5)).trans hx589_5
                    replace hx589_6 := (HB.out.cell (World.block_lt_of_cell? w _ hx589_6)).trans hx589_6
                    replace p589 := eq_true p589
                    replace q589 := eq_true q589
                    refine start_ (n := 8) (S := fun w' => w'.cell? (ad584.add ((x5_1).toNat * 7)) = some (.int .i64 ((rd_T72 l0 x5_1).f0)) ∧ w'.cell? ⟨(ad584.add ((x5_1).toNat * 7)).block, (ad584.add ((x5_1).toNat * 7)).off + 1, none⟩ = some (.int .i64 ((rd_T72 l0 x5_1).f1)) ∧ w'.cell? ⟨(ad584.add ((x5_1).toNat * 7)).block, (ad584.add ((x5_1).toNat * 7)).off + 2, none⟩ = some (.string ((rd_T72 l0 x5_1).f2)) ∧ w'.cell? ⟨(ad584.add ((x5_1).toNat * 7)).block, (ad584.add ((x5_1).toNat * 7)).off + 3, none⟩ = some (.int .i64 ((rd_T72 l0 x5_1).f3)) ∧ w'.cell? ⟨(ad584.add ((x5_1).toNat * 7)).block, (ad584.add ((x5_1).toNat * 7)).off + 4, none⟩ = some (.string ((rd_T72 l0 x5_1).f4)) ∧ w'.cell? ⟨(ad584.add ((x5_1).toNat * 7)).block, (ad584.add ((x5_1).toNat * 7)).off + 5, none⟩ = some (.int .i64 ((rd_T72 l0 x5_1).f5)) ∧ w'.cell? ⟨(ad584.add ((x5_1).toNat * 7)).block, (ad584.add ((x5_1).toNat * 7)).off + 6, none⟩ = some (.string ((rd_T72 l0 x5_1).f6))) (ds := []) #[false, false, false, false, false, false, false, false] (by kernel_rfl) rfl rfl ⟨((HB.out.cell (World.block_lt_of_cell? w _ hw589_0)).trans hw589_0), ((HB.out.cell (World.block_lt_of_cell? w _ hw589_1)).trans hw589_1), ((HB.out.cell (World.block_lt_of_cell? w _ hw589_2)).trans hw589_2), ((HB.out.cell (World.block_lt_of_cell? w _ hw589_3)).trans hw589_3), ((HB.out.cell (World.block_lt_of_cell? w _ hw589_4)).trans hw589_4), ((HB.out.cell (World.block_lt_of_cell? w _ hw589_5)).trans hw589_5), ((HB.out.cell (World.block_lt_of_cell? w _ hw589_6)).trans hw589_6)⟩ (fun hHeld => ?_); refine with_tabW laws_heldOpS.tab16 laws_heldOpS.bits16 (fun HT_ HW_ => ?_)
                    generalize w32.drew = w33 at HB hx589_0 hx589_1 hx589_2 hx589_3 hx589_4 hx589_5 hx589_6 hHeld ⊢
                    refine pure_ (i := 0) (N := some 49) (v := ?_) (a' := ?_) #[true, false, false, false, false, false, false, false] rfl rfl (any_of HT_.out (by kernel_rfl)) (fun _ _ _ h => h) (Or.inl ⟨by rfl, ?_⟩) ?_ ?_
                    rotate_left
                    · intro w'
                      go_simp
                      with_reducible rfl
                    rotate_left
                    · simp only [Act.put, List.setIfInBounds_toArray, List.set_cons_zero, List.set_cons_succ, i64_w, i32_w]
                      rfl
                    refine pure_ (i := 1) (N := some 50) (v := ?_) (a' := ?_) #[true, true, false, false, false, false, false, false] rfl rfl (any_of HT_.out (by kernel_rfl)) (fun _ _ _ h => h) (Or.inl ⟨by rfl, ?_⟩) ?_ ?_
                    rotate_left
                    · intro w'
                      go_simp
                      with_reducible rfl
                    rotate_left
                    · simp only [Act.put, List.setIfInBounds_toArray, List.set_cons_zero, List.set_cons_succ, i64_w, i32_w]
                      rfl
                    refine pure_ (i := 2) (N := some 51) (v := ?_) (a' := ?_) #[true, true, true, false, false, false, false, false] rfl rfl (any_of HT_.out (by kernel_rfl)) (fun _ _ _ h => h) (Or.inl ⟨by rfl, ?_⟩) ?_ ?_
                    rotate_left
                    · intro w'
                      go_simp
                      with_reducible rfl
                    rotate_left
                    · simp only [Act.put, List.setIfInBounds_toArray, List.set_cons_zero, List.set_cons_succ, i64_w, i32_w]
                      rfl
                    refine pure_ (i := 3) (N := some 52) (v := ?_) (a' := ?_) #[true, true, true, true, false, false, false, false] rfl rfl (any_of HT_.out (by kernel_rfl)) (fun _ _ _ h => h) (Or.inl ⟨by rfl, ?_⟩) ?_ ?_
                    rotate_left
                    · intro w'
                      go_simp
                      with_reducible rfl
                    rotate_left
                    · simp only [Act.put, List.setIfInBounds_toArray, List.set_cons_zero, List.set_cons_succ, i64_w, i32_w]
                      rfl
                    refine pure_ (i := 5) (N := some 54) (v := ?_) (a' := ?_) #[true, true, true, true, false, true, false, false] rfl rfl (any_of HT_.out (by kernel_rfl)) (fun _ _ _ h => h) (Or.inl ⟨by rfl, ?_⟩) ?_ ?_
                    rotate_left
                    · intro w'
                      go_simp
                      with_reducible rfl
                    rotate_left
                    · simp only [Act.put, List.setIfInBounds_toArray, List.set_cons_zero, List.set_cons_succ, i64_w, i32_w]
                      rfl
                    refine take_ (i := 4) (N := some 53) (v := ?_) (a' := ?_) #[true, true, true, true, true, true, false, false] rfl rfl (take_ofW HT_.out HW_.out (by kernel_rfl)) (fun _ _ _ h => h) (Or.inl ⟨by rfl, ?_⟩) hHeld ?_ ?_
                    rotate_left
                    · rintro w' ⟨s0, s1, s2, s3, s4, s5, s6⟩
                      go_simp
                      with_reducible rfl
                    rotate_left
                    · simp only [Act.put, List.setIfInBounds_toArray, List.set_cons_zero, List.set_cons_succ, i64_w, i32_w]
                      rfl
                    refine one_ (i := 6) (N := some 55) #[true, true, true, true, true, true, true, false] rfl rfl (one_of HT_.out (by kernel_rfl)) (by decide) (fun K hK => ?_)
                    refine goes_ Try.func92 (by kernel_rfl) rfl #[.int .i64 (wrap64 ((wrap64 ((wrap64 ((wrap64 (x1_1 + 1)) + 1)) + 1)) + 1))] (by rfl) rfl rfl (by (try simp only [List.map_toArray, List.map_cons, List.map_nil]); first | done | rfl | (simp only [List.length_drop, List.length_take]; rfl)) ?_
                    with_reducible refine (laws_markText.calls k1 (wrap64 ((wrap64 ((wrap64 ((wrap64 (x1_1 + 1)) + 1)) + 1)) + 1)) t590 _ A10.out).mono ?_
                    rintro e w34 ⟨rfl, hb⟩
                    refine ⟨_, rfl, ?_⟩
                    have n0_ := Aside0.mk (below_step (by repeat (first | (with_reducible first | exact HB.out | apply below_alloc | apply pw_below_drewN | apply below_drew1) | exact HB.out)) hb)
                    clear HB
                    have HB := n0_
                    clear n0_
                    (try clear hb)
                    (try clear hb2)
                    (try clear hk)
                    (try clear hi)
                    refine hK.out _ _ ⟨((HB.out.cell (World.block_lt_of_cell? w _ hw589_0)).trans hw589_0), ((HB.out.cell (World.block_lt_of_cell? w _ hw589_1)).trans hw589_1), ((HB.out.cell (World.block_lt_of_cell? w _ hw589_2)).trans hw589_2), ((HB.out.cell (World.block_lt_of_cell? w _ hw589_3)).trans hw589_3), ((HB.out.cell (World.block_lt_of_cell? w _ hw589_4)).trans hw589_4), ((HB.out.cell (World.block_lt_of_cell? w _ hw589_5)).trans hw589_5), ((HB.out.cell (World.block_lt_of_cell? w _ hw589_6)).trans hw589_6)⟩ (fun hHeld => ?_)
                    clear hK K
                    refine norm_ (a' := ?_) ?_ ?_
                    rotate_left
                    · show Act.put _ (some 55) _ = _
                      simp only [Act.put, List.setIfInBounds_toArray, List.set_cons_zero, List.set_cons_succ, i64_w, i32_w]
                      rfl
                    refine pure_ (i := 7) (N := some 56) (v := ?_) (a' := ?_) #[true, true, true, true, true, true, true, true] rfl rfl (any_of HT_.out (by kernel_rfl)) (fun _ _ _ h => h) (Or.inl ⟨by rfl, ?_⟩) ?_ ?_
                    rotate_left
                    · intro w'
                      go_simp
                      with_reducible rfl
                    rotate_left
                    · simp only [Act.put, List.setIfInBounds_toArray, List.set_cons_zero, List.set_cons_succ, i64_w, i32_w]
                      rfl
                    refine done_ (done_of HT_.out (by kernel_rfl)) ?_
                    try go_wp2
                    go_ret
                    exact ⟨by first | rfl | (simp [errW_none, errW_some] <;> rfl) | (simp [*, errW_none, errW_some] <;> rfl), by repeat (first | (with_reducible first | exact HB.out | apply below_alloc | apply pw_below_drewN | apply below_drew1) | exact HB.out)⟩
                · rw [if_neg c9] at H
                  have c9b0 : (((rd_T72 l0 x5_1).f3) == (wrap64 ((wrap64 ((wrap64 (x1_1 + 1)) + 1)) + 1))) = false := beq_eq_false_iff_ne.mpr c9
                  have c9b1 : (((rd_T72 l0 x5_1).f3) != (wrap64 ((wrap64 ((wrap64 (x1_1 + 1)) + 1)) + 1))) = true := bne_iff_ne.mpr c9
                  obtain rfl := Option.some.inj H
                  have p584 : 0 ≤ (x5_1 : Int) := of_decide_eq_true (by first | (with_reducible assumption) | assumption)
                  have q584 : x5_1 < (l0.length : Int) := of_decide_eq_true (by first | (with_reducible assumption) | assumption)
                  obtain ⟨ad584, e584, hx584_0, hx584_1, hx584_2, hx584_3, hx584_4, hx584_5, hx584_6⟩ := at_T72 HR0.out x5_1 p584 q584
                  cases e584
                  replace hx584_0 := (HB.out.cell (World.block_lt_of_cell? w _ hx584_0)).trans hx584_0
                  replace hx584_1 := (HB.out.cell (World.block_lt_of_cell? w _ hx584_1)).trans hx584_1
                  replace hx584_2 := (HB.out.cell (World.block_lt_of_cell? w _ hx584_2)).trans hx584_2
                  replace hx584_3 := (HB.out.cell (World.block_lt_of_cell? w _ hx584_3)).trans hx584_3
                  replace hx584_4 := (HB.out.cell (World.block_lt_of_cell? w _ hx584_4)).trans hx584_4
                  replace hx584_5 := (HB.out.cell (World.block_lt_of_cell? w _ hx584_5)).trans hx584_5
                  replace hx584_6 := (HB.out.cell (World.block_lt_of_cell? w _ hx584_6)).trans hx584_6
                  replace p584 := eq_true p584
                  replace q584 := eq_true q584
                  have p585 : 0 ≤ (x5_1 : Int) := of_decide_eq_true (by first | (with_reducible assumption) | assumption)
                  have q585 : x5_1 < (l0.length : Int) := of_decide_eq_true (by first | (with_reducible assumption) | assumption)
                  obtain ⟨ad585, e585, hx585_0, hx585_1, hx585_2, hx585_3, hx585_4, hx585_5, hx585_6⟩ := at_T72 HR0.out x5_1 p585 q585
                  obtain rfl : ad584 = ad585 := (by injection e585)
                  replace hx585_0 := (HB.out.cell (World.block_lt_of_cell? w _ hx585_0)).trans hx585_0
                  replace hx585_1 := (HB.out.cell (World.block_lt_of_cell? w _ hx585_1)).trans hx585_1
                  replace hx585_2 := (HB.out.cell (World.block_lt_of_cell? w _ hx585_2)).trans hx585_2
                  replace hx585_3 := (HB.out.cell (World.block_lt_of_cell? w _ hx585_3)).trans hx585_3
                  replace hx585_4 := (HB.out.cell (World.block_lt_of_cell? w _ hx585_4)).trans hx585_4
                  replace hx585_5 := (HB.out.cell (World.block_lt_of_cell? w _ hx585_5)).trans hx585_5
                  replace hx585_6 := (HB.out.cell (World.block_lt_of_cell? w _ hx585_6)).trans hx585_6
                  replace p585 := eq_true p585
                  replace q585 := eq_true q585
                  try go_wp2
                  have n0_ := Aside0.mk (below_drew1 HB.out)
                  clear HB
                  have HB := n0_
                  clear n0_
                  have p586 : 0 ≤ (x5_1 : Int) := of_decide_eq_true (by first | (with_reducible assumption) | assumption)
                  have q586 : x5_1 < (l0.length : Int) := of_decide_eq_true (by first | (with_reducible assumption) | assumption)
                  obtain ⟨ad586, e586, hx586_0, hx586_1, hx586_2, hx586_3, hx586_4, hx586_5, hx586_6⟩ := at_T72 HR0.out x5_1 p586 q586
                  have hw586_6 := hx586_6
                  have hw586_5 := hx586_5
                  have hw586_4 := hx586_4
                  have hw586_3 := hx586_3
                  have hw586_2 := hx586_2
                  have hw586_1 := hx586_1
                  have hw586_0 := hx586_0
                  obtain rfl : ad584 = ad586 := (by injection e586)
                  replace hx586_0 := (HB.out.cell (World.block_lt_of_cell? w _ hx586_0)).trans hx586_0
                  replace hx586_1 := (HB.out.cell (World.block_lt_of_cell? w _ hx586_1)).trans hx586_1
                  replace hx586_2 := (HB.out.cell (World.block_lt_of_cell? w _ hx586_2)).trans hx586_2
                  replace hx586_3 := (HB.out.cell (World.block_lt_of_cell? w _ hx586_3)).trans hx586_3
                  replace hx586_4 := (HB.out.cell (World.block_lt_of_cell? w _ hx586_4)).trans hx586_4
                  replace hx586_5 := (HB.out.cell (World.block_lt_of_cell? w _ hx586_5)).trans hx586_5
                  replace hx586_6 := (HB.out.cell (World.block_lt_of_cell? w _ hx586_6)).trans hx586_6
                  replace p586 := eq_true p586
                  replace q586 := eq_true q586
                  refine start_ (n := 8) (S := fun w' => w'.cell? (ad584.add ((x5_1).toNat * 7)) = some (.int .i64 ((rd_T72 l0 x5_1).f0)) ∧ w'.cell? ⟨(ad584.add ((x5_1).toNat * 7)).block, (ad584.add ((x5_1).toNat * 7)).off + 1, none⟩ = some (.int .i64 ((rd_T72 l0 x5_1).f1)) ∧ w'.cell? ⟨(ad584.add ((x5_1).toNat * 7)).block, (ad584.add ((x5_1).toNat * 7)).off + 2, none⟩ = some (.string ((rd_T72 l0 x5_1).f2)) ∧ w'.cell? ⟨(ad584.add ((x5_1).toNat * 7)).block, (ad584.add ((x5_1).toNat * 7)).off + 3, none⟩ = some (.int .i64 ((rd_T72 l0 x5_1).f3)) ∧ w'.cell? ⟨(ad584.add ((x5_1).toNat * 7)).block, (ad584.add ((x5_1).toNat * 7)).off + 4, none⟩ = some (.string ((rd_T72 l0 x5_1).f4)) ∧ w'.cell? ⟨(ad584.add ((x5_1).toNat * 7)).block, (ad584.add ((x5_1).toNat * 7)).off + 5, none⟩ = some (.int .i64 ((rd_T72 l0 x5_1).f5)) ∧ w'.cell? ⟨(ad584.add ((x5_1).toNat * 7)).block, (ad584.add ((x5_1).toNat * 7)).off + 6, none⟩ = some (.string ((rd_T72 l0 x5_1).f6))) (ds := []) #[false, false, false, false, false, false, false, false] (by kernel_rfl) rfl rfl ⟨((HB.out.cell (World.block_lt_of_cell? w _ hw586_0)).trans hw586_0), ((HB.out.cell (World.block_lt_of_cell? w _ hw586_1)).trans hw586_1), ((HB.out.cell (World.block_lt_of_cell? w _ hw586_2)).trans hw586_2), ((HB.out.cell (World.block_lt_of_cell? w _ hw586_3)).trans hw586_3), ((HB.out.cell (World.block_lt_of_cell? w _ hw586_4)).trans hw586_4), ((HB.out.cell (World.block_lt_of_cell? w _ hw586_5)).trans hw586_5), ((HB.out.cell (World.block_lt_of_cell? w _ hw586_6)).trans hw586_6)⟩ (fun hHeld => ?_); refine with_tabW laws_heldOpS.tab10 laws_heldOpS.bits10 (fun HT_ HW_ => ?_)
                  generalize wr.drew = w35 at HB hx586_0 hx586_1 hx586_2 hx586_3 hx586_4 hx586_5 hx586_6 hHeld ⊢
                  refine pure_ (i := 0) (N := some 30) (v := ?_) (a' := ?_) #[true, false, false, false, false, false, false, false] rfl rfl (any_of HT_.out (by kernel_rfl)) (fun _ _ _ h => h) (Or.inl ⟨by rfl, ?_⟩) ?_ ?_
                  rotate_left
                  · intro w'
                    go_simp
                    with_reducible rfl
                  rotate_left
                  · simp only [Act.put, List.setIfInBounds_toArray, List.set_cons_zero, List.set_cons_succ, i64_w, i32_w]
                    rfl
                  refine pure_ (i := 1) (N := some 31) (v := ?_) (a' := ?_) #[true, true, false, false, false, false, false, false] rfl rfl (any_of HT_.out (by kernel_rfl)) (fun _ _ _ h => h) (Or.inl ⟨by rfl, ?_⟩) ?_ ?_
                  rotate_left
                  · intro w'
                    go_simp
                    with_reducible rfl
                  rotate_left
                  · simp only [Act.put, List.setIfInBounds_toArray, List.set_cons_zero, List.set_cons_succ, i64_w, i32_w]
                    rfl
                  refine pure_ (i := 2) (N := some 32) (v := ?_) (a' := ?_) #[true, true, true, false, false, false, false, false] rfl rfl (any_of HT_.out (by kernel_rfl)) (fun _ _ _ h => h) (Or.inl ⟨by rfl, ?_⟩) ?_ ?_
                  rotate_left
                  · intro w'
                    go_simp
                    with_reducible rfl
                  rotate_left
                  · simp only [Act.put, List.setIfInBounds_toArray, List.set_cons_zero, List.set_cons_succ, i64_w, i32_w]
                    rfl
                  refine pure_ (i := 3) (N := some 33) (v := ?_) (a' := ?_) #[true, true, true, true, false, false, false, false] rfl rfl (any_of HT_.out (by kernel_rfl)) (fun _ _ _ h => h) (Or.inl ⟨by rfl, ?_⟩) ?_ ?_
                  rotate_left
                  · intro w'
                    go_simp
                    with_reducible rfl
                  rotate_left
                  · simp only [Act.put, List.setIfInBounds_toArray, List.set_cons_zero, List.set_cons_succ, i64_w, i32_w]
                    rfl
                  refine pure_ (i := 5) (N := some 35) (v := ?_) (a' := ?_) #[true, true, true, true, false, true, false, false] rfl rfl (any_of HT_.out (by kernel_rfl)) (fun _ _ _ h => h) (Or.inl ⟨by rfl, ?_⟩) ?_ ?_
                  rotate_left
                  · intro w'
                    go_simp
                    with_reducible rfl
                  rotate_left
                  · simp only [Act.put, List.setIfInBounds_toArray, List.set_cons_zero, List.set_cons_succ, i64_w, i32_w]
                    rfl
                  refine take_ (i := 4) (N := some 34) (v := ?_) (a' := ?_) #[true, true, true, true, true, true, false, false] rfl rfl (take_ofW HT_.out HW_.out (by kernel_rfl)) (fun _ _ _ h => h) (Or.inl ⟨by rfl, ?_⟩) hHeld ?_ ?_
                  rotate_left
                  · rintro w' ⟨s0, s1, s2, s3, s4, s5, s6⟩
                    go_simp
                    with_reducible rfl
                  rotate_left
                  · simp only [Act.put, List.setIfInBounds_toArray, List.set_cons_zero, List.set_cons_succ, i64_w, i32_w]
                    rfl
                  refine one_ (i := 6) (N := some 36) #[true, true, true, true, true, true, true, false] rfl rfl (one_of HT_.out (by kernel_rfl)) (by decide) (fun K hK => ?_)
                  refine goes_ Try.func92 (by kernel_rfl) rfl #[.int .i64 (wrap64 ((wrap64 (x1_1 + 1)) + 1))] (by rfl) rfl rfl (by (try simp only [List.map_toArray, List.map_cons, List.map_nil]); first | done | rfl | (simp only [List.length_drop, List.length_take]; rfl)) ?_
                  with_reducible refine (laws_markText.calls k1 (wrap64 ((wrap64 (x1_1 + 1)) + 1)) t587 _ A7.out).mono ?_
                  rintro e w36 ⟨rfl, hb⟩
                  refine ⟨_, rfl, ?_⟩
                  have n0_ := Aside0.mk (below_step (by repeat (first | (with_reducible first | exact HB.out | apply below_alloc | apply pw_below_drewN | apply below_drew1) | exact HB.out)) hb)
                  clear HB
                  have HB := n0_
                  clear n0_
                  (try clear hb)
                  (try clear hb2)
                  (try clear hk)
                  (try clear hi)
                  refine hK.out _ _ ⟨((HB.out.cell (World.block_lt_of_cell? w _ hw586_0)).trans hw586_0), ((HB.out.cell (World.block_lt_of_cell? w _ hw586_1)).trans hw586_1), ((HB.out.cell (World.block_lt_of_cell? w _ hw586_2)).trans hw586_2), ((HB.out.cell (World.block_lt_of_cell? w _ hw586_3)).trans hw586_3), ((HB.out.cell (World.block_lt_of_cell? w _ hw586_4)).trans hw586_4), ((HB.out.cell (World.block_lt_of_cell? w _ hw586_5)).trans hw586_5), ((HB.out.cell (World.block_lt_of_cell? w _ hw586_6)).trans hw586_6)⟩ (fun hHeld => ?_)
                  clear hK K
                  refine norm_ (a' := ?_) ?_ ?_
                  rotate_left
                  · show Act.put _ (some 36) _ = _
                    simp only [Act.put, List.setIfInBounds_toArray, List.set_cons_zero, List.set_cons_succ, i64_w, i32_w]
                    rfl
                  refine pure_ (i := 7) (N := some 37) (v := ?_) (a' := ?_) #[true, true, true, true, true, true, true, true] rfl rfl (any_of HT_.out (by kernel_rfl)) (fun _ _ _ h => h) (Or.inl ⟨by rfl, ?_⟩) ?_ ?_
                  rotate_left
                  · intro w'
                    go_simp
                    with_reducible rfl
                  rotate_left
                  · simp only [Act.put, List.setIfInBounds_toArray, List.set_cons_zero, List.set_cons_succ, i64_w, i32_w]
                    rfl
                  refine done_ (done_of HT_.out (by kernel_rfl)) ?_
                  have p588 : 0 ≤ (x5_1 : Int) := of_decide_eq_true (by first | (with_reducible assumption) | assumption)
                  have q588 : x5_1 < (l0.length : Int) := of_decide_eq_true (by first | (with_reducible assumption) | assumption)
                  obtain ⟨ad588, e588, hx588_0, hx588_1, hx588_2, hx588_3, hx588_4, hx588_5, hx588_6⟩ := at_T72 HR0.out x5_1 p588 q588
                  obtain rfl : ad584 = ad588 := (by injection e588)
                  replace hx588_0 := (HB.out.cell (World.block_lt_of_cell? w _ hx588_0)).trans hx588_0
                  replace hx588_1 := (HB.out.cell (World.block_lt_of_cell? w _ hx588_1)).trans hx588_1
                  replace hx588_2 := (HB.out.cell (World.block_lt_of_cell? w _ hx588_2)).trans hx588_2
                  replace hx588_3 := (HB.out.cell (World.block_lt_of_cell? w _ hx588_3)).trans hx588_3
                  replace hx588_4 := (HB.out.cell (World.block_lt_of_cell? w _ hx588_4)).trans hx588_4
                  replace hx588_5 := (HB.out.cell (World.block_lt_of_cell? w _ hx588_5)).trans hx588_5
                  replace hx588_6 := (HB.out.cell (World.block_lt_of_cell? w _ hx588_6)).trans hx588_6
                  replace p588 := eq_true p588
                  replace q588 := eq_true q588
                  try go_wp2
                  go_ret
                  exact ⟨by first | rfl | (simp [errW_none, errW_some] <;> rfl) | (simp [*, errW_none, errW_some] <;> rfl), by repeat (first | (with_reducible first | exact HB.out | apply below_alloc | apply pw_below_drewN | apply below_drew1) | exact HB.out)⟩
              · rw [if_neg c8] at H
                have c8b0 : (((rd_T72 l0 x5_1).f2).toList == t587.toList) = false := beq_eq_false_iff_ne.mpr c8
                have c8b1 : (((rd_T72 l0 x5_1).f2).toList != t587.toList) = true := bne_iff_ne.mpr c8
                obtain rfl := Option.some.inj H
                have p584 : 0 ≤ (x5_1 : Int) := of_decide_eq_true (by first | (with_reducible assumption) | assumption)
                have q584 : x5_1 < (l0.length : Int) := of_decide_eq_true (by first | (with_reducible assumption) | assumption)
                obtain ⟨ad584, e584, hx584_0, hx584_1, hx584_2, hx584_3, hx584_4, hx584_5, hx584_6⟩ := at_T72 HR0.out x5_1 p584 q584
                cases e584
                replace hx584_0 := (HB.out.cell (World.block_lt_of_cell? w _ hx584_0)).trans hx584_0
                replace hx584_1 := (HB.out.cell (World.block_lt_of_cell? w _ hx584_1)).trans hx584_1
                replace hx584_2 := (HB.out.cell (World.block_lt_of_cell? w _ hx584_2)).trans hx584_2
                replace hx584_3 := (HB.out.cell (World.block_lt_of_cell? w _ hx584_3)).trans hx584_3
                replace hx584_4 := (HB.out.cell (World.block_lt_of_cell? w _ hx584_4)).trans hx584_4
                replace hx584_5 := (HB.out.cell (World.block_lt_of_cell? w _ hx584_5)).trans hx584_5
                replace hx584_6 := (HB.out.cell (World.block_lt_of_cell? w _ hx584_6)).trans hx584_6
                replace p584 := eq_true p584
                replace q584 := eq_true q584
                have p585 : 0 ≤ (x5_1 : Int) := of_decide_eq_true (by first | (with_reducible assumption) | assumption)
                have q585 : x5_1 < (l0.length : Int) := of_decide_eq_true (by first | (with_reducible assumption) | assumption)
                obtain ⟨ad585, e585, hx585_0, hx585_1, hx585_2, hx585_3, hx585_4, hx585_5, hx585_6⟩ := at_T72 HR0.out x5_1 p585 q585
                obtain rfl : ad584 = ad585 := (by injection e585)
                replace hx585_0 := (HB.out.cell (World.block_lt_of_cell? w _ hx585_0)).trans hx585_0
                replace hx585_1 := (HB.out.cell (World.block_lt_of_cell? w _ hx585_1)).trans hx585_1
                replace hx585_2 := (HB.out.cell (World.block_lt_of_cell? w _ hx585_2)).trans hx585_2
                replace hx585_3 := (HB.out.cell (World.block_lt_of_cell? w _ hx585_3)).trans hx585_3
                replace hx585_4 := (HB.out.cell (World.block_lt_of_cell? w _ hx585_4)).trans hx585_4
                replace hx585_5 := (HB.out.cell (World.block_lt_of_cell? w _ hx585_5)).trans hx585_5
                replace hx585_6 := (HB.out.cell (World.block_lt_of_cell? w _ hx585_6)).trans hx585_6
                replace p585 := eq_true p585
                replace q585 := eq_true q585
                try go_wp2
                have n0_ := Aside0.mk (below_drew1 HB.out)
                clear HB
                have HB := n0_
                clear n0_
                have p586 : 0 ≤ (x5_1 : Int) := of_decide_eq_true (by first | (with_reducible assumption) | assumption)
                have q586 : x5_1 < (l0.length : Int) := of_decide_eq_true (by first | (with_reducible assumption) | assumption)
                obtain ⟨ad586, e586, hx586_0, hx586_1, hx586_2, hx586_3, hx586_4, hx586_5, hx586_6⟩ := at_T72 HR0.out x5_1 p586 q586
                have hw586_6 := hx586_6
                have hw586_5 := hx586_5
                have hw586_4 := hx586_4
                have hw586_3 := hx586_3
                have hw586_2 := hx586_2
                have hw586_1 := hx586_1
                have hw586_0 := hx586_0
                obtain rfl : ad584 = ad586 := (by injection e586)
                replace hx586_0 := (HB.out.cell (World.block_lt_of_cell? w _ hx586_0)).trans hx586_0
                replace hx586_1 := (HB.out.cell (World.block_lt_of_cell? w _ hx586_1)).trans hx586_1
                replace hx586_2 := (HB.out.cell (World.block_lt_of_cell? w _ hx586_2)).trans hx586_2
                replace hx586_3 := (HB.out.cell (World.block_lt_of_cell? w _ hx586_3)).trans hx586_3
                replace hx586_4 := (HB.out.cell (World.block_lt_of_cell? w _ hx586_4)).trans hx586_4
                replace hx586_5 := (HB.out.cell (World.block_lt_of_cell? w _ hx586_5)).trans hx586_5
                replace hx586_6 := (HB.out.cell (World.block_lt_of_cell? w _ hx586_6)).trans hx586_6
                replace p586 := eq_true p586
                replace q586 := eq_true q586
                refine start_ (n := 8) (S := fun w' => w'.cell? (ad584.add ((x5_1).toNat * 7)) = some (.int .i64 ((rd_T72 l0 x5_1).f0)) ∧ w'.cell? ⟨(ad584.add ((x5_1).toNat * 7)).block, (ad584.add ((x5_1).toNat * 7)).off + 1, none⟩ = some (.int .i64 ((rd_T72 l0 x5_1).f1)) ∧ w'.cell? ⟨(ad584.add ((x5_1).toNat * 7)).block, (ad584.add ((x5_1).toNat * 7)).off + 2, none⟩ = some (.string ((rd_T72 l0 x5_1).f2)) ∧ w'.cell? ⟨(ad584.add ((x5_1).toNat * 7)).block, (ad584.add ((x5_1).toNat * 7)).off + 3, none⟩ = some (.int .i64 ((rd_T72 l0 x5_1).f3)) ∧ w'.cell? ⟨(ad584.add ((x5_1).toNat * 7)).block, (ad584.add ((x5_1).toNat * 7)).off + 4, none⟩ = some (.string ((rd_T72 l0 x5_1).f4)) ∧ w'.cell? ⟨(ad584.add ((x5_1).toNat * 7)).block, (ad584.add ((x5_1).toNat * 7)).off + 5, none⟩ = some (.int .i64 ((rd_T72 l0 x5_1).f5)) ∧ w'.cell? ⟨(ad584.add ((x5_1).toNat * 7)).block, (ad584.add ((x5_1).toNat * 7)).off + 6, none⟩ = some (.string ((rd_T72 l0 x5_1).f6))) (ds := []) #[false, false, false, false, false, false, false, false] (by kernel_rfl) rfl rfl ⟨((HB.out.cell (World.block_lt_of_cell? w _ hw586_0)).trans hw586_0), ((HB.out.cell (World.block_lt_of_cell? w _ hw586_1)).trans hw586_1), ((HB.out.cell (World.block_lt_of_cell? w _ hw586_2)).trans hw586_2), ((HB.out.cell (World.block_lt_of_cell? w _ hw586_3)).trans hw586_3), ((HB.out.cell (World.block_lt_of_cell? w _ hw586_4)).trans hw586_4), ((HB.out.cell (World.block_lt_of_cell? w _ hw586_5)).trans hw586_5), ((HB.out.cell (World.block_lt_of_cell? w _ hw586_6)).trans hw586_6)⟩ (fun hHeld => ?_); refine with_tabW laws_heldOpS.tab10 laws_heldOpS.bits10 (fun HT_ HW_ => ?_)
                generalize wr.drew = w37 at HB hx586_0 hx586_1 hx586_2 hx586_3 hx586_4 hx586_5 hx586_6 hHeld ⊢
                refine pure_ (i := 0) (N := some 30) (v := ?_) (a' := ?_) #[true, false, false, false, false, false, false, false] rfl rfl (any_of HT_.out (by kernel_rfl)) (fun _ _ _ h => h) (Or.inl ⟨by rfl, ?_⟩) ?_ ?_
                rotate_left
                · intro w'
                  go_simp
                  with_reducible rfl
                rotate_left
                · simp only [Act.put, List.setIfInBounds_toArray, List.set_cons_zero, List.set_cons_succ, i64_w, i32_w]
                  rfl
                refine pure_ (i := 1) (N := some 31) (v := ?_) (a' := ?_) #[true, true, false, false, false, false, false, false] rfl rfl (any_of HT_.out (by kernel_rfl)) (fun _ _ _ h => h) (Or.inl ⟨by rfl, ?_⟩) ?_ ?_
                rotate_left
                · intro w'
                  go_simp
                  with_reducible rfl
                rotate_left
                · simp only [Act.put, List.setIfInBounds_toArray, List.set_cons_zero, List.set_cons_succ, i64_w, i32_w]
                  rfl
                refine pure_ (i := 2) (N := some 32) (v := ?_) (a' := ?_) #[true, true, true, false, false, false, false, false] rfl rfl (any_of HT_.out (by kernel_rfl)) (fun _ _ _ h => h) (Or.inl ⟨by rfl, ?_⟩) ?_ ?_
                rotate_left
                · intro w'
                  go_simp
                  with_reducible rfl
                rotate_left
                · simp only [Act.put, List.setIfInBounds_toArray, List.set_cons_zero, List.set_cons_succ, i64_w, i32_w]
                  rfl
                refine pure_ (i := 3) (N := some 33) (v := ?_) (a' := ?_) #[true, true, true, true, false, false, false, false] rfl rfl (any_of HT_.out (by kernel_rfl)) (fun _ _ _ h => h) (Or.inl ⟨by rfl, ?_⟩) ?_ ?_
                rotate_left
                · intro w'
                  go_simp
                  with_reducible rfl
                rotate_left
                · simp only [Act.put, List.setIfInBounds_toArray, List.set_cons_zero, List.set_cons_succ, i64_w, i32_w]
                  rfl
                refine pure_ (i := 5) (N := some 35) (v := ?_) (a' := ?_) #[true, true, true, true, false, true, false, false] rfl rfl (any_of HT_.out (by kernel_rfl)) (fun _ _ _ h => h) (Or.inl ⟨by rfl, ?_⟩) ?_ ?_
                rotate_left
                · intro w'
                  go_simp
                  with_reducible rfl
                rotate_left
                · simp only [Act.put, List.setIfInBounds_toArray, List.set_cons_zero, List.set_cons_succ, i64_w, i32_w]
                  rfl
                refine take_ (i := 4) (N := some 34) (v := ?_) (a' := ?_) #[true, true, true, true, true, true, false, false] rfl rfl (take_ofW HT_.out HW_.out (by kernel_rfl)) (fun _ _ _ h => h) (Or.inl ⟨by rfl, ?_⟩) hHeld ?_ ?_
                rotate_left
                · rintro w' ⟨s0, s1, s2, s3, s4, s5, s6⟩
                  go_simp
                  with_reducible rfl
                rotate_left
                · simp only [Act.put, List.setIfInBounds_toArray, List.set_cons_zero, List.set_cons_succ, i64_w, i32_w]
                  rfl
                refine one_ (i := 6) (N := some 36) #[true, true, true, true, true, true, true, false] rfl rfl (one_of HT_.out (by kernel_rfl)) (by decide) (fun K hK => ?_)
                refine goes_ Try.func92 (by kernel_rfl) rfl #[.int .i64 (wrap64 ((wrap64 (x1_1 + 1)) + 1))] (by rfl) rfl rfl (by (try simp only [List.map_toArray, List.map_cons, List.map_nil]); first | done | rfl | (simp only [List.length_drop, List.length_take]; rfl)) ?_
                with_reducible refine (laws_markText.calls k1 (wrap64 ((wrap64 (x1_1 + 1)) + 1)) t587 _ A7.out).mono ?_
                rintro e w38 ⟨rfl, hb⟩
                refine ⟨_, rfl, ?_⟩
                have n0_ := Aside0.mk (below_step (by repeat (first | (with_reducible first | exact HB.out | apply below_alloc | apply pw_below_drewN | apply below_drew1) | exact HB.out)) hb)
                clear HB
                have HB := n0_
                clear n0_
                (try clear hb)
                (try clear hb2)
                (try clear hk)
                (try clear hi)
                refine hK.out _ _ ⟨((HB.out.cell (World.block_lt_of_cell? w _ hw586_0)).trans hw586_0), ((HB.out.cell (World.block_lt_of_cell? w _ hw586_1)).trans hw586_1), ((HB.out.cell (World.block_lt_of_cell? w _ hw586_2)).trans hw586_2), ((HB.out.cell (World.block_lt_of_cell? w _ hw586_3)).trans hw586_3), ((HB.out.cell (World.block_lt_of_cell? w _ hw586_4)).trans hw586_4), ((HB.out.cell (World.block_lt_of_cell? w _ hw586_5)).trans hw586_5), ((HB.out.cell (World.block_lt_of_cell? w _ hw586_6)).trans hw586_6)⟩ (fun hHeld => ?_)
                clear hK K
                refine norm_ (a' := ?_) ?_ ?_
                rotate_left
                · show Act.put _ (some 36) _ = _
                  simp only [Act.put, List.setIfInBounds_toArray, List.set_cons_zero, List.set_cons_succ, i64_w, i32_w]
                  rfl
                refine pure_ (i := 7) (N := some 37) (v := ?_) (a' := ?_) #[true, true, true, true, true, true, true, true] rfl rfl (any_of HT_.out (by kernel_rfl)) (fun _ _ _ h => h) (Or.inl ⟨by rfl, ?_⟩) ?_ ?_
                rotate_left
                · intro w'
                  go_simp
                  with_reducible rfl
                rotate_left
                · simp only [Act.put, List.setIfInBounds_toArray, List.set_cons_zero, List.set_cons_succ, i64_w, i32_w]
                  rfl
                refine done_ (done_of HT_.out (by kernel_rfl)) ?_
                try go_wp2
                go_ret
                exact ⟨by first | rfl | (simp [errW_none, errW_some] <;> rfl) | (simp [*, errW_none, errW_some] <;> rfl), by repeat (first | (with_reducible first | exact HB.out | apply below_alloc | apply pw_below_drewN | apply below_drew1) | exact HB.out)⟩
            · rw [if_neg c6] at H
              have c6b0 : (((rd_T72 l0 x5_1).f1) == (wrap64 (x1_1 + 1))) = false := beq_eq_false_iff_ne.mpr c6
              have c6b1 : (((rd_T72 l0 x5_1).f1) != (wrap64 (x1_1 + 1))) = true := bne_iff_ne.mpr c6
              obtain rfl := Option.some.inj H
              have p584 : 0 ≤ (x5_1 : Int) := of_decide_eq_true (by first | (with_reducible assumption) | assumption)
              have q584 : x5_1 < (l0.length : Int) := of_decide_eq_true (by first | (with_reducible assumption) | assumption)
              obtain ⟨ad584, e584, hx584_0, hx584_1, hx584_2, hx584_3, hx584_4, hx584_5, hx584_6⟩ := at_T72 HR0.out x5_1 p584 q584
              cases e584
              replace hx584_0 := (HB.out.cell (World.block_lt_of_cell? w _ hx584_0)).trans hx584_0
              replace hx584_1 := (HB.out.cell (World.block_lt_of_cell? w _ hx584_1)).trans hx584_1
              replace hx584_2 := (HB.out.cell (World.block_lt_of_cell? w _ hx584_2)).trans hx584_2
              replace hx584_3 := (HB.out.cell (World.block_lt_of_cell? w _ hx584_3)).trans hx584_3
              replace hx584_4 := (HB.out.cell (World.block_lt_of_cell? w _ hx584_4)).trans hx584_4
              replace hx584_5 := (HB.out.cell (World.block_lt_of_cell? w _ hx584_5)).trans hx584_5
              replace hx584_6 := (HB.out.cell (World.block_lt_of_cell? w _ hx584_6)).trans hx584_6
              replace p584 := eq_true p584
              replace q584 := eq_true q584
              have p585 : 0 ≤ (x5_1 : Int) := of_decide_eq_true (by first | (with_reducible assumption) | assumption)
              have q585 : x5_1 < (l0.length : Int) := of_decide_eq_true (by first | (with_reducible assumption) | assumption)
              obtain ⟨ad585, e585, hx585_0, hx585_1, hx585_2, hx585_3, hx585_4, hx585_5, hx585_6⟩ := at_T72 HR0.out x5_1 p585 q585
              obtain rfl : ad584 = ad585 := (by injection e585)
              replace hx585_0 := (HB.out.cell (World.block_lt_of_cell? w _ hx585_0)).trans hx585_0
              replace hx585_1 := (HB.out.cell (World.block_lt_of_cell? w _ hx585_1)).trans hx585_1
              replace hx585_2 := (HB.out.cell (World.block_lt_of_cell? w _ hx585_2)).trans hx585_2
              replace hx585_3 := (HB.out.cell (World.block_lt_of_cell? w _ hx585_3)).trans hx585_3
              replace hx585_4 := (HB.out.cell (World.block_lt_of_cell? w _ hx585_4)).trans hx585_4
              replace hx585_5 := (HB.out.cell (World.block_lt_of_cell? w _ hx585_5)).trans hx585_5
              replace hx585_6 := (HB.out.cell (World.block_lt_of_cell? w _ hx585_6)).trans hx585_6
              replace p585 := eq_true p585
              replace q585 := eq_true q585
              go_wp2
              go_ret
              exact ⟨by first | rfl | (simp [errW_none, errW_some] <;> rfl) | (simp [*, errW_none, errW_some] <;> rfl), by repeat (first | (with_reducible first | exact HB.out | apply below_alloc | apply pw_below_drewN | apply below_drew1) | exact HB.out)⟩
          · rw [if_neg c5] at H
            have c5b0 : (((rd_T72 l0 x5_1).f0) == x1_1) = false := beq_eq_false_iff_ne.mpr c5
            have c5b1 : (((rd_T72 l0 x5_1).f0) != x1_1) = true := bne_iff_ne.mpr c5
            obtain rfl := Option.some.inj H
            have p584 : 0 ≤ (x5_1 : Int) := of_decide_eq_true (by first | (with_reducible assumption) | assumption)
            have q584 : x5_1 < (l0.length : Int) := of_decide_eq_true (by first | (with_reducible assumption) | assumption)
            obtain ⟨ad584, e584, hx584_0, hx584_1, hx584_2, hx584_3, hx584_4, hx584_5, hx584_6⟩ := at_T72 HR0.out x5_1 p584 q584
            cases e584
            replace hx584_0 := (HB.out.cell (World.block_lt_of_cell? w _ hx584_0)).trans hx584_0
            replace hx584_1 := (HB.out.cell (World.block_lt_of_cell? w _ hx584_1)).trans hx584_1
            replace hx584_2 := (HB.out.cell (World.block_lt_of_cell? w _ hx584_2)).trans hx584_2
            replace hx584_3 := (HB.out.cell (World.block_lt_of_cell? w _ hx584_3)).trans hx584_3
            replace hx584_4 := (HB.out.cell (World.block_lt_of_cell? w _ hx584_4)).trans hx584_4
            replace hx584_5 := (HB.out.cell (World.block_lt_of_cell? w _ hx584_5)).trans hx584_5
            replace hx584_6 := (HB.out.cell (World.block_lt_of_cell? w _ hx584_6)).trans hx584_6
            replace p584 := eq_true p584
            replace q584 := eq_true q584
            go_wp2
            go_ret
            exact ⟨by first | rfl | (simp [errW_none, errW_some] <;> rfl) | (simp [*, errW_none, errW_some] <;> rfl), by repeat (first | (with_reducible first | exact HB.out | apply below_alloc | apply pw_below_drewN | apply below_drew1) | exact HB.out)⟩
        · rw [if_neg c4] at H
          exact absurd H (by simp)
      · rw [if_neg c3] at H
        have c3b0 : decide (x5_1 < (l0.length : Int)) = false := decide_eq_false c3
        clear c3
        obtain rfl := Option.some.inj H
        go_wp2
        go_ret
        exact ⟨by first | rfl | (simp [errW_none, errW_some] <;> rfl) | (simp [*, errW_none, errW_some] <;> rfl), by repeat (first | (with_reducible first | exact HB.out | apply below_alloc | apply pw_below_drewN | apply below_drew1) | exact HB.out)⟩
end Go.Proofs.Ytjcpkplneflleaa.Q
