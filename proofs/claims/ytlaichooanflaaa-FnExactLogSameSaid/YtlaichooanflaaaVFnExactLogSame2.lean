/- Part 2 of what the proof of FnExactLogSame uses: plain functions with the answers of the Go functions, the proofs that the calls come to them, and plain lemmas. -/
import Derived.Deep.Slices
import Derived.Deep.Fields
import Derived.ChangeSame
import Derived.OpenShut
import Derived.ShutString
import Derived.SizedLaws
import Derived.Carry
import Derived.Lib.Strings
import Derived.Test.YtlaichooanflaaaVFnExactLogSame0
import Derived.Test.YtlaichooanflaaaVFnExactLogSame1
namespace Go.Proofs.Ytlaichooanflaaa.Q
open Go.RowKit Go.Proofs.YtlaichooanflaaaW.PrintWords Go.Proofs.YtlaichooanflaaaW.PrintLast Go.Proofs.YtlaichooanflaaaW.PrintMore
attribute [local go_sem] Go.Proofs.Ytlaichooanflaaa.Mem.str_leq Go.Proofs.Ytlaichooanflaaa.Mem.str_gtr Go.Proofs.Ytlaichooanflaaa.Mem.str_geq max2_int min2_int max_two min_two max_three min_three max_four min_four   -- for this text's walks alone
set_option linter.unusedVariables false
set_option linter.unusedSimpArgs false
def laws_FnExactLogSame.f (k : Nat) (a0_0 : Int) (a0_1 : Int) (l0_2 : List (S147)) (l0_3 : List (S91)) (a1_0 : Int) (a1_1 : Int) (l1_2 : List (S147)) (l1_3 : List (S91)) : Option (Bool) := (laws_szLog.f k a0_0 a0_1 l0_2 l0_3 1048576).bind fun t578 => (if t578 < 0 then (some true) else ((laws_szLog.f k a1_0 a1_1 l1_2 l1_3 t578).bind fun t579 => (if t579 < 0 then (some true) else ((laws_toLog.f k a0_0 a0_1 l0_2 l0_3).bind fun bt580 => ((laws_toLog.f k a1_0 a1_1 l1_2 l1_3).bind fun bt588 => ((spec_LogSame.f k bt580.1 bt580.2.1 bt580.2.2.1 bt580.2.2.2 bt588.1 bt588.2.1 bt588.2.2.1 bt588.2.2.2).bind fun t596 => ((laws_toLog.f k a0_0 a0_1 l0_2 l0_3).bind fun bt597 => ((laws_toLog.f k a1_0 a1_1 l1_2 l1_3).bind fun bt606 => ((impl_LogSame.f k bt597.1 bt597.2.1 bt597.2.2.1 bt597.2.2.2 bt606.1 bt606.2.1 bt606.2.2.1 bt606.2.2.2).bind fun t615 => (if (t615 != t596) = true then (none) else ((laws_toLog.f k a0_0 a0_1 l0_2 l0_3).bind fun bt616 => ((laws_eqLog.f k bt597.1 bt597.2.1 bt597.2.2.1 bt597.2.2.2 bt616.1 bt616.2.1 bt616.2.2.1 bt616.2.2.2).bind fun t624 => (if t624 = true then ((laws_toLog.f k a1_0 a1_1 l1_2 l1_3).bind fun bt625 => ((laws_eqLog.f k bt606.1 bt606.2.1 bt606.2.2.1 bt606.2.2.2 bt625.1 bt625.2.1 bt625.2.2.1 bt625.2.2.2).bind fun t633 => (if t633 = true then (some true) else (none)))) else (none))))))))))))))
set_option maxHeartbeats 8000000 in
set_option maxRecDepth 100000 in
theorem laws_FnExactLogSame.calls (k : Nat) (a0_0 : Int) (a0_1 : Int) (A0_2 : Option Addr) (c0_2 : Nat) (l0_2 : List (S147)) (A0_3 : Option Addr) (c0_3 : Nat) (l0_3 : List (S91)) (a1_0 : Int) (a1_1 : Int) (A1_2 : Option Addr) (c1_2 : Nat) (l1_2 : List (S147)) (A1_3 : Option Addr) (c1_3 : Nat) (l1_3 : List (S91)) (r : Bool) (w : World) (hr0_2 : Kd.C k147 w A0_2 l0_2.length l0_2) (hc0_2 : l0_2.length ≤ c0_2) (hr0_3 : Kd.C k91 w A0_3 l0_3.length l0_3) (hc0_3 : l0_3.length ≤ c0_3) (hr1_2 : Kd.C k147 w A1_2 l1_2.length l1_2) (hc1_2 : l1_2.length ≤ c1_2) (hr1_3 : Kd.C k91 w A1_3 l1_3.length l1_3) (hc1_3 : l1_3.length ≤ c1_3) (h : laws_FnExactLogSame.f k a0_0 a0_1 l0_2 l0_3 a1_0 a1_1 l1_2 l1_3 = some r) :
    Calls Try.prog 5 #[.agg #[.int .i64 a0_0, .int .i64 a0_1, .slice A0_2 l0_2.length c0_2, .slice A0_3 l0_3.length c0_3], .agg #[.int .i64 a1_0, .int .i64 a1_1, .slice A1_2 l1_2.length c1_2, .slice A1_3 l1_3.length c1_3]] w fun e w' => e = .returned (.bool r) ∧ Below w.heap.size w w' := by
  have hu45 := Try.underlying45
  have hu50 := Try.underlying50
  have HR0_2 := Aside0.mk hr0_2
  have HC0_2 := Aside0.mk hc0_2
  clear hr0_2 hc0_2
  have HR0_3 := Aside0.mk hr0_3
  have HC0_3 := Aside0.mk hc0_3
  clear hr0_3 hc0_3
  have HR1_2 := Aside0.mk hr1_2
  have HC1_2 := Aside0.mk hc1_2
  clear hr1_2 hc1_2
  have HR1_3 := Aside0.mk hr1_3
  have HC1_3 := Aside0.mk hc1_3
  clear hr1_3 hc1_3
  have HB := Aside0.mk (Below.refl w.heap.size w)
  have H : ((laws_szLog.f k a0_0 a0_1 l0_2 l0_3 1048576).bind fun t578 => (if t578 < 0 then (some true) else ((laws_szLog.f k a1_0 a1_1 l1_2 l1_3 t578).bind fun t579 => (if t579 < 0 then (some true) else ((laws_toLog.f k a0_0 a0_1 l0_2 l0_3).bind fun bt580 => ((laws_toLog.f k a1_0 a1_1 l1_2 l1_3).bind fun bt588 => ((spec_LogSame.f k bt580.1 bt580.2.1 bt580.2.2.1 bt580.2.2.2 bt588.1 bt588.2.1 bt588.2.2.1 bt588.2.2.2).bind fun t596 => ((laws_toLog.f k a0_0 a0_1 l0_2 l0_3).bind fun bt597 => ((laws_toLog.f k a1_0 a1_1 l1_2 l1_3).bind fun bt606 => ((impl_LogSame.f k bt597.1 bt597.2.1 bt597.2.2.1 bt597.2.2.2 bt606.1 bt606.2.1 bt606.2.2.1 bt606.2.2.2).bind fun t615 => (if (t615 != t596) = true then (none) else ((laws_toLog.f k a0_0 a0_1 l0_2 l0_3).bind fun bt616 => ((laws_eqLog.f k bt597.1 bt597.2.1 bt597.2.2.1 bt597.2.2.2 bt616.1 bt616.2.1 bt616.2.2.1 bt616.2.2.2).bind fun t624 => (if t624 = true then ((laws_toLog.f k a1_0 a1_1 l1_2 l1_3).bind fun bt625 => ((laws_eqLog.f k bt606.1 bt606.2.1 bt606.2.2.1 bt606.2.2.2 bt625.1 bt625.2.1 bt625.2.2.1 bt625.2.2.2).bind fun t633 => (if t633 = true then (some true) else (none)))) else (none))))))))))))))) = some r := h
  clear h
  replace H := Option.bind_eq_some_iff.mp H
  obtain ⟨t578, A30, H⟩ := H
  replace H : (if t578 < 0 then (some true) else ((laws_szLog.f k a1_0 a1_1 l1_2 l1_3 t578).bind fun t579 => (if t579 < 0 then (some true) else ((laws_toLog.f k a0_0 a0_1 l0_2 l0_3).bind fun bt580 => ((laws_toLog.f k a1_0 a1_1 l1_2 l1_3).bind fun bt588 => ((spec_LogSame.f k bt580.1 bt580.2.1 bt580.2.2.1 bt580.2.2.2 bt588.1 bt588.2.1 bt588.2.2.1 bt588.2.2.2).bind fun t596 => ((laws_toLog.f k a0_0 a0_1 l0_2 l0_3).bind fun bt597 => ((laws_toLog.f k a1_0 a1_1 l1_2 l1_3).bind fun bt606 => ((impl_LogSame.f k bt597.1 bt597.2.1 bt597.2.2.1 bt597.2.2.2 bt606.1 bt606.2.1 bt606.2.2.1 bt606.2.2.2).bind fun t615 => (if (t615 != t596) = true then (none) else ((laws_toLog.f k a0_0 a0_1 l0_2 l0_3).bind fun bt616 => ((laws_eqLog.f k bt597.1 bt597.2.1 bt597.2.2.1 bt597.2.2.2 bt616.1 bt616.2.1 bt616.2.2.1 bt616.2.2.2).bind fun t624 => (if t624 = true then ((laws_toLog.f k a1_0 a1_1 l1_2 l1_3).bind fun bt625 => ((laws_eqLog.f k bt606.1 bt606.2.1 bt606.2.2.1 bt606.2.2.2 bt625.1 bt625.2.1 bt625.2.2.1 bt625.2.2.2).bind fun t633 => (if t633 = true then (some true) else (none)))) else (none)))))))))))))) = some r := H
  have A3 := Aside0.mk A30
  clear A30
  by_cases c4 : t578 < 0
  · rw [if_pos c4] at H
    have c4b0 : decide (t578 < 0) = true := decide_eq_true c4
    clear c4
    obtain rfl := Option.some.inj H
    go_enter Try.func5, Try.ntmps5
    go_wp2_with (first | ((with_reducible refine gate_dst (N := 2) rfl ?_); refine box_event ?hg (N := 2) ?hd (cs := #[.int .i64 a0_0, .int .i64 a0_1, .slice A0_2 l0_2.length c0_2, .slice A0_3 l0_3.length c0_3]) (t := 45) ?hr ?_; (case hd => rfl); (case hg => rfl); (case hr => first | (go_simp; done) | (go_simp; rfl)); intro gb576 hg w5 hbox hb; have n0_ := Aside0.mk (below_step (by repeat (first | (with_reducible first | exact HB.out | apply below_alloc | apply pw_below_drewN | apply below_drew1) | exact HB.out)) hb); have n1_ := Aside0.mk (hbox); have n2_ := Aside0.mk ((by rw [hg]; exact (below_size (by repeat (first | (with_reducible first | exact HB.out | apply below_alloc | apply pw_below_drewN | apply below_drew1) | exact HB.out))) : w.heap.size ≤ gb576)); have n3_ := Aside0.mk ((by rw [hg]; exact (below_size (by repeat (first | (with_reducible first | exact HB.out | apply below_alloc | apply pw_below_drewN | apply below_drew1) | exact HB.out))) : w.heap.size ≤ gb576)); clear HB; have HB := n0_; have BK576 := n1_; have GW576 := n2_; have GE576 := n3_; clear n0_ n1_ n2_ n3_; clear hb hbox hg) | ((with_reducible refine gate_dst (N := 3) rfl ?_); refine box_event ?hg (N := 3) ?hd (cs := #[.int .i64 a1_0, .int .i64 a1_1, .slice A1_2 l1_2.length c1_2, .slice A1_3 l1_3.length c1_3]) (t := 45) ?hr ?_; (case hd => rfl); (case hg => rfl); (case hr => first | (go_simp; done) | (go_simp; rfl)); intro gb577 hg w6 hbox hb; have n0_ := Aside0.mk (blk_below (g := gb576) (o := .cells #[.int .i64 a0_0, .int .i64 a0_1, .slice A0_2 l0_2.length c0_2, .slice A0_3 l0_3.length c0_3] 45 (0, 0)) (by (with_reducible repeat (first | refine blk_drewN ?_ _ | refine blk_drew ?_ | refine blk_alloc ?_ _)); exact BK576.out) hb); have n1_ := Aside0.mk (below_step (by repeat (first | (with_reducible first | exact HB.out | apply below_alloc | apply pw_below_drewN | apply below_drew1 | refine below_set ?_ GE576.out) | exact HB.out)) hb); have n2_ := Aside0.mk (hbox); have n3_ := Aside0.mk ((by rw [hg]; exact (below_size (by repeat (first | (with_reducible first | exact HB.out | apply below_alloc | apply pw_below_drewN | apply below_drew1 | refine below_set ?_ GE576.out) | exact HB.out))) : w.heap.size ≤ gb577)); have n4_ := Aside0.mk ((by rw [hg]; exact (below_size (by repeat (first | (with_reducible first | exact HB.out | apply below_alloc | apply pw_below_drewN | apply below_drew1 | refine below_set ?_ GE576.out) | exact HB.out))) : w.heap.size ≤ gb577)); have n5_ := Aside0.mk ((by rw [hg]; exact Nat.ne_of_lt (blk_lt (g := gb576) (o := .cells #[.int .i64 a0_0, .int .i64 a0_1, .slice A0_2 l0_2.length c0_2, .slice A0_3 l0_3.length c0_3] 45 (0, 0)) (by (with_reducible repeat (first | refine blk_drewN ?_ _ | refine blk_drew ?_ | refine blk_alloc ?_ _)); exact BK576.out)) : gb576 ≠ gb577)); have n6_ := Aside0.mk ((by rw [hg]; exact Nat.ne_of_gt (blk_lt (g := gb576) (o := .cells #[.int .i64 a0_0, .int .i64 a0_1, .slice A0_2 l0_2.length c0_2, .slice A0_3 l0_3.length c0_3] 45 (0, 0)) (by (with_reducible repeat (first | refine blk_drewN ?_ _ | refine blk_drew ?_ | refine blk_alloc ?_ _)); exact BK576.out)) : gb577 ≠ gb576)); clear BK576; clear HB; have BK576 := n0_; have HB := n1_; have BK577 := n2_; have GW577 := n3_; have GE577 := n4_; have NB576_577 := n5_; have NB577_576 := n6_; clear n0_ n1_ n2_ n3_ n4_ n5_ n6_; clear hb hbox hg; have hnb7 := NB576_577.out; have hnc7 := NB577_576.out; have hcz8_0 : w6.cell? ⟨gb576, 0, none⟩ = some (.int .i64 a0_0) := (blk_cell BK576.out 0).trans rfl; have hcz8_1 : w6.cell? ⟨gb576, 1, none⟩ = some (.int .i64 a0_1) := (blk_cell BK576.out 1).trans rfl; have hcz8_2 : w6.cell? ⟨gb576, 2, none⟩ = some (.slice A0_2 l0_2.length c0_2) := (blk_cell BK576.out 2).trans rfl; have hcz8_3 : w6.cell? ⟨gb576, 3, none⟩ = some (.slice A0_3 l0_3.length c0_3) := (blk_cell BK576.out 3).trans rfl; have hfz8_0 := blk_frozen BK576.out 0; have hfz8_1 := blk_frozen BK576.out 1; have hfz8_2 := blk_frozen BK576.out 2; have hfz8_3 := blk_frozen BK576.out 3) | ((with_reducible refine gate_callee (f := 41) rfl ?_); refine goesL_ (some 12) rfl rfl Try.func41 (by kernel_rfl) rfl #[.agg #[.int .i64 a0_0, .int .i64 a0_1, .slice A0_2 l0_2.length c0_2, .slice A0_3 l0_3.length c0_3], .int .i64 1048576] rfl (by (try simp only [List.map_toArray, List.map_cons, List.map_nil]); first | done | rfl | (simp only [List.length_drop, List.length_take]; rfl)) ?_; (with_reducible refine (laws_szLog.calls k a0_0 a0_1 _ _ l0_2 _ _ l0_3 1048576 t578 _ ?side1 ?side2 ?side3 ?side4 A3.out).mono ?_); (case side1 => repeat (first | exact (Kd.C_below HR0_2.out HB.out) | (with_reducible refine Kd.C_alloc ?_ _) | (with_reducible refine Kd.C_drewN ?_ _) | (with_reducible refine Kd.C_drew ?_))); (case side2 => exact HC0_2.out); (case side3 => repeat (first | exact (Kd.C_below HR0_3.out HB.out) | (with_reducible refine Kd.C_alloc ?_ _) | (with_reducible refine Kd.C_drewN ?_ _) | (with_reducible refine Kd.C_drew ?_))); (case side4 => exact HC0_3.out); rintro e w9 ⟨rfl, hb⟩; refine ⟨_, rfl, ?_⟩; have n0_ := Aside0.mk (blk_below (g := gb576) (o := .cells #[.int .i64 a0_0, .int .i64 a0_1, .slice A0_2 l0_2.length c0_2, .slice A0_3 l0_3.length c0_3] 45 (0, 0)) (by (with_reducible repeat (first | refine blk_drewN ?_ _ | refine blk_drew ?_ | refine blk_alloc ?_ _)); exact BK576.out) hb); have n1_ := Aside0.mk (blk_below (g := gb577) (o := .cells #[.int .i64 a1_0, .int .i64 a1_1, .slice A1_2 l1_2.length c1_2, .slice A1_3 l1_3.length c1_3] 45 (0, 0)) (by (with_reducible repeat (first | refine blk_drewN ?_ _ | refine blk_drew ?_ | refine blk_alloc ?_ _)); exact BK577.out) hb); have n2_ := Aside0.mk (below_step (by repeat (first | (with_reducible first | exact HB.out | apply below_alloc | apply pw_below_drewN | apply below_drew1 | refine below_set ?_ GE576.out | refine below_set ?_ GE577.out) | exact HB.out)) hb); clear BK576; clear BK577; clear HB; have BK576 := n0_; have BK577 := n1_; have HB := n2_; clear n0_ n1_ n2_; (try clear hb); (try clear hb2); (try clear hk); (try clear hi)))
    go_ret
    exact ⟨by first | rfl | (simp [errW_none, errW_some] <;> rfl) | (simp [*, errW_none, errW_some] <;> rfl), by repeat (first | (with_reducible first | exact HB.out | apply below_alloc | apply pw_below_drewN | apply below_drew1 | refine below_set ?_ GE576.out | refine below_set ?_ GE577.out) | exact HB.out)⟩
  · rw [if_neg c4] at H
    have c4b0 : decide (t578 < 0) = false := decide_eq_false c4
    clear c4
    replace H := Option.bind_eq_some_iff.mp H
    obtain ⟨t579, A100, H⟩ := H
    replace H : (if t579 < 0 then (some true) else ((laws_toLog.f k a0_0 a0_1 l0_2 l0_3).bind fun bt580 => ((laws_toLog.f k a1_0 a1_1 l1_2 l1_3).bind fun bt588 => ((spec_LogSame.f k bt580.1 bt580.2.1 bt580.2.2.1 bt580.2.2.2 bt588.1 bt588.2.1 bt588.2.2.1 bt588.2.2.2).bind fun t596 => ((laws_toLog.f k a0_0 a0_1 l0_2 l0_3).bind fun bt597 => ((laws_toLog.f k a1_0 a1_1 l1_2 l1_3).bind fun bt606 => ((impl_LogSame.f k bt597.1 bt597.2.1 bt597.2.2.1 bt597.2.2.2 bt606.1 bt606.2.1 bt606.2.2.1 bt606.2.2.2).bind fun t615 => (if (t615 != t596) = true then (none) else ((laws_toLog.f k a0_0 a0_1 l0_2 l0_3).bind fun bt616 => ((laws_eqLog.f k bt597.1 bt597.2.1 bt597.2.2.1 bt597.2.2.2 bt616.1 bt616.2.1 bt616.2.2.1 bt616.2.2.2).bind fun t624 => (if t624 = true then ((laws_toLog.f k a1_0 a1_1 l1_2 l1_3).bind fun bt625 => ((laws_eqLog.f k bt606.1 bt606.2.1 bt606.2.2.1 bt606.2.2.2 bt625.1 bt625.2.1 bt625.2.2.1 bt625.2.2.2).bind fun t633 => (if t633 = true then (some true) else (none)))) else (none)))))))))))) = some r := H
    have A10 := Aside0.mk A100
    clear A100
    by_cases c11 : t579 < 0
    · rw [if_pos c11] at H
      have c11b0 : decide (t579 < 0) = true := decide_eq_true c11
      clear c11
      obtain rfl := Option.some.inj H
      go_enter Try.func5, Try.ntmps5
      go_wp2_with (first | ((with_reducible refine gate_dst (N := 2) rfl ?_); refine box_event ?hg (N := 2) ?hd (cs := #[.int .i64 a0_0, .int .i64 a0_1, .slice A0_2 l0_2.length c0_2, .slice A0_3 l0_3.length c0_3]) (t := 45) ?hr ?_; (case hd => rfl); (case hg => rfl); (case hr => first | (go_simp; done) | (go_simp; rfl)); intro gb576 hg w12 hbox hb; have n0_ := Aside0.mk (below_step (by repeat (first | (with_reducible first | exact HB.out | apply below_alloc | apply pw_below_drewN | apply below_drew1) | exact HB.out)) hb); have n1_ := Aside0.mk (hbox); have n2_ := Aside0.mk ((by rw [hg]; exact (below_size (by repeat (first | (with_reducible first | exact HB.out | apply below_alloc | apply pw_below_drewN | apply below_drew1) | exact HB.out))) : w.heap.size ≤ gb576)); have n3_ := Aside0.mk ((by rw [hg]; exact (below_size (by repeat (first | (with_reducible first | exact HB.out | apply below_alloc | apply pw_below_drewN | apply below_drew1) | exact HB.out))) : w.heap.size ≤ gb576)); clear HB; have HB := n0_; have BK576 := n1_; have GW576 := n2_; have GE576 := n3_; clear n0_ n1_ n2_ n3_; clear hb hbox hg) | ((with_reducible refine gate_dst (N := 3) rfl ?_); refine box_event ?hg (N := 3) ?hd (cs := #[.int .i64 a1_0, .int .i64 a1_1, .slice A1_2 l1_2.length c1_2, .slice A1_3 l1_3.length c1_3]) (t := 45) ?hr ?_; (case hd => rfl); (case hg => rfl); (case hr => first | (go_simp; done) | (go_simp; rfl)); intro gb577 hg w13 hbox hb; have n0_ := Aside0.mk (blk_below (g := gb576) (o := .cells #[.int .i64 a0_0, .int .i64 a0_1, .slice A0_2 l0_2.length c0_2, .slice A0_3 l0_3.length c0_3] 45 (0, 0)) (by (with_reducible repeat (first | refine blk_drewN ?_ _ | refine blk_drew ?_ | refine blk_alloc ?_ _)); exact BK576.out) hb); have n1_ := Aside0.mk (below_step (by repeat (first | (with_reducible first | exact HB.out | apply below_alloc | apply pw_below_drewN | apply below_drew1 | refine below_set ?_ GE576.out) | exact HB.out)) hb); have n2_ := Aside0.mk (hbox); have n3_ := Aside0.mk ((by rw [hg]; exact (below_size (by repeat (first | (with_reducible first | exact HB.out | apply below_alloc | apply pw_below_drewN | apply below_drew1 | refine below_set ?_ GE576.out) | exact HB.out))) : w.heap.size ≤ gb577)); have n4_ := Aside0.mk ((by rw [hg]; exact (below_size (by repeat (first | (with_reducible first | exact HB.out | apply below_alloc | apply pw_below_drewN | apply below_drew1 | refine below_set ?_ GE576.out) | exact HB.out))) : w.heap.size ≤ gb577)); have n5_ := Aside0.mk ((by rw [hg]; exact Nat.ne_of_lt (blk_lt (g := gb576) (o := .cells #[.int .i64 a0_0, .int .i64 a0_1, .slice A0_2 l0_2.length c0_2, .slice A0_3 l0_3.length c0_3] 45 (0, 0)) (by (with_reducible repeat (first | refine blk_drewN ?_ _ | refine blk_drew ?_ | refine blk_alloc ?_ _)); exact BK576.out)) : gb576 ≠ gb577)); have n6_ := Aside0.mk ((by rw [hg]; exact Nat.ne_of_gt (blk_lt (g := gb576) (o := .cells #[.int .i64 a0_0, .int .i64 a0_1, .slice A0_2 l0_2.length c0_2, .slice A0_3 l0_3.length c0_3] 45 (0, 0)) (by (with_reducible repeat (first | refine blk_drewN ?_ _ | refine blk_drew ?_ | refine blk_alloc ?_ _)); exact BK576.out)) : gb577 ≠ gb576)); clear BK576; clear HB; have BK576 := n0_; have HB := n1_; have BK577 := n2_; have GW577 := n3_; have GE577 := n4_; have NB576_577 := n5_; have NB577_576 := n6_; clear n0_ n1_ n2_ n3_ n4_ n5_ n6_; clear hb hbox hg; have hnb14 := NB576_577.out; have hnc14 := NB577_576.out; have hcz15_0 : w13.cell? ⟨gb576, 0, none⟩ = some (.int .i64 a0_0) := (blk_cell BK576.out 0).trans rfl; have hcz15_1 : w13.cell? ⟨gb576, 1, none⟩ = some (.int .i64 a0_1) := (blk_cell BK576.out 1).trans rfl; have hcz15_2 : w13.cell? ⟨gb576, 2, none⟩ = some (.slice A0_2 l0_2.length c0_2) := (blk_cell BK576.out 2).trans rfl; have hcz15_3 : w13.cell? ⟨gb576, 3, none⟩ = some (.slice A0_3 l0_3.length c0_3) := (blk_cell BK576.out 3).trans rfl; have hfz15_0 := blk_frozen BK576.out 0; have hfz15_1 := blk_frozen BK576.out 1; have hfz15_2 := blk_frozen BK576.out 2; have hfz15_3 := blk_frozen BK576.out 3) | ((with_reducible refine gate_callee (f := 41) rfl ?_); refine goesL_ (some 12) rfl rfl Try.func41 (by kernel_rfl) rfl #[.agg #[.int .i64 a0_0, .int .i64 a0_1, .slice A0_2 l0_2.length c0_2, .slice A0_3 l0_3.length c0_3], .int .i64 1048576] rfl (by (try simp only [List.map_toArray, List.map_cons, List.map_nil]); first | done | rfl | (simp only [List.length_drop, List.length_take]; rfl)) ?_; (with_reducible refine (laws_szLog.calls k a0_0 a0_1 _ _ l0_2 _ _ l0_3 1048576 t578 _ ?side1 ?side2 ?side3 ?side4 A3.out).mono ?_); (case side1 => repeat (first | exact (Kd.C_below HR0_2.out HB.out) | (with_reducible refine Kd.C_alloc ?_ _) | (with_reducible refine Kd.C_drewN ?_ _) | (with_reducible refine Kd.C_drew ?_))); (case side2 => exact HC0_2.out); (case side3 => repeat (first | exact (Kd.C_below HR0_3.out HB.out) | (with_reducible refine Kd.C_alloc ?_ _) | (with_reducible refine Kd.C_drewN ?_ _) | (with_reducible refine Kd.C_drew ?_))); (case side4 => exact HC0_3.out); rintro e w16 ⟨rfl, hb⟩; refine ⟨_, rfl, ?_⟩; have n0_ := Aside0.mk (blk_below (g := gb576) (o := .cells #[.int .i64 a0_0, .int .i64 a0_1, .slice A0_2 l0_2.length c0_2, .slice A0_3 l0_3.length c0_3] 45 (0, 0)) (by (with_reducible repeat (first | refine blk_drewN ?_ _ | refine blk_drew ?_ | refine blk_alloc ?_ _)); exact BK576.out) hb); have n1_ := Aside0.mk (blk_below (g := gb577) (o := .cells #[.int .i64 a1_0, .int .i64 a1_1, .slice A1_2 l1_2.length c1_2, .slice A1_3 l1_3.length c1_3] 45 (0, 0)) (by (with_reducible repeat (first | refine blk_drewN ?_ _ | refine blk_drew ?_ | refine blk_alloc ?_ _)); exact BK577.out) hb); have n2_ := Aside0.mk (below_step (by repeat (first | (with_reducible first | exact HB.out | apply below_alloc | apply pw_below_drewN | apply below_drew1 | refine below_set ?_ GE576.out | refine below_set ?_ GE577.out) | exact HB.out)) hb); clear BK576; clear BK577; clear HB; have BK576 := n0_; have BK577 := n1_; have HB := n2_; clear n0_ n1_ n2_; (try clear hb); (try clear hb2); (try clear hk); (try clear hi); have hcz17_0 : w16.cell? ⟨gb577, 0, none⟩ = some (.int .i64 a1_0) := (blk_cell BK577.out 0).trans rfl; have hcz17_1 : w16.cell? ⟨gb577, 1, none⟩ = some (.int .i64 a1_1) := (blk_cell BK577.out 1).trans rfl; have hcz17_2 : w16.cell? ⟨gb577, 2, none⟩ = some (.slice A1_2 l1_2.length c1_2) := (blk_cell BK577.out 2).trans rfl; have hcz17_3 : w16.cell? ⟨gb577, 3, none⟩ = some (.slice A1_3 l1_3.length c1_3) := (blk_cell BK577.out 3).trans rfl; have hfz17_0 := blk_frozen BK577.out 0; have hfz17_1 := blk_frozen BK577.out 1; have hfz17_2 := blk_frozen BK577.out 2; have hfz17_3 := blk_frozen BK577.out 3) | ((with_reducible refine gate_callee (f := 41) rfl ?_); refine goesL_ (some 17) rfl rfl Try.func41 (by kernel_rfl) rfl #[.agg #[.int .i64 a1_0, .int .i64 a1_1, .slice A1_2 l1_2.length c1_2, .slice A1_3 l1_3.length c1_3], .int .i64 t578] rfl (by (try simp only [List.map_toArray, List.map_cons, List.map_nil]); first | done | rfl | (simp only [List.length_drop, List.length_take]; rfl)) ?_; (with_reducible refine (laws_szLog.calls k a1_0 a1_1 _ _ l1_2 _ _ l1_3 t578 t579 _ ?side1 ?side2 ?side3 ?side4 A10.out).mono ?_); (case side1 => repeat (first | exact (Kd.C_below HR1_2.out HB.out) | (with_reducible refine Kd.C_alloc ?_ _) | (with_reducible refine Kd.C_drewN ?_ _) | (with_reducible refine Kd.C_drew ?_))); (case side2 => exact HC1_2.out); (case side3 => repeat (first | exact (Kd.C_below HR1_3.out HB.out) | (with_reducible refine Kd.C_alloc ?_ _) | (with_reducible refine Kd.C_drewN ?_ _) | (with_reducible refine Kd.C_drew ?_))); (case side4 => exact HC1_3.out); rintro e w18 ⟨rfl, hb⟩; refine ⟨_, rfl, ?_⟩; have n0_ := Aside0.mk (blk_below (g := gb576) (o := .cells #[.int .i64 a0_0, .int .i64 a0_1, .slice A0_2 l0_2.length c0_2, .slice A0_3 l0_3.length c0_3] 45 (0, 0)) (by (with_reducible repeat (first | refine blk_drewN ?_ _ | refine blk_drew ?_ | refine blk_alloc ?_ _)); exact BK576.out) hb); have n1_ := Aside0.mk (blk_below (g := gb577) (o := .cells #[.int .i64 a1_0, .int .i64 a1_1, .slice A1_2 l1_2.length c1_2, .slice A1_3 l1_3.length c1_3] 45 (0, 0)) (by (with_reducible repeat (first | refine blk_drewN ?_ _ | refine blk_drew ?_ | refine blk_alloc ?_ _)); exact BK577.out) hb); have n2_ := Aside0.mk (below_step (by repeat (first | (with_reducible first | exact HB.out | apply below_alloc | apply pw_below_drewN | apply below_drew1 | refine below_set ?_ GE576.out | refine below_set ?_ GE577.out) | exact HB.out)) hb); clear BK576; clear BK577; clear HB; have BK576 := n0_; have BK577 := n1_; have HB := n2_; clear n0_ n1_ n2_; (try clear hb); (try clear hb2); (try clear hk); (try clear hi)))
      go_ret
      exact ⟨by first | rfl | (simp [errW_none, errW_some] <;> rfl) | (simp [*, errW_none, errW_some] <;> rfl), by repeat (first | (with_reducible first | exact HB.out | apply below_alloc | apply pw_below_drewN | apply below_drew1 | refine below_set ?_ GE576.out | refine below_set ?_ GE577.out) | exact HB.out)⟩
    · rw [if_neg c11] at H
      have c11b0 : decide (t579 < 0) = false := decide_eq_false c11
      clear c11
      replace H := Option.bind_eq_some_iff.mp H
      obtain ⟨⟨t580, t581, t582, t585⟩, A190, H⟩ := H
      replace H : ((laws_toLog.f k a1_0 a1_1 l1_2 l1_3).bind fun bt588 => ((spec_LogSame.f k t580 t581 t582 t585 bt588.1 bt588.2.1 bt588.2.2.1 bt588.2.2.2).bind fun t596 => ((laws_toLog.f k a0_0 a0_1 l0_2 l0_3).bind fun bt597 => ((laws_toLog.f k a1_0 a1_1 l1_2 l1_3).bind fun bt606 => ((impl_LogSame.f k bt597.1 bt597.2.1 bt597.2.2.1 bt597.2.2.2 bt606.1 bt606.2.1 bt606.2.2.1 bt606.2.2.2).bind fun t615 => (if (t615 != t596) = true then (none) else ((laws_toLog.f k a0_0 a0_1 l0_2 l0_3).bind fun bt616 => ((laws_eqLog.f k bt597.1 bt597.2.1 bt597.2.2.1 bt597.2.2.2 bt616.1 bt616.2.1 bt616.2.2.1 bt616.2.2.2).bind fun t624 => (if t624 = true then ((laws_toLog.f k a1_0 a1_1 l1_2 l1_3).bind fun bt625 => ((laws_eqLog.f k bt606.1 bt606.2.1 bt606.2.2.1 bt606.2.2.2 bt625.1 bt625.2.1 bt625.2.2.1 bt625.2.2.2).bind fun t633 => (if t633 = true then (some true) else (none)))) else (none)))))))))) = some r := H
      have A19 := Aside0.mk A190
      clear A190
      replace H := Option.bind_eq_some_iff.mp H
      obtain ⟨⟨t588, t589, t590, t593⟩, A200, H⟩ := H
      replace H : ((spec_LogSame.f k t580 t581 t582 t585 t588 t589 t590 t593).bind fun t596 => ((laws_toLog.f k a0_0 a0_1 l0_2 l0_3).bind fun bt597 => ((laws_toLog.f k a1_0 a1_1 l1_2 l1_3).bind fun bt606 => ((impl_LogSame.f k bt597.1 bt597.2.1 bt597.2.2.1 bt597.2.2.2 bt606.1 bt606.2.1 bt606.2.2.1 bt606.2.2.2).bind fun t615 => (if (t615 != t596) = true then (none) else ((laws_toLog.f k a0_0 a0_1 l0_2 l0_3).bind fun bt616 => ((laws_eqLog.f k bt597.1 bt597.2.1 bt597.2.2.1 bt597.2.2.2 bt616.1 bt616.2.1 bt616.2.2.1 bt616.2.2.2).bind fun t624 => (if t624 = true then ((laws_toLog.f k a1_0 a1_1 l1_2 l1_3).bind fun bt625 => ((laws_eqLog.f k bt606.1 bt606.2.1 bt606.2.2.1 bt606.2.2.2 bt625.1 bt625.2.1 bt625.2.2.1 bt625.2.2.2).bind fun t633 => (if t633 = true then (some true) else (none)))) else (none))))))))) = some r := H
      have A20 := Aside0.mk A200
      clear A200
      replace H := Option.bind_eq_some_iff.mp H
      obtain ⟨t596, A210, H⟩ := H
      replace H : ((laws_toLog.f k a0_0 a0_1 l0_2 l0_3).bind fun bt597 => ((laws_toLog.f k a1_0 a1_1 l1_2 l1_3).bind fun bt606 => ((impl_LogSame.f k bt597.1 bt597.2.1 bt597.2.2.1 bt597.2.2.2 bt606.1 bt606.2.1 bt606.2.2.1 bt606.2.2.2).bind fun t615 => (if (t615 != t596) = true then (none) else ((laws_toLog.f k a0_0 a0_1 l0_2 l0_3).bind fun bt616 => ((laws_eqLog.f k bt597.1 bt597.2.1 bt597.2.2.1 bt597.2.2.2 bt616.1 bt616.2.1 bt616.2.2.1 bt616.2.2.2).bind fun t624 => (if t624 = true then ((laws_toLog.f k a1_0 a1_1 l1_2 l1_3).bind fun bt625 => ((laws_eqLog.f k bt606.1 bt606.2.1 bt606.2.2.1 bt606.2.2.2 bt625.1 bt625.2.1 bt625.2.2.1 bt625.2.2.2).bind fun t633 => (if t633 = true then (some true) else (none)))) else (none)))))))) = some r := H
      have A21 := Aside0.mk A210
      clear A210
      replace H := Option.bind_eq_some_iff.mp H
      obtain ⟨⟨t597, t598, t599, t602⟩, A220, H⟩ := H
      replace H : ((laws_toLog.f k a1_0 a1_1 l1_2 l1_3).bind fun bt606 => ((impl_LogSame.f k t597 t598 t599 t602 bt606.1 bt606.2.1 bt606.2.2.1 bt606.2.2.2).bind fun t615 => (if (t615 != t596) = true then (none) else ((laws_toLog.f k a0_0 a0_1 l0_2 l0_3).bind fun bt616 => ((laws_eqLog.f k t597 t598 t599 t602 bt616.1 bt616.2.1 bt616.2.2.1 bt616.2.2.2).bind fun t624 => (if t624 = true then ((laws_toLog.f k a1_0 a1_1 l1_2 l1_3).bind fun bt625 => ((laws_eqLog.f k bt606.1 bt606.2.1 bt606.2.2.1 bt606.2.2.2 bt625.1 bt625.2.1 bt625.2.2.1 bt625.2.2.2).bind fun t633 => (if t633 = true then (some true) else (none)))) else (none))))))) = some r := H
      have A22 := Aside0.mk A220
      clear A220
      replace H := Option.bind_eq_some_iff.mp H
      obtain ⟨⟨t606, t607, t608, t611⟩, A230, H⟩ := H
      replace H : ((impl_LogSame.f k t597 t598 t599 t602 t606 t607 t608 t611).bind fun t615 => (if (t615 != t596) = true then (none) else ((laws_toLog.f k a0_0 a0_1 l0_2 l0_3).bind fun bt616 => ((laws_eqLog.f k t597 t598 t599 t602 bt616.1 bt616.2.1 bt616.2.2.1 bt616.2.2.2).bind fun t624 => (if t624 = true then ((laws_toLog.f k a1_0 a1_1 l1_2 l1_3).bind fun bt625 => ((laws_eqLog.f k t606 t607 t608 t611 bt625.1 bt625.2.1 bt625.2.2.1 bt625.2.2.2).bind fun t633 => (if t633 = true then (some true) else (none)))) else (none)))))) = some r := H
      have A23 := Aside0.mk A230
      clear A230
      replace H := Option.bind_eq_some_iff.mp H
      obtain ⟨t615, A240, H⟩ := H
      replace H : (if (t615 != t596) = true then (none) else ((laws_toLog.f k a0_0 a0_1 l0_2 l0_3).bind fun bt616 => ((laws_eqLog.f k t597 t598 t599 t602 bt616.1 bt616.2.1 bt616.2.2.1 bt616.2.2.2).bind fun t624 => (if t624 = true then ((laws_toLog.f k a1_0 a1_1 l1_2 l1_3).bind fun bt625 => ((laws_eqLog.f k t606 t607 t608 t611 bt625.1 bt625.2.1 bt625.2.2.1 bt625.2.2.2).bind fun t633 => (if t633 = true then (some true) else (none)))) else (none))))) = some r := H
      have A24 := Aside0.mk A240
      clear A240
      by_cases c25 : (t615 != t596) = true
      · rw [if_pos c25] at H
        have c25b0 : (t615 != t596) = true := c25
        (try (have c25b1 : decide (t615 = t596) = false := by simpa using c25))
        (try (have c25b2 : (t615 == t596) = false := by simpa using c25))
        (try (have c25b3 : ¬ (t615 = t596) := by simpa using c25))
        clear c25
        cases H
      · rw [if_neg c25] at H
        have c25b0 : (t615 != t596) = false := by simpa using c25
        (try (have c25b1 : decide (t615 = t596) = true := by simpa using c25))
        (try (have c25b2 : (t615 == t596) = true := by simpa using c25))
        clear c25
        replace H := Option.bind_eq_some_iff.mp H
        obtain ⟨⟨t616, t617, t618, t621⟩, A600, H⟩ := H
        replace H : ((laws_eqLog.f k t597 t598 t599 t602 t616 t617 t618 t621).bind fun t624 => (if t624 = true then ((laws_toLog.f k a1_0 a1_1 l1_2 l1_3).bind fun bt625 => ((laws_eqLog.f k t606 t607 t608 t611 bt625.1 bt625.2.1 bt625.2.2.1 bt625.2.2.2).bind fun t633 => (if t633 = true then (some true) else (none)))) else (none))) = some r := H
        have A60 := Aside0.mk A600
        clear A600
        replace H := Option.bind_eq_some_iff.mp H
        obtain ⟨t624, A610, H⟩ := H
        replace H : (if t624 = true then ((laws_toLog.f k a1_0 a1_1 l1_2 l1_3).bind fun bt625 => ((laws_eqLog.f k t606 t607 t608 t611 bt625.1 bt625.2.1 bt625.2.2.1 bt625.2.2.2).bind fun t633 => (if t633 = true then (some true) else (none)))) else (none)) = some r := H
        have A61 := Aside0.mk A610
        clear A610
        by_cases c62 : t624 = true
        · subst c62
          have H1 : ((laws_toLog.f k a1_0 a1_1 l1_2 l1_3).bind fun bt625 => ((laws_eqLog.f k t606 t607 t608 t611 bt625.1 bt625.2.1 bt625.2.2.1 bt625.2.2.2).bind fun t633 => (if t633 = true then (some true) else (none)))) = some r := by rw [if_pos rfl] at H; exact H
          clear H
          have H := H1
          clear H1
          replace H := Option.bind_eq_some_iff.mp H
          obtain ⟨⟨t625, t626, t627, t630⟩, A630, H⟩ := H
          replace H : ((laws_eqLog.f k t606 t607 t608 t611 t625 t626 t627 t630).bind fun t633 => (if t633 = true then (some true) else (none))) = some r := H
          have A63 := Aside0.mk A630
          clear A630
          replace H := Option.bind_eq_some_iff.mp H
          obtain ⟨t633, A640, H⟩ := H
          replace H : (if t633 = true then (some true) else (none)) = some r := H
          have A64 := Aside0.mk A640
          clear A640
          by_cases c65 : t633 = true
          · subst c65
            have H1 : (some true) = some r := by rw [if_pos rfl] at H; exact H
            clear H
            have H := H1
            clear H1
            obtain rfl := Option.some.inj H
            go_enter Try.func5, Try.ntmps5
            try go_wp2_with (first | ((with_reducible refine gate_dst (N := 2) rfl ?_); refine box_event ?hg (N := 2) ?hd (cs := #[.int .i64 a0_0, .int .i64 a0_1, .slice A0_2 l0_2.length c0_2, .slice A0_3 l0_3.length c0_3]) (t := 45) ?hr ?_; (case hd => rfl); (case hg => rfl); (case hr => first | (go_simp; done) | (go_simp; rfl)); intro gb576 hg w66 hbox hb; have n0_ := Aside0.mk (below_step (by repeat (first | (with_reducible first | exact HB.out | apply below_alloc | apply pw_below_drewN | apply below_drew1) | exact HB.out)) hb); have n1_ := Aside0.mk (hbox); have n2_ := Aside0.mk ((by rw [hg]; exact (below_size (by repeat (first | (with_reducible first | exact HB.out | apply below_alloc | apply pw_below_drewN | apply below_drew1) | exact HB.out))) : w.heap.size ≤ gb576)); have n3_ := Aside0.mk ((by rw [hg]; exact (below_size (by repeat (first | (with_reducible first | exact HB.out | apply below_alloc | apply pw_below_drewN | apply below_drew1) | exact HB.out))) : w.heap.size ≤ gb576)); clear HB; have HB := n0_; have BK576 := n1_; have GW576 := n2_; have GE576 := n3_; clear n0_ n1_ n2_ n3_; clear hb hbox hg) | ((with_reducible refine gate_dst (N := 3) rfl ?_); refine box_event ?hg (N := 3) ?hd (cs := #[.int .i64 a1_0, .int .i64 a1_1, .slice A1_2 l1_2.length c1_2, .slice A1_3 l1_3.length c1_3]) (t := 45) ?hr ?_; (case hd => rfl); (case hg => rfl); (case hr => first | (go_simp; done) | (go_simp; rfl)); intro gb577 hg w67 hbox hb; have n0_ := Aside0.mk (blk_below (g := gb576) (o := .cells #[.int .i64 a0_0, .int .i64 a0_1, .slice A0_2 l0_2.length c0_2, .slice A0_3 l0_3.length c0_3] 45 (0, 0)) (by (with_reducible repeat (first | refine blk_drewN ?_ _ | refine blk_drew ?_ | refine blk_alloc ?_ _)); exact BK576.out) hb); have n1_ := Aside0.mk (below_step (by repeat (first | (with_reducible first | exact HB.out | apply below_alloc | apply pw_below_drewN | apply below_drew1 | refine below_set ?_ GE576.out) | exact HB.out)) hb); have n2_ := Aside0.mk (hbox); have n3_ := Aside0.mk ((by rw [hg]; exact (below_size (by repeat (first | (with_reducible first | exact HB.out | apply below_alloc | apply pw_below_drewN | apply below_drew1 | refine below_set ?_ GE576.out) | exact HB.out))) : w.heap.size ≤ gb577)); have n4_ := Aside0.mk ((by rw [hg]; exact (below_size (by repeat (first | (with_reducible first | exact HB.out | apply below_alloc | apply pw_below_drewN | apply below_drew1 | refine below_set ?_ GE576.out) | exact HB.out))) : w.heap.size ≤ gb577)); have n5_ := Aside0.mk ((by rw [hg]; exact Nat.ne_of_lt (blk_lt (g := gb576) (o := .cells #[.int .i64 a0_0, .int .i64 a0_1, .slice A0_2 l0_2.length c0_2, .slice A0_3 l0_3.length c0_3] 45 (0, 0)) (by (with_reducible repeat (first | refine blk_drewN ?_ _ | refine blk_drew ?_ | refine blk_alloc ?_ _)); exact BK576.out)) : gb576 ≠ gb577)); have n6_ := Aside0.mk ((by rw [hg]; exact Nat.ne_of_gt (blk_lt (g := gb576) (o := .cells #[.int .i64 a0_0, .int .i64 a0_1, .slice A0_2 l0_2.length c0_2, .slice A0_3 l0_3.length c0_3] 45 (0, 0)) (by (with_reducible repeat (first | refine blk_drewN ?_ _ | refine blk_drew ?_ | refine blk_alloc ?_ _)); exact BK576.out)) : gb577 ≠ gb576)); clear BK576; clear HB; have BK576 := n0_; have HB := n1_; have BK577 := n2_; have GW577 := n3_; have GE577 := n4_; have NB576_577 := n5_; have NB577_576 := n6_; clear n0_ n1_ n2_ n3_ n4_ n5_ n6_; clear hb hbox hg; have hnb68 := NB576_577.out; have hnc68 := NB577_576.out; have hcz69_0 : w67.cell? ⟨gb576, 0, none⟩ = some (.int .i64 a0_0) := (blk_cell BK576.out 0).trans rfl; have hcz69_1 : w67.cell? ⟨gb576, 1, none⟩ = some (.int .i64 a0_1) := (blk_cell BK576.out 1).trans rfl; have hcz69_2 : w67.cell? ⟨gb576, 2, none⟩ = some (.slice A0_2 l0_2.length c0_2) := (blk_cell BK576.out 2).trans rfl; have hcz69_3 : w67.cell? ⟨gb576, 3, none⟩ = some (.slice A0_3 l0_3.length c0_3) := (blk_cell BK576.out 3).trans rfl; have hfz69_0 := blk_frozen BK576.out 0; have hfz69_1 := blk_frozen BK576.out 1; have hfz69_2 := blk_frozen BK576.out 2; have hfz69_3 := blk_frozen BK576.out 3) | ((with_reducible refine gate_callee (f := 41) rfl ?_); refine goesL_ (some 12) rfl rfl Try.func41 (by kernel_rfl) rfl #[.agg #[.int .i64 a0_0, .int .i64 a0_1, .slice A0_2 l0_2.length c0_2, .slice A0_3 l0_3.length c0_3], .int .i64 1048576] rfl (by (try simp only [List.map_toArray, List.map_cons, List.map_nil]); first | done | rfl | (simp only [List.length_drop, List.length_take]; rfl)) ?_; (with_reducible refine (laws_szLog.calls k a0_0 a0_1 _ _ l0_2 _ _ l0_3 1048576 t578 _ ?side1 ?side2 ?side3 ?side4 A3.out).mono ?_); (case side1 => repeat (first | exact (Kd.C_below HR0_2.out HB.out) | (with_reducible refine Kd.C_alloc ?_ _) | (with_reducible refine Kd.C_drewN ?_ _) | (with_reducible refine Kd.C_drew ?_))); (case side2 => exact HC0_2.out); (case side3 => repeat (first | exact (Kd.C_below HR0_3.out HB.out) | (with_reducible refine Kd.C_alloc ?_ _) | (with_reducible refine Kd.C_drewN ?_ _) | (with_reducible refine Kd.C_drew ?_))); (case side4 => exact HC0_3.out); rintro e w70 ⟨rfl, hb⟩; refine ⟨_, rfl, ?_⟩; have n0_ := Aside0.mk (blk_below (g := gb576) (o := .cells #[.int .i64 a0_0, .int .i64 a0_1, .slice A0_2 l0_2.length c0_2, .slice A0_3 l0_3.length c0_3] 45 (0, 0)) (by (with_reducible repeat (first | refine blk_drewN ?_ _ | refine blk_drew ?_ | refine blk_alloc ?_ _)); exact BK576.out) hb); have n1_ := Aside0.mk (blk_below (g := gb577) (o := .cells #[.int .i64 a1_0, .int .i64 a1_1, .slice A1_2 l1_2.length c1_2, .slice A1_3 l1_3.length c1_3] 45 (0, 0)) (by (with_reducible repeat (first | refine blk_drewN ?_ _ | refine blk_drew ?_ | refine blk_alloc ?_ _)); exact BK577.out) hb); have n2_ := Aside0.mk (below_step (by repeat (first | (with_reducible first | exact HB.out | apply below_alloc | apply pw_below_drewN | apply below_drew1 | refine below_set ?_ GE576.out | refine below_set ?_ GE577.out) | exact HB.out)) hb); clear BK576; clear BK577; clear HB; have BK576 := n0_; have BK577 := n1_; have HB := n2_; clear n0_ n1_ n2_; (try clear hb); (try clear hb2); (try clear hk); (try clear hi); have hcz71_0 : w70.cell? ⟨gb577, 0, none⟩ = some (.int .i64 a1_0) := (blk_cell BK577.out 0).trans rfl; have hcz71_1 : w70.cell? ⟨gb577, 1, none⟩ = some (.int .i64 a1_1) := (blk_cell BK577.out 1).trans rfl; have hcz71_2 : w70.cell? ⟨gb577, 2, none⟩ = some (.slice A1_2 l1_2.length c1_2) := (blk_cell BK577.out 2).trans rfl; have hcz71_3 : w70.cell? ⟨gb577, 3, none⟩ = some (.slice A1_3 l1_3.length c1_3) := (blk_cell BK577.out 3).trans rfl; have hfz71_0 := blk_frozen BK577.out 0; have hfz71_1 := blk_frozen BK577.out 1; have hfz71_2 := blk_frozen BK577.out 2; have hfz71_3 := blk_frozen BK577.out 3) | ((with_reducible refine gate_callee (f := 41) rfl ?_); refine goesL_ (some 17) rfl rfl Try.func41 (by kernel_rfl) rfl #[.agg #[.int .i64 a1_0, .int .i64 a1_1, .slice A1_2 l1_2.length c1_2, .slice A1_3 l1_3.length c1_3], .int .i64 t578] rfl (by (try simp only [List.map_toArray, List.map_cons, List.map_nil]); first | done | rfl | (simp only [List.length_drop, List.length_take]; rfl)) ?_; (with_reducible refine (laws_szLog.calls k a1_0 a1_1 _ _ l1_2 _ _ l1_3 t578 t579 _ ?side1 ?side2 ?side3 ?side4 A10.out).mono ?_); (case side1 => repeat (first | exact (Kd.C_below HR1_2.out HB.out) | (with_reducible refine Kd.C_alloc ?_ _) | (with_reducible refine Kd.C_drewN ?_ _) | (with_reducible refine Kd.C_drew ?_))); (case side2 => exact HC1_2.out); (case side3 => repeat (first | exact (Kd.C_below HR1_3.out HB.out) | (with_reducible refine Kd.C_alloc ?_ _) | (with_reducible refine Kd.C_drewN ?_ _) | (with_reducible refine Kd.C_drew ?_))); (case side4 => exact HC1_3.out); rintro e w72 ⟨rfl, hb⟩; refine ⟨_, rfl, ?_⟩; have n0_ := Aside0.mk (blk_below (g := gb576) (o := .cells #[.int .i64 a0_0, .int .i64 a0_1, .slice A0_2 l0_2.length c0_2, .slice A0_3 l0_3.length c0_3] 45 (0, 0)) (by (with_reducible repeat (first | refine blk_drewN ?_ _ | refine blk_drew ?_ | refine blk_alloc ?_ _)); exact BK576.out) hb); have n1_ := Aside0.mk (blk_below (g := gb577) (o := .cells #[.int .i64 a1_0, .int .i64 a1_1, .slice A1_2 l1_2.length c1_2, .slice A1_3 l1_3.length c1_3] 45 (0, 0)) (by (with_reducible repeat (first | refine blk_drewN ?_ _ | refine blk_drew ?_ | refine blk_alloc ?_ _)); exact BK577.out) hb); have n2_ := Aside0.mk (below_step (by repeat (first | (with_reducible first | exact HB.out | apply below_alloc | apply pw_below_drewN | apply below_drew1 | refine below_set ?_ GE576.out | refine below_set ?_ GE577.out) | exact HB.out)) hb); clear BK576; clear BK577; clear HB; have BK576 := n0_; have BK577 := n1_; have HB := n2_; clear n0_ n1_ n2_; (try clear hb); (try clear hb2); (try clear hk); (try clear hi)))
            have n0_ := Aside0.mk (blk_drew BK576.out)
            have n1_ := Aside0.mk (blk_drew BK577.out)
            have n2_ := Aside0.mk (below_drew1 HB.out)
            clear BK576
            clear BK577
            clear HB
            have BK576 := n0_
            have BK577 := n1_
            have HB := n2_
            clear n0_ n1_ n2_
            refine start_ (n := 6) (S := fun w' => w'.cell? ⟨gb576, 0, none⟩ = some (.int .i64 a0_0) ∧ w'.cell? ⟨gb576, 1, none⟩ = some (.int .i64 a0_1) ∧ w'.cell? ⟨gb576, 2, none⟩ = some (.slice A0_2 l0_2.length c0_2) ∧ w'.cell? ⟨gb576, 3, none⟩ = some (.slice A0_3 l0_3.length c0_3) ∧ w'.cell? ⟨gb577, 0, none⟩ = some (.int .i64 a1_0) ∧ w'.cell? ⟨gb577, 1, none⟩ = some (.int .i64 a1_1) ∧ w'.cell? ⟨gb577, 2, none⟩ = some (.slice A1_2 l1_2.length c1_2) ∧ w'.cell? ⟨gb577, 3, none⟩ = some (.slice A1_3 l1_3.length c1_3)) (ds := []) #[false, false, false, false, false, false] (by kernel_rfl) rfl rfl ⟨(blk_cell BK576.out 0).trans rfl, (blk_cell BK576.out 1).trans rfl, (blk_cell BK576.out 2).trans rfl, (blk_cell BK576.out 3).trans rfl, (blk_cell BK577.out 0).trans rfl, (blk_cell BK577.out 1).trans rfl, (blk_cell BK577.out 2).trans rfl, (blk_cell BK577.out 3).trans rfl⟩ (fun hHeld => ?_)
            generalize w72.drew = w73 at BK576 BK577 HB hHeld ⊢
            refine take_ (i := 0) (N := some 20) (v := ?_) (a' := ?_) #[true, false, false, false, false, false] rfl rfl (by kernel_rfl) (fun _ _ _ h => h) (Or.inl ⟨by rfl, ?_⟩) hHeld ?_ ?_
            rotate_left
            · rintro w' ⟨s0, s1, s2, s3, s4, s5, s6, s7⟩
              go_simp
              with_reducible rfl
            rotate_left
            · simp only [Act.put, List.setIfInBounds_toArray, List.set_cons_zero, List.set_cons_succ, i64_w, i32_w]
              rfl
            refine take_ (i := 2) (N := some 22) (v := ?_) (a' := ?_) #[true, false, true, false, false, false] rfl rfl (by kernel_rfl) (fun _ _ _ h => h) (Or.inl ⟨by rfl, ?_⟩) hHeld ?_ ?_
            rotate_left
            · rintro w' ⟨s0, s1, s2, s3, s4, s5, s6, s7⟩
              go_simp
              with_reducible rfl
            rotate_left
            · simp only [Act.put, List.setIfInBounds_toArray, List.set_cons_zero, List.set_cons_succ, i64_w, i32_w]
              rfl
            refine one_ (i := 1) (N := some 21) #[true, true, true, false, false, false] rfl rfl (by kernel_rfl) (by decide) (fun K hK => ?_)
            refine goes_ Try.func43 (by kernel_rfl) rfl #[.agg #[.int .i64 a0_0, .int .i64 a0_1, .slice A0_2 l0_2.length c0_2, .slice A0_3 l0_3.length c0_3]] (by rfl) rfl rfl (by (try simp only [List.map_toArray, List.map_cons, List.map_nil]); first | done | rfl | (simp only [List.length_drop, List.length_take]; rfl)) ?_
            with_reducible refine (laws_toLog.calls k a0_0 a0_1 _ _ l0_2 _ _ l0_3 t580 t581 t582 t585 _ ?side1 ?side2 ?side3 ?side4 A19.out).mono ?_
            (case side1 => repeat (first | exact (Kd.C_below HR0_2.out HB.out) | (with_reducible refine Kd.C_alloc ?_ _) | (with_reducible refine Kd.C_drewN ?_ _) | (with_reducible refine Kd.C_drew ?_)))
            (case side2 => exact HC0_2.out)
            (case side3 => repeat (first | exact (Kd.C_below HR0_3.out HB.out) | (with_reducible refine Kd.C_alloc ?_ _) | (with_reducible refine Kd.C_drewN ?_ _) | (with_reducible refine Kd.C_drew ?_)))
            (case side4 => exact HC0_3.out)
            rintro e w74 ⟨v583, v586, rfl, ho0, ho1, hb⟩
            refine ⟨_, rfl, ?_⟩
            have n0_ := Aside0.mk (Kd.R_lower ho0 (below_size (by repeat (first | (with_reducible first | exact HB.out | apply below_alloc | apply pw_below_drewN | apply below_drew1 | refine below_set ?_ GE576.out | refine below_set ?_ GE577.out) | exact HB.out))))
            have n1_ := Aside0.mk (Kd.R_lower ho1 (below_size (by repeat (first | (with_reducible first | exact HB.out | apply below_alloc | apply pw_below_drewN | apply below_drew1 | refine below_set ?_ GE576.out | refine below_set ?_ GE577.out) | exact HB.out))))
            have n2_ := Aside0.mk (blk_below (g := gb576) (o := .cells #[.int .i64 a0_0, .int .i64 a0_1, .slice A0_2 l0_2.length c0_2, .slice A0_3 l0_3.length c0_3] 45 (0, 0)) (by (with_reducible repeat (first | refine blk_drewN ?_ _ | refine blk_drew ?_ | refine blk_alloc ?_ _)); exact BK576.out) hb)
            have n3_ := Aside0.mk (blk_below (g := gb577) (o := .cells #[.int .i64 a1_0, .int .i64 a1_1, .slice A1_2 l1_2.length c1_2, .slice A1_3 l1_3.length c1_3] 45 (0, 0)) (by (with_reducible repeat (first | refine blk_drewN ?_ _ | refine blk_drew ?_ | refine blk_alloc ?_ _)); exact BK577.out) hb)
            have n4_ := Aside0.mk (below_step (by repeat (first | (with_reducible first | exact HB.out | apply below_alloc | apply pw_below_drewN | apply below_drew1 | refine below_set ?_ GE576.out | refine below_set ?_ GE577.out) | exact HB.out)) hb)
            clear BK576
            clear BK577
            clear HB
            have HO584 := n0_
            have HO587 := n1_
            have BK576 := n2_
            have BK577 := n3_
            have HB := n4_
            clear n0_ n1_ n2_ n3_ n4_
            (try clear hb)
            (try clear hb2)
            (try clear hk)
            (try clear hi)
            (try clear ho0)
            (try clear ho1)
            refine hK.out _ _ ⟨(blk_cell BK576.out 0).trans rfl, (blk_cell BK576.out 1).trans rfl, (blk_cell BK576.out 2).trans rfl, (blk_cell BK576.out 3).trans rfl, (blk_cell BK577.out 0).trans rfl, (blk_cell BK577.out 1).trans rfl, (blk_cell BK577.out 2).trans rfl, (blk_cell BK577.out 3).trans rfl⟩ (fun hHeld => ?_)
            clear hK K
            refine norm_ (a' := ?_) ?_ ?_
            rotate_left
            · show Act.put _ (some 21) _ = _
              simp only [Act.put, List.setIfInBounds_toArray, List.set_cons_zero, List.set_cons_succ, i64_w, i32_w]
              rfl
            refine one_ (i := 3) (N := some 23) #[true, true, true, true, false, false] rfl rfl (by kernel_rfl) (by decide) (fun K hK => ?_)
            refine goes_ Try.func43 (by kernel_rfl) rfl #[.agg #[.int .i64 a1_0, .int .i64 a1_1, .slice A1_2 l1_2.length c1_2, .slice A1_3 l1_3.length c1_3]] (by rfl) rfl rfl (by (try simp only [List.map_toArray, List.map_cons, List.map_nil]); first | done | rfl | (simp only [List.length_drop, List.length_take]; rfl)) ?_
            with_reducible refine (laws_toLog.calls k a1_0 a1_1 _ _ l1_2 _ _ l1_3 t588 t589 t590 t593 _ ?side1 ?side2 ?side3 ?side4 A20.out).mono ?_
            (case side1 => repeat (first | exact (Kd.C_below HR1_2.out HB.out) | (with_reducible refine Kd.C_alloc ?_ _) | (with_reducible refine Kd.C_drewN ?_ _) | (with_reducible refine Kd.C_drew ?_)))
            (case side2 => exact HC1_2.out)
            (case side3 => repeat (first | exact (Kd.C_below HR1_3.out HB.out) | (with_reducible refine Kd.C_alloc ?_ _) | (with_reducible refine Kd.C_drewN ?_ _) | (with_reducible refine Kd.C_drew ?_)))
            (case side4 => exact HC1_3.out)
            rintro e w75 ⟨v591, v594, rfl, ho0, ho1, hb⟩
            refine ⟨_, rfl, ?_⟩
            have n0_ := Aside0.mk (Kd.R_elder' (by (with_reducible repeat (first | apply Kd.R_alloc | apply Kd.R_drewN | apply Kd.R_drew)); exact HO584.out) (Kd.R_base ho0) hb)
            have n1_ := Aside0.mk (Kd.R_elder' (by (with_reducible repeat (first | apply Kd.R_alloc | apply Kd.R_drewN | apply Kd.R_drew)); exact HO587.out) (Kd.R_base ho1) hb)
            have n2_ := Aside0.mk (Kd.R_lower (Kd.R_new' ho0 (Kd.R_lt (by (with_reducible repeat (first | apply Kd.R_alloc | apply Kd.R_drewN | apply Kd.R_drew)); exact HO584.out))) (below_size (by repeat (first | (with_reducible first | exact HB.out | apply below_alloc | apply pw_below_drewN | apply below_drew1 | refine below_set ?_ GE576.out | refine below_set ?_ GE577.out) | exact HB.out))))
            have n3_ := Aside0.mk (Kd.R_lower (Kd.R_new' ho1 (Kd.R_lt (by (with_reducible repeat (first | apply Kd.R_alloc | apply Kd.R_drewN | apply Kd.R_drew)); exact HO587.out))) (below_size (by repeat (first | (with_reducible first | exact HB.out | apply below_alloc | apply pw_below_drewN | apply below_drew1 | refine below_set ?_ GE576.out | refine below_set ?_ GE577.out) | exact HB.out))))
            have n4_ := Aside0.mk (blk_below (g := gb576) (o := .cells #[.int .i64 a0_0, .int .i64 a0_1, .slice A0_2 l0_2.length c0_2, .slice A0_3 l0_3.length c0_3] 45 (0, 0)) (by (with_reducible repeat (first | refine blk_drewN ?_ _ | refine blk_drew ?_ | refine blk_alloc ?_ _)); exact BK576.out) hb)
            have n5_ := Aside0.mk (blk_below (g := gb577) (o := .cells #[.int .i64 a1_0, .int .i64 a1_1, .slice A1_2 l1_2.length c1_2, .slice A1_3 l1_3.length c1_3] 45 (0, 0)) (by (with_reducible repeat (first | refine blk_drewN ?_ _ | refine blk_drew ?_ | refine blk_alloc ?_ _)); exact BK577.out) hb)
            have n6_ := Aside0.mk (below_step (by repeat (first | (with_reducible first | exact HB.out | apply below_alloc | apply pw_below_drewN | apply below_drew1 | refine below_set ?_ GE576.out | refine below_set ?_ GE577.out) | exact HB.out)) hb)
            clear HO584
            clear HO587
            clear BK576
            clear BK577
            clear HB
            have HO584 := n0_
            have HO587 := n1_
            have HO592 := n2_
            have HO595 := n3_
            have BK576 := n4_
            have BK577 := n5_
            have HB := n6_
            clear n0_ n1_ n2_ n3_ n4_ n5_ n6_
            (try clear hb)
            (try clear hb2)
            (try clear hk)
            (try clear hi)
            (try clear ho0)
            (try clear ho1)
            obtain ⟨Ao76, co76, eo76⟩ := Kd.R_slice HO584.out
            (first | subst eo76 | (injection eo76 with f1_ f2_ f3_; have f4_ := f1_.symm; have f5_ := f3_.symm; clear f1_ f2_ f3_; subst f4_; subst f5_))
            obtain ⟨Ao77, co77, eo77⟩ := Kd.R_slice HO587.out
            (first | subst eo77 | (injection eo77 with f1_ f2_ f3_; have f4_ := f1_.symm; have f5_ := f3_.symm; clear f1_ f2_ f3_; subst f4_; subst f5_))
            obtain ⟨Ao78, co78, eo78⟩ := Kd.R_slice HO592.out
            (first | subst eo78 | (injection eo78 with f1_ f2_ f3_; have f4_ := f1_.symm; have f5_ := f3_.symm; clear f1_ f2_ f3_; subst f4_; subst f5_))
            obtain ⟨Ao79, co79, eo79⟩ := Kd.R_slice HO595.out
            (first | subst eo79 | (injection eo79 with f1_ f2_ f3_; have f4_ := f1_.symm; have f5_ := f3_.symm; clear f1_ f2_ f3_; subst f4_; subst f5_))
            refine hK.out _ _ ⟨(blk_cell BK576.out 0).trans rfl, (blk_cell BK576.out 1).trans rfl, (blk_cell BK576.out 2).trans rfl, (blk_cell BK576.out 3).trans rfl, (blk_cell BK577.out 0).trans rfl, (blk_cell BK577.out 1).trans rfl, (blk_cell BK577.out 2).trans rfl, (blk_cell BK577.out 3).trans rfl⟩ (fun hHeld => ?_)
            clear hK K
            refine norm_ (a' := ?_) ?_ ?_
            rotate_left
            · show Act.put _ (some 23) _ = _
              simp only [Act.put, List.setIfInBounds_toArray, List.set_cons_zero, List.set_cons_succ, i64_w, i32_w]
              rfl
            refine one_ (i := 4) (N := some 24) #[true, true, true, true, true, false] rfl rfl (by kernel_rfl) (by decide) (fun K hK => ?_)
            refine goes_ Try.func42 (by kernel_rfl) rfl #[.agg #[.int .i64 t580, .int .i64 t581, .slice Ao76 t582.length co76, .slice Ao77 t585.length co77], .agg #[.int .i64 t588, .int .i64 t589, .slice Ao78 t590.length co78, .slice Ao79 t593.length co79]] (by rfl) rfl rfl (by (try simp only [List.map_toArray, List.map_cons, List.map_nil]); first | done | rfl | (simp only [List.length_drop, List.length_take]; rfl)) ?_
            with_reducible refine (spec_LogSame.calls k t580 t581 _ _ t582 _ _ t585 t588 t589 _ _ t590 _ _ t593 t596 _ ?side1 ?side2 ?side3 ?side4 ?side5 ?side6 ?side7 ?side8 A21.out).mono ?_
            (case side1 => repeat (first | exact (Kd.R_reads' HO584.out).2.2 | (with_reducible refine Kd.C_alloc ?_ _) | (with_reducible refine Kd.C_drewN ?_ _) | (with_reducible refine Kd.C_drew ?_)))
            (case side2 => exact (Kd.R_reads' HO584.out).2.1)
            (case side3 => repeat (first | exact (Kd.R_reads' HO587.out).2.2 | (with_reducible refine Kd.C_alloc ?_ _) | (with_reducible refine Kd.C_drewN ?_ _) | (with_reducible refine Kd.C_drew ?_)))
            (case side4 => exact (Kd.R_reads' HO587.out).2.1)
            (case side5 => repeat (first | exact (Kd.R_reads' HO592.out).2.2 | (with_reducible refine Kd.C_alloc ?_ _) | (with_reducible refine Kd.C_drewN ?_ _) | (with_reducible refine Kd.C_drew ?_)))
            (case side6 => exact (Kd.R_reads' HO592.out).2.1)
            (case side7 => repeat (first | exact (Kd.R_reads' HO595.out).2.2 | (with_reducible refine Kd.C_alloc ?_ _) | (with_reducible refine Kd.C_drewN ?_ _) | (with_reducible refine Kd.C_drew ?_)))
            (case side8 => exact (Kd.R_reads' HO595.out).2.1)
            rintro e w80 ⟨rfl, hb⟩
            refine ⟨_, rfl, ?_⟩
            have n0_ := Aside0.mk (Kd.R_below (by (with_reducible repeat (first | apply Kd.R_alloc | apply Kd.R_drewN | apply Kd.R_drew)); exact HO584.out) hb)
            have n1_ := Aside0.mk (Kd.R_below (by (with_reducible repeat (first | apply Kd.R_alloc | apply Kd.R_drewN | apply Kd.R_drew)); exact HO587.out) hb)
            have n2_ := Aside0.mk (Kd.R_below (by (with_reducible repeat (first | apply Kd.R_alloc | apply Kd.R_drewN | apply Kd.R_drew)); exact HO592.out) hb)
            have n3_ := Aside0.mk (Kd.R_below (by (with_reducible repeat (first | apply Kd.R_alloc | apply Kd.R_drewN | apply Kd.R_drew)); exact HO595.out) hb)
            have n4_ := Aside0.mk (blk_below (g := gb576) (o := .cells #[.int .i64 a0_0, .int .i64 a0_1, .slice A0_2 l0_2.length c0_2, .slice A0_3 l0_3.length c0_3] 45 (0, 0)) (by (with_reducible repeat (first | refine blk_drewN ?_ _ | refine blk_drew ?_ | refine blk_alloc ?_ _)); exact BK576.out) hb)
            have n5_ := Aside0.mk (blk_below (g := gb577) (o := .cells #[.int .i64 a1_0, .int .i64 a1_1, .slice A1_2 l1_2.length c1_2, .slice A1_3 l1_3.length c1_3] 45 (0, 0)) (by (with_reducible repeat (first | refine blk_drewN ?_ _ | refine blk_drew ?_ | refine blk_alloc ?_ _)); exact BK577.out) hb)
            have n6_ := Aside0.mk (below_step (by repeat (first | (with_reducible first | exact HB.out | apply below_alloc | apply pw_below_drewN | apply below_drew1 | refine below_set ?_ GE576.out | refine below_set ?_ GE577.out) | exact HB.out)) hb)
            clear HO584
            clear HO587
            clear HO592
            clear HO595
            clear BK576
            clear BK577
            clear HB
            have HO584 := n0_
            have HO587 := n1_
            have HO592 := n2_
            have HO595 := n3_
            have BK576 := n4_
            have BK577 := n5_
            have HB := n6_
            clear n0_ n1_ n2_ n3_ n4_ n5_ n6_
            (try clear hb)
            (try clear hb2)
            (try clear hk)
            (try clear hi)
            refine hK.out _ _ ⟨(blk_cell BK576.out 0).trans rfl, (blk_cell BK576.out 1).trans rfl, (blk_cell BK576.out 2).trans rfl, (blk_cell BK576.out 3).trans rfl, (blk_cell BK577.out 0).trans rfl, (blk_cell BK577.out 1).trans rfl, (blk_cell BK577.out 2).trans rfl, (blk_cell BK577.out 3).trans rfl⟩ (fun hHeld => ?_)
            clear hK K
            refine norm_ (a' := ?_) ?_ ?_
            rotate_left
            · show Act.put _ (some 24) _ = _
              simp only [Act.put, List.setIfInBounds_toArray, List.set_cons_zero, List.set_cons_succ, i64_w, i32_w]
              rfl
            refine pure_ (i := 5) (N := some 6) (v := ?_) (a' := ?_) #[true, true, true, true, true, true] rfl rfl (by kernel_rfl) (fun _ _ _ h => h) (Or.inl ⟨by rfl, ?_⟩) ?_ ?_
            rotate_left
            · intro w'
              go_simp
              with_reducible rfl
            rotate_left
            · simp only [Act.put, List.setIfInBounds_toArray, List.set_cons_zero, List.set_cons_succ, i64_w, i32_w]
              rfl
            refine done_ (by kernel_rfl) ?_
            have hcz81_0 : w80.cell? ⟨gb576, 0, none⟩ = some (.int .i64 a0_0) := (blk_cell BK576.out 0).trans rfl
            have hcz81_1 : w80.cell? ⟨gb576, 1, none⟩ = some (.int .i64 a0_1) := (blk_cell BK576.out 1).trans rfl
            have hcz81_2 : w80.cell? ⟨gb576, 2, none⟩ = some (.slice A0_2 l0_2.length c0_2) := (blk_cell BK576.out 2).trans rfl
            have hcz81_3 : w80.cell? ⟨gb576, 3, none⟩ = some (.slice A0_3 l0_3.length c0_3) := (blk_cell BK576.out 3).trans rfl
            have hfz81_0 := blk_frozen BK576.out 0
            have hfz81_1 := blk_frozen BK576.out 1
            have hfz81_2 := blk_frozen BK576.out 2
            have hfz81_3 := blk_frozen BK576.out 3
            try go_wp2_with (first | ((with_reducible refine gate_callee (f := 43) rfl ?_); refine goesL_ (some 26) rfl rfl Try.func43 (by kernel_rfl) rfl #[.agg #[.int .i64 a0_0, .int .i64 a0_1, .slice A0_2 l0_2.length c0_2, .slice A0_3 l0_3.length c0_3]] rfl (by (try simp only [List.map_toArray, List.map_cons, List.map_nil]); first | done | rfl | (simp only [List.length_drop, List.length_take]; rfl)) ?_; (with_reducible refine (laws_toLog.calls k a0_0 a0_1 _ _ l0_2 _ _ l0_3 t597 t598 t599 t602 _ ?side1 ?side2 ?side3 ?side4 A22.out).mono ?_); (case side1 => repeat (first | exact (Kd.C_below HR0_2.out HB.out) | (with_reducible refine Kd.C_alloc ?_ _) | (with_reducible refine Kd.C_drewN ?_ _) | (with_reducible refine Kd.C_drew ?_))); (case side2 => exact HC0_2.out); (case side3 => repeat (first | exact (Kd.C_below HR0_3.out HB.out) | (with_reducible refine Kd.C_alloc ?_ _) | (with_reducible refine Kd.C_drewN ?_ _) | (with_reducible refine Kd.C_drew ?_))); (case side4 => exact HC0_3.out); rintro e w82 ⟨v600, v603, rfl, ho0, ho1, hb⟩; refine ⟨_, rfl, ?_⟩; have n0_ := Aside0.mk (Kd.R_elder' (by (with_reducible repeat (first | apply Kd.R_alloc | apply Kd.R_drewN | apply Kd.R_drew)); exact HO584.out) (Kd.R_base ho0) hb); have n1_ := Aside0.mk (Kd.R_elder' (by (with_reducible repeat (first | apply Kd.R_alloc | apply Kd.R_drewN | apply Kd.R_drew)); exact HO587.out) (Kd.R_base ho1) hb); have n2_ := Aside0.mk (Kd.R_elder' (by (with_reducible repeat (first | apply Kd.R_alloc | apply Kd.R_drewN | apply Kd.R_drew)); exact HO592.out) (Kd.R_base ho0) hb); have n3_ := Aside0.mk (Kd.R_elder' (by (with_reducible repeat (first | apply Kd.R_alloc | apply Kd.R_drewN | apply Kd.R_drew)); exact HO595.out) (Kd.R_base ho1) hb); have n4_ := Aside0.mk (Kd.R_lower (Kd.R_new' (Kd.R_new' ho0 (Kd.R_lt (by (with_reducible repeat (first | apply Kd.R_alloc | apply Kd.R_drewN | apply Kd.R_drew)); exact HO584.out))) (Kd.R_lt (by (with_reducible repeat (first | apply Kd.R_alloc | apply Kd.R_drewN | apply Kd.R_drew)); exact HO592.out))) (below_size (by repeat (first | (with_reducible first | exact HB.out | apply below_alloc | apply pw_below_drewN | apply below_drew1 | refine below_set ?_ GE576.out | refine below_set ?_ GE577.out) | exact HB.out)))); have n5_ := Aside0.mk (Kd.R_lower (Kd.R_new' (Kd.R_new' ho1 (Kd.R_lt (by (with_reducible repeat (first | apply Kd.R_alloc | apply Kd.R_drewN | apply Kd.R_drew)); exact HO587.out))) (Kd.R_lt (by (with_reducible repeat (first | apply Kd.R_alloc | apply Kd.R_drewN | apply Kd.R_drew)); exact HO595.out))) (below_size (by repeat (first | (with_reducible first | exact HB.out | apply below_alloc | apply pw_below_drewN | apply below_drew1 | refine below_set ?_ GE576.out | refine below_set ?_ GE577.out) | exact HB.out)))); have n6_ := Aside0.mk (blk_below (g := gb576) (o := .cells #[.int .i64 a0_0, .int .i64 a0_1, .slice A0_2 l0_2.length c0_2, .slice A0_3 l0_3.length c0_3] 45 (0, 0)) (by (with_reducible repeat (first | refine blk_drewN ?_ _ | refine blk_drew ?_ | refine blk_alloc ?_ _)); exact BK576.out) hb); have n7_ := Aside0.mk (blk_below (g := gb577) (o := .cells #[.int .i64 a1_0, .int .i64 a1_1, .slice A1_2 l1_2.length c1_2, .slice A1_3 l1_3.length c1_3] 45 (0, 0)) (by (with_reducible repeat (first | refine blk_drewN ?_ _ | refine blk_drew ?_ | refine blk_alloc ?_ _)); exact BK577.out) hb); have n8_ := Aside0.mk (below_step (by repeat (first | (with_reducible first | exact HB.out | apply below_alloc | apply pw_below_drewN | apply below_drew1 | refine below_set ?_ GE576.out | refine below_set ?_ GE577.out) | exact HB.out)) hb); clear HO584; clear HO587; clear HO592; clear HO595; clear BK576; clear BK577; clear HB; have HO584 := n0_; have HO587 := n1_; have HO592 := n2_; have HO595 := n3_; have HO601 := n4_; have HO604 := n5_; have BK576 := n6_; have BK577 := n7_; have HB := n8_; clear n0_ n1_ n2_ n3_ n4_ n5_ n6_ n7_ n8_; (try clear hb); (try clear hb2); (try clear hk); (try clear hi); (try clear ho0); (try clear ho1)) | ((with_reducible refine gate_dst (N := 7) rfl ?_); refine box_event ?hg (N := 7) ?hd (cs := #[.int .i64 0, .int .i64 0, .slice none 0 0, .slice none 0 0]) (t := 50) ?hr ?_; (case hd => rfl); (case hg => rfl); (case hr => first | (go_simp; done) | (go_simp; rfl)); intro gb605 hg w83 hbox hb; have n0_ := Aside0.mk (Kd.R_below (by (with_reducible repeat (first | apply Kd.R_alloc | apply Kd.R_drewN | apply Kd.R_drew)); exact HO584.out) hb); have n1_ := Aside0.mk (Kd.R_below (by (with_reducible repeat (first | apply Kd.R_alloc | apply Kd.R_drewN | apply Kd.R_drew)); exact HO587.out) hb); have n2_ := Aside0.mk (Kd.R_below (by (with_reducible repeat (first | apply Kd.R_alloc | apply Kd.R_drewN | apply Kd.R_drew)); exact HO592.out) hb); have n3_ := Aside0.mk (Kd.R_below (by (with_reducible repeat (first | apply Kd.R_alloc | apply Kd.R_drewN | apply Kd.R_drew)); exact HO595.out) hb); have n4_ := Aside0.mk (Kd.R_below (by (with_reducible repeat (first | apply Kd.R_alloc | apply Kd.R_drewN | apply Kd.R_drew)); exact HO601.out) hb); have n5_ := Aside0.mk (Kd.R_below (by (with_reducible repeat (first | apply Kd.R_alloc | apply Kd.R_drewN | apply Kd.R_drew)); exact HO604.out) hb); have n6_ := Aside0.mk (blk_below (g := gb576) (o := .cells #[.int .i64 a0_0, .int .i64 a0_1, .slice A0_2 l0_2.length c0_2, .slice A0_3 l0_3.length c0_3] 45 (0, 0)) (by (with_reducible repeat (first | refine blk_drewN ?_ _ | refine blk_drew ?_ | refine blk_alloc ?_ _)); exact BK576.out) hb); have n7_ := Aside0.mk (blk_below (g := gb577) (o := .cells #[.int .i64 a1_0, .int .i64 a1_1, .slice A1_2 l1_2.length c1_2, .slice A1_3 l1_3.length c1_3] 45 (0, 0)) (by (with_reducible repeat (first | refine blk_drewN ?_ _ | refine blk_drew ?_ | refine blk_alloc ?_ _)); exact BK577.out) hb); have n8_ := Aside0.mk (below_step (by repeat (first | (with_reducible first | exact HB.out | apply below_alloc | apply pw_below_drewN | apply below_drew1 | refine below_set ?_ GE576.out | refine below_set ?_ GE577.out) | exact HB.out)) hb); have n9_ := Aside0.mk (hbox); have n10_ := Aside0.mk ((by rw [hg]; exact (below_size (by repeat (first | (with_reducible first | exact HB.out | apply below_alloc | apply pw_below_drewN | apply below_drew1 | refine below_set ?_ GE576.out | refine below_set ?_ GE577.out) | exact HB.out))) : w.heap.size ≤ gb605)); have n11_ := Aside0.mk ((by rw [hg]; exact (below_size (by repeat (first | (with_reducible first | exact HB.out | apply below_alloc | apply pw_below_drewN | apply below_drew1 | refine below_set ?_ GE576.out | refine below_set ?_ GE577.out) | exact HB.out))) : w.heap.size ≤ gb605)); have n12_ := Aside0.mk ((by rw [hg]; exact Nat.ne_of_lt (blk_lt (g := gb576) (o := .cells #[.int .i64 a0_0, .int .i64 a0_1, .slice A0_2 l0_2.length c0_2, .slice A0_3 l0_3.length c0_3] 45 (0, 0)) (by (with_reducible repeat (first | refine blk_drewN ?_ _ | refine blk_drew ?_ | refine blk_alloc ?_ _)); exact BK576.out)) : gb576 ≠ gb605)); have n13_ := Aside0.mk ((by rw [hg]; exact Nat.ne_of_gt (blk_lt (g := gb576) (o := .cells #[.int .i64 a0_0, .int .i64 a0_1, .slice A0_2 l0_2.length c0_2, .slice A0_3 l0_3.length c0_3] 45 (0, 0)) (by (with_reducible repeat (first | refine blk_drewN ?_ _ | refine blk_drew ?_ | refine blk_alloc ?_ _)); exact BK576.out)) : gb605 ≠ gb576)); have n14_ := Aside0.mk ((by rw [hg]; exact Nat.ne_of_lt (blk_lt (g := gb577) (o := .cells #[.int .i64 a1_0, .int .i64 a1_1, .slice A1_2 l1_2.length c1_2, .slice A1_3 l1_3.length c1_3] 45 (0, 0)) (by (with_reducible repeat (first | refine blk_drewN ?_ _ | refine blk_drew ?_ | refine blk_alloc ?_ _)); exact BK577.out)) : gb577 ≠ gb605)); have n15_ := Aside0.mk ((by rw [hg]; exact Nat.ne_of_gt (blk_lt (g := gb577) (o := .cells #[.int .i64 a1_0, .int .i64 a1_1, .slice A1_2 l1_2.length c1_2, .slice A1_3 l1_3.length c1_3] 45 (0, 0)) (by (with_reducible repeat (first | refine blk_drewN ?_ _ | refine blk_drew ?_ | refine blk_alloc ?_ _)); exact BK577.out)) : gb605 ≠ gb577)); clear HO584; clear HO587; clear HO592; clear HO595; clear HO601; clear HO604; clear BK576; clear BK577; clear HB; have HO584 := n0_; have HO587 := n1_; have HO592 := n2_; have HO595 := n3_; have HO601 := n4_; have HO604 := n5_; have BK576 := n6_; have BK577 := n7_; have HB := n8_; have BK605 := n9_; have GW605 := n10_; have GE605 := n11_; have NB576_605 := n12_; have NB605_576 := n13_; have NB577_605 := n14_; have NB605_577 := n15_; clear n0_ n1_ n2_ n3_ n4_ n5_ n6_ n7_ n8_ n9_ n10_ n11_ n12_ n13_ n14_ n15_; clear hb hbox hg; have hnb84 := NB605_576.out; have hnc84 := NB576_605.out; have hnb85 := NB605_577.out; have hnc85 := NB577_605.out; have hcz86_0 : w83.cell? ⟨gb605, 0, none⟩ = some (.int .i64 0) := (blk_cell BK605.out 0).trans rfl; have hcz86_1 : w83.cell? ⟨gb605, 1, none⟩ = some (.int .i64 0) := (blk_cell BK605.out 1).trans rfl; have hcz86_2 : w83.cell? ⟨gb605, 2, none⟩ = some (.slice none 0 0) := (blk_cell BK605.out 2).trans rfl; have hcz86_3 : w83.cell? ⟨gb605, 3, none⟩ = some (.slice none 0 0) := (blk_cell BK605.out 3).trans rfl; have hfz86_0 := blk_frozen BK605.out 0; have hfz86_1 := blk_frozen BK605.out 1; have hfz86_2 := blk_frozen BK605.out 2; have hfz86_3 := blk_frozen BK605.out 3; obtain ⟨Ao87, co87, eo87⟩ := Kd.R_slice HO601.out; subst eo87; obtain ⟨Ao88, co88, eo88⟩ := Kd.R_slice HO604.out; subst eo88; have hcz89_0 : w83.cell? ⟨gb577, 0, none⟩ = some (.int .i64 a1_0) := (blk_cell BK577.out 0).trans rfl; have hcz89_1 : w83.cell? ⟨gb577, 1, none⟩ = some (.int .i64 a1_1) := (blk_cell BK577.out 1).trans rfl; have hcz89_2 : w83.cell? ⟨gb577, 2, none⟩ = some (.slice A1_2 l1_2.length c1_2) := (blk_cell BK577.out 2).trans rfl; have hcz89_3 : w83.cell? ⟨gb577, 3, none⟩ = some (.slice A1_3 l1_3.length c1_3) := (blk_cell BK577.out 3).trans rfl; have hfz89_0 := blk_frozen BK577.out 0; have hfz89_1 := blk_frozen BK577.out 1; have hfz89_2 := blk_frozen BK577.out 2; have hfz89_3 := blk_frozen BK577.out 3) | ((with_reducible refine gate_callee (f := 43) rfl ?_); refine goesL_ (some 28) rfl rfl Try.func43 (by kernel_rfl) rfl #[.agg #[.int .i64 a1_0, .int .i64 a1_1, .slice A1_2 l1_2.length c1_2, .slice A1_3 l1_3.length c1_3]] rfl (by (try simp only [List.map_toArray, List.map_cons, List.map_nil]); first | done | rfl | (simp only [List.length_drop, List.length_take]; rfl)) ?_; (with_reducible refine (laws_toLog.calls k a1_0 a1_1 _ _ l1_2 _ _ l1_3 t606 t607 t608 t611 _ ?side1 ?side2 ?side3 ?side4 A23.out).mono ?_); (case side1 => exact Kd.C_below HR1_2.out (by repeat (first | (with_reducible first | exact HB.out | apply below_alloc | apply pw_below_drewN | apply below_drew1 | refine below_set ?_ GE576.out | refine below_set ?_ GE577.out | refine below_set ?_ GE605.out) | exact HB.out))); (case side2 => exact HC1_2.out); (case side3 => exact Kd.C_below HR1_3.out (by repeat (first | (with_reducible first | exact HB.out | apply below_alloc | apply pw_below_drewN | apply below_drew1 | refine below_set ?_ GE576.out | refine below_set ?_ GE577.out | refine below_set ?_ GE605.out) | exact HB.out))); (case side4 => exact HC1_3.out); rintro e w90 ⟨v609, v612, rfl, ho0, ho1, hb⟩; refine ⟨_, rfl, ?_⟩; have n0_ := Aside0.mk (Kd.R_elder' (by (with_reducible repeat (first | apply Kd.R_alloc | apply Kd.R_drewN | apply Kd.R_drew)); exact (Kd.R_mono (Kd.R_far (p := ⟨gb605, 3, none⟩) (Kd.R_far (p := ⟨gb605, 2, none⟩) (Kd.R_far (p := ⟨gb605, 1, none⟩) (Kd.R_far (p := ⟨gb605, 0, none⟩) (Kd.R_types HO584.out BK605.out (by decide)) (fun _ hk => hk.2) (.int .i64 t597)) (fun _ hk => hk.2) (.int .i64 t598)) (fun _ hk => hk.2) (.slice Ao87 t599.length co87)) (fun _ hk => hk.2) (.slice Ao88 t602.length co88)) (fun _ h_ => h_.1))) (Kd.R_base ho0) hb); have n1_ := Aside0.mk (Kd.R_elder' (by (with_reducible repeat (first | apply Kd.R_alloc | apply Kd.R_drewN | apply Kd.R_drew)); exact (Kd.R_mono (Kd.R_far (p := ⟨gb605, 3, none⟩) (Kd.R_far (p := ⟨gb605, 2, none⟩) (Kd.R_far (p := ⟨gb605, 1, none⟩) (Kd.R_far (p := ⟨gb605, 0, none⟩) (Kd.R_types HO587.out BK605.out (by decide)) (fun _ hk => hk.2) (.int .i64 t597)) (fun _ hk => hk.2) (.int .i64 t598)) (fun _ hk => hk.2) (.slice Ao87 t599.length co87)) (fun _ hk => hk.2) (.slice Ao88 t602.length co88)) (fun _ h_ => h_.1))) (Kd.R_base ho1) hb); have n2_ := Aside0.mk (Kd.R_elder' (by (with_reducible repeat (first | apply Kd.R_alloc | apply Kd.R_drewN | apply Kd.R_drew)); exact (Kd.R_mono (Kd.R_far (p := ⟨gb605, 3, none⟩) (Kd.R_far (p := ⟨gb605, 2, none⟩) (Kd.R_far (p := ⟨gb605, 1, none⟩) (Kd.R_far (p := ⟨gb605, 0, none⟩) (Kd.R_types HO592.out BK605.out (by decide)) (fun _ hk => hk.2) (.int .i64 t597)) (fun _ hk => hk.2) (.int .i64 t598)) (fun _ hk => hk.2) (.slice Ao87 t599.length co87)) (fun _ hk => hk.2) (.slice Ao88 t602.length co88)) (fun _ h_ => h_.1))) (Kd.R_base ho0) hb); have n3_ := Aside0.mk (Kd.R_elder' (by (with_reducible repeat (first | apply Kd.R_alloc | apply Kd.R_drewN | apply Kd.R_drew)); exact (Kd.R_mono (Kd.R_far (p := ⟨gb605, 3, none⟩) (Kd.R_far (p := ⟨gb605, 2, none⟩) (Kd.R_far (p := ⟨gb605, 1, none⟩) (Kd.R_far (p := ⟨gb605, 0, none⟩) (Kd.R_types HO595.out BK605.out (by decide)) (fun _ hk => hk.2) (.int .i64 t597)) (fun _ hk => hk.2) (.int .i64 t598)) (fun _ hk => hk.2) (.slice Ao87 t599.length co87)) (fun _ hk => hk.2) (.slice Ao88 t602.length co88)) (fun _ h_ => h_.1))) (Kd.R_base ho1) hb); have n4_ := Aside0.mk (Kd.R_elder' (by (with_reducible repeat (first | apply Kd.R_alloc | apply Kd.R_drewN | apply Kd.R_drew)); exact (Kd.R_mono (Kd.R_far (p := ⟨gb605, 3, none⟩) (Kd.R_far (p := ⟨gb605, 2, none⟩) (Kd.R_far (p := ⟨gb605, 1, none⟩) (Kd.R_far (p := ⟨gb605, 0, none⟩) (Kd.R_types HO601.out BK605.out (by decide)) (fun _ hk => hk.2) (.int .i64 t597)) (fun _ hk => hk.2) (.int .i64 t598)) (fun _ hk => hk.2) (.slice Ao87 t599.length co87)) (fun _ hk => hk.2) (.slice Ao88 t602.length co88)) (fun _ h_ => h_.1))) (Kd.R_base ho0) hb); have n5_ := Aside0.mk (Kd.R_elder' (by (with_reducible repeat (first | apply Kd.R_alloc | apply Kd.R_drewN | apply Kd.R_drew)); exact (Kd.R_mono (Kd.R_far (p := ⟨gb605, 3, none⟩) (Kd.R_far (p := ⟨gb605, 2, none⟩) (Kd.R_far (p := ⟨gb605, 1, none⟩) (Kd.R_far (p := ⟨gb605, 0, none⟩) (Kd.R_types HO604.out BK605.out (by decide)) (fun _ hk => hk.2) (.int .i64 t597)) (fun _ hk => hk.2) (.int .i64 t598)) (fun _ hk => hk.2) (.slice Ao87 t599.length co87)) (fun _ hk => hk.2) (.slice Ao88 t602.length co88)) (fun _ h_ => h_.1))) (Kd.R_base ho1) hb); have n6_ := Aside0.mk (Kd.R_lower (Kd.R_new' (Kd.R_new' (Kd.R_new' ho0 (Kd.R_lt (by (with_reducible repeat (first | apply Kd.R_alloc | apply Kd.R_drewN | apply Kd.R_drew)); exact (Kd.R_mono (Kd.R_far (p := ⟨gb605, 3, none⟩) (Kd.R_far (p := ⟨gb605, 2, none⟩) (Kd.R_far (p := ⟨gb605, 1, none⟩) (Kd.R_far (p := ⟨gb605, 0, none⟩) (Kd.R_types HO584.out BK605.out (by decide)) (fun _ hk => hk.2) (.int .i64 t597)) (fun _ hk => hk.2) (.int .i64 t598)) (fun _ hk => hk.2) (.slice Ao87 t599.length co87)) (fun _ hk => hk.2) (.slice Ao88 t602.length co88)) (fun _ h_ => h_.1))))) (Kd.R_lt (by (with_reducible repeat (first | apply Kd.R_alloc | apply Kd.R_drewN | apply Kd.R_drew)); exact (Kd.R_mono (Kd.R_far (p := ⟨gb605, 3, none⟩) (Kd.R_far (p := ⟨gb605, 2, none⟩) (Kd.R_far (p := ⟨gb605, 1, none⟩) (Kd.R_far (p := ⟨gb605, 0, none⟩) (Kd.R_types HO592.out BK605.out (by decide)) (fun _ hk => hk.2) (.int .i64 t597)) (fun _ hk => hk.2) (.int .i64 t598)) (fun _ hk => hk.2) (.slice Ao87 t599.length co87)) (fun _ hk => hk.2) (.slice Ao88 t602.length co88)) (fun _ h_ => h_.1))))) (Kd.R_lt (by (with_reducible repeat (first | apply Kd.R_alloc | apply Kd.R_drewN | apply Kd.R_drew)); exact (Kd.R_mono (Kd.R_far (p := ⟨gb605, 3, none⟩) (Kd.R_far (p := ⟨gb605, 2, none⟩) (Kd.R_far (p := ⟨gb605, 1, none⟩) (Kd.R_far (p := ⟨gb605, 0, none⟩) (Kd.R_types HO601.out BK605.out (by decide)) (fun _ hk => hk.2) (.int .i64 t597)) (fun _ hk => hk.2) (.int .i64 t598)) (fun _ hk => hk.2) (.slice Ao87 t599.length co87)) (fun _ hk => hk.2) (.slice Ao88 t602.length co88)) (fun _ h_ => h_.1))))) (below_size (by repeat (first | (with_reducible first | exact HB.out | apply below_alloc | apply pw_below_drewN | apply below_drew1 | refine below_set ?_ GE576.out | refine below_set ?_ GE577.out | refine below_set ?_ GE605.out) | exact HB.out)))); have n7_ := Aside0.mk (Kd.R_lower (Kd.R_new' (Kd.R_new' (Kd.R_new' ho1 (Kd.R_lt (by (with_reducible repeat (first | apply Kd.R_alloc | apply Kd.R_drewN | apply Kd.R_drew)); exact (Kd.R_mono (Kd.R_far (p := ⟨gb605, 3, none⟩) (Kd.R_far (p := ⟨gb605, 2, none⟩) (Kd.R_far (p := ⟨gb605, 1, none⟩) (Kd.R_far (p := ⟨gb605, 0, none⟩) (Kd.R_types HO587.out BK605.out (by decide)) (fun _ hk => hk.2) (.int .i64 t597)) (fun _ hk => hk.2) (.int .i64 t598)) (fun _ hk => hk.2) (.slice Ao87 t599.length co87)) (fun _ hk => hk.2) (.slice Ao88 t602.length co88)) (fun _ h_ => h_.1))))) (Kd.R_lt (by (with_reducible repeat (first | apply Kd.R_alloc | apply Kd.R_drewN | apply Kd.R_drew)); exact (Kd.R_mono (Kd.R_far (p := ⟨gb605, 3, none⟩) (Kd.R_far (p := ⟨gb605, 2, none⟩) (Kd.R_far (p := ⟨gb605, 1, none⟩) (Kd.R_far (p := ⟨gb605, 0, none⟩) (Kd.R_types HO595.out BK605.out (by decide)) (fun _ hk => hk.2) (.int .i64 t597)) (fun _ hk => hk.2) (.int .i64 t598)) (fun _ hk => hk.2) (.slice Ao87 t599.length co87)) (fun _ hk => hk.2) (.slice Ao88 t602.length co88)) (fun _ h_ => h_.1))))) (Kd.R_lt (by (with_reducible repeat (first | apply Kd.R_alloc | apply Kd.R_drewN | apply Kd.R_drew)); exact (Kd.R_mono (Kd.R_far (p := ⟨gb605, 3, none⟩) (Kd.R_far (p := ⟨gb605, 2, none⟩) (Kd.R_far (p := ⟨gb605, 1, none⟩) (Kd.R_far (p := ⟨gb605, 0, none⟩) (Kd.R_types HO604.out BK605.out (by decide)) (fun _ hk => hk.2) (.int .i64 t597)) (fun _ hk => hk.2) (.int .i64 t598)) (fun _ hk => hk.2) (.slice Ao87 t599.length co87)) (fun _ hk => hk.2) (.slice Ao88 t602.length co88)) (fun _ h_ => h_.1))))) (below_size (by repeat (first | (with_reducible first | exact HB.out | apply below_alloc | apply pw_below_drewN | apply below_drew1 | refine below_set ?_ GE576.out | refine below_set ?_ GE577.out | refine below_set ?_ GE605.out) | exact HB.out)))); have n8_ := Aside0.mk (blk_below (g := gb576) (o := .cells #[.int .i64 a0_0, .int .i64 a0_1, .slice A0_2 l0_2.length c0_2, .slice A0_3 l0_3.length c0_3] 45 (0, 0)) (by (with_reducible repeat (first | refine blk_drewN ?_ _ | refine blk_drew ?_ | refine blk_alloc ?_ _)); refine blk_far ?_ NB576_605.out _; (with_reducible repeat (first | refine blk_drewN ?_ _ | refine blk_drew ?_ | refine blk_alloc ?_ _)); refine blk_far ?_ NB576_605.out _; (with_reducible repeat (first | refine blk_drewN ?_ _ | refine blk_drew ?_ | refine blk_alloc ?_ _)); refine blk_far ?_ NB576_605.out _; (with_reducible repeat (first | refine blk_drewN ?_ _ | refine blk_drew ?_ | refine blk_alloc ?_ _)); refine blk_far ?_ NB576_605.out _; (with_reducible repeat (first | refine blk_drewN ?_ _ | refine blk_drew ?_ | refine blk_alloc ?_ _)); exact BK576.out) hb); have n9_ := Aside0.mk (blk_below (g := gb577) (o := .cells #[.int .i64 a1_0, .int .i64 a1_1, .slice A1_2 l1_2.length c1_2, .slice A1_3 l1_3.length c1_3] 45 (0, 0)) (by (with_reducible repeat (first | refine blk_drewN ?_ _ | refine blk_drew ?_ | refine blk_alloc ?_ _)); refine blk_far ?_ NB577_605.out _; (with_reducible repeat (first | refine blk_drewN ?_ _ | refine blk_drew ?_ | refine blk_alloc ?_ _)); refine blk_far ?_ NB577_605.out _; (with_reducible repeat (first | refine blk_drewN ?_ _ | refine blk_drew ?_ | refine blk_alloc ?_ _)); refine blk_far ?_ NB577_605.out _; (with_reducible repeat (first | refine blk_drewN ?_ _ | refine blk_drew ?_ | refine blk_alloc ?_ _)); refine blk_far ?_ NB577_605.out _; (with_reducible repeat (first | refine blk_drewN ?_ _ | refine blk_drew ?_ | refine blk_alloc ?_ _)); exact BK577.out) hb); have n10_ := Aside0.mk (blk_below (g := gb605) (o := .cells #[.int .i64 t597, .int .i64 t598, .slice Ao87 t599.length co87, .slice Ao88 t602.length co88] 50 (0, 0)) (by (with_reducible repeat (first | refine blk_drewN ?_ _ | refine blk_drew ?_ | refine blk_alloc ?_ _)); refine blk_put (cs := #[.int .i64 t597, .int .i64 t598, .slice Ao87 t599.length co87, .slice none 0 0]) ?_ 3 _ rfl; (with_reducible repeat (first | refine blk_drewN ?_ _ | refine blk_drew ?_ | refine blk_alloc ?_ _)); refine blk_put (cs := #[.int .i64 t597, .int .i64 t598, .slice none 0 0, .slice none 0 0]) ?_ 2 _ rfl; (with_reducible repeat (first | refine blk_drewN ?_ _ | refine blk_drew ?_ | refine blk_alloc ?_ _)); refine blk_put (cs := #[.int .i64 t597, .int .i64 0, .slice none 0 0, .slice none 0 0]) ?_ 1 _ rfl; (with_reducible repeat (first | refine blk_drewN ?_ _ | refine blk_drew ?_ | refine blk_alloc ?_ _)); refine blk_put (cs := #[.int .i64 0, .int .i64 0, .slice none 0 0, .slice none 0 0]) ?_ 0 _ rfl; (with_reducible repeat (first | refine blk_drewN ?_ _ | refine blk_drew ?_ | refine blk_alloc ?_ _)); exact BK605.out) hb); have n11_ := Aside0.mk (below_step (by repeat (first | (with_reducible first | exact HB.out | apply below_alloc | apply pw_below_drewN | apply below_drew1 | refine below_set ?_ GE576.out | refine below_set ?_ GE577.out | refine below_set ?_ GE605.out) | exact HB.out)) hb); clear HO584; clear HO587; clear HO592; clear HO595; clear HO601; clear HO604; clear BK576; clear BK577; clear BK605; clear HB; have HO584 := n0_; have HO587 := n1_; have HO592 := n2_; have HO595 := n3_; have HO601 := n4_; have HO604 := n5_; have HO610 := n6_; have HO613 := n7_; have BK576 := n8_; have BK577 := n9_; have BK605 := n10_; have HB := n11_; clear n0_ n1_ n2_ n3_ n4_ n5_ n6_ n7_ n8_ n9_ n10_ n11_; (try clear hb); (try clear hb2); (try clear hk); (try clear hi); (try clear ho0); (try clear ho1)) | ((with_reducible refine gate_dst (N := 8) rfl ?_); refine box_event ?hg (N := 8) ?hd (cs := #[.int .i64 0, .int .i64 0, .slice none 0 0, .slice none 0 0]) (t := 50) ?hr ?_; (case hd => rfl); (case hg => rfl); (case hr => first | (go_simp; done) | (go_simp; rfl)); intro gb614 hg w91 hbox hb; have n0_ := Aside0.mk (Kd.R_below (by (with_reducible repeat (first | apply Kd.R_alloc | apply Kd.R_drewN | apply Kd.R_drew)); exact HO584.out) hb); have n1_ := Aside0.mk (Kd.R_below (by (with_reducible repeat (first | apply Kd.R_alloc | apply Kd.R_drewN | apply Kd.R_drew)); exact HO587.out) hb); have n2_ := Aside0.mk (Kd.R_below (by (with_reducible repeat (first | apply Kd.R_alloc | apply Kd.R_drewN | apply Kd.R_drew)); exact HO592.out) hb); have n3_ := Aside0.mk (Kd.R_below (by (with_reducible repeat (first | apply Kd.R_alloc | apply Kd.R_drewN | apply Kd.R_drew)); exact HO595.out) hb); have n4_ := Aside0.mk (Kd.R_below (by (with_reducible repeat (first | apply Kd.R_alloc | apply Kd.R_drewN | apply Kd.R_drew)); exact HO601.out) hb); have n5_ := Aside0.mk (Kd.R_below (by (with_reducible repeat (first | apply Kd.R_alloc | apply Kd.R_drewN | apply Kd.R_drew)); exact HO604.out) hb); have n6_ := Aside0.mk (Kd.R_below (by (with_reducible repeat (first | apply Kd.R_alloc | apply Kd.R_drewN | apply Kd.R_drew)); exact HO610.out) hb); have n7_ := Aside0.mk (Kd.R_below (by (with_reducible repeat (first | apply Kd.R_alloc | apply Kd.R_drewN | apply Kd.R_drew)); exact HO613.out) hb); have n8_ := Aside0.mk (blk_below (g := gb576) (o := .cells #[.int .i64 a0_0, .int .i64 a0_1, .slice A0_2 l0_2.length c0_2, .slice A0_3 l0_3.length c0_3] 45 (0, 0)) (by (with_reducible repeat (first | refine blk_drewN ?_ _ | refine blk_drew ?_ | refine blk_alloc ?_ _)); exact BK576.out) hb); have n9_ := Aside0.mk (blk_below (g := gb577) (o := .cells #[.int .i64 a1_0, .int .i64 a1_1, .slice A1_2 l1_2.length c1_2, .slice A1_3 l1_3.length c1_3] 45 (0, 0)) (by (with_reducible repeat (first | refine blk_drewN ?_ _ | refine blk_drew ?_ | refine blk_alloc ?_ _)); exact BK577.out) hb); have n10_ := Aside0.mk (blk_below (g := gb605) (o := .cells #[.int .i64 t597, .int .i64 t598, .slice Ao87 t599.length co87, .slice Ao88 t602.length co88] 50 (0, 0)) (by (with_reducible repeat (first | refine blk_drewN ?_ _ | refine blk_drew ?_ | refine blk_alloc ?_ _)); exact BK605.out) hb); have n11_ := Aside0.mk (below_step (by repeat (first | (with_reducible first | exact HB.out | apply below_alloc | apply pw_below_drewN | apply below_drew1 | refine below_set ?_ GE576.out | refine below_set ?_ GE577.out | refine below_set ?_ GE605.out) | exact HB.out)) hb); have n12_ := Aside0.mk (hbox); have n13_ := Aside0.mk ((by rw [hg]; exact (below_size (by repeat (first | (with_reducible first | exact HB.out | apply below_alloc | apply pw_below_drewN | apply below_drew1 | refine below_set ?_ GE576.out | refine below_set ?_ GE577.out | refine below_set ?_ GE605.out) | exact HB.out))) : w.heap.size ≤ gb614)); have n14_ := Aside0.mk ((by rw [hg]; exact (below_size (by repeat (first | (with_reducible first | exact HB.out | apply below_alloc | apply pw_below_drewN | apply below_drew1 | refine below_set ?_ GE576.out | refine below_set ?_ GE577.out | refine below_set ?_ GE605.out) | exact HB.out))) : w.heap.size ≤ gb614)); have n15_ := Aside0.mk ((by rw [hg]; exact Nat.ne_of_lt (blk_lt (g := gb576) (o := .cells #[.int .i64 a0_0, .int .i64 a0_1, .slice A0_2 l0_2.length c0_2, .slice A0_3 l0_3.length c0_3] 45 (0, 0)) (by (with_reducible repeat (first | refine blk_drewN ?_ _ | refine blk_drew ?_ | refine blk_alloc ?_ _)); exact BK576.out)) : gb576 ≠ gb614)); have n16_ := Aside0.mk ((by rw [hg]; exact Nat.ne_of_gt (blk_lt (g := gb576) (o := .cells #[.int .i64 a0_0, .int .i64 a0_1, .slice A0_2 l0_2.length c0_2, .slice A0_3 l0_3.length c0_3] 45 (0, 0)) (by (with_reducible repeat (first | refine blk_drewN ?_ _ | refine blk_drew ?_ | refine blk_alloc ?_ _)); exact BK576.out)) : gb614 ≠ gb576)); have n17_ := Aside0.mk ((by rw [hg]; exact Nat.ne_of_lt (blk_lt (g := gb577) (o := .cells #[.int .i64 a1_0, .int .i64 a1_1, .slice A1_2 l1_2.length c1_2, .slice A1_3 l1_3.length c1_3] 45 (0, 0)) (by (with_reducible repeat (first | refine blk_drewN ?_ _ | refine blk_drew ?_ | refine blk_alloc ?_ _)); exact BK577.out)) : gb577 ≠ gb614)); have n18_ := Aside0.mk ((by rw [hg]; exact Nat.ne_of_gt (blk_lt (g := gb577) (o := .cells #[.int .i64 a1_0, .int .i64 a1_1, .slice A1_2 l1_2.length c1_2, .slice A1_3 l1_3.length c1_3] 45 (0, 0)) (by (with_reducible repeat (first | refine blk_drewN ?_ _ | refine blk_drew ?_ | refine blk_alloc ?_ _)); exact BK577.out)) : gb614 ≠ gb577)); have n19_ := Aside0.mk ((by rw [hg]; exact Nat.ne_of_lt (blk_lt (g := gb605) (o := .cells #[.int .i64 t597, .int .i64 t598, .slice Ao87 t599.length co87, .slice Ao88 t602.length co88] 50 (0, 0)) (by (with_reducible repeat (first | refine blk_drewN ?_ _ | refine blk_drew ?_ | refine blk_alloc ?_ _)); exact BK605.out)) : gb605 ≠ gb614)); have n20_ := Aside0.mk ((by rw [hg]; exact Nat.ne_of_gt (blk_lt (g := gb605) (o := .cells #[.int .i64 t597, .int .i64 t598, .slice Ao87 t599.length co87, .slice Ao88 t602.length co88] 50 (0, 0)) (by (with_reducible repeat (first | refine blk_drewN ?_ _ | refine blk_drew ?_ | refine blk_alloc ?_ _)); exact BK605.out)) : gb614 ≠ gb605)); clear HO584; clear HO587; clear HO592; clear HO595; clear HO601; clear HO604; clear HO610; clear HO613; clear BK576; clear BK577; clear BK605; clear HB; have HO584 := n0_; have HO587 := n1_; have HO592 := n2_; have HO595 := n3_; have HO601 := n4_; have HO604 := n5_; have HO610 := n6_; have HO613 := n7_; have BK576 := n8_; have BK577 := n9_; have BK605 := n10_; have HB := n11_; have BK614 := n12_; have GW614 := n13_; have GE614 := n14_; have NB576_614 := n15_; have NB614_576 := n16_; have NB577_614 := n17_; have NB614_577 := n18_; have NB605_614 := n19_; have NB614_605 := n20_; clear n0_ n1_ n2_ n3_ n4_ n5_ n6_ n7_ n8_ n9_ n10_ n11_ n12_ n13_ n14_ n15_ n16_ n17_ n18_ n19_ n20_; clear hb hbox hg; have hnb92 := NB614_576.out; have hnc92 := NB576_614.out; have hnb93 := NB614_577.out; have hnc93 := NB577_614.out; have hnb94 := NB614_605.out; have hnc94 := NB605_614.out; have hcz95_0 : w91.cell? ⟨gb614, 0, none⟩ = some (.int .i64 0) := (blk_cell BK614.out 0).trans rfl; have hcz95_1 : w91.cell? ⟨gb614, 1, none⟩ = some (.int .i64 0) := (blk_cell BK614.out 1).trans rfl; have hcz95_2 : w91.cell? ⟨gb614, 2, none⟩ = some (.slice none 0 0) := (blk_cell BK614.out 2).trans rfl; have hcz95_3 : w91.cell? ⟨gb614, 3, none⟩ = some (.slice none 0 0) := (blk_cell BK614.out 3).trans rfl; have hfz95_0 := blk_frozen BK614.out 0; have hfz95_1 := blk_frozen BK614.out 1; have hfz95_2 := blk_frozen BK614.out 2; have hfz95_3 := blk_frozen BK614.out 3; obtain ⟨Ao96, co96, eo96⟩ := Kd.R_slice HO610.out; subst eo96; obtain ⟨Ao97, co97, eo97⟩ := Kd.R_slice HO613.out; subst eo97; have hcz98_0 : w91.cell? ⟨gb605, 0, none⟩ = some (.int .i64 t597) := (blk_cell BK605.out 0).trans rfl; have hcz98_1 : w91.cell? ⟨gb605, 1, none⟩ = some (.int .i64 t598) := (blk_cell BK605.out 1).trans rfl; have hcz98_2 : w91.cell? ⟨gb605, 2, none⟩ = some (.slice Ao87 t599.length co87) := (blk_cell BK605.out 2).trans rfl; have hcz98_3 : w91.cell? ⟨gb605, 3, none⟩ = some (.slice Ao88 t602.length co88) := (blk_cell BK605.out 3).trans rfl; have hfz98_0 := blk_frozen BK605.out 0; have hfz98_1 := blk_frozen BK605.out 1; have hfz98_2 := blk_frozen BK605.out 2; have hfz98_3 := blk_frozen BK605.out 3) | ((with_reducible refine gate_callee (f := 44) rfl ?_); refine goesL_ (some 31) rfl rfl Try.func44 (by kernel_rfl) rfl #[.agg #[.int .i64 t597, .int .i64 t598, .slice Ao87 t599.length co87, .slice Ao88 t602.length co88], .agg #[.int .i64 t606, .int .i64 t607, .slice Ao96 t608.length co96, .slice Ao97 t611.length co97]] rfl (by (try simp only [List.map_toArray, List.map_cons, List.map_nil]); first | done | rfl | (simp only [List.length_drop, List.length_take]; rfl)) ?_; (with_reducible refine (impl_LogSame.calls k t597 t598 _ _ t599 _ _ t602 t606 t607 _ _ t608 _ _ t611 t615 _ ?side1 ?side2 ?side3 ?side4 ?side5 ?side6 ?side7 ?side8 A24.out).mono ?_); (case side1 => refine (Kd.R_reads' (e := 106) (base := w.heap.size) (ok := fun k_ => (((True ∧ some k_ ≠ (.slice Ao76 t582.length co76 : Value).ownBlock) ∧ some k_ ≠ (.slice Ao78 t590.length co78 : Value).ownBlock) ∧ some k_ ≠ (.slice Ao96 t608.length co96 : Value).ownBlock)) (n := t599.length) (c := co87) ?_).2.2; exact (by (with_reducible repeat (first | apply Kd.R_alloc | apply Kd.R_drewN | apply Kd.R_drew)); exact (Kd.R_mono (Kd.R_far (p := ⟨gb614, 3, none⟩) (Kd.R_far (p := ⟨gb614, 2, none⟩) (Kd.R_far (p := ⟨gb614, 1, none⟩) (Kd.R_far (p := ⟨gb614, 0, none⟩) (Kd.R_types HO601.out BK614.out (by decide)) (fun _ hk => hk.2) (.int .i64 t606)) (fun _ hk => hk.2) (.int .i64 t607)) (fun _ hk => hk.2) (.slice Ao96 t608.length co96)) (fun _ hk => hk.2) (.slice Ao97 t611.length co97)) (fun _ h_ => h_.1)))); (case side2 => exact (Kd.R_reads' HO601.out).2.1); (case side3 => refine (Kd.R_reads' (e := 73) (base := w.heap.size) (ok := fun k_ => (((True ∧ some k_ ≠ (.slice Ao77 t585.length co77 : Value).ownBlock) ∧ some k_ ≠ (.slice Ao79 t593.length co79 : Value).ownBlock) ∧ some k_ ≠ (.slice Ao97 t611.length co97 : Value).ownBlock)) (n := t602.length) (c := co88) ?_).2.2; exact (by (with_reducible repeat (first | apply Kd.R_alloc | apply Kd.R_drewN | apply Kd.R_drew)); exact (Kd.R_mono (Kd.R_far (p := ⟨gb614, 3, none⟩) (Kd.R_far (p := ⟨gb614, 2, none⟩) (Kd.R_far (p := ⟨gb614, 1, none⟩) (Kd.R_far (p := ⟨gb614, 0, none⟩) (Kd.R_types HO604.out BK614.out (by decide)) (fun _ hk => hk.2) (.int .i64 t606)) (fun _ hk => hk.2) (.int .i64 t607)) (fun _ hk => hk.2) (.slice Ao96 t608.length co96)) (fun _ hk => hk.2) (.slice Ao97 t611.length co97)) (fun _ h_ => h_.1)))); (case side4 => exact (Kd.R_reads' HO604.out).2.1); (case side5 => refine (Kd.R_reads' (e := 106) (base := w.heap.size) (ok := fun k_ => (((True ∧ some k_ ≠ (.slice Ao76 t582.length co76 : Value).ownBlock) ∧ some k_ ≠ (.slice Ao78 t590.length co78 : Value).ownBlock) ∧ some k_ ≠ (.slice Ao87 t599.length co87 : Value).ownBlock)) (n := t608.length) (c := co96) ?_).2.2; exact (by (with_reducible repeat (first | apply Kd.R_alloc | apply Kd.R_drewN | apply Kd.R_drew)); exact (Kd.R_mono (Kd.R_far (p := ⟨gb614, 3, none⟩) (Kd.R_far (p := ⟨gb614, 2, none⟩) (Kd.R_far (p := ⟨gb614, 1, none⟩) (Kd.R_far (p := ⟨gb614, 0, none⟩) (Kd.R_types HO610.out BK614.out (by decide)) (fun _ hk => hk.2) (.int .i64 t606)) (fun _ hk => hk.2) (.int .i64 t607)) (fun _ hk => hk.2) (.slice Ao96 t608.length co96)) (fun _ hk => hk.2) (.slice Ao97 t611.length co97)) (fun _ h_ => h_.1)))); (case side6 => exact (Kd.R_reads' HO610.out).2.1); (case side7 => refine (Kd.R_reads' (e := 73) (base := w.heap.size) (ok := fun k_ => (((True ∧ some k_ ≠ (.slice Ao77 t585.length co77 : Value).ownBlock) ∧ some k_ ≠ (.slice Ao79 t593.length co79 : Value).ownBlock) ∧ some k_ ≠ (.slice Ao88 t602.length co88 : Value).ownBlock)) (n := t611.length) (c := co97) ?_).2.2; exact (by (with_reducible repeat (first | apply Kd.R_alloc | apply Kd.R_drewN | apply Kd.R_drew)); exact (Kd.R_mono (Kd.R_far (p := ⟨gb614, 3, none⟩) (Kd.R_far (p := ⟨gb614, 2, none⟩) (Kd.R_far (p := ⟨gb614, 1, none⟩) (Kd.R_far (p := ⟨gb614, 0, none⟩) (Kd.R_types HO613.out BK614.out (by decide)) (fun _ hk => hk.2) (.int .i64 t606)) (fun _ hk => hk.2) (.int .i64 t607)) (fun _ hk => hk.2) (.slice Ao96 t608.length co96)) (fun _ hk => hk.2) (.slice Ao97 t611.length co97)) (fun _ h_ => h_.1)))); (case side8 => exact (Kd.R_reads' HO613.out).2.1); rintro e w99 ⟨rfl, hb⟩; refine ⟨_, rfl, ?_⟩; have n0_ := Aside0.mk (Kd.R_below (by (with_reducible repeat (first | apply Kd.R_alloc | apply Kd.R_drewN | apply Kd.R_drew)); exact (Kd.R_mono (Kd.R_far (p := ⟨gb614, 3, none⟩) (Kd.R_far (p := ⟨gb614, 2, none⟩) (Kd.R_far (p := ⟨gb614, 1, none⟩) (Kd.R_far (p := ⟨gb614, 0, none⟩) (Kd.R_types HO584.out BK614.out (by decide)) (fun _ hk => hk.2) (.int .i64 t606)) (fun _ hk => hk.2) (.int .i64 t607)) (fun _ hk => hk.2) (.slice Ao96 t608.length co96)) (fun _ hk => hk.2) (.slice Ao97 t611.length co97)) (fun _ h_ => h_.1))) hb); have n1_ := Aside0.mk (Kd.R_below (by (with_reducible repeat (first | apply Kd.R_alloc | apply Kd.R_drewN | apply Kd.R_drew)); exact (Kd.R_mono (Kd.R_far (p := ⟨gb614, 3, none⟩) (Kd.R_far (p := ⟨gb614, 2, none⟩) (Kd.R_far (p := ⟨gb614, 1, none⟩) (Kd.R_far (p := ⟨gb614, 0, none⟩) (Kd.R_types HO587.out BK614.out (by decide)) (fun _ hk => hk.2) (.int .i64 t606)) (fun _ hk => hk.2) (.int .i64 t607)) (fun _ hk => hk.2) (.slice Ao96 t608.length co96)) (fun _ hk => hk.2) (.slice Ao97 t611.length co97)) (fun _ h_ => h_.1))) hb); have n2_ := Aside0.mk (Kd.R_below (by (with_reducible repeat (first | apply Kd.R_alloc | apply Kd.R_drewN | apply Kd.R_drew)); exact (Kd.R_mono (Kd.R_far (p := ⟨gb614, 3, none⟩) (Kd.R_far (p := ⟨gb614, 2, none⟩) (Kd.R_far (p := ⟨gb614, 1, none⟩) (Kd.R_far (p := ⟨gb614, 0, none⟩) (Kd.R_types HO592.out BK614.out (by decide)) (fun _ hk => hk.2) (.int .i64 t606)) (fun _ hk => hk.2) (.int .i64 t607)) (fun _ hk => hk.2) (.slice Ao96 t608.length co96)) (fun _ hk => hk.2) (.slice Ao97 t611.length co97)) (fun _ h_ => h_.1))) hb); have n3_ := Aside0.mk (Kd.R_below (by (with_reducible repeat (first | apply Kd.R_alloc | apply Kd.R_drewN | apply Kd.R_drew)); exact (Kd.R_mono (Kd.R_far (p := ⟨gb614, 3, none⟩) (Kd.R_far (p := ⟨gb614, 2, none⟩) (Kd.R_far (p := ⟨gb614, 1, none⟩) (Kd.R_far (p := ⟨gb614, 0, none⟩) (Kd.R_types HO595.out BK614.out (by decide)) (fun _ hk => hk.2) (.int .i64 t606)) (fun _ hk => hk.2) (.int .i64 t607)) (fun _ hk => hk.2) (.slice Ao96 t608.length co96)) (fun _ hk => hk.2) (.slice Ao97 t611.length co97)) (fun _ h_ => h_.1))) hb); have n4_ := Aside0.mk (Kd.R_below (by (with_reducible repeat (first | apply Kd.R_alloc | apply Kd.R_drewN | apply Kd.R_drew)); exact (Kd.R_mono (Kd.R_far (p := ⟨gb614, 3, none⟩) (Kd.R_far (p := ⟨gb614, 2, none⟩) (Kd.R_far (p := ⟨gb614, 1, none⟩) (Kd.R_far (p := ⟨gb614, 0, none⟩) (Kd.R_types HO601.out BK614.out (by decide)) (fun _ hk => hk.2) (.int .i64 t606)) (fun _ hk => hk.2) (.int .i64 t607)) (fun _ hk => hk.2) (.slice Ao96 t608.length co96)) (fun _ hk => hk.2) (.slice Ao97 t611.length co97)) (fun _ h_ => h_.1))) hb); have n5_ := Aside0.mk (Kd.R_below (by (with_reducible repeat (first | apply Kd.R_alloc | apply Kd.R_drewN | apply Kd.R_drew)); exact (Kd.R_mono (Kd.R_far (p := ⟨gb614, 3, none⟩) (Kd.R_far (p := ⟨gb614, 2, none⟩) (Kd.R_far (p := ⟨gb614, 1, none⟩) (Kd.R_far (p := ⟨gb614, 0, none⟩) (Kd.R_types HO604.out BK614.out (by decide)) (fun _ hk => hk.2) (.int .i64 t606)) (fun _ hk => hk.2) (.int .i64 t607)) (fun _ hk => hk.2) (.slice Ao96 t608.length co96)) (fun _ hk => hk.2) (.slice Ao97 t611.length co97)) (fun _ h_ => h_.1))) hb); have n6_ := Aside0.mk (Kd.R_below (by (with_reducible repeat (first | apply Kd.R_alloc | apply Kd.R_drewN | apply Kd.R_drew)); exact (Kd.R_mono (Kd.R_far (p := ⟨gb614, 3, none⟩) (Kd.R_far (p := ⟨gb614, 2, none⟩) (Kd.R_far (p := ⟨gb614, 1, none⟩) (Kd.R_far (p := ⟨gb614, 0, none⟩) (Kd.R_types HO610.out BK614.out (by decide)) (fun _ hk => hk.2) (.int .i64 t606)) (fun _ hk => hk.2) (.int .i64 t607)) (fun _ hk => hk.2) (.slice Ao96 t608.length co96)) (fun _ hk => hk.2) (.slice Ao97 t611.length co97)) (fun _ h_ => h_.1))) hb); have n7_ := Aside0.mk (Kd.R_below (by (with_reducible repeat (first | apply Kd.R_alloc | apply Kd.R_drewN | apply Kd.R_drew)); exact (Kd.R_mono (Kd.R_far (p := ⟨gb614, 3, none⟩) (Kd.R_far (p := ⟨gb614, 2, none⟩) (Kd.R_far (p := ⟨gb614, 1, none⟩) (Kd.R_far (p := ⟨gb614, 0, none⟩) (Kd.R_types HO613.out BK614.out (by decide)) (fun _ hk => hk.2) (.int .i64 t606)) (fun _ hk => hk.2) (.int .i64 t607)) (fun _ hk => hk.2) (.slice Ao96 t608.length co96)) (fun _ hk => hk.2) (.slice Ao97 t611.length co97)) (fun _ h_ => h_.1))) hb); have n8_ := Aside0.mk (blk_below (g := gb576) (o := .cells #[.int .i64 a0_0, .int .i64 a0_1, .slice A0_2 l0_2.length c0_2, .slice A0_3 l0_3.length c0_3] 45 (0, 0)) (by (with_reducible repeat (first | refine blk_drewN ?_ _ | refine blk_drew ?_ | refine blk_alloc ?_ _)); refine blk_far ?_ NB576_614.out _; (with_reducible repeat (first | refine blk_drewN ?_ _ | refine blk_drew ?_ | refine blk_alloc ?_ _)); refine blk_far ?_ NB576_614.out _; (with_reducible repeat (first | refine blk_drewN ?_ _ | refine blk_drew ?_ | refine blk_alloc ?_ _)); refine blk_far ?_ NB576_614.out _; (with_reducible repeat (first | refine blk_drewN ?_ _ | refine blk_drew ?_ | refine blk_alloc ?_ _)); refine blk_far ?_ NB576_614.out _; (with_reducible repeat (first | refine blk_drewN ?_ _ | refine blk_drew ?_ | refine blk_alloc ?_ _)); exact BK576.out) hb); have n9_ := Aside0.mk (blk_below (g := gb577) (o := .cells #[.int .i64 a1_0, .int .i64 a1_1, .slice A1_2 l1_2.length c1_2, .slice A1_3 l1_3.length c1_3] 45 (0, 0)) (by (with_reducible repeat (first | refine blk_drewN ?_ _ | refine blk_drew ?_ | refine blk_alloc ?_ _)); refine blk_far ?_ NB577_614.out _; (with_reducible repeat (first | refine blk_drewN ?_ _ | refine blk_drew ?_ | refine blk_alloc ?_ _)); refine blk_far ?_ NB577_614.out _; (with_reducible repeat (first | refine blk_drewN ?_ _ | refine blk_drew ?_ | refine blk_alloc ?_ _)); refine blk_far ?_ NB577_614.out _; (with_reducible repeat (first | refine blk_drewN ?_ _ | refine blk_drew ?_ | refine blk_alloc ?_ _)); refine blk_far ?_ NB577_614.out _; (with_reducible repeat (first | refine blk_drewN ?_ _ | refine blk_drew ?_ | refine blk_alloc ?_ _)); exact BK577.out) hb); have n10_ := Aside0.mk (blk_below (g := gb605) (o := .cells #[.int .i64 t597, .int .i64 t598, .slice Ao87 t599.length co87, .slice Ao88 t602.length co88] 50 (0, 0)) (by (with_reducible repeat (first | refine blk_drewN ?_ _ | refine blk_drew ?_ | refine blk_alloc ?_ _)); refine blk_far ?_ NB605_614.out _; (with_reducible repeat (first | refine blk_drewN ?_ _ | refine blk_drew ?_ | refine blk_alloc ?_ _)); refine blk_far ?_ NB605_614.out _; (with_reducible repeat (first | refine blk_drewN ?_ _ | refine blk_drew ?_ | refine blk_alloc ?_ _)); refine blk_far ?_ NB605_614.out _; (with_reducible repeat (first | refine blk_drewN ?_ _ | refine blk_drew ?_ | refine blk_alloc ?_ _)); refine blk_far ?_ NB605_614.out _; (with_reducible repeat (first | refine blk_drewN ?_ _ | refine blk_drew ?_ | refine blk_alloc ?_ _)); exact BK605.out) hb); have n11_ := Aside0.mk (blk_below (g := gb614) (o := .cells #[.int .i64 t606, .int .i64 t607, .slice Ao96 t608.length co96, .slice Ao97 t611.length co97] 50 (0, 0)) (by (with_reducible repeat (first | refine blk_drewN ?_ _ | refine blk_drew ?_ | refine blk_alloc ?_ _)); refine blk_put (cs := #[.int .i64 t606, .int .i64 t607, .slice Ao96 t608.length co96, .slice none 0 0]) ?_ 3 _ rfl; (with_reducible repeat (first | refine blk_drewN ?_ _ | refine blk_drew ?_ | refine blk_alloc ?_ _)); refine blk_put (cs := #[.int .i64 t606, .int .i64 t607, .slice none 0 0, .slice none 0 0]) ?_ 2 _ rfl; (with_reducible repeat (first | refine blk_drewN ?_ _ | refine blk_drew ?_ | refine blk_alloc ?_ _)); refine blk_put (cs := #[.int .i64 t606, .int .i64 0, .slice none 0 0, .slice none 0 0]) ?_ 1 _ rfl; (with_reducible repeat (first | refine blk_drewN ?_ _ | refine blk_drew ?_ | refine blk_alloc ?_ _)); refine blk_put (cs := #[.int .i64 0, .int .i64 0, .slice none 0 0, .slice none 0 0]) ?_ 0 _ rfl; (with_reducible repeat (first | refine blk_drewN ?_ _ | refine blk_drew ?_ | refine blk_alloc ?_ _)); exact BK614.out) hb); have n12_ := Aside0.mk (below_step (by repeat (first | (with_reducible first | exact HB.out | apply below_alloc | apply pw_below_drewN | apply below_drew1 | refine below_set ?_ GE576.out | refine below_set ?_ GE577.out | refine below_set ?_ GE605.out | refine below_set ?_ GE614.out) | exact HB.out)) hb); clear HO584; clear HO587; clear HO592; clear HO595; clear HO601; clear HO604; clear HO610; clear HO613; clear BK576; clear BK577; clear BK605; clear BK614; clear HB; have HO584 := n0_; have HO587 := n1_; have HO592 := n2_; have HO595 := n3_; have HO601 := n4_; have HO604 := n5_; have HO610 := n6_; have HO613 := n7_; have BK576 := n8_; have BK577 := n9_; have BK605 := n10_; have BK614 := n11_; have HB := n12_; clear n0_ n1_ n2_ n3_ n4_ n5_ n6_ n7_ n8_ n9_ n10_ n11_ n12_; (try clear hb); (try clear hb2); (try clear hk); (try clear hi)))
            have n0_ := Aside0.mk (Kd.R_drew HO584.out)
            have n1_ := Aside0.mk (Kd.R_drew HO587.out)
            have n2_ := Aside0.mk (Kd.R_drew HO592.out)
            have n3_ := Aside0.mk (Kd.R_drew HO595.out)
            have n4_ := Aside0.mk (Kd.R_drew HO601.out)
            have n5_ := Aside0.mk (Kd.R_drew HO604.out)
            have n6_ := Aside0.mk (Kd.R_drew HO610.out)
            have n7_ := Aside0.mk (Kd.R_drew HO613.out)
            have n8_ := Aside0.mk (blk_drew BK576.out)
            have n9_ := Aside0.mk (blk_drew BK577.out)
            have n10_ := Aside0.mk (blk_drew BK605.out)
            have n11_ := Aside0.mk (blk_drew BK614.out)
            have n12_ := Aside0.mk (below_drew1 HB.out)
            clear HO584
            clear HO587
            clear HO592
            clear HO595
            clear HO601
            clear HO604
            clear HO610
            clear HO613
            clear BK576
            clear BK577
            clear BK605
            clear BK614
            clear HB
            have HO584 := n0_
            have HO587 := n1_
            have HO592 := n2_
            have HO595 := n3_
            have HO601 := n4_
            have HO604 := n5_
            have HO610 := n6_
            have HO613 := n7_
            have BK576 := n8_
            have BK577 := n9_
            have BK605 := n10_
            have BK614 := n11_
            have HB := n12_
            clear n0_ n1_ n2_ n3_ n4_ n5_ n6_ n7_ n8_ n9_ n10_ n11_ n12_
            refine start_ (n := 5) (S := fun w' => w'.cell? ⟨gb605, 0, none⟩ = some (.int .i64 t597) ∧ w'.cell? ⟨gb605, 1, none⟩ = some (.int .i64 t598) ∧ w'.cell? ⟨gb605, 2, none⟩ = some (.slice Ao87 t599.length co87) ∧ w'.cell? ⟨gb605, 3, none⟩ = some (.slice Ao88 t602.length co88) ∧ w'.cell? ⟨gb576, 0, none⟩ = some (.int .i64 a0_0) ∧ w'.cell? ⟨gb576, 1, none⟩ = some (.int .i64 a0_1) ∧ w'.cell? ⟨gb576, 2, none⟩ = some (.slice A0_2 l0_2.length c0_2) ∧ w'.cell? ⟨gb576, 3, none⟩ = some (.slice A0_3 l0_3.length c0_3)) (ds := []) #[false, false, false, false, false] (by kernel_rfl) rfl rfl ⟨(blk_cell BK605.out 0).trans rfl, (blk_cell BK605.out 1).trans rfl, (blk_cell BK605.out 2).trans rfl, (blk_cell BK605.out 3).trans rfl, (blk_cell BK576.out 0).trans rfl, (blk_cell BK576.out 1).trans rfl, (blk_cell BK576.out 2).trans rfl, (blk_cell BK576.out 3).trans rfl⟩ (fun hHeld => ?_)
            generalize w99.drew = w100 at HO584 HO587 HO592 HO595 HO601 HO604 HO610 HO613 BK576 BK577 BK605 BK614 HB hHeld ⊢
            refine take_ (i := 0) (N := some 35) (v := ?_) (a' := ?_) #[true, false, false, false, false] rfl rfl (by kernel_rfl) (fun _ _ _ h => h) (Or.inl ⟨by rfl, ?_⟩) hHeld ?_ ?_
            rotate_left
            · rintro w' ⟨s0, s1, s2, s3, s4, s5, s6, s7⟩
              go_simp
              with_reducible rfl
            rotate_left
            · simp only [Act.put, List.setIfInBounds_toArray, List.set_cons_zero, List.set_cons_succ, i64_w, i32_w]
              rfl
            refine take_ (i := 1) (N := some 36) (v := ?_) (a' := ?_) #[true, true, false, false, false] rfl rfl (by kernel_rfl) (fun _ _ _ h => h) (Or.inl ⟨by rfl, ?_⟩) hHeld ?_ ?_
            rotate_left
            · rintro w' ⟨s0, s1, s2, s3, s4, s5, s6, s7⟩
              go_simp
              with_reducible rfl
            rotate_left
            · simp only [Act.put, List.setIfInBounds_toArray, List.set_cons_zero, List.set_cons_succ, i64_w, i32_w]
              rfl
            refine one_ (i := 2) (N := some 37) #[true, true, true, false, false] rfl rfl (by kernel_rfl) (by decide) (fun K hK => ?_)
            refine goes_ Try.func43 (by kernel_rfl) rfl #[.agg #[.int .i64 a0_0, .int .i64 a0_1, .slice A0_2 l0_2.length c0_2, .slice A0_3 l0_3.length c0_3]] (by rfl) rfl rfl (by (try simp only [List.map_toArray, List.map_cons, List.map_nil]); first | done | rfl | (simp only [List.length_drop, List.length_take]; rfl)) ?_
            with_reducible refine (laws_toLog.calls k a0_0 a0_1 _ _ l0_2 _ _ l0_3 t616 t617 t618 t621 _ ?side1 ?side2 ?side3 ?side4 A60.out).mono ?_
            (case side1 => repeat (first | exact (Kd.C_below HR0_2.out HB.out) | (with_reducible refine Kd.C_alloc ?_ _) | (with_reducible refine Kd.C_drewN ?_ _) | (with_reducible refine Kd.C_drew ?_)))
            (case side2 => exact HC0_2.out)
            (case side3 => repeat (first | exact (Kd.C_below HR0_3.out HB.out) | (with_reducible refine Kd.C_alloc ?_ _) | (with_reducible refine Kd.C_drewN ?_ _) | (with_reducible refine Kd.C_drew ?_)))
            (case side4 => exact HC0_3.out)
            rintro e w101 ⟨v619, v622, rfl, ho0, ho1, hb⟩
            refine ⟨_, rfl, ?_⟩
            have n0_ := Aside0.mk (Kd.R_elder' (by (with_reducible repeat (first | apply Kd.R_alloc | apply Kd.R_drewN | apply Kd.R_drew)); exact HO584.out) (Kd.R_base ho0) hb)
            have n1_ := Aside0.mk (Kd.R_elder' (by (with_reducible repeat (first | apply Kd.R_alloc | apply Kd.R_drewN | apply Kd.R_drew)); exact HO587.out) (Kd.R_base ho1) hb)
            have n2_ := Aside0.mk (Kd.R_elder' (by (with_reducible repeat (first | apply Kd.R_alloc | apply Kd.R_drewN | apply Kd.R_drew)); exact HO592.out) (Kd.R_base ho0) hb)
            have n3_ := Aside0.mk (Kd.R_elder' (by (with_reducible repeat (first | apply Kd.R_alloc | apply Kd.R_drewN | apply Kd.R_drew)); exact HO595.out) (Kd.R_base ho1) hb)
            have n4_ := Aside0.mk (Kd.R_elder' (by (with_reducible repeat (first | apply Kd.R_alloc | apply Kd.R_drewN | apply Kd.R_drew)); exact HO601.out) (Kd.R_base ho0) hb)
            have n5_ := Aside0.mk (Kd.R_elder' (by (with_reducible repeat (first | apply Kd.R_alloc | apply Kd.R_drewN | apply Kd.R_drew)); exact HO604.out) (Kd.R_base ho1) hb)
            have n6_ := Aside0.mk (Kd.R_elder' (by (with_reducible repeat (first | apply Kd.R_alloc | apply Kd.R_drewN | apply Kd.R_drew)); exact HO610.out) (Kd.R_base ho0) hb)
            have n7_ := Aside0.mk (Kd.R_elder' (by (with_reducible repeat (first | apply Kd.R_alloc | apply Kd.R_drewN | apply Kd.R_drew)); exact HO613.out) (Kd.R_base ho1) hb)
            have n8_ := Aside0.mk (Kd.R_lower (Kd.R_new' (Kd.R_new' (Kd.R_new' (Kd.R_new' ho0 (Kd.R_lt (by (with_reducible repeat (first | apply Kd.R_alloc | apply Kd.R_drewN | apply Kd.R_drew)); exact HO584.out))) (Kd.R_lt (by (with_reducible repeat (first | apply Kd.R_alloc | apply Kd.R_drewN | apply Kd.R_drew)); exact HO592.out))) (Kd.R_lt (by (with_reducible repeat (first | apply Kd.R_alloc | apply Kd.R_drewN | apply Kd.R_drew)); exact HO601.out))) (Kd.R_lt (by (with_reducible repeat (first | apply Kd.R_alloc | apply Kd.R_drewN | apply Kd.R_drew)); exact HO610.out))) (below_size (by repeat (first | (with_reducible first | exact HB.out | apply below_alloc | apply pw_below_drewN | apply below_drew1 | refine below_set ?_ GE576.out | refine below_set ?_ GE577.out | refine below_set ?_ GE605.out | refine below_set ?_ GE614.out) | exact HB.out))))
            have n9_ := Aside0.mk (Kd.R_lower (Kd.R_new' (Kd.R_new' (Kd.R_new' (Kd.R_new' ho1 (Kd.R_lt (by (with_reducible repeat (first | apply Kd.R_alloc | apply Kd.R_drewN | apply Kd.R_drew)); exact HO587.out))) (Kd.R_lt (by (with_reducible repeat (first | apply Kd.R_alloc | apply Kd.R_drewN | apply Kd.R_drew)); exact HO595.out))) (Kd.R_lt (by (with_reducible repeat (first | apply Kd.R_alloc | apply Kd.R_drewN | apply Kd.R_drew)); exact HO604.out))) (Kd.R_lt (by (with_reducible repeat (first | apply Kd.R_alloc | apply Kd.R_drewN | apply Kd.R_drew)); exact HO613.out))) (below_size (by repeat (first | (with_reducible first | exact HB.out | apply below_alloc | apply pw_below_drewN | apply below_drew1 | refine below_set ?_ GE576.out | refine below_set ?_ GE577.out | refine below_set ?_ GE605.out | refine below_set ?_ GE614.out) | exact HB.out))))
            have n10_ := Aside0.mk (blk_below (g := gb576) (o := .cells #[.int .i64 a0_0, .int .i64 a0_1, .slice A0_2 l0_2.length c0_2, .slice A0_3 l0_3.length c0_3] 45 (0, 0)) (by (with_reducible repeat (first | refine blk_drewN ?_ _ | refine blk_drew ?_ | refine blk_alloc ?_ _)); exact BK576.out) hb)
            have n11_ := Aside0.mk (blk_below (g := gb577) (o := .cells #[.int .i64 a1_0, .int .i64 a1_1, .slice A1_2 l1_2.length c1_2, .slice A1_3 l1_3.length c1_3] 45 (0, 0)) (by (with_reducible repeat (first | refine blk_drewN ?_ _ | refine blk_drew ?_ | refine blk_alloc ?_ _)); exact BK577.out) hb)
            have n12_ := Aside0.mk (blk_below (g := gb605) (o := .cells #[.int .i64 t597, .int .i64 t598, .slice Ao87 t599.length co87, .slice Ao88 t602.length co88] 50 (0, 0)) (by (with_reducible repeat (first | refine blk_drewN ?_ _ | refine blk_drew ?_ | refine blk_alloc ?_ _)); exact BK605.out) hb)
            have n13_ := Aside0.mk (blk_below (g := gb614) (o := .cells #[.int .i64 t606, .int .i64 t607, .slice Ao96 t608.length co96, .slice Ao97 t611.length co97] 50 (0, 0)) (by (with_reducible repeat (first | refine blk_drewN ?_ _ | refine blk_drew ?_ | refine blk_alloc ?_ _)); exact BK614.out) hb)
            have n14_ := Aside0.mk (below_step (by repeat (first | (with_reducible first | exact HB.out | apply below_alloc | apply pw_below_drewN | apply below_drew1 | refine below_set ?_ GE576.out | refine below_set ?_ GE577.out | refine below_set ?_ GE605.out | refine below_set ?_ GE614.out) | exact HB.out)) hb)
            clear HO584
            clear HO587
            clear HO592
            clear HO595
            clear HO601
            clear HO604
            clear HO610
            clear HO613
            clear BK576
            clear BK577
            clear BK605
            clear BK614
            clear HB
            have HO584 := n0_
            have HO587 := n1_
            have HO592 := n2_
            have HO595 := n3_
            have HO601 := n4_
            have HO604 := n5_
            have HO610 := n6_
            have HO613 := n7_
            have HO620 := n8_
            have HO623 := n9_
            have BK576 := n10_
            have BK577 := n11_
            have BK605 := n12_
            have BK614 := n13_
            have HB := n14_
            clear n0_ n1_ n2_ n3_ n4_ n5_ n6_ n7_ n8_ n9_ n10_ n11_ n12_ n13_ n14_
            (try clear hb)
            (try clear hb2)
            (try clear hk)
            (try clear hi)
            (try clear ho0)
            (try clear ho1)
            obtain ⟨Ao102, co102, eo102⟩ := Kd.R_slice HO620.out
            (first | subst eo102 | (injection eo102 with f1_ f2_ f3_; have f4_ := f1_.symm; have f5_ := f3_.symm; clear f1_ f2_ f3_; subst f4_; subst f5_))
            obtain ⟨Ao103, co103, eo103⟩ := Kd.R_slice HO623.out
            (first | subst eo103 | (injection eo103 with f1_ f2_ f3_; have f4_ := f1_.symm; have f5_ := f3_.symm; clear f1_ f2_ f3_; subst f4_; subst f5_))
            refine hK.out _ _ ⟨(blk_cell BK605.out 0).trans rfl, (blk_cell BK605.out 1).trans rfl, (blk_cell BK605.out 2).trans rfl, (blk_cell BK605.out 3).trans rfl, (blk_cell BK576.out 0).trans rfl, (blk_cell BK576.out 1).trans rfl, (blk_cell BK576.out 2).trans rfl, (blk_cell BK576.out 3).trans rfl⟩ (fun hHeld => ?_)
            clear hK K
            refine norm_ (a' := ?_) ?_ ?_
            rotate_left
            · show Act.put _ (some 37) _ = _
              simp only [Act.put, List.setIfInBounds_toArray, List.set_cons_zero, List.set_cons_succ, i64_w, i32_w]
              rfl
            refine one_ (i := 3) (N := some 38) #[true, true, true, true, false] rfl rfl (by kernel_rfl) (by decide) (fun K hK => ?_)
            refine goes_ Try.func45 (by kernel_rfl) rfl #[.agg #[.int .i64 t597, .int .i64 t598, .slice Ao87 t599.length co87, .slice Ao88 t602.length co88], .agg #[.int .i64 t616, .int .i64 t617, .slice Ao102 t618.length co102, .slice Ao103 t621.length co103]] (by rfl) rfl rfl (by (try simp only [List.map_toArray, List.map_cons, List.map_nil]); first | done | rfl | (simp only [List.length_drop, List.length_take]; rfl)) ?_
            with_reducible refine (laws_eqLog.calls k t597 t598 _ _ t599 _ _ t602 t616 t617 _ _ t618 _ _ t621 true _ ?side1 ?side2 ?side3 ?side4 ?side5 ?side6 ?side7 ?side8 A61.out).mono ?_
            (case side1 => repeat (first | exact (Kd.R_reads' HO601.out).2.2 | (with_reducible refine Kd.C_alloc ?_ _) | (with_reducible refine Kd.C_drewN ?_ _) | (with_reducible refine Kd.C_drew ?_)))
            (case side2 => exact (Kd.R_reads' HO601.out).2.1)
            (case side3 => repeat (first | exact (Kd.R_reads' HO604.out).2.2 | (with_reducible refine Kd.C_alloc ?_ _) | (with_reducible refine Kd.C_drewN ?_ _) | (with_reducible refine Kd.C_drew ?_)))
            (case side4 => exact (Kd.R_reads' HO604.out).2.1)
            (case side5 => repeat (first | exact (Kd.R_reads' HO620.out).2.2 | (with_reducible refine Kd.C_alloc ?_ _) | (with_reducible refine Kd.C_drewN ?_ _) | (with_reducible refine Kd.C_drew ?_)))
            (case side6 => exact (Kd.R_reads' HO620.out).2.1)
            (case side7 => repeat (first | exact (Kd.R_reads' HO623.out).2.2 | (with_reducible refine Kd.C_alloc ?_ _) | (with_reducible refine Kd.C_drewN ?_ _) | (with_reducible refine Kd.C_drew ?_)))
            (case side8 => exact (Kd.R_reads' HO623.out).2.1)
            rintro e w104 ⟨rfl, hb⟩
            refine ⟨_, rfl, ?_⟩
            have n0_ := Aside0.mk (Kd.R_below (by (with_reducible repeat (first | apply Kd.R_alloc | apply Kd.R_drewN | apply Kd.R_drew)); exact HO584.out) hb)
            have n1_ := Aside0.mk (Kd.R_below (by (with_reducible repeat (first | apply Kd.R_alloc | apply Kd.R_drewN | apply Kd.R_drew)); exact HO587.out) hb)
            have n2_ := Aside0.mk (Kd.R_below (by (with_reducible repeat (first | apply Kd.R_alloc | apply Kd.R_drewN | apply Kd.R_drew)); exact HO592.out) hb)
            have n3_ := Aside0.mk (Kd.R_below (by (with_reducible repeat (first | apply Kd.R_alloc | apply Kd.R_drewN | apply Kd.R_drew)); exact HO595.out) hb)
            have n4_ := Aside0.mk (Kd.R_below (by (with_reducible repeat (first | apply Kd.R_alloc | apply Kd.R_drewN | apply Kd.R_drew)); exact HO601.out) hb)
            have n5_ := Aside0.mk (Kd.R_below (by (with_reducible repeat (first | apply Kd.R_alloc | apply Kd.R_drewN | apply Kd.R_drew)); exact HO604.out) hb)
            have n6_ := Aside0.mk (Kd.R_below (by (with_reducible repeat (first | apply Kd.R_alloc | apply Kd.R_drewN | apply Kd.R_drew)); exact HO610.out) hb)
            have n7_ := Aside0.mk (Kd.R_below (by (with_reducible repeat (first | apply Kd.R_alloc | apply Kd.R_drewN | apply Kd.R_drew)); exact HO613.out) hb)
            have n8_ := Aside0.mk (Kd.R_below (by (with_reducible repeat (first | apply Kd.R_alloc | apply Kd.R_drewN | apply Kd.R_drew)); exact HO620.out) hb)
            have n9_ := Aside0.mk (Kd.R_below (by (with_reducible repeat (first | apply Kd.R_alloc | apply Kd.R_drewN | apply Kd.R_drew)); exact HO623.out) hb)
            have n10_ := Aside0.mk (blk_below (g := gb576) (o := .cells #[.int .i64 a0_0, .int .i64 a0_1, .slice A0_2 l0_2.length c0_2, .slice A0_3 l0_3.length c0_3] 45 (0, 0)) (by (with_reducible repeat (first | refine blk_drewN ?_ _ | refine blk_drew ?_ | refine blk_alloc ?_ _)); exact BK576.out) hb)
            have n11_ := Aside0.mk (blk_below (g := gb577) (o := .cells #[.int .i64 a1_0, .int .i64 a1_1, .slice A1_2 l1_2.length c1_2, .slice A1_3 l1_3.length c1_3] 45 (0, 0)) (by (with_reducible repeat (first | refine blk_drewN ?_ _ | refine blk_drew ?_ | refine blk_alloc ?_ _)); exact BK577.out) hb)
            have n12_ := Aside0.mk (blk_below (g := gb605) (o := .cells #[.int .i64 t597, .int .i64 t598, .slice Ao87 t599.length co87, .slice Ao88 t602.length co88] 50 (0, 0)) (by (with_reducible repeat (first | refine blk_drewN ?_ _ | refine blk_drew ?_ | refine blk_alloc ?_ _)); exact BK605.out) hb)
            have n13_ := Aside0.mk (blk_below (g := gb614) (o := .cells #[.int .i64 t606, .int .i64 t607, .slice Ao96 t608.length co96, .slice Ao97 t611.length co97] 50 (0, 0)) (by (with_reducible repeat (first | refine blk_drewN ?_ _ | refine blk_drew ?_ | refine blk_alloc ?_ _)); exact BK614.out) hb)
            have n14_ := Aside0.mk (below_step (by repeat (first | (with_reducible first | exact HB.out | apply below_alloc | apply pw_below_drewN | apply below_drew1 | refine below_set ?_ GE576.out | refine below_set ?_ GE577.out | refine below_set ?_ GE605.out | refine below_set ?_ GE614.out) | exact HB.out)) hb)
            clear HO584
            clear HO587
            clear HO592
            clear HO595
            clear HO601
            clear HO604
            clear HO610
            clear HO613
            clear HO620
            clear HO623
            clear BK576
            clear BK577
            clear BK605
            clear BK614
            clear HB
            have HO584 := n0_
            have HO587 := n1_
            have HO592 := n2_
            have HO595 := n3_
            have HO601 := n4_
            have HO604 := n5_
            have HO610 := n6_
            have HO613 := n7_
            have HO620 := n8_
            have HO623 := n9_
            have BK576 := n10_
            have BK577 := n11_
            have BK605 := n12_
            have BK614 := n13_
            have HB := n14_
            clear n0_ n1_ n2_ n3_ n4_ n5_ n6_ n7_ n8_ n9_ n10_ n11_ n12_ n13_ n14_
            (try clear hb)
            (try clear hb2)
            (try clear hk)
            (try clear hi)
            refine hK.out _ _ ⟨(blk_cell BK605.out 0).trans rfl, (blk_cell BK605.out 1).trans rfl, (blk_cell BK605.out 2).trans rfl, (blk_cell BK605.out 3).trans rfl, (blk_cell BK576.out 0).trans rfl, (blk_cell BK576.out 1).trans rfl, (blk_cell BK576.out 2).trans rfl, (blk_cell BK576.out 3).trans rfl⟩ (fun hHeld => ?_)
            clear hK K
            refine norm_ (a' := ?_) ?_ ?_
            rotate_left
            · show Act.put _ (some 38) _ = _
              simp only [Act.put, List.setIfInBounds_toArray, List.set_cons_zero, List.set_cons_succ, i64_w, i32_w]
              rfl
            refine pure_ (i := 4) (N := some 39) (v := ?_) (a' := ?_) #[true, true, true, true, true] rfl rfl (by kernel_rfl) (fun _ _ _ h => h) (Or.inl ⟨by rfl, ?_⟩) ?_ ?_
            rotate_left
            · intro w'
              go_simp
              with_reducible rfl
            rotate_left
            · simp only [Act.put, List.setIfInBounds_toArray, List.set_cons_zero, List.set_cons_succ, i64_w, i32_w]
              rfl
            refine done_ (by kernel_rfl) ?_
            try go_wp2
            have n0_ := Aside0.mk (Kd.R_drew HO584.out)
            have n1_ := Aside0.mk (Kd.R_drew HO587.out)
            have n2_ := Aside0.mk (Kd.R_drew HO592.out)
            have n3_ := Aside0.mk (Kd.R_drew HO595.out)
            have n4_ := Aside0.mk (Kd.R_drew HO601.out)
            have n5_ := Aside0.mk (Kd.R_drew HO604.out)
            have n6_ := Aside0.mk (Kd.R_drew HO610.out)
            have n7_ := Aside0.mk (Kd.R_drew HO613.out)
            have n8_ := Aside0.mk (Kd.R_drew HO620.out)
            have n9_ := Aside0.mk (Kd.R_drew HO623.out)
            have n10_ := Aside0.mk (blk_drew BK576.out)
            have n11_ := Aside0.mk (blk_drew BK577.out)
            have n12_ := Aside0.mk (blk_drew BK605.out)
            have n13_ := Aside0.mk (blk_drew BK614.out)
            have n14_ := Aside0.mk (below_drew1 HB.out)
            clear HO584
            clear HO587
            clear HO592
            clear HO595
            clear HO601
            clear HO604
            clear HO610
            clear HO613
            clear HO620
            clear HO623
            clear BK576
            clear BK577
            clear BK605
            clear BK614
            clear HB
            have HO584 := n0_
            have HO587 := n1_
            have HO592 := n2_
            have HO595 := n3_
            have HO601 := n4_
            have HO604 := n5_
            have HO610 := n6_
            have HO613 := n7_
            have HO620 := n8_
            have HO623 := n9_
            have BK576 := n10_
            have BK577 := n11_
            have BK605 := n12_
            have BK614 := n13_
            have HB := n14_
            clear n0_ n1_ n2_ n3_ n4_ n5_ n6_ n7_ n8_ n9_ n10_ n11_ n12_ n13_ n14_
            refine start_ (n := 5) (S := fun w' => w'.cell? ⟨gb614, 0, none⟩ = some (.int .i64 t606) ∧ w'.cell? ⟨gb614, 1, none⟩ = some (.int .i64 t607) ∧ w'.cell? ⟨gb614, 2, none⟩ = some (.slice Ao96 t608.length co96) ∧ w'.cell? ⟨gb614, 3, none⟩ = some (.slice Ao97 t611.length co97) ∧ w'.cell? ⟨gb577, 0, none⟩ = some (.int .i64 a1_0) ∧ w'.cell? ⟨gb577, 1, none⟩ = some (.int .i64 a1_1) ∧ w'.cell? ⟨gb577, 2, none⟩ = some (.slice A1_2 l1_2.length c1_2) ∧ w'.cell? ⟨gb577, 3, none⟩ = some (.slice A1_3 l1_3.length c1_3)) (ds := []) #[false, false, false, false, false] (by kernel_rfl) rfl rfl ⟨(blk_cell BK614.out 0).trans rfl, (blk_cell BK614.out 1).trans rfl, (blk_cell BK614.out 2).trans rfl, (blk_cell BK614.out 3).trans rfl, (blk_cell BK577.out 0).trans rfl, (blk_cell BK577.out 1).trans rfl, (blk_cell BK577.out 2).trans rfl, (blk_cell BK577.out 3).trans rfl⟩ (fun hHeld => ?_)
            generalize w104.drew = w105 at HO584 HO587 HO592 HO595 HO601 HO604 HO610 HO613 HO620 HO623 BK576 BK577 BK605 BK614 HB hHeld ⊢
            refine take_ (i := 0) (N := some 40) (v := ?_) (a' := ?_) #[true, false, false, false, false] rfl rfl (by kernel_rfl) (fun _ _ _ h => h) (Or.inl ⟨by rfl, ?_⟩) hHeld ?_ ?_
            rotate_left
            · rintro w' ⟨s0, s1, s2, s3, s4, s5, s6, s7⟩
              go_simp
              with_reducible rfl
            rotate_left
            · simp only [Act.put, List.setIfInBounds_toArray, List.set_cons_zero, List.set_cons_succ, i64_w, i32_w]
              rfl
            refine take_ (i := 1) (N := some 41) (v := ?_) (a' := ?_) #[true, true, false, false, false] rfl rfl (by kernel_rfl) (fun _ _ _ h => h) (Or.inl ⟨by rfl, ?_⟩) hHeld ?_ ?_
            rotate_left
            · rintro w' ⟨s0, s1, s2, s3, s4, s5, s6, s7⟩
              go_simp
              with_reducible rfl
            rotate_left
            · simp only [Act.put, List.setIfInBounds_toArray, List.set_cons_zero, List.set_cons_succ, i64_w, i32_w]
              rfl
            refine one_ (i := 2) (N := some 42) #[true, true, true, false, false] rfl rfl (by kernel_rfl) (by decide) (fun K hK => ?_)
            refine goes_ Try.func43 (by kernel_rfl) rfl #[.agg #[.int .i64 a1_0, .int .i64 a1_1, .slice A1_2 l1_2.length c1_2, .slice A1_3 l1_3.length c1_3]] (by rfl) rfl rfl (by (try simp only [List.map_toArray, List.map_cons, List.map_nil]); first | done | rfl | (simp only [List.length_drop, List.length_take]; rfl)) ?_
            with_reducible refine (laws_toLog.calls k a1_0 a1_1 _ _ l1_2 _ _ l1_3 t625 t626 t627 t630 _ ?side1 ?side2 ?side3 ?side4 A63.out).mono ?_
            (case side1 => repeat (first | exact (Kd.C_below HR1_2.out HB.out) | (with_reducible refine Kd.C_alloc ?_ _) | (with_reducible refine Kd.C_drewN ?_ _) | (with_reducible refine Kd.C_drew ?_)))
            (case side2 => exact HC1_2.out)
            (case side3 => repeat (first | exact (Kd.C_below HR1_3.out HB.out) | (with_reducible refine Kd.C_alloc ?_ _) | (with_reducible refine Kd.C_drewN ?_ _) | (with_reducible refine Kd.C_drew ?_)))
            (case side4 => exact HC1_3.out)
            rintro e w106 ⟨v628, v631, rfl, ho0, ho1, hb⟩
            refine ⟨_, rfl, ?_⟩
            have n0_ := Aside0.mk (Kd.R_elder' (by (with_reducible repeat (first | apply Kd.R_alloc | apply Kd.R_drewN | apply Kd.R_drew)); exact HO584.out) (Kd.R_base ho0) hb)
            have n1_ := Aside0.mk (Kd.R_elder' (by (with_reducible repeat (first | apply Kd.R_alloc | apply Kd.R_drewN | apply Kd.R_drew)); exact HO587.out) (Kd.R_base ho1) hb)
            have n2_ := Aside0.mk (Kd.R_elder' (by (with_reducible repeat (first | apply Kd.R_alloc | apply Kd.R_drewN | apply Kd.R_drew)); exact HO592.out) (Kd.R_base ho0) hb)
            have n3_ := Aside0.mk (Kd.R_elder' (by (with_reducible repeat (first | apply Kd.R_alloc | apply Kd.R_drewN | apply Kd.R_drew)); exact HO595.out) (Kd.R_base ho1) hb)
            have n4_ := Aside0.mk (Kd.R_elder' (by (with_reducible repeat (first | apply Kd.R_alloc | apply Kd.R_drewN | apply Kd.R_drew)); exact HO601.out) (Kd.R_base ho0) hb)
            have n5_ := Aside0.mk (Kd.R_elder' (by (with_reducible repeat (first | apply Kd.R_alloc | apply Kd.R_drewN | apply Kd.R_drew)); exact HO604.out) (Kd.R_base ho1) hb)
            have n6_ := Aside0.mk (Kd.R_elder' (by (with_reducible repeat (first | apply Kd.R_alloc | apply Kd.R_drewN | apply Kd.R_drew)); exact HO610.out) (Kd.R_base ho0) hb)
            have n7_ := Aside0.mk (Kd.R_elder' (by (with_reducible repeat (first | apply Kd.R_alloc | apply Kd.R_drewN | apply Kd.R_drew)); exact HO613.out) (Kd.R_base ho1) hb)
            have n8_ := Aside0.mk (Kd.R_elder' (by (with_reducible repeat (first | apply Kd.R_alloc | apply Kd.R_drewN | apply Kd.R_drew)); exact HO620.out) (Kd.R_base ho0) hb)
            have n9_ := Aside0.mk (Kd.R_elder' (by (with_reducible repeat (first | apply Kd.R_alloc | apply Kd.R_drewN | apply Kd.R_drew)); exact HO623.out) (Kd.R_base ho1) hb)
            have n10_ := Aside0.mk (Kd.R_lower (Kd.R_new' (Kd.R_new' (Kd.R_new' (Kd.R_new' (Kd.R_new' ho0 (Kd.R_lt (by (with_reducible repeat (first | apply Kd.R_alloc | apply Kd.R_drewN | apply Kd.R_drew)); exact HO584.out))) (Kd.R_lt (by (with_reducible repeat (first | apply Kd.R_alloc | apply Kd.R_drewN | apply Kd.R_drew)); exact HO592.out))) (Kd.R_lt (by (with_reducible repeat (first | apply Kd.R_alloc | apply Kd.R_drewN | apply Kd.R_drew)); exact HO601.out))) (Kd.R_lt (by (with_reducible repeat (first | apply Kd.R_alloc | apply Kd.R_drewN | apply Kd.R_drew)); exact HO610.out))) (Kd.R_lt (by (with_reducible repeat (first | apply Kd.R_alloc | apply Kd.R_drewN | apply Kd.R_drew)); exact HO620.out))) (below_size (by repeat (first | (with_reducible first | exact HB.out | apply below_alloc | apply pw_below_drewN | apply below_drew1 | refine below_set ?_ GE576.out | refine below_set ?_ GE577.out | refine below_set ?_ GE605.out | refine below_set ?_ GE614.out) | exact HB.out))))
            have n11_ := Aside0.mk (Kd.R_lower (Kd.R_new' (Kd.R_new' (Kd.R_new' (Kd.R_new' (Kd.R_new' ho1 (Kd.R_lt (by (with_reducible repeat (first | apply Kd.R_alloc | apply Kd.R_drewN | apply Kd.R_drew)); exact HO587.out))) (Kd.R_lt (by (with_reducible repeat (first | apply Kd.R_alloc | apply Kd.R_drewN | apply Kd.R_drew)); exact HO595.out))) (Kd.R_lt (by (with_reducible repeat (first | apply Kd.R_alloc | apply Kd.R_drewN | apply Kd.R_drew)); exact HO604.out))) (Kd.R_lt (by (with_reducible repeat (first | apply Kd.R_alloc | apply Kd.R_drewN | apply Kd.R_drew)); exact HO613.out))) (Kd.R_lt (by (with_reducible repeat (first | apply Kd.R_alloc | apply Kd.R_drewN | apply Kd.R_drew)); exact HO623.out))) (below_size (by repeat (first | (with_reducible first | exact HB.out | apply below_alloc | apply pw_below_drewN | apply below_drew1 | refine below_set ?_ GE576.out | refine below_set ?_ GE577.out | refine below_set ?_ GE605.out | refine below_set ?_ GE614.out) | exact HB.out))))
            have n12_ := Aside0.mk (blk_below (g := gb576) (o := .cells #[.int .i64 a0_0, .int .i64 a0_1, .slice A0_2 l0_2.length c0_2, .slice A0_3 l0_3.length c0_3] 45 (0, 0)) (by (with_reducible repeat (first | refine blk_drewN ?_ _ | refine blk_drew ?_ | refine blk_alloc ?_ _)); exact BK576.out) hb)
            have n13_ := Aside0.mk (blk_below (g := gb577) (o := .cells #[.int .i64 a1_0, .int .i64 a1_1, .slice A1_2 l1_2.length c1_2, .slice A1_3 l1_3.length c1_3] 45 (0, 0)) (by (with_reducible repeat (first | refine blk_drewN ?_ _ | refine blk_drew ?_ | refine blk_alloc ?_ _)); exact BK577.out) hb)
            have n14_ := Aside0.mk (blk_below (g := gb605) (o := .cells #[.int .i64 t597, .int .i64 t598, .slice Ao87 t599.length co87, .slice Ao88 t602.length co88] 50 (0, 0)) (by (with_reducible repeat (first | refine blk_drewN ?_ _ | refine blk_drew ?_ | refine blk_alloc ?_ _)); exact BK605.out) hb)
            have n15_ := Aside0.mk (blk_below (g := gb614) (o := .cells #[.int .i64 t606, .int .i64 t607, .slice Ao96 t608.length co96, .slice Ao97 t611.length co97] 50 (0, 0)) (by (with_reducible repeat (first | refine blk_drewN ?_ _ | refine blk_drew ?_ | refine blk_alloc ?_ _)); exact BK614.out) hb)
            have n16_ := Aside0.mk (below_step (by repeat (first | (with_reducible first | exact HB.out | apply below_alloc | apply pw_below_drewN | apply below_drew1 | refine below_set ?_ GE576.out | refine below_set ?_ GE577.out | refine below_set ?_ GE605.out | refine below_set ?_ GE614.out) | exact HB.out)) hb)
            clear HO584
            clear HO587
            clear HO592
            clear HO595
            clear HO601
            clear HO604
            clear HO610
            clear HO613
            clear HO620
            clear HO623
            clear BK576
            clear BK577
            clear BK605
            clear BK614
            clear HB
            have HO584 := n0_
            have HO587 := n1_
            have HO592 := n2_
            have HO595 := n3_
            have HO601 := n4_
            have HO604 := n5_
            have HO610 := n6_
            have HO613 := n7_
            have HO620 := n8_
            have HO623 := n9_
            have HO629 := n10_
            have HO632 := n11_
            have BK576 := n12_
            have BK577 := n13_
            have BK605 := n14_
            have BK614 := n15_
            have HB := n16_
            clear n0_ n1_ n2_ n3_ n4_ n5_ n6_ n7_ n8_ n9_ n10_ n11_ n12_ n13_ n14_ n15_ n16_
            (try clear hb)
            (try clear hb2)
            (try clear hk)
            (try clear hi)
            (try clear ho0)
            (try clear ho1)
            obtain ⟨Ao107, co107, eo107⟩ := Kd.R_slice HO629.out
            (first | subst eo107 | (injection eo107 with f1_ f2_ f3_; have f4_ := f1_.symm; have f5_ := f3_.symm; clear f1_ f2_ f3_; subst f4_; subst f5_))
            obtain ⟨Ao108, co108, eo108⟩ := Kd.R_slice HO632.out
            (first | subst eo108 | (injection eo108 with f1_ f2_ f3_; have f4_ := f1_.symm; have f5_ := f3_.symm; clear f1_ f2_ f3_; subst f4_; subst f5_))
            refine hK.out _ _ ⟨(blk_cell BK614.out 0).trans rfl, (blk_cell BK614.out 1).trans rfl, (blk_cell BK614.out 2).trans rfl, (blk_cell BK614.out 3).trans rfl, (blk_cell BK577.out 0).trans rfl, (blk_cell BK577.out 1).trans rfl, (blk_cell BK577.out 2).trans rfl, (blk_cell BK577.out 3).trans rfl⟩ (fun hHeld => ?_)
            clear hK K
            refine norm_ (a' := ?_) ?_ ?_
            rotate_left
            · show Act.put _ (some 42) _ = _
              simp only [Act.put, List.setIfInBounds_toArray, List.set_cons_zero, List.set_cons_succ, i64_w, i32_w]
              rfl
            refine one_ (i := 3) (N := some 43) #[true, true, true, true, false] rfl rfl (by kernel_rfl) (by decide) (fun K hK => ?_)
            refine goes_ Try.func45 (by kernel_rfl) rfl #[.agg #[.int .i64 t606, .int .i64 t607, .slice Ao96 t608.length co96, .slice Ao97 t611.length co97], .agg #[.int .i64 t625, .int .i64 t626, .slice Ao107 t627.length co107, .slice Ao108 t630.length co108]] (by rfl) rfl rfl (by (try simp only [List.map_toArray, List.map_cons, List.map_nil]); first | done | rfl | (simp only [List.length_drop, List.length_take]; rfl)) ?_
            with_reducible refine (laws_eqLog.calls k t606 t607 _ _ t608 _ _ t611 t625 t626 _ _ t627 _ _ t630 true _ ?side1 ?side2 ?side3 ?side4 ?side5 ?side6 ?side7 ?side8 A64.out).mono ?_
            (case side1 => repeat (first | exact (Kd.R_reads' HO610.out).2.2 | (with_reducible refine Kd.C_alloc ?_ _) | (with_reducible refine Kd.C_drewN ?_ _) | (with_reducible refine Kd.C_drew ?_)))
            (case side2 => exact (Kd.R_reads' HO610.out).2.1)
            (case side3 => repeat (first | exact (Kd.R_reads' HO613.out).2.2 | (with_reducible refine Kd.C_alloc ?_ _) | (with_reducible refine Kd.C_drewN ?_ _) | (with_reducible refine Kd.C_drew ?_)))
            (case side4 => exact (Kd.R_reads' HO613.out).2.1)
            (case side5 => repeat (first | exact (Kd.R_reads' HO629.out).2.2 | (with_reducible refine Kd.C_alloc ?_ _) | (with_reducible refine Kd.C_drewN ?_ _) | (with_reducible refine Kd.C_drew ?_)))
            (case side6 => exact (Kd.R_reads' HO629.out).2.1)
            (case side7 => repeat (first | exact (Kd.R_reads' HO632.out).2.2 | (with_reducible refine Kd.C_alloc ?_ _) | (with_reducible refine Kd.C_drewN ?_ _) | (with_reducible refine Kd.C_drew ?_)))
            (case side8 => exact (Kd.R_reads' HO632.out).2.1)
            rintro e w109 ⟨rfl, hb⟩
            refine ⟨_, rfl, ?_⟩
            have n0_ := Aside0.mk (Kd.R_below (by (with_reducible repeat (first | apply Kd.R_alloc | apply Kd.R_drewN | apply Kd.R_drew)); exact HO584.out) hb)
            have n1_ := Aside0.mk (Kd.R_below (by (with_reducible repeat (first | apply Kd.R_alloc | apply Kd.R_drewN | apply Kd.R_drew)); exact HO587.out) hb)
            have n2_ := Aside0.mk (Kd.R_below (by (with_reducible repeat (first | apply Kd.R_alloc | apply Kd.R_drewN | apply Kd.R_drew)); exact HO592.out) hb)
            have n3_ := Aside0.mk (Kd.R_below (by (with_reducible repeat (first | apply Kd.R_alloc | apply Kd.R_drewN | apply Kd.R_drew)); exact HO595.out) hb)
            have n4_ := Aside0.mk (Kd.R_below (by (with_reducible repeat (first | apply Kd.R_alloc | apply Kd.R_drewN | apply Kd.R_drew)); exact HO601.out) hb)
            have n5_ := Aside0.mk (Kd.R_below (by (with_reducible repeat (first | apply Kd.R_alloc | apply Kd.R_drewN | apply Kd.R_drew)); exact HO604.out) hb)
            have n6_ := Aside0.mk (Kd.R_below (by (with_reducible repeat (first | apply Kd.R_alloc | apply Kd.R_drewN | apply Kd.R_drew)); exact HO610.out) hb)
            have n7_ := Aside0.mk (Kd.R_below (by (with_reducible repeat (first | apply Kd.R_alloc | apply Kd.R_drewN | apply Kd.R_drew)); exact HO613.out) hb)
            have n8_ := Aside0.mk (Kd.R_below (by (with_reducible repeat (first | apply Kd.R_alloc | apply Kd.R_drewN | apply Kd.R_drew)); exact HO620.out) hb)
            have n9_ := Aside0.mk (Kd.R_below (by (with_reducible repeat (first | apply Kd.R_alloc | apply Kd.R_drewN | apply Kd.R_drew)); exact HO623.out) hb)
            have n10_ := Aside0.mk (Kd.R_below (by (with_reducible repeat (first | apply Kd.R_alloc | apply Kd.R_drewN | apply Kd.R_drew)); exact HO629.out) hb)
            have n11_ := Aside0.mk (Kd.R_below (by (with_reducible repeat (first | apply Kd.R_alloc | apply Kd.R_drewN | apply Kd.R_drew)); exact HO632.out) hb)
            have n12_ := Aside0.mk (blk_below (g := gb576) (o := .cells #[.int .i64 a0_0, .int .i64 a0_1, .slice A0_2 l0_2.length c0_2, .slice A0_3 l0_3.length c0_3] 45 (0, 0)) (by (with_reducible repeat (first | refine blk_drewN ?_ _ | refine blk_drew ?_ | refine blk_alloc ?_ _)); exact BK576.out) hb)
            have n13_ := Aside0.mk (blk_below (g := gb577) (o := .cells #[.int .i64 a1_0, .int .i64 a1_1, .slice A1_2 l1_2.length c1_2, .slice A1_3 l1_3.length c1_3] 45 (0, 0)) (by (with_reducible repeat (first | refine blk_drewN ?_ _ | refine blk_drew ?_ | refine blk_alloc ?_ _)); exact BK577.out) hb)
            have n14_ := Aside0.mk (blk_below (g := gb605) (o := .cells #[.int .i64 t597, .int .i64 t598, .slice Ao87 t599.length co87, .slice Ao88 t602.length co88] 50 (0, 0)) (by (with_reducible repeat (first | refine blk_drewN ?_ _ | refine blk_drew ?_ | refine blk_alloc ?_ _)); exact BK605.out) hb)
            have n15_ := Aside0.mk (blk_below (g := gb614) (o := .cells #[.int .i64 t606, .int .i64 t607, .slice Ao96 t608.length co96, .slice Ao97 t611.length co97] 50 (0, 0)) (by (with_reducible repeat (first | refine blk_drewN ?_ _ | refine blk_drew ?_ | refine blk_alloc ?_ _)); exact BK614.out) hb)
            have n16_ := Aside0.mk (below_step (by repeat (first | (with_reducible first | exact HB.out | apply below_alloc | apply pw_below_drewN | apply below_drew1 | refine below_set ?_ GE576.out | refine below_set ?_ GE577.out | refine below_set ?_ GE605.out | refine below_set ?_ GE614.out) | exact HB.out)) hb)
            clear HO584
            clear HO587
            clear HO592
            clear HO595
            clear HO601
            clear HO604
            clear HO610
            clear HO613
            clear HO620
            clear HO623
            clear HO629
            clear HO632
            clear BK576
            clear BK577
            clear BK605
            clear BK614
            clear HB
            have HO584 := n0_
            have HO587 := n1_
            have HO592 := n2_
            have HO595 := n3_
            have HO601 := n4_
            have HO604 := n5_
            have HO610 := n6_
            have HO613 := n7_
            have HO620 := n8_
            have HO623 := n9_
            have HO629 := n10_
            have HO632 := n11_
            have BK576 := n12_
            have BK577 := n13_
            have BK605 := n14_
            have BK614 := n15_
            have HB := n16_
            clear n0_ n1_ n2_ n3_ n4_ n5_ n6_ n7_ n8_ n9_ n10_ n11_ n12_ n13_ n14_ n15_ n16_
            (try clear hb)
            (try clear hb2)
            (try clear hk)
            (try clear hi)
            refine hK.out _ _ ⟨(blk_cell BK614.out 0).trans rfl, (blk_cell BK614.out 1).trans rfl, (blk_cell BK614.out 2).trans rfl, (blk_cell BK614.out 3).trans rfl, (blk_cell BK577.out 0).trans rfl, (blk_cell BK577.out 1).trans rfl, (blk_cell BK577.out 2).trans rfl, (blk_cell BK577.out 3).trans rfl⟩ (fun hHeld => ?_)
            clear hK K
            refine norm_ (a' := ?_) ?_ ?_
            rotate_left
            · show Act.put _ (some 43) _ = _
              simp only [Act.put, List.setIfInBounds_toArray, List.set_cons_zero, List.set_cons_succ, i64_w, i32_w]
              rfl
            refine pure_ (i := 4) (N := some 44) (v := ?_) (a' := ?_) #[true, true, true, true, true] rfl rfl (by kernel_rfl) (fun _ _ _ h => h) (Or.inl ⟨by rfl, ?_⟩) ?_ ?_
            rotate_left
            · intro w'
              go_simp
              with_reducible rfl
            rotate_left
            · simp only [Act.put, List.setIfInBounds_toArray, List.set_cons_zero, List.set_cons_succ, i64_w, i32_w]
              rfl
            refine done_ (by kernel_rfl) ?_
            try go_wp2
            go_ret
            exact ⟨by first | rfl | (simp [errW_none, errW_some] <;> rfl) | (simp [*, errW_none, errW_some] <;> rfl), by repeat (first | (with_reducible first | exact HB.out | apply below_alloc | apply pw_below_drewN | apply below_drew1 | refine below_set ?_ GE576.out | refine below_set ?_ GE577.out | refine below_set ?_ GE605.out | refine below_set ?_ GE614.out) | exact HB.out)⟩
          · replace c65 := Bool.eq_false_iff.mpr c65
            subst c65
            have H1 : (none) = some r := by rw [if_neg (show ¬ (false = true) by decide)] at H; exact H
            clear H
            have H := H1
            clear H1
            cases H
        · replace c62 := Bool.eq_false_iff.mpr c62
          subst c62
          have H1 : (none) = some r := by rw [if_neg (show ¬ (false = true) by decide)] at H; exact H
          clear H
          have H := H1
          clear H1
          cases H
end Go.Proofs.Ytlaichooanflaaa.Q
namespace Go.Proofs.Ytlaichooanflaaa.Opened
open Go.ChangeShapes Go.WideShapes Go.Deep Go.RowKit Go.Proofs.YtlaichooanflaaaW.PrintWords
/-- Cells of type t that can be read as data are of kind d; and what is good of what they say. -/
def Opens (P : Program) (t : TypeId) {α : Type} (d : Kd α) (good : α → Prop) : Prop :=
  P.cellsOf t = d.sz ∧ ∀ (H : Type) (enc : TypeId × Value → H) (w : World) (base : Nat) (spare : Nat → Bool) (held : Bool) (fuel : Nat) (cs : List Value) (x : DataW H × List MemPlace),
    DataW.trod enc P w base spare held fuel t cs = some x → ∃ a, d.K w a cs ∧ good a
section
variable {P : Program} {t e : TypeId}
theorem opens_int {k : IntKind} (hu : P.underlying t = some (.int k)) (hc : P.cellsOf t = 1) : Opens P t (Kd.int k) (fun n => (Lit.int k n).wf = true) := by
  refine ⟨hc, fun H enc w base spare held fuel cs x h => ?_⟩
  cases fuel with
  | zero => simp [DataW.trod] at h
  | succ fuel =>
    unfold DataW.trod at h
    rw [hu] at h
    split at h
    all_goals first | (cases h; done) | skip
    all_goals try simp_all
    obtain ⟨⟨rfl, h1⟩, _⟩ := h
    exact ⟨_, rfl, h1⟩
theorem opens_string (hu : P.underlying t = some .string) (hc : P.cellsOf t = 1) : Opens P t Kd.string (fun s => s.size ≤ 9223372036854775807) := by
  refine ⟨hc, fun H enc w base spare held fuel cs x h => ?_⟩
  cases fuel with
  | zero => simp [DataW.trod] at h
  | succ fuel =>
    unfold DataW.trod at h
    rw [hu] at h
    split at h
    all_goals first | (cases h; done) | skip
    all_goals try simp_all
    obtain ⟨h1, _⟩ := h
    simp only [maxLen] at h1
    exact ⟨_, rfl, h1⟩
theorem opens_slice {α : Type} {d : Kd α} {good : α → Prop} {e' : Nat} (hu : P.underlying t = some (.slice e)) (hc : P.cellsOf t = 1) (he : Opens P e d good) : Opens P t (Kd.slice e' d) (fun l => l.length ≤ 9223372036854775807 ∧ ∀ a ∈ l, good a) := by
  refine ⟨hc, fun H enc w base spare held fuel cs x h => ?_⟩
  rcases open_slice hu h with ⟨rfl, _⟩ | ⟨a, len, cap, m, n, D, Pl, rfl, hb, hl, hm, hmm, _, hi⟩
  · exact ⟨[], ⟨none, 0, rfl, Nat.le_refl _, rfl, by simp, fun h0 => absurd h0 (by simp)⟩, by simp, by simp⟩
  · have hlm : len ≤ m := by
      rw [hmm]
      split <;> omega
    have key : ∀ i, i < len → ∃ y cs', w.cells? base (a.add (i * d.sz)) d.sz = some cs' ∧ d.K w y cs' ∧ good y := by
      intro i hil
      obtain ⟨cs', h1, h2⟩ := hi i (by omega)
      rw [he.1] at h1
      obtain ⟨y, hy, hg⟩ := he.2 _ _ _ _ _ _ _ _ _ h2
      exact ⟨y, cs', h1, hy, hg⟩
    clear hi
    have build : ∀ k, k ≤ len → ∃ l : List α, l.length = k ∧ (∀ y ∈ l, good y) ∧ ∀ j p, l[j]? = some p → ∃ c, c.length = d.sz ∧ d.K w p c ∧ ∀ i u, c[i]? = some u → w.cell? (a.add (j * d.sz + i)) = some u := by
      intro k
      induction k with
      | zero => intro _; exact ⟨[], rfl, by simp, fun j p hj => by simp at hj⟩
      | succ k ih =>
        intro hk
        obtain ⟨l, hlen, hgood, hcell⟩ := ih (by omega)
        obtain ⟨y, cs', h1, hy, hg⟩ := key k (by omega)
        refine ⟨l ++ [y], by simp [hlen], ?_, ?_⟩
        · intro z hz
          rcases List.mem_append.1 hz with hz | hz
          · exact hgood z hz
          · rw [List.mem_singleton.1 hz]; exact hg
        · intro j p hj
          by_cases hjk : j < k
          · rw [List.getElem?_append_left (by omega)] at hj
            exact hcell j p hj
          · have hjl : j = k := by
              have := (List.getElem?_eq_some_iff.1 hj).1
              simp [hlen] at this
              omega
            subst hjl
            rw [List.getElem?_append_right (by omega), hlen, Nat.sub_self] at hj
            obtain rfl : y = p := by simpa using hj
            obtain ⟨_, hcl, hat⟩ := World.cells?_some h1
            refine ⟨cs', hcl, hy, fun i u hu => ?_⟩
            have hil : i < d.sz := by rw [← hcl]; exact (List.getElem?_eq_some_iff.1 hu).1
            have := hat i hil
            rw [← Go.Deep.add_add, this, hu]
    obtain ⟨l, hlen, hgood, hcell⟩ := build len (Nat.le_refl _)
    have hmx : maxLen = 9223372036854775807 := rfl
    exact ⟨l, ⟨some a, cap, by rw [hlen], by omega, rfl, by omega, fun _ => ⟨a, rfl, hcell⟩⟩, by omega, hgood⟩
/-- Fields in line from an offset on. -/
def OpensF (P : Program) (fs : List Field) (off : Nat) {α : Type} (d : Kd α) (good : α → Prop) : Prop :=
  ∀ (H : Type) (enc : TypeId × Value → H) (w : World) (base : Nat) (spare : Nat → Bool) (held : Bool) (fuel : Nat) (cs : List Value),
    off + d.sz ≤ cs.length → (∀ f ∈ fs, ∃ x, DataW.trod enc P w base spare held fuel f.type ((cs.drop f.offset).take (P.cellsOf f.type)) = some x) → ∃ a, d.K w a ((cs.drop off).take d.sz) ∧ good a
theorem opensF_one {α : Type} {d : Kd α} {good : α → Prop} {f : Field} {off : Nat} (h : Opens P f.type d good) (ho : f.offset = off) : OpensF P [f] off d good := by
  intro H enc w base spare held fuel cs hl hf
  obtain ⟨x, hx⟩ := hf f List.mem_cons_self
  rw [ho, h.1] at hx
  exact h.2 _ _ _ _ _ _ _ _ _ hx
theorem opensF_cons {α β : Type} {d : Kd α} {d2 : Kd β} {good : α → Prop} {good2 : β → Prop} {f : Field} {fs : List Field} {off : Nat} (h : Opens P f.type d good) (ho : f.offset = off) (h2 : OpensF P fs (off + d.sz) d2 good2) :
    OpensF P (f :: fs) off (Kd.pair d d2) (fun x => good x.1 ∧ good2 x.2) := by
  intro H enc w base spare held fuel cs hl hf
  have hsz : (Kd.pair d d2).sz = d.sz + d2.sz := rfl
  rw [hsz] at hl ⊢
  obtain ⟨x, hx⟩ := hf f List.mem_cons_self
  rw [ho, h.1] at hx
  obtain ⟨a, ha, hg⟩ := h.2 _ _ _ _ _ _ _ _ _ hx
  obtain ⟨b, hb, hg2⟩ := h2 H enc w base spare held fuel cs (by omega) (fun f hf' => hf f (List.mem_cons_of_mem _ hf'))
  refine ⟨(a, b), ⟨_, _, ?_, ha, hb⟩, hg, hg2⟩
  rw [← List.drop_drop, List.take_add]
theorem opens_struct {α β : Type} {d : Kd α} {good : α → Prop} {fs : Array Field} (f : β → α) (g : α → β) (hfg : ∀ a, f (g a) = a) (hu : P.underlying t = some (.struct fs)) (hc : P.cellsOf t = d.sz) (h : OpensF P fs.toList 0 d good) : Opens P t (Kd.iso d f) (fun x => good (f x)) := by
  refine ⟨hc, fun H enc w base spare held fuel cs x hx => ?_⟩
  obtain ⟨xs, n, _, _, hl, hlen, hf⟩ := DataW.trod_struct hu hx
  have hall : ∀ f ∈ fs.toList, ∃ x, DataW.trod enc P w base spare held n f.type ((cs.drop f.offset).take (P.cellsOf f.type)) = some x := by
    intro f hm
    obtain ⟨j, hj, rfl⟩ := List.mem_iff_getElem.1 hm
    have hj' : j < fs.size := by simpa using hj
    have h1 := hf j (fs[j]) (Array.getElem?_eq_getElem hj')
    have hjx : j < xs.length := by omega
    rw [List.getElem?_eq_getElem hjx] at h1
    refine ⟨xs[j], ?_⟩
    have h2 : fs.toList[j] = fs[j] := by simp
    rw [h2]
    exact h1
  obtain ⟨a, ha, hg⟩ := h H enc w base spare held n cs (by omega) hall
  rw [List.drop_zero, List.take_of_length_le (by omega)] at ha
  exact ⟨g a, by show d.K w (f (g a)) cs; rw [hfg]; exact ha, by show good (f (g a)); rw [hfg]; exact hg⟩
end
/-- A whole argument. -/
theorem open_arg {H : Type} {enc : TypeId × Value → H} {P : Program} {t : TypeId} {α : Type} {d : Kd α} {good : α → Prop} (h : Opens P t d good) {w : World} {base : Nat} {spare : Nat → Bool} {held : Bool} {v : Value} {x : DataW H} {ps : List MemPlace}
    (hx : DataW.Trod enc P w base spare held t v x ps) : ∃ a, d.K w a v.cells.toList ∧ good a := by
  obtain ⟨fuel, hf⟩ := hx
  exact h.2 _ _ _ _ _ _ _ _ _ hf
end Go.Proofs.Ytlaichooanflaaa.Opened
namespace Go.Proofs.Ytlaichooanflaaa.Base
open Go.RowKit Go.Proofs.YtlaichooanflaaaW.PrintWords
theorem w64 {n : Int} (h0 : -9223372036854775808 ≤ n) (h1 : n ≤ 9223372036854775807) : wrap64 n = n := by unfold wrap64; omega
theorem w64s {n : Int} {b : Nat} (h0 : 0 ≤ n) (h1 : n < b) (hb : b ≤ 4611686018427387904) : wrap64 (n + 1) = n + 1 := w64 (by omega) (by omega)
section
variable {α β : Type} {g f : Nat → Option α} {r : α}
theorem Ev.pos {c : Prop} [Decidable c] (h : c) (k : Ev g r) : Ev (fun n => if c then g n else f n) r := by simpa only [if_pos h] using k
theorem Ev.neg {c : Prop} [Decidable c] (h : ¬ c) (k : Ev f r) : Ev (fun n => if c then g n else f n) r := by simpa only [if_neg h] using k
theorem Ev.ite {c : Prop} [Decidable c] (h : c → Ev g r) (k : ¬ c → Ev f r) : Ev (fun n => if c then g n else f n) r := by
  by_cases hc : c
  · exact Ev.pos hc (h hc)
  · exact Ev.neg hc (k hc)
theorem Ev.sbind {a : β} {f : Nat → β → Option α} (k : Ev (fun n => f n a) r) : Ev (fun n => (some a).bind (f n)) r := by simpa only [Option.bind_some] using k
end
/-- p holds at i, i + 1, .., n - 1. -/
def allOf (p : Nat → Bool) (i n : Nat) : Bool := (List.range' i (n - i)).all p
theorem allOf_end (p : Nat → Bool) (n : Nat) : allOf p n n = true := by simp [allOf]
theorem allOf_step (p : Nat → Bool) {i n : Nat} (h : i < n) : allOf p i n = (p i && allOf p (i + 1) n) := by
  unfold allOf
  rw [show n - i = (n - (i + 1)) + 1 by omega, List.range'_succ, List.all_cons]
theorem allOf_iff (p : Nat → Bool) (i n : Nat) : allOf p i n = true ↔ ∀ j, i ≤ j → j < n → p j = true := by
  unfold allOf
  rw [List.all_eq_true]
  constructor
  · intro h j h1 h2
    exact h j (by rw [List.mem_range'_1]; omega)
  · intro h j hj
    rw [List.mem_range'_1] at hj
    exact h j hj.1 (by omega)
/-- A loop that asks a test of each index, and ends with 'no' at the first that fails. -/
theorem scan {β : Type} (g : Nat → Int → Option β) (n : Nat) (p : Nat → Bool) (yes no : β)
    (hend : Ev (fun k => g k (n : Int)) yes)
    (hgo : ∀ i : Nat, i < n → p i = true → ∀ r, Ev (fun k => g k ((i : Int) + 1)) r → Ev (fun k => g k (i : Int)) r)
    (hno : ∀ i : Nat, i < n → p i = false → Ev (fun k => g k (i : Int)) no) :
    ∀ d i : Nat, n - i = d → i ≤ n → Ev (fun k => g k (i : Int)) (if allOf p i n = true then yes else no) := by
  intro d
  induction d with
  | zero =>
    intro i hd hi
    have : i = n := by omega
    subst this
    rw [allOf_end, if_pos rfl]
    exact hend
  | succ d ih =>
    intro i hd hi
    rw [allOf_step p (by omega)]
    cases hp : p i with
    | true =>
      rw [Bool.true_and]
      exact hgo i (by omega) hp _ (ih (i + 1) (by omega) (by omega))
    | false =>
      rw [Bool.false_and, if_neg (by decide)]
      exact hno i (by omega) hp
theorem scan0 {β : Type} (g : Nat → Int → Option β) (n : Nat) (p : Nat → Bool) (yes no : β)
    (hend : Ev (fun k => g k (n : Int)) yes)
    (hgo : ∀ i : Nat, i < n → p i = true → ∀ r, Ev (fun k => g k ((i : Int) + 1)) r → Ev (fun k => g k (i : Int)) r)
    (hno : ∀ i : Nat, i < n → p i = false → Ev (fun k => g k (i : Int)) no) :
    Ev (fun k => g k 0) (if allOf p 0 n = true then yes else no) := scan g n p yes no hend hgo hno n 0 rfl (Nat.zero_le _)
theorem Ev.cast {α : Type} {g : Nat → Option α} {r r' : α} (h : Ev g r) (e : r = r') : Ev g r' := e ▸ h
theorem bytes_inj {s t : ByteArray} : s.toList = t.toList ↔ s = t := by
  constructor
  · intro h
    rw [ByteArray.toList_eq, ByteArray.toList_eq] at h
    exact ByteArray.ext (by rw [← Array.toList_inj]; exact h)
  · intro h; rw [h]
/-- A proposition as a Bool. -/
noncomputable def tr (p : Prop) : Bool := @decide p (Classical.propDecidable p)
theorem tr_iff {p : Prop} : tr p = true ↔ p := by unfold tr; exact @decide_eq_true_iff p (Classical.propDecidable p)
theorem tr_t {p : Prop} (h : p) : tr p = true := tr_iff.2 h
theorem tr_f {p : Prop} (h : ¬ p) : tr p = false := by
  cases e : tr p with
  | true => exact absurd (tr_iff.1 e) h
  | false => rfl
theorem of_tr_f {p : Prop} (h : tr p = false) : ¬ p := fun k => by rw [tr_t k] at h; cases h
theorem tr_congr {p q : Prop} (h : p ↔ q) : tr p = tr q := by rw [Bool.eq_iff_iff, tr_iff, tr_iff, h]
/-- A loop that compares two lists of one length, element by element. -/
theorem eqLoop {α : Type} (g : Nat → Int → Option Bool) (a b : List α) (z : α) (hl : a.length = b.length)
    (hend : Ev (fun k => g k (a.length : Int)) true)
    (hgo : ∀ i : Nat, i < a.length → a.getD i z = b.getD i z → ∀ r, Ev (fun k => g k ((i : Int) + 1)) r → Ev (fun k => g k (i : Int)) r)
    (hno : ∀ i : Nat, i < a.length → a.getD i z ≠ b.getD i z → Ev (fun k => g k (i : Int)) false) :
    Ev (fun k => g k 0) (tr (a = b)) := by
  refine Ev.cast (scan0 g a.length (fun i => tr (a.getD i z = b.getD i z)) true false hend (fun i hi hp => hgo i hi (tr_iff.1 hp)) (fun i hi hp => hno i hi (of_tr_f hp))) ?_
  rw [Bool.eq_iff_iff, tr_iff]
  have : (∀ j, 0 ≤ j → j < a.length → tr (a.getD j z = b.getD j z) = true) ↔ a = b := by
    constructor
    · intro h
      apply List.ext_getElem hl
      intro i h1 h2
      have := tr_iff.1 (h i (Nat.zero_le _) h1)
      rwa [List.getD_eq_getElem?_getD, List.getD_eq_getElem?_getD, List.getElem?_eq_getElem h1, List.getElem?_eq_getElem h2] at this
    · rintro rfl j _ _
      exact tr_t rfl
  rw [← this, ← allOf_iff]
  split <;> simp_all
/-- A loop that fills a list made ahead of it. -/
theorem fillLoop {β : Type} (g : Nat → List β → Int → Option (List β)) (n : Nat) (F : Nat → β)
    (hend : ∀ out : List β, out.length = n → Ev (fun k => g k out (n : Int)) out)
    (hgo : ∀ (i : Nat) (out : List β), i < n → out.length = n → ∀ r, Ev (fun k => g k (out.set i (F i)) ((i : Int) + 1)) r → Ev (fun k => g k out (i : Int)) r) :
    ∀ d i : Nat, n - i = d → i ≤ n → ∀ out : List β, out.length = n → Ev (fun k => g k out (i : Int)) (out.take i ++ (List.range' i (n - i)).map F) := by
  intro d
  induction d with
  | zero =>
    intro i hd hi out ho
    have : i = n := by omega
    subst this
    rw [hd, List.take_of_length_le (by omega)]
    simpa using hend out ho
  | succ d ih =>
    intro i hd hi out ho
    have h := ih (i + 1) (by omega) (by omega) (out.set i (F i)) (by simpa using ho)
    refine Ev.cast (hgo i out (by omega) ho _ h) ?_
    rw [show n - i = (n - (i + 1)) + 1 by omega, List.range'_succ, List.map_cons, List.take_succ_eq_append_getElem (by rw [List.length_set]; omega)]
    simp [List.take_set_of_le]
theorem fill0 {β : Type} (g : Nat → List β → Int → Option (List β)) (n : Nat) (F : Nat → β) (out : List β) (ho : out.length = n)
    (hend : ∀ out : List β, out.length = n → Ev (fun k => g k out (n : Int)) out)
    (hgo : ∀ (i : Nat) (out : List β), i < n → out.length = n → ∀ r, Ev (fun k => g k (out.set i (F i)) ((i : Int) + 1)) r → Ev (fun k => g k out (i : Int)) r) :
    Ev (fun k => g k out 0) ((List.range n).map F) := by
  refine Ev.cast (fillLoop g n F hend hgo n 0 rfl (Nat.zero_le _) out ho) ?_
  simp [List.range_eq_range']
theorem map_range_get {α β : Type} (l : List α) (z : α) (f : α → β) : (List.range l.length).map (fun j => f (l.getD j z)) = l.map f := by
  apply List.ext_getElem (by simp)
  intro i h1 h2
  simp only [List.length_map, List.length_range] at h1
  simp [List.getD_eq_getElem?_getD, List.getElem?_eq_getElem h1]
/-- A loop that counts sizes down: it tells a negative number, or all it saw was small. -/
theorem sizeLoop (g : Nat → Int → Int → Option Int) (n : Nat) (P : Nat → Prop)
    (hend : ∀ a : Int, Ev (fun k => g k a (n : Int)) a)
    (step : ∀ (i : Nat) (a : Int), i < n → 0 ≤ a → a ≤ 1048576 → (Ev (fun k => g k a (i : Int)) (-1)) ∨ ∃ b, 0 ≤ b ∧ b ≤ a ∧ P i ∧ ∀ r, Ev (fun k => g k b ((i : Int) + 1)) r → Ev (fun k => g k a (i : Int)) r) :
    ∀ d i : Nat, n - i = d → i ≤ n → ∀ a : Int, 0 ≤ a → a ≤ 1048576 → ∃ r, Ev (fun k => g k a (i : Int)) r ∧ (0 ≤ r → r ≤ a ∧ ∀ j, i ≤ j → j < n → P j) := by
  intro d
  induction d with
  | zero =>
    intro i hd hi a h0 h1
    have : i = n := by omega
    subst this
    exact ⟨a, hend a, fun _ => ⟨Int.le_refl _, fun j h2 h3 => absurd h3 (by omega)⟩⟩
  | succ d ih =>
    intro i hd hi a h0 h1
    rcases step i a (by omega) h0 h1 with h | ⟨b, hb0, hb1, hP, hk⟩
    · exact ⟨-1, h, fun h => absurd h (by omega)⟩
    · obtain ⟨r, hr, hp⟩ := ih (i + 1) (by omega) (by omega) b hb0 (by omega)
      refine ⟨r, hk r hr, fun h => ⟨by have := (hp h).1; omega, fun j h2 h3 => ?_⟩⟩
      by_cases he : j = i
      · subst he; exact hP
      · exact (hp h).2 j (by omega) h3
end Go.Proofs.Ytlaichooanflaaa.Base
namespace Go.Proofs.Ytlaichooanflaaa.Ops
open Go.RowKit Go.Proofs.YtlaichooanflaaaW.PrintWords Go.Proofs.Ytlaichooanflaaa.Base Go.Proofs.Ytlaichooanflaaa.Q
def smallOp (x : S91) : Prop := x.f2.size ≤ 1048576 ∧ x.f4.size ≤ 1048576 ∧ x.f6.size ≤ 1048576
def cvOp (x : S91) : S73 := ⟨x.f0, x.f1, x.f2, x.f3, x.f4, x.f5, x.f6⟩
theorem size_step {a : Int} {s : Nat} (h0 : 0 ≤ a) (h1 : a ≤ 1048576) (hs : s ≤ 9223372036854775807) : wrap64 (a - (s : Int)) = a - s := w64 (by omega) (by omega)
theorem szOp (a0 a1 a3 a5 : Int) (s2 s4 s6 : ByteArray) (a : Int) (h0 : 0 ≤ a) (h1 : a ≤ 1048576) (z2 : s2.size ≤ 9223372036854775807) (z4 : s4.size ≤ 9223372036854775807) (z6 : s6.size ≤ 9223372036854775807) :
    ∃ r, laws_szOp.f a0 a1 s2 a3 s4 a5 s6 a = some r ∧ (r = -1 ∨ (0 ≤ r ∧ r ≤ a ∧ s2.size ≤ 1048576 ∧ s4.size ≤ 1048576 ∧ s6.size ≤ 1048576)) := by
  unfold laws_szOp.f
  rw [size_step h0 h1 z2]
  by_cases c2 : a - (s2.size : Int) < 0
  · rw [if_pos c2]; exact ⟨-1, rfl, .inl rfl⟩
  · rw [if_neg c2, size_step (a := a - (s2.size : Int)) (by omega) (by omega) z4]
    by_cases c4 : a - (s2.size : Int) - (s4.size : Int) < 0
    · rw [if_pos c4]; exact ⟨-1, rfl, .inl rfl⟩
    · rw [if_neg c4, size_step (a := a - (s2.size : Int) - (s4.size : Int)) (by omega) (by omega) z6]
      by_cases c6 : a - (s2.size : Int) - (s4.size : Int) - (s6.size : Int) < 0
      · rw [if_pos c6]; exact ⟨-1, rfl, .inl rfl⟩
      · rw [if_neg c6]
        exact ⟨_, rfl, .inr ⟨by omega, by omega, by omega, by omega, by omega⟩⟩
theorem szOpS (l : List S91) (hl : l.length ≤ 9223372036854775807) (hs : ∀ y ∈ l, y.f2.size ≤ 9223372036854775807 ∧ y.f4.size ≤ 9223372036854775807 ∧ y.f6.size ≤ 9223372036854775807) (a : Int) (h0 : 0 ≤ a) (h1 : a ≤ 1048576) :
    ∃ r, Ev (fun k => laws_szOpS.f k l a) r ∧ (0 ≤ r → r ≤ a ∧ l.length ≤ 1048576 ∧ ∀ x ∈ l, smallOp x) := by
  unfold laws_szOpS.f
  rw [size_step h0 h1 hl]
  by_cases c : a - (l.length : Int) < 0
  · exact ⟨-1, Ev.pos c (Ev.now _), fun h => absurd h (by omega)⟩
  · obtain ⟨r, hr, hp⟩ := sizeLoop (fun k a i => laws_szOpS.l0 k l a i) l.length (fun j => ∀ x, l[j]? = some x → smallOp x)
      (fun a => Ev.step (fun k => by rw [laws_szOpS.l0, if_neg (by omega)]) (Ev.now _))
      (fun i a hi h0 h1 => by
        have hx : l[i] ∈ l := List.getElem_mem hi
        have e : rd_T91 l (i : Int) = l[i] := by simp [rd_T91, List.getD_eq_getElem?_getD, List.getElem?_eq_getElem hi]
        obtain ⟨z2, z4, z6⟩ := hs _ hx
        obtain ⟨r, hr, hp⟩ := szOp l[i].f0 l[i].f1 l[i].f3 l[i].f5 l[i].f2 l[i].f4 l[i].f6 a h0 h1 z2 z4 z6
        have hstep : ∀ k, laws_szOpS.l0 (k + 1) l a (i : Int) = if r < 0 then some (-1) else laws_szOpS.l0 k l r ((i : Int) + 1) := by
          intro k
          rw [laws_szOpS.l0, if_pos (by omega), if_pos (by omega), e, hr, w64s (b := 4611686018427387904) (by omega) (by omega) (by omega)]
          rfl
        rcases hp with rfl | ⟨p0, p1, p2⟩
        · left
          exact Ev.step (f := fun _ => some (-1)) (fun k => by rw [hstep, if_pos (by decide)]) (Ev.now _)
        · right
          refine ⟨r, p0, p1, ?_, fun q hq => Ev.step (fun k => by rw [hstep, if_neg (by omega)]) hq⟩
          intro x hx'
          rw [List.getElem?_eq_getElem hi] at hx'
          injection hx' with hx'
          rw [← hx']
          exact p2)
      l.length 0 rfl (Nat.zero_le _) (a - (l.length : Int)) (by omega) (by omega)
    refine ⟨r, Ev.neg c hr, fun h => ⟨by have := (hp h).1; omega, by omega, fun x hx => ?_⟩⟩
    obtain ⟨j, hj, rfl⟩ := List.mem_iff_getElem.1 hx
    exact (hp h).2 j (Nat.zero_le _) hj _ (List.getElem?_eq_getElem hj)
theorem toOpS (l : List S91) (hl : l.length ≤ 1048576) : Ev (fun k => laws_toOpS.f k l) (l.map cvOp) := by
  unfold laws_toOpS.f
  refine Ev.pos (by omega) (Ev.pos (by omega) ?_)
  refine Ev.cast (fill0 (fun k out i => laws_toOpS.l0 k l out i) l.length (fun j => cvOp (l.getD j z91)) _ (by simp) ?_ ?_) (map_range_get l _ _)
  · intro out _
    exact Ev.step (fun k => by rw [laws_toOpS.l0, if_neg (by omega)]) (Ev.now _)
  · intro i out hi ho r hr
    refine Ev.step (fun k => ?_) hr
    rw [laws_toOpS.l0, if_pos (by omega), if_pos (by omega), w64s (b := l.length) (by omega) (by omega) (by omega)]
    unfold laws_toOp.f
    simp only [Option.bind_some]
    rw [if_pos (by omega)]
    rfl
theorem op_ext (x y : S73) : (x.f0 = y.f0 ∧ x.f1 = y.f1 ∧ x.f2.toList = y.f2.toList ∧ x.f3 = y.f3 ∧ x.f4.toList = y.f4.toList ∧ x.f5 = y.f5 ∧ x.f6.toList = y.f6.toList) ↔ x = y := by
  simp only [bytes_inj]
  constructor
  · rintro ⟨h0, h1, h2, h3, h4, h5, h6⟩
    cases x; cases y
    simp_all
  · rintro rfl
    simp
theorem op_ne (x y : S73) : (!(x.f0 == y.f0) || (!(x.f1 == y.f1) || (!(x.f2.toList == y.f2.toList) || (!(x.f3 == y.f3) || (!(x.f4.toList == y.f4.toList) || (!(x.f5 == y.f5) || !(x.f6.toList == y.f6.toList))))))) = true ↔ x ≠ y := by
  rw [Ne, ← op_ext]
  simp only [Bool.or_eq_true, Bool.not_eq_true', beq_eq_false_iff_ne, ne_eq]
  grind
theorem eqOp_is (x y : S73) : laws_eqOp.f x.f0 x.f1 x.f2 x.f3 x.f4 x.f5 x.f6 y.f0 y.f1 y.f2 y.f3 y.f4 y.f5 y.f6 = some (tr (x = y)) := by
  have h := op_ext x y
  unfold laws_eqOp.f
  repeat' split
  all_goals (congr 1; symm)
  all_goals first | (rw [tr_iff, ← h]; grind) | (apply tr_f; rw [← h]; grind)
theorem eqOpS (a b : List S73) (hl : a.length ≤ 4611686018427387903) : Ev (fun k => laws_eqOpS.f k a b) (tr (a = b)) := by
  unfold laws_eqOpS.f
  by_cases c : (a.length : Int) = (b.length : Int)
  · refine Ev.pos c (eqLoop (fun k i => laws_eqOpS.l0 k a b i) a b z73 (by omega) ?_ ?_ ?_)
    · exact Ev.step (fun k => by rw [laws_eqOpS.l0, if_neg (by omega)]) (Ev.now _)
    · intro i hi he r hr
      refine Ev.step (fun k => ?_) hr
      have he' : rd_T73 a i = rd_T73 b i := by simpa [rd_T73] using he
      rw [laws_eqOpS.l0, if_pos (by omega), if_pos (by omega), if_pos (by omega), eqOp_is, Option.bind_some, if_pos (tr_t he'), w64s (b := a.length) (by omega) (by omega) (by omega)]
    · intro i hi he
      refine Ev.step (f := fun _ => some false) (fun k => ?_) (Ev.now _)
      have he' : rd_T73 a i ≠ rd_T73 b i := by simpa [rd_T73] using he
      rw [laws_eqOpS.l0, if_pos (by omega), if_pos (by omega), if_pos (by omega), eqOp_is, Option.bind_some, if_neg (fun h => he' (tr_iff.1 h))]
  · refine Ev.neg c (Ev.cast (Ev.now false) ?_)
    symm
    apply tr_f
    rintro rfl
    exact c rfl
end Go.Proofs.Ytlaichooanflaaa.Ops
namespace Go.Proofs.Ytlaichooanflaaa.Ops
open Go.RowKit Go.Proofs.YtlaichooanflaaaW.PrintWords Go.Proofs.Ytlaichooanflaaa.Base Go.Proofs.Ytlaichooanflaaa.Q
theorem impl_ops (a b : List S73) (hl : a.length ≤ 4611686018427387903) : Ev (fun k => impl_Op_100.f k a b) (tr (a = b)) := by
  unfold impl_Op_100.f
  by_cases c : (a.length : Int) = (b.length : Int)
  · refine Ev.pos c (eqLoop (fun k i => impl_Op_100.l0 k a b (a.length : Int) i) a b z73 (by omega) ?_ ?_ ?_)
    · exact Ev.step (fun k => by rw [impl_Op_100.l0, if_neg (by omega)]) (Ev.now _)
    · intro i hi he r hr
      refine Ev.step (fun k => ?_) hr
      rw [impl_Op_100.l0, if_pos (by omega), if_pos (by omega), if_pos (by omega), if_pos (by omega), if_neg (fun h => (op_ne _ _).1 h (by simpa [rd_T73] using he)), w64s (b := a.length) (by omega) (by omega) (by omega)]
    · intro i hi he
      refine Ev.step (f := fun _ => some false) (fun k => ?_) (Ev.now _)
      rw [impl_Op_100.l0, if_pos (by omega), if_pos (by omega), if_pos (by omega), if_pos (by omega), if_pos ((op_ne _ _).2 (by simpa [rd_T73] using he))]
  · refine Ev.neg c (Ev.cast (Ev.now false) ?_)
    symm
    apply tr_f
    rintro rfl
    exact c rfl
theorem spec_same (a b : List S73) (hl : a.length ≤ 4611686018427387903) : Ev (fun k => spec_OpSame.f k a b) (tr (a = b)) := by
  unfold spec_OpSame.f
  by_cases c : (a.length : Int) = (b.length : Int)
  · refine Ev.pos c (eqLoop (fun k i => spec_OpSame.l0 k a b i) a b z73 (by omega) ?_ ?_ ?_)
    · exact Ev.step (fun k => by rw [spec_OpSame.l0, if_neg (by omega)]) (Ev.now _)
    · intro i hi he r hr
      refine Ev.step (fun k => ?_) hr
      rw [spec_OpSame.l0, if_pos (by omega), if_pos (by omega), if_pos (by omega), if_neg (fun h => (op_ne _ _).1 h (by simpa [rd_T73] using he)), w64s (b := a.length) (by omega) (by omega) (by omega)]
    · intro i hi he
      refine Ev.step (f := fun _ => some false) (fun k => ?_) (Ev.now _)
      rw [spec_OpSame.l0, if_pos (by omega), if_pos (by omega), if_pos (by omega), if_pos ((op_ne _ _).2 (by simpa [rd_T73] using he))]
  · refine Ev.neg c (Ev.cast (Ev.now false) ?_)
    symm
    apply tr_f
    rintro rfl
    exact c rfl
end Go.Proofs.Ytlaichooanflaaa.Ops
namespace Go.Proofs.Ytlaichooanflaaa.Pure
open Go.RowKit Go.Proofs.YtlaichooanflaaaW.PrintWords Go.Proofs.Ytlaichooanflaaa.Base Go.Proofs.Ytlaichooanflaaa.Q Go.Proofs.Ytlaichooanflaaa.Ops
def cvB (x : S147) : S106 := ⟨x.f0, x.f1⟩
theorem toBaseS (l : List S147) (hl : l.length ≤ 1048576) : Ev (fun k => laws_toBaseS.f k l) (l.map cvB) := by
  unfold laws_toBaseS.f
  refine Ev.pos (by omega) (Ev.pos (by omega) ?_)
  refine Ev.cast (fill0 (fun k out i => laws_toBaseS.l0 k l out i) l.length (fun j => cvB (l.getD j z147)) _ (by simp) ?_ ?_) (map_range_get l _ _)
  · intro out _
    exact Ev.step (fun k => by rw [laws_toBaseS.l0, if_neg (by omega)]) (Ev.now _)
  · intro i out hi ho r hr
    refine Ev.step (fun k => ?_) hr
    rw [laws_toBaseS.l0, if_pos (by omega), if_pos (by omega), w64s (b := l.length) (by omega) (by omega) (by omega)]
    unfold laws_toBase.f
    simp only [Option.bind_some]
    rw [if_pos (by omega)]
    rfl
theorem eqBaseS (a : List S106) (hl : a.length ≤ 4611686018427387903) : Ev (fun k => laws_eqBaseS.f k a a) true := by
  unfold laws_eqBaseS.f
  refine Ev.pos rfl (Ev.cast (scan0 (fun k i => laws_eqBaseS.l0 k a a i) a.length (fun _ => true) true false ?_ ?_ ?_) (by split <;> simp_all [allOf]))
  · exact Ev.step (f := fun _ => some true) (fun k => by rw [laws_eqBaseS.l0, if_neg (by omega)]) (Ev.now _)
  · intro i hi _ r hr
    refine Ev.step (fun k => ?_) hr
    rw [laws_eqBaseS.l0, if_pos (by omega), if_pos (by omega), if_pos (by omega), w64s (b := a.length) (by omega) (by omega) (by omega)]
    unfold laws_eqBase.f
    rw [if_pos rfl, if_pos rfl]
    rfl
  · intro i _ h; cases h
theorem szLog (a0 a1 : Int) (b : List S147) (l : List S91) (hb : b.length ≤ 9223372036854775807) (hl : l.length ≤ 9223372036854775807) (hs : ∀ y ∈ l, y.f2.size ≤ 9223372036854775807 ∧ y.f4.size ≤ 9223372036854775807 ∧ y.f6.size ≤ 9223372036854775807) (a : Int) (h0 : 0 ≤ a) (h1 : a ≤ 1048576) :
    ∃ r, Ev (fun k => laws_szLog.f k a0 a1 b l a) r ∧ (0 ≤ r → r ≤ a ∧ b.length ≤ 1048576 ∧ l.length ≤ 1048576) := by
  unfold laws_szLog.f laws_szBaseS.f
  rw [size_step h0 h1 hb]
  by_cases c : a - (b.length : Int) < 0
  · rw [if_pos c]
    exact ⟨-1, Ev.sbind (Ev.pos (by omega) (Ev.now (-1))), fun h => absurd h (by omega)⟩
  rw [if_neg c]
  obtain ⟨r0, e0, p0⟩ := szOpS l hl hs (a - (b.length : Int)) (by omega) (by omega)
  by_cases c0 : r0 < 0
  · exact ⟨-1, Ev.sbind (Ev.neg c (Ev.bind e0 (Ev.pos c0 (Ev.now (-1))))), fun h => absurd h (by omega)⟩
  · exact ⟨r0, Ev.sbind (Ev.neg c (Ev.bind e0 (Ev.neg c0 (Ev.now r0)))), fun h => by have := p0 h; exact ⟨by omega, by omega, this.2.1⟩⟩
theorem base_ext (x y : S106) : (x.f0 = y.f0 ∧ x.f1 = y.f1) ↔ x = y := by
  constructor
  · rintro ⟨h0, h1⟩
    cases x; cases y
    simp_all
  · rintro rfl
    simp
theorem base_ne (x y : S106) : (!(x.f0 == y.f0) || (!(x.f1 == y.f1))) = true ↔ x ≠ y := by
  rw [Ne, ← base_ext]
  simp only [Bool.or_eq_true, Bool.not_eq_true', beq_eq_false_iff_ne, ne_eq]
  grind
theorem impl_bases (a b : List S106) (hl : a.length ≤ 4611686018427387903) : Ev (fun k => impl_Base.f k a b) (tr (a = b)) := by
  unfold impl_Base.f
  by_cases c : (a.length : Int) = (b.length : Int)
  · refine Ev.pos c (eqLoop (fun k i => impl_Base.l0 k a b (a.length : Int) i) a b z106 (by omega) ?_ ?_ ?_)
    · exact Ev.step (fun k => by rw [impl_Base.l0, if_neg (by omega)]) (Ev.now _)
    · intro i hi he r hr
      refine Ev.step (fun k => ?_) hr
      rw [impl_Base.l0, if_pos (by omega), if_pos (by omega), if_pos (by omega), if_pos (by omega), if_neg (fun h => (base_ne _ _).1 h (by simpa [rd_T106] using he)), w64s (b := a.length) (by omega) (by omega) (by omega)]
    · intro i hi he
      refine Ev.step (f := fun _ => some false) (fun k => ?_) (Ev.now _)
      rw [impl_Base.l0, if_pos (by omega), if_pos (by omega), if_pos (by omega), if_pos (by omega), if_pos ((base_ne _ _).2 (by simpa [rd_T106] using he))]
  · refine Ev.neg c (Ev.cast (Ev.now false) ?_)
    symm
    apply tr_f
    rintro rfl
    exact c rfl
/-- When two logs are the same. -/
def sameP (a0 a1 : Int) (p : List S106) (q : List S73) (b0 b1 : Int) (p' : List S106) (q' : List S73) : Prop := a0 = b0 ∧ a1 = b1 ∧ p = p' ∧ q = q'
theorem no_ {g : Nat → Option Bool} {p : Prop} (h : Ev g false) (hn : ¬ p) : Ev g (tr p) := by rw [tr_f hn]; exact h
theorem impl_logSame (a0 a1 : Int) (p : List S106) (q : List S73) (b0 b1 : Int) (p' : List S106) (q' : List S73) (hp : p.length ≤ 4611686018427387903) (hq : q.length ≤ 4611686018427387903) :
    Ev (fun k => impl_LogSame.f k a0 a1 p q b0 b1 p' q') (tr (sameP a0 a1 p q b0 b1 p' q')) := by
  unfold impl_LogSame.f
  by_cases c0 : a0 = b0
  case neg => exact Ev.neg c0 (no_ (Ev.now _) (fun h => c0 h.1))
  refine Ev.pos c0 ?_
  by_cases c1 : a1 = b1
  case neg => exact Ev.neg c1 (no_ (Ev.now _) (fun h => c1 h.2.1))
  refine Ev.pos c1 (Ev.bind (impl_bases p p' hp) ?_)
  by_cases c2 : p = p'
  case neg => rw [tr_f c2]; exact Ev.neg (by decide) (no_ (Ev.now _) (fun h => c2 h.2.2.1))
  rw [tr_t c2]
  refine Ev.pos rfl (Ev.bind (impl_ops q q' hq) (Ev.cast (Ev.now _) (tr_congr ?_)))
  exact ⟨fun h => ⟨c0, c1, c2, h⟩, fun h => h.2.2.2⟩
theorem spec_logSame (a0 a1 : Int) (p : List S106) (q : List S73) (b0 b1 : Int) (p' : List S106) (q' : List S73) (hp : p.length ≤ 4611686018427387903) (hq : q.length ≤ 4611686018427387903) :
    Ev (fun k => spec_LogSame.f k a0 a1 p q b0 b1 p' q') (tr (sameP a0 a1 p q b0 b1 p' q')) := by
  unfold spec_LogSame.f
  have bad : Ev (fun k => spec_LogSame.j0 k true a0 a1 p q b0 b1 p' q') false := Ev.step (f := fun _ => some false) (fun k => by rw [spec_LogSame.j0, if_pos rfl]) (Ev.now _)
  by_cases c0 : a0 = b0
  case neg => exact Ev.neg c0 (no_ bad (fun h => c0 h.1))
  refine Ev.pos c0 ?_
  by_cases c1 : a1 = b1
  case neg => exact Ev.neg c1 (no_ bad (fun h => c1 h.2.1))
  refine Ev.pos c1 ?_
  by_cases c2 : (p.length : Int) = (p'.length : Int)
  case neg => exact Ev.neg c2 (no_ bad (fun h => c2 (by rw [h.2.2.1])))
  refine Ev.pos c2 (Ev.bind (spec_same q q' hq) ?_)
  by_cases c3 : q = q'
  case neg => rw [tr_f c3]; exact no_ bad (fun h => c3 h.2.2.2)
  rw [tr_t c3]
  refine Ev.step (fun k => by rw [Bool.not_true, spec_LogSame.j0, if_neg (by decide)]) ?_
  refine Ev.cast (eqLoop (fun k i => spec_LogSame.l0 k i a0 a1 p q b0 b1 p' q') p p' z106 (by omega) ?_ ?_ ?_) (tr_congr ⟨fun h => ⟨c0, c1, h, c3⟩, fun h => h.2.2.1⟩)
  · exact Ev.step (fun k => by rw [spec_LogSame.l0, if_neg (by omega)]) (Ev.now _)
  · intro i hi he r hr
    refine Ev.step (fun k => ?_) hr
    rw [spec_LogSame.l0, if_pos (by omega), if_pos (by omega), if_pos (by omega), if_neg (fun h => (base_ne _ _).1 h (by simpa [rd_T106] using he)), w64s (b := p.length) (by omega) (by omega) (by omega)]
  · intro i hi he
    refine Ev.step (f := fun _ => some false) (fun k => ?_) (Ev.now _)
    rw [spec_LogSame.l0, if_pos (by omega), if_pos (by omega), if_pos (by omega), if_pos ((base_ne _ _).2 (by simpa [rd_T106] using he))]
theorem eqLog_self (a0 a1 : Int) (p : List S106) (q : List S73) (hp : p.length ≤ 4611686018427387903) (hq : q.length ≤ 4611686018427387903) : Ev (fun k => laws_eqLog.f k a0 a1 p q a0 a1 p q) true := by
  unfold laws_eqLog.f
  exact Ev.pos rfl (Ev.pos rfl (Ev.bind (eqBaseS p hp) (Ev.pos rfl (Ev.bind (eqOpS q q hq) (Ev.pos (tr_t rfl) (Ev.now _))))))
theorem toLog_is (a0 a1 : Int) (b : List S147) (l : List S91) (hb : b.length ≤ 1048576) (hl : l.length ≤ 1048576) : Ev (fun k => laws_toLog.f k a0 a1 b l) (a0, a1, b.map cvB, l.map cvOp) := by
  unfold laws_toLog.f
  exact Ev.bind (toBaseS b hb) (Ev.bind (toOpS l hl) (Ev.now _))
theorem FnExactLogSame (a0_0 : Int) (a0_1 : Int) (l0_2 : List S147) (l0_3 : List S91) (a1_0 : Int) (a1_1 : Int) (l1_2 : List S147) (l1_3 : List S91) (hg0 : (Lit.int .i64 a0_0).wf = true ∧ (Lit.int .i64 a0_1).wf = true ∧ (l0_2.length ≤ 9223372036854775807 ∧ ∀ y0 ∈ l0_2, (Lit.int .i64 y0.f0).wf = true ∧ (Lit.int .i64 y0.f1).wf = true) ∧ (l0_3.length ≤ 9223372036854775807 ∧ ∀ y0 ∈ l0_3, (Lit.int .i64 y0.f0).wf = true ∧ (Lit.int .i64 y0.f1).wf = true ∧ y0.f2.size ≤ 9223372036854775807 ∧ (Lit.int .i64 y0.f3).wf = true ∧ y0.f4.size ≤ 9223372036854775807 ∧ (Lit.int .i64 y0.f5).wf = true ∧ y0.f6.size ≤ 9223372036854775807)) (hg1 : (Lit.int .i64 a1_0).wf = true ∧ (Lit.int .i64 a1_1).wf = true ∧ (l1_2.length ≤ 9223372036854775807 ∧ ∀ y0 ∈ l1_2, (Lit.int .i64 y0.f0).wf = true ∧ (Lit.int .i64 y0.f1).wf = true) ∧ (l1_3.length ≤ 9223372036854775807 ∧ ∀ y0 ∈ l1_3, (Lit.int .i64 y0.f0).wf = true ∧ (Lit.int .i64 y0.f1).wf = true ∧ y0.f2.size ≤ 9223372036854775807 ∧ (Lit.int .i64 y0.f3).wf = true ∧ y0.f4.size ≤ 9223372036854775807 ∧ (Lit.int .i64 y0.f5).wf = true ∧ y0.f6.size ≤ 9223372036854775807)) :
    ∃ k, laws_FnExactLogSame.f k a0_0 a0_1 l0_2 l0_3 a1_0 a1_1 l1_2 l1_3 = some true := by
  refine Ev.rounds (?_ : Ev (fun k => laws_FnExactLogSame.f k a0_0 a0_1 l0_2 l0_3 a1_0 a1_1 l1_2 l1_3) true)
  obtain ⟨_, _, hb, ho⟩ := hg0
  obtain ⟨_, _, hb', ho'⟩ := hg1
  unfold laws_FnExactLogSame.f
  obtain ⟨r0, e0, p0⟩ := szLog a0_0 a0_1 l0_2 l0_3 hb.1 ho.1 (fun y hy => let ⟨_, _, h2, _, h4, _, h6⟩ := ho.2 y hy; ⟨h2, h4, h6⟩) 1048576 (by omega) (by omega)
  refine Ev.bind e0 (Ev.ite (fun _ => Ev.now _) (fun n0 => ?_))
  have q0 := p0 (by omega)
  obtain ⟨r1, e1, p1⟩ := szLog a1_0 a1_1 l1_2 l1_3 hb'.1 ho'.1 (fun y hy => let ⟨_, _, h2, _, h4, _, h6⟩ := ho'.2 y hy; ⟨h2, h4, h6⟩) r0 (by omega) (by omega)
  refine Ev.bind e1 (Ev.ite (fun _ => Ev.now _) (fun n1 => ?_))
  have q1 := p1 (by omega)
  have t0 := toLog_is a0_0 a0_1 l0_2 l0_3 q0.2.1 q0.2.2
  have t1 := toLog_is a1_0 a1_1 l1_2 l1_3 q1.2.1 q1.2.2
  have L0 : (l0_2.map cvB).length ≤ 4611686018427387903 := by rw [List.length_map]; omega
  have L1 : (l0_3.map cvOp).length ≤ 4611686018427387903 := by rw [List.length_map]; omega
  have L2 : (l1_2.map cvB).length ≤ 4611686018427387903 := by rw [List.length_map]; omega
  have L3 : (l1_3.map cvOp).length ≤ 4611686018427387903 := by rw [List.length_map]; omega
  exact Ev.bind t0 (Ev.bind t1 (Ev.bind (spec_logSame _ _ _ _ _ _ _ _ L0 L1) (Ev.bind t0 (Ev.bind t1 (Ev.bind (impl_logSame _ _ _ _ _ _ _ _ L0 L1) (Ev.neg (by simp) (Ev.bind t0 (Ev.bind (eqLog_self _ _ _ _ L0 L1) (Ev.pos rfl (Ev.bind t1 (Ev.bind (eqLog_self _ _ _ _ L2 L3) (Ev.pos rfl (Ev.now _)))))))))))))
end Go.Proofs.Ytlaichooanflaaa.Pure
