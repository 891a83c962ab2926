/- Part 3 of what the proof of FnExactLogOk uses: plain functions with the answers of the Go functions, the proofs that the calls come to them, and plain lemmas. -/
import Derived.Deep.Slices
import Derived.Deep.Fields
import Derived.ChangeSame
import Derived.OpenShut
import Derived.ShutString
import Derived.SizedLaws
import Derived.Carry
import Derived.Lib.Strings
import Derived.Test.YtjcpkplneflleaaVFnExactLogOk0
import Derived.Test.YtjcpkplneflleaaVFnExactLogOk1
import Derived.Test.YtjcpkplneflleaaVFnExactLogOk2
namespace Go.Proofs.Ytjcpkplneflleaa.Q
open Go.RowKit Go.Proofs.YtjcpkplneflleaaW.PrintWords Go.Proofs.YtjcpkplneflleaaW.PrintLast Go.Proofs.YtjcpkplneflleaaW.PrintMore
attribute [local go_sem] max2_int min2_int max_two min_two max_three min_three max_four min_four   -- for this text's walks alone
set_option linter.unusedVariables false
set_option linter.unusedSimpArgs false
def laws_FnExactLogOk.f (k : Nat) (a0_0 : Int) (a0_1 : Int) (l0_2 : List (S152)) (l0_3 : List (S90)) : Option (Bool) := (laws_szLog.f k a0_0 a0_1 l0_2 l0_3 1048576).bind fun t851 => (if t851 < 0 then (some true) else ((laws_toLog.f k a0_0 a0_1 l0_2 l0_3).bind fun bt852 => ((spec_LogOk.f k bt852.1 bt852.2.1 bt852.2.2.1 bt852.2.2.2).bind fun t860 => ((laws_toLog.f k a0_0 a0_1 l0_2 l0_3).bind fun bt861 => ((impl_LogOk.f k bt861.1 bt861.2.1 bt861.2.2.1 bt861.2.2.2).bind fun t870 => (if (t870 != t860) = true then (some false) else ((laws_toLog.f k a0_0 a0_1 l0_2 l0_3).bind fun bt871 => ((laws_eqLog.f k bt861.1 bt861.2.1 bt861.2.2.1 bt861.2.2.2 bt871.1 bt871.2.1 bt871.2.2.1 bt871.2.2.2).bind fun t879 => (if t879 = true then (some true) else (some false))))))))))
set_option maxHeartbeats 8000000 in
set_option maxRecDepth 100000 in
theorem laws_FnExactLogOk.calls (k : Nat) (a0_0 : Int) (a0_1 : Int) (A0_2 : Option Addr) (c0_2 : Nat) (l0_2 : List (S152)) (A0_3 : Option Addr) (c0_3 : Nat) (l0_3 : List (S90)) (r : Bool) (w : World) (hr0_2 : Kd.C k152 w A0_2 l0_2.length l0_2) (hc0_2 : l0_2.length ≤ c0_2) (hr0_3 : Kd.C k90 w A0_3 l0_3.length l0_3) (hc0_3 : l0_3.length ≤ c0_3) (h : laws_FnExactLogOk.f k a0_0 a0_1 l0_2 l0_3 = some r) :
    Calls Try.prog 11 #[.agg #[.int .i64 a0_0, .int .i64 a0_1, .slice A0_2 l0_2.length c0_2, .slice A0_3 l0_3.length c0_3]] w fun e w' => e = .returned (.bool r) ∧ Below w.heap.size w w' := by
  have hu53 := Try.underlying53
  have hu58 := Try.underlying58
  have HR0_2 := Aside0.mk hr0_2
  have HC0_2 := Aside0.mk hc0_2
  clear hr0_2 hc0_2
  have HR0_3 := Aside0.mk hr0_3
  have HC0_3 := Aside0.mk hc0_3
  clear hr0_3 hc0_3
  have HB := Aside0.mk (Below.refl w.heap.size w)
  have H : ((laws_szLog.f k a0_0 a0_1 l0_2 l0_3 1048576).bind fun t851 => (if t851 < 0 then (some true) else ((laws_toLog.f k a0_0 a0_1 l0_2 l0_3).bind fun bt852 => ((spec_LogOk.f k bt852.1 bt852.2.1 bt852.2.2.1 bt852.2.2.2).bind fun t860 => ((laws_toLog.f k a0_0 a0_1 l0_2 l0_3).bind fun bt861 => ((impl_LogOk.f k bt861.1 bt861.2.1 bt861.2.2.1 bt861.2.2.2).bind fun t870 => (if (t870 != t860) = true then (some false) else ((laws_toLog.f k a0_0 a0_1 l0_2 l0_3).bind fun bt871 => ((laws_eqLog.f k bt861.1 bt861.2.1 bt861.2.2.1 bt861.2.2.2 bt871.1 bt871.2.1 bt871.2.2.1 bt871.2.2.2).bind fun t879 => (if t879 = true then (some true) else (some false))))))))))) = some r := h
  clear h
  replace H := Option.bind_eq_some_iff.mp H
  obtain ⟨t851, A20, H⟩ := H
  replace H : (if t851 < 0 then (some true) else ((laws_toLog.f k a0_0 a0_1 l0_2 l0_3).bind fun bt852 => ((spec_LogOk.f k bt852.1 bt852.2.1 bt852.2.2.1 bt852.2.2.2).bind fun t860 => ((laws_toLog.f k a0_0 a0_1 l0_2 l0_3).bind fun bt861 => ((impl_LogOk.f k bt861.1 bt861.2.1 bt861.2.2.1 bt861.2.2.2).bind fun t870 => (if (t870 != t860) = true then (some false) else ((laws_toLog.f k a0_0 a0_1 l0_2 l0_3).bind fun bt871 => ((laws_eqLog.f k bt861.1 bt861.2.1 bt861.2.2.1 bt861.2.2.2 bt871.1 bt871.2.1 bt871.2.2.1 bt871.2.2.2).bind fun t879 => (if t879 = true then (some true) else (some false)))))))))) = some r := H
  have A2 := Aside0.mk A20
  clear A20
  by_cases c3 : t851 < 0
  · rw [if_pos c3] at H
    have c3b0 : decide (t851 < 0) = true := decide_eq_true c3
    clear c3
    obtain rfl := Option.some.inj H
    go_enter Try.func11, Try.ntmps11
    go_wp2_with (first | ((with_reducible refine gate_dst (N := 1) rfl ?_); refine box_event ?hg (N := 1) ?hd (cs := #[.int .i64 a0_0, .int .i64 a0_1, .slice A0_2 l0_2.length c0_2, .slice A0_3 l0_3.length c0_3]) (t := 53) ?hr ?_; (case hd => rfl); (case hg => rfl); (case hr => first | (go_simp; done) | (go_simp; rfl)); intro gb850 hg w4 hbox hb; have n0_ := Aside0.mk (below_step (by repeat (first | (with_reducible first | exact HB.out | apply below_alloc | apply pw_below_drewN | apply below_drew1) | exact HB.out)) hb); have n1_ := Aside0.mk (hbox); have n2_ := Aside0.mk ((by rw [hg]; exact (below_size (by repeat (first | (with_reducible first | exact HB.out | apply below_alloc | apply pw_below_drewN | apply below_drew1) | exact HB.out))) : w.heap.size ≤ gb850)); have n3_ := Aside0.mk ((by rw [hg]; exact (below_size (by repeat (first | (with_reducible first | exact HB.out | apply below_alloc | apply pw_below_drewN | apply below_drew1) | exact HB.out))) : w.heap.size ≤ gb850)); clear HB; have HB := n0_; have BK850 := n1_; have GW850 := n2_; have GE850 := n3_; clear n0_ n1_ n2_ n3_; clear hb hbox hg; have hcz5_0 : w4.cell? ⟨gb850, 0, none⟩ = some (.int .i64 a0_0) := (blk_cell BK850.out 0).trans rfl; have hcz5_1 : w4.cell? ⟨gb850, 1, none⟩ = some (.int .i64 a0_1) := (blk_cell BK850.out 1).trans rfl; have hcz5_2 : w4.cell? ⟨gb850, 2, none⟩ = some (.slice A0_2 l0_2.length c0_2) := (blk_cell BK850.out 2).trans rfl; have hcz5_3 : w4.cell? ⟨gb850, 3, none⟩ = some (.slice A0_3 l0_3.length c0_3) := (blk_cell BK850.out 3).trans rfl; have hfz5_0 := blk_frozen BK850.out 0; have hfz5_1 := blk_frozen BK850.out 1; have hfz5_2 := blk_frozen BK850.out 2; have hfz5_3 := blk_frozen BK850.out 3) | ((with_reducible refine gate_callee (f := 54) rfl ?_); refine goesL_ (some 9) rfl rfl Try.func54 (by kernel_rfl) rfl #[.agg #[.int .i64 a0_0, .int .i64 a0_1, .slice A0_2 l0_2.length c0_2, .slice A0_3 l0_3.length c0_3], .int .i64 1048576] rfl (by (try simp only [List.map_toArray, List.map_cons, List.map_nil]); first | done | rfl | (simp only [List.length_drop, List.length_take]; rfl)) ?_; (with_reducible refine (laws_szLog.calls k a0_0 a0_1 _ _ l0_2 _ _ l0_3 1048576 t851 _ ?side1 ?side2 ?side3 ?side4 A2.out).mono ?_); (case side1 => repeat (first | exact (Kd.C_below HR0_2.out HB.out) | (with_reducible refine Kd.C_alloc ?_ _) | (with_reducible refine Kd.C_drewN ?_ _) | (with_reducible refine Kd.C_drew ?_))); (case side2 => exact HC0_2.out); (case side3 => repeat (first | exact (Kd.C_below HR0_3.out HB.out) | (with_reducible refine Kd.C_alloc ?_ _) | (with_reducible refine Kd.C_drewN ?_ _) | (with_reducible refine Kd.C_drew ?_))); (case side4 => exact HC0_3.out); rintro e w6 ⟨rfl, hb⟩; refine ⟨_, rfl, ?_⟩; have n0_ := Aside0.mk (blk_below (g := gb850) (o := .cells #[.int .i64 a0_0, .int .i64 a0_1, .slice A0_2 l0_2.length c0_2, .slice A0_3 l0_3.length c0_3] 53 (0, 0)) (by (with_reducible repeat (first | refine blk_drewN ?_ _ | refine blk_drew ?_ | refine blk_alloc ?_ _)); exact BK850.out) hb); have n1_ := Aside0.mk (below_step (by repeat (first | (with_reducible first | exact HB.out | apply below_alloc | apply pw_below_drewN | apply below_drew1 | refine below_set ?_ GE850.out) | exact HB.out)) hb); clear BK850; clear HB; have BK850 := n0_; have HB := n1_; clear n0_ n1_; (try clear hb); (try clear hb2); (try clear hk); (try clear hi)))
    go_ret
    exact ⟨by first | rfl | (simp [errW_none, errW_some] <;> rfl) | (simp [*, errW_none, errW_some] <;> rfl), by repeat (first | (with_reducible first | exact HB.out | apply below_alloc | apply pw_below_drewN | apply below_drew1 | refine below_set ?_ GE850.out) | exact HB.out)⟩
  · rw [if_neg c3] at H
    have c3b0 : decide (t851 < 0) = false := decide_eq_false c3
    clear c3
    replace H := Option.bind_eq_some_iff.mp H
    obtain ⟨⟨t852, t853, t854, t857⟩, A70, H⟩ := H
    replace H : ((spec_LogOk.f k t852 t853 t854 t857).bind fun t860 => ((laws_toLog.f k a0_0 a0_1 l0_2 l0_3).bind fun bt861 => ((impl_LogOk.f k bt861.1 bt861.2.1 bt861.2.2.1 bt861.2.2.2).bind fun t870 => (if (t870 != t860) = true then (some false) else ((laws_toLog.f k a0_0 a0_1 l0_2 l0_3).bind fun bt871 => ((laws_eqLog.f k bt861.1 bt861.2.1 bt861.2.2.1 bt861.2.2.2 bt871.1 bt871.2.1 bt871.2.2.1 bt871.2.2.2).bind fun t879 => (if t879 = true then (some true) else (some false)))))))) = some r := H
    have A7 := Aside0.mk A70
    clear A70
    replace H := Option.bind_eq_some_iff.mp H
    obtain ⟨t860, A80, H⟩ := H
    replace H : ((laws_toLog.f k a0_0 a0_1 l0_2 l0_3).bind fun bt861 => ((impl_LogOk.f k bt861.1 bt861.2.1 bt861.2.2.1 bt861.2.2.2).bind fun t870 => (if (t870 != t860) = true then (some false) else ((laws_toLog.f k a0_0 a0_1 l0_2 l0_3).bind fun bt871 => ((laws_eqLog.f k bt861.1 bt861.2.1 bt861.2.2.1 bt861.2.2.2 bt871.1 bt871.2.1 bt871.2.2.1 bt871.2.2.2).bind fun t879 => (if t879 = true then (some true) else (some false))))))) = some r := H
    have A8 := Aside0.mk A80
    clear A80
    replace H := Option.bind_eq_some_iff.mp H
    obtain ⟨⟨t861, t862, t863, t866⟩, A90, H⟩ := H
    replace H : ((impl_LogOk.f k t861 t862 t863 t866).bind fun t870 => (if (t870 != t860) = true then (some false) else ((laws_toLog.f k a0_0 a0_1 l0_2 l0_3).bind fun bt871 => ((laws_eqLog.f k t861 t862 t863 t866 bt871.1 bt871.2.1 bt871.2.2.1 bt871.2.2.2).bind fun t879 => (if t879 = true then (some true) else (some false)))))) = some r := H
    have A9 := Aside0.mk A90
    clear A90
    replace H := Option.bind_eq_some_iff.mp H
    obtain ⟨t870, A100, H⟩ := H
    replace H : (if (t870 != t860) = true then (some false) else ((laws_toLog.f k a0_0 a0_1 l0_2 l0_3).bind fun bt871 => ((laws_eqLog.f k t861 t862 t863 t866 bt871.1 bt871.2.1 bt871.2.2.1 bt871.2.2.2).bind fun t879 => (if t879 = true then (some true) else (some false))))) = some r := H
    have A10 := Aside0.mk A100
    clear A100
    by_cases c11 : (t870 != t860) = true
    · rw [if_pos c11] at H
      have c11b0 : (t870 != t860) = true := c11
      (try (have c11b1 : decide (t870 = t860) = false := by simpa using c11))
      (try (have c11b2 : (t870 == t860) = false := by simpa using c11))
      (try (have c11b3 : ¬ (t870 = t860) := by simpa using c11))
      clear c11
      obtain rfl := Option.some.inj H
      go_enter Try.func11, Try.ntmps11
      go_wp2_with (first | ((with_reducible refine gate_dst (N := 1) rfl ?_); refine box_event ?hg (N := 1) ?hd (cs := #[.int .i64 a0_0, .int .i64 a0_1, .slice A0_2 l0_2.length c0_2, .slice A0_3 l0_3.length c0_3]) (t := 53) ?hr ?_; (case hd => rfl); (case hg => rfl); (case hr => first | (go_simp; done) | (go_simp; rfl)); intro gb850 hg w12 hbox hb; have n0_ := Aside0.mk (below_step (by repeat (first | (with_reducible first | exact HB.out | apply below_alloc | apply pw_below_drewN | apply below_drew1) | exact HB.out)) hb); have n1_ := Aside0.mk (hbox); have n2_ := Aside0.mk ((by rw [hg]; exact (below_size (by repeat (first | (with_reducible first | exact HB.out | apply below_alloc | apply pw_below_drewN | apply below_drew1) | exact HB.out))) : w.heap.size ≤ gb850)); have n3_ := Aside0.mk ((by rw [hg]; exact (below_size (by repeat (first | (with_reducible first | exact HB.out | apply below_alloc | apply pw_below_drewN | apply below_drew1) | exact HB.out))) : w.heap.size ≤ gb850)); clear HB; have HB := n0_; have BK850 := n1_; have GW850 := n2_; have GE850 := n3_; clear n0_ n1_ n2_ n3_; clear hb hbox hg; have hcz13_0 : w12.cell? ⟨gb850, 0, none⟩ = some (.int .i64 a0_0) := (blk_cell BK850.out 0).trans rfl; have hcz13_1 : w12.cell? ⟨gb850, 1, none⟩ = some (.int .i64 a0_1) := (blk_cell BK850.out 1).trans rfl; have hcz13_2 : w12.cell? ⟨gb850, 2, none⟩ = some (.slice A0_2 l0_2.length c0_2) := (blk_cell BK850.out 2).trans rfl; have hcz13_3 : w12.cell? ⟨gb850, 3, none⟩ = some (.slice A0_3 l0_3.length c0_3) := (blk_cell BK850.out 3).trans rfl; have hfz13_0 := blk_frozen BK850.out 0; have hfz13_1 := blk_frozen BK850.out 1; have hfz13_2 := blk_frozen BK850.out 2; have hfz13_3 := blk_frozen BK850.out 3) | ((with_reducible refine gate_callee (f := 54) rfl ?_); refine goesL_ (some 9) rfl rfl Try.func54 (by kernel_rfl) rfl #[.agg #[.int .i64 a0_0, .int .i64 a0_1, .slice A0_2 l0_2.length c0_2, .slice A0_3 l0_3.length c0_3], .int .i64 1048576] rfl (by (try simp only [List.map_toArray, List.map_cons, List.map_nil]); first | done | rfl | (simp only [List.length_drop, List.length_take]; rfl)) ?_; (with_reducible refine (laws_szLog.calls k a0_0 a0_1 _ _ l0_2 _ _ l0_3 1048576 t851 _ ?side1 ?side2 ?side3 ?side4 A2.out).mono ?_); (case side1 => repeat (first | exact (Kd.C_below HR0_2.out HB.out) | (with_reducible refine Kd.C_alloc ?_ _) | (with_reducible refine Kd.C_drewN ?_ _) | (with_reducible refine Kd.C_drew ?_))); (case side2 => exact HC0_2.out); (case side3 => repeat (first | exact (Kd.C_below HR0_3.out HB.out) | (with_reducible refine Kd.C_alloc ?_ _) | (with_reducible refine Kd.C_drewN ?_ _) | (with_reducible refine Kd.C_drew ?_))); (case side4 => exact HC0_3.out); rintro e w14 ⟨rfl, hb⟩; refine ⟨_, rfl, ?_⟩; have n0_ := Aside0.mk (blk_below (g := gb850) (o := .cells #[.int .i64 a0_0, .int .i64 a0_1, .slice A0_2 l0_2.length c0_2, .slice A0_3 l0_3.length c0_3] 53 (0, 0)) (by (with_reducible repeat (first | refine blk_drewN ?_ _ | refine blk_drew ?_ | refine blk_alloc ?_ _)); exact BK850.out) hb); have n1_ := Aside0.mk (below_step (by repeat (first | (with_reducible first | exact HB.out | apply below_alloc | apply pw_below_drewN | apply below_drew1 | refine below_set ?_ GE850.out) | exact HB.out)) hb); clear BK850; clear HB; have BK850 := n0_; have HB := n1_; clear n0_ n1_; (try clear hb); (try clear hb2); (try clear hk); (try clear hi); have hcz15_0 : w14.cell? ⟨gb850, 0, none⟩ = some (.int .i64 a0_0) := (blk_cell BK850.out 0).trans rfl; have hcz15_1 : w14.cell? ⟨gb850, 1, none⟩ = some (.int .i64 a0_1) := (blk_cell BK850.out 1).trans rfl; have hcz15_2 : w14.cell? ⟨gb850, 2, none⟩ = some (.slice A0_2 l0_2.length c0_2) := (blk_cell BK850.out 2).trans rfl; have hcz15_3 : w14.cell? ⟨gb850, 3, none⟩ = some (.slice A0_3 l0_3.length c0_3) := (blk_cell BK850.out 3).trans rfl; have hfz15_0 := blk_frozen BK850.out 0; have hfz15_1 := blk_frozen BK850.out 1; have hfz15_2 := blk_frozen BK850.out 2; have hfz15_3 := blk_frozen BK850.out 3) | ((with_reducible refine gate_callee (f := 56) rfl ?_); refine goesL_ (some 13) rfl rfl Try.func56 (by kernel_rfl) rfl #[.agg #[.int .i64 a0_0, .int .i64 a0_1, .slice A0_2 l0_2.length c0_2, .slice A0_3 l0_3.length c0_3]] rfl (by (try simp only [List.map_toArray, List.map_cons, List.map_nil]); first | done | rfl | (simp only [List.length_drop, List.length_take]; rfl)) ?_; (with_reducible refine (laws_toLog.calls k a0_0 a0_1 _ _ l0_2 _ _ l0_3 t852 t853 t854 t857 _ ?side1 ?side2 ?side3 ?side4 A7.out).mono ?_); (case side1 => repeat (first | exact (Kd.C_below HR0_2.out HB.out) | (with_reducible refine Kd.C_alloc ?_ _) | (with_reducible refine Kd.C_drewN ?_ _) | (with_reducible refine Kd.C_drew ?_))); (case side2 => exact HC0_2.out); (case side3 => repeat (first | exact (Kd.C_below HR0_3.out HB.out) | (with_reducible refine Kd.C_alloc ?_ _) | (with_reducible refine Kd.C_drewN ?_ _) | (with_reducible refine Kd.C_drew ?_))); (case side4 => exact HC0_3.out); rintro e w16 ⟨v855, v858, rfl, ho0, ho1, hb⟩; refine ⟨_, rfl, ?_⟩; have n0_ := Aside0.mk (Kd.R_lower ho0 (below_size (by repeat (first | (with_reducible first | exact HB.out | apply below_alloc | apply pw_below_drewN | apply below_drew1 | refine below_set ?_ GE850.out) | exact HB.out)))); have n1_ := Aside0.mk (Kd.R_lower ho1 (below_size (by repeat (first | (with_reducible first | exact HB.out | apply below_alloc | apply pw_below_drewN | apply below_drew1 | refine below_set ?_ GE850.out) | exact HB.out)))); have n2_ := Aside0.mk (blk_below (g := gb850) (o := .cells #[.int .i64 a0_0, .int .i64 a0_1, .slice A0_2 l0_2.length c0_2, .slice A0_3 l0_3.length c0_3] 53 (0, 0)) (by (with_reducible repeat (first | refine blk_drewN ?_ _ | refine blk_drew ?_ | refine blk_alloc ?_ _)); exact BK850.out) hb); have n3_ := Aside0.mk (below_step (by repeat (first | (with_reducible first | exact HB.out | apply below_alloc | apply pw_below_drewN | apply below_drew1 | refine below_set ?_ GE850.out) | exact HB.out)) hb); clear BK850; clear HB; have HO856 := n0_; have HO859 := n1_; have BK850 := n2_; have HB := n3_; clear n0_ n1_ n2_ n3_; (try clear hb); (try clear hb2); (try clear hk); (try clear hi); (try clear ho0); (try clear ho1); obtain ⟨Ao17, co17, eo17⟩ := Kd.R_slice HO856.out; subst eo17; obtain ⟨Ao18, co18, eo18⟩ := Kd.R_slice HO859.out; subst eo18) | ((with_reducible refine gate_callee (f := 55) rfl ?_); refine goesL_ (some 14) rfl rfl Try.func55 (by kernel_rfl) rfl #[.agg #[.int .i64 t852, .int .i64 t853, .slice Ao17 t854.length co17, .slice Ao18 t857.length co18]] rfl (by (try simp only [List.map_toArray, List.map_cons, List.map_nil]); first | done | rfl | (simp only [List.length_drop, List.length_take]; rfl)) ?_; (with_reducible refine (spec_LogOk.calls k t852 t853 _ _ t854 _ _ t857 t860 _ ?side1 ?side2 ?side3 ?side4 A8.out).mono ?_); (case side1 => repeat (first | exact (Kd.R_reads' HO856.out).2.2 | (with_reducible refine Kd.C_alloc ?_ _) | (with_reducible refine Kd.C_drewN ?_ _) | (with_reducible refine Kd.C_drew ?_))); (case side2 => exact (Kd.R_reads' HO856.out).2.1); (case side3 => repeat (first | exact (Kd.R_reads' HO859.out).2.2 | (with_reducible refine Kd.C_alloc ?_ _) | (with_reducible refine Kd.C_drewN ?_ _) | (with_reducible refine Kd.C_drew ?_))); (case side4 => exact (Kd.R_reads' HO859.out).2.1); rintro e w19 ⟨rfl, hb⟩; refine ⟨_, rfl, ?_⟩; have n0_ := Aside0.mk (Kd.R_below (by (with_reducible repeat (first | apply Kd.R_alloc | apply Kd.R_drewN | apply Kd.R_drew)); exact HO856.out) hb); have n1_ := Aside0.mk (Kd.R_below (by (with_reducible repeat (first | apply Kd.R_alloc | apply Kd.R_drewN | apply Kd.R_drew)); exact HO859.out) hb); have n2_ := Aside0.mk (blk_below (g := gb850) (o := .cells #[.int .i64 a0_0, .int .i64 a0_1, .slice A0_2 l0_2.length c0_2, .slice A0_3 l0_3.length c0_3] 53 (0, 0)) (by (with_reducible repeat (first | refine blk_drewN ?_ _ | refine blk_drew ?_ | refine blk_alloc ?_ _)); exact BK850.out) hb); have n3_ := Aside0.mk (below_step (by repeat (first | (with_reducible first | exact HB.out | apply below_alloc | apply pw_below_drewN | apply below_drew1 | refine below_set ?_ GE850.out) | exact HB.out)) hb); clear HO856; clear HO859; clear BK850; clear HB; have HO856 := n0_; have HO859 := n1_; have BK850 := n2_; have HB := n3_; clear n0_ n1_ n2_ n3_; (try clear hb); (try clear hb2); (try clear hk); (try clear hi); have hcz20_0 : w19.cell? ⟨gb850, 0, none⟩ = some (.int .i64 a0_0) := (blk_cell BK850.out 0).trans rfl; have hcz20_1 : w19.cell? ⟨gb850, 1, none⟩ = some (.int .i64 a0_1) := (blk_cell BK850.out 1).trans rfl; have hcz20_2 : w19.cell? ⟨gb850, 2, none⟩ = some (.slice A0_2 l0_2.length c0_2) := (blk_cell BK850.out 2).trans rfl; have hcz20_3 : w19.cell? ⟨gb850, 3, none⟩ = some (.slice A0_3 l0_3.length c0_3) := (blk_cell BK850.out 3).trans rfl; have hfz20_0 := blk_frozen BK850.out 0; have hfz20_1 := blk_frozen BK850.out 1; have hfz20_2 := blk_frozen BK850.out 2; have hfz20_3 := blk_frozen BK850.out 3) | ((with_reducible refine gate_callee (f := 56) rfl ?_); refine goesL_ (some 16) rfl rfl Try.func56 (by kernel_rfl) rfl #[.agg #[.int .i64 a0_0, .int .i64 a0_1, .slice A0_2 l0_2.length c0_2, .slice A0_3 l0_3.length c0_3]] rfl (by (try simp only [List.map_toArray, List.map_cons, List.map_nil]); first | done | rfl | (simp only [List.length_drop, List.length_take]; rfl)) ?_; (with_reducible refine (laws_toLog.calls k a0_0 a0_1 _ _ l0_2 _ _ l0_3 t861 t862 t863 t866 _ ?side1 ?side2 ?side3 ?side4 A9.out).mono ?_); (case side1 => repeat (first | exact (Kd.C_below HR0_2.out HB.out) | (with_reducible refine Kd.C_alloc ?_ _) | (with_reducible refine Kd.C_drewN ?_ _) | (with_reducible refine Kd.C_drew ?_))); (case side2 => exact HC0_2.out); (case side3 => repeat (first | exact (Kd.C_below HR0_3.out HB.out) | (with_reducible refine Kd.C_alloc ?_ _) | (with_reducible refine Kd.C_drewN ?_ _) | (with_reducible refine Kd.C_drew ?_))); (case side4 => exact HC0_3.out); rintro e w21 ⟨v864, v867, rfl, ho0, ho1, hb⟩; refine ⟨_, rfl, ?_⟩; have n0_ := Aside0.mk (Kd.R_elder' (by (with_reducible repeat (first | apply Kd.R_alloc | apply Kd.R_drewN | apply Kd.R_drew)); exact HO856.out) (Kd.R_base ho0) hb); have n1_ := Aside0.mk (Kd.R_elder' (by (with_reducible repeat (first | apply Kd.R_alloc | apply Kd.R_drewN | apply Kd.R_drew)); exact HO859.out) (Kd.R_base ho1) hb); have n2_ := Aside0.mk (Kd.R_lower (Kd.R_new' ho0 (Kd.R_lt (by (with_reducible repeat (first | apply Kd.R_alloc | apply Kd.R_drewN | apply Kd.R_drew)); exact HO856.out))) (below_size (by repeat (first | (with_reducible first | exact HB.out | apply below_alloc | apply pw_below_drewN | apply below_drew1 | refine below_set ?_ GE850.out) | exact HB.out)))); have n3_ := Aside0.mk (Kd.R_lower (Kd.R_new' ho1 (Kd.R_lt (by (with_reducible repeat (first | apply Kd.R_alloc | apply Kd.R_drewN | apply Kd.R_drew)); exact HO859.out))) (below_size (by repeat (first | (with_reducible first | exact HB.out | apply below_alloc | apply pw_below_drewN | apply below_drew1 | refine below_set ?_ GE850.out) | exact HB.out)))); have n4_ := Aside0.mk (blk_below (g := gb850) (o := .cells #[.int .i64 a0_0, .int .i64 a0_1, .slice A0_2 l0_2.length c0_2, .slice A0_3 l0_3.length c0_3] 53 (0, 0)) (by (with_reducible repeat (first | refine blk_drewN ?_ _ | refine blk_drew ?_ | refine blk_alloc ?_ _)); exact BK850.out) hb); have n5_ := Aside0.mk (below_step (by repeat (first | (with_reducible first | exact HB.out | apply below_alloc | apply pw_below_drewN | apply below_drew1 | refine below_set ?_ GE850.out) | exact HB.out)) hb); clear HO856; clear HO859; clear BK850; clear HB; have HO856 := n0_; have HO859 := n1_; have HO865 := n2_; have HO868 := n3_; have BK850 := n4_; have HB := n5_; clear n0_ n1_ n2_ n3_ n4_ n5_; (try clear hb); (try clear hb2); (try clear hk); (try clear hi); (try clear ho0); (try clear ho1)) | ((with_reducible refine gate_dst (N := 5) rfl ?_); refine box_event ?hg (N := 5) ?hd (cs := #[.int .i64 0, .int .i64 0, .slice none 0 0, .slice none 0 0]) (t := 58) ?hr ?_; (case hd => rfl); (case hg => rfl); (case hr => first | (go_simp; done) | (go_simp; rfl)); intro gb869 hg w22 hbox hb; have n0_ := Aside0.mk (Kd.R_below (by (with_reducible repeat (first | apply Kd.R_alloc | apply Kd.R_drewN | apply Kd.R_drew)); exact HO856.out) hb); have n1_ := Aside0.mk (Kd.R_below (by (with_reducible repeat (first | apply Kd.R_alloc | apply Kd.R_drewN | apply Kd.R_drew)); exact HO859.out) hb); have n2_ := Aside0.mk (Kd.R_below (by (with_reducible repeat (first | apply Kd.R_alloc | apply Kd.R_drewN | apply Kd.R_drew)); exact HO865.out) hb); have n3_ := Aside0.mk (Kd.R_below (by (with_reducible repeat (first | apply Kd.R_alloc | apply Kd.R_drewN | apply Kd.R_drew)); exact HO868.out) hb); have n4_ := Aside0.mk (blk_below (g := gb850) (o := .cells #[.int .i64 a0_0, .int .i64 a0_1, .slice A0_2 l0_2.length c0_2, .slice A0_3 l0_3.length c0_3] 53 (0, 0)) (by (with_reducible repeat (first | refine blk_drewN ?_ _ | refine blk_drew ?_ | refine blk_alloc ?_ _)); exact BK850.out) hb); have n5_ := Aside0.mk (below_step (by repeat (first | (with_reducible first | exact HB.out | apply below_alloc | apply pw_below_drewN | apply below_drew1 | refine below_set ?_ GE850.out) | exact HB.out)) hb); have n6_ := Aside0.mk (hbox); have n7_ := Aside0.mk ((by rw [hg]; exact (below_size (by repeat (first | (with_reducible first | exact HB.out | apply below_alloc | apply pw_below_drewN | apply below_drew1 | refine below_set ?_ GE850.out) | exact HB.out))) : w.heap.size ≤ gb869)); have n8_ := Aside0.mk ((by rw [hg]; exact (below_size (by repeat (first | (with_reducible first | exact HB.out | apply below_alloc | apply pw_below_drewN | apply below_drew1 | refine below_set ?_ GE850.out) | exact HB.out))) : w.heap.size ≤ gb869)); have n9_ := Aside0.mk ((by rw [hg]; exact Nat.ne_of_lt (blk_lt (g := gb850) (o := .cells #[.int .i64 a0_0, .int .i64 a0_1, .slice A0_2 l0_2.length c0_2, .slice A0_3 l0_3.length c0_3] 53 (0, 0)) (by (with_reducible repeat (first | refine blk_drewN ?_ _ | refine blk_drew ?_ | refine blk_alloc ?_ _)); exact BK850.out)) : gb850 ≠ gb869)); have n10_ := Aside0.mk ((by rw [hg]; exact Nat.ne_of_gt (blk_lt (g := gb850) (o := .cells #[.int .i64 a0_0, .int .i64 a0_1, .slice A0_2 l0_2.length c0_2, .slice A0_3 l0_3.length c0_3] 53 (0, 0)) (by (with_reducible repeat (first | refine blk_drewN ?_ _ | refine blk_drew ?_ | refine blk_alloc ?_ _)); exact BK850.out)) : gb869 ≠ gb850)); clear HO856; clear HO859; clear HO865; clear HO868; clear BK850; clear HB; have HO856 := n0_; have HO859 := n1_; have HO865 := n2_; have HO868 := n3_; have BK850 := n4_; have HB := n5_; have BK869 := n6_; have GW869 := n7_; have GE869 := n8_; have NB850_869 := n9_; have NB869_850 := n10_; clear n0_ n1_ n2_ n3_ n4_ n5_ n6_ n7_ n8_ n9_ n10_; clear hb hbox hg; have hnb23 := NB869_850.out; have hnc23 := NB850_869.out; have hcz24_0 : w22.cell? ⟨gb869, 0, none⟩ = some (.int .i64 0) := (blk_cell BK869.out 0).trans rfl; have hcz24_1 : w22.cell? ⟨gb869, 1, none⟩ = some (.int .i64 0) := (blk_cell BK869.out 1).trans rfl; have hcz24_2 : w22.cell? ⟨gb869, 2, none⟩ = some (.slice none 0 0) := (blk_cell BK869.out 2).trans rfl; have hcz24_3 : w22.cell? ⟨gb869, 3, none⟩ = some (.slice none 0 0) := (blk_cell BK869.out 3).trans rfl; have hfz24_0 := blk_frozen BK869.out 0; have hfz24_1 := blk_frozen BK869.out 1; have hfz24_2 := blk_frozen BK869.out 2; have hfz24_3 := blk_frozen BK869.out 3; obtain ⟨Ao25, co25, eo25⟩ := Kd.R_slice HO865.out; subst eo25; obtain ⟨Ao26, co26, eo26⟩ := Kd.R_slice HO868.out; subst eo26) | ((with_reducible refine gate_callee (f := 57) rfl ?_); refine goesL_ (some 18) rfl rfl Try.func57 (by kernel_rfl) rfl #[.agg #[.int .i64 t861, .int .i64 t862, .slice Ao25 t863.length co25, .slice Ao26 t866.length co26]] rfl (by (try simp only [List.map_toArray, List.map_cons, List.map_nil]); first | done | rfl | (simp only [List.length_drop, List.length_take]; rfl)) ?_; (with_reducible refine (impl_LogOk.calls k t861 t862 _ _ t863 _ _ t866 t870 _ ?side1 ?side2 ?side3 ?side4 A10.out).mono ?_); (case side1 => refine (Kd.R_reads' (e := 115) (base := w.heap.size) (ok := fun k_ => (True ∧ some k_ ≠ (.slice Ao17 t854.length co17 : Value).ownBlock)) (n := t863.length) (c := co25) ?_).2.2; exact (by (with_reducible repeat (first | apply Kd.R_alloc | apply Kd.R_drewN | apply Kd.R_drew)); exact (Kd.R_mono (Kd.R_far (p := ⟨gb869, 3, none⟩) (Kd.R_far (p := ⟨gb869, 2, none⟩) (Kd.R_far (p := ⟨gb869, 1, none⟩) (Kd.R_far (p := ⟨gb869, 0, none⟩) (Kd.R_types HO865.out BK869.out (by decide)) (fun _ hk => hk.2) (.int .i64 t861)) (fun _ hk => hk.2) (.int .i64 t862)) (fun _ hk => hk.2) (.slice Ao25 t863.length co25)) (fun _ hk => hk.2) (.slice Ao26 t866.length co26)) (fun _ h_ => h_.1)))); (case side2 => exact (Kd.R_reads' HO865.out).2.1); (case side3 => refine (Kd.R_reads' (e := 72) (base := w.heap.size) (ok := fun k_ => (True ∧ some k_ ≠ (.slice Ao18 t857.length co18 : Value).ownBlock)) (n := t866.length) (c := co26) ?_).2.2; exact (by (with_reducible repeat (first | apply Kd.R_alloc | apply Kd.R_drewN | apply Kd.R_drew)); exact (Kd.R_mono (Kd.R_far (p := ⟨gb869, 3, none⟩) (Kd.R_far (p := ⟨gb869, 2, none⟩) (Kd.R_far (p := ⟨gb869, 1, none⟩) (Kd.R_far (p := ⟨gb869, 0, none⟩) (Kd.R_types HO868.out BK869.out (by decide)) (fun _ hk => hk.2) (.int .i64 t861)) (fun _ hk => hk.2) (.int .i64 t862)) (fun _ hk => hk.2) (.slice Ao25 t863.length co25)) (fun _ hk => hk.2) (.slice Ao26 t866.length co26)) (fun _ h_ => h_.1)))); (case side4 => exact (Kd.R_reads' HO868.out).2.1); rintro e w27 ⟨rfl, hb⟩; refine ⟨_, rfl, ?_⟩; have n0_ := Aside0.mk (Kd.R_below (by (with_reducible repeat (first | apply Kd.R_alloc | apply Kd.R_drewN | apply Kd.R_drew)); exact (Kd.R_mono (Kd.R_far (p := ⟨gb869, 3, none⟩) (Kd.R_far (p := ⟨gb869, 2, none⟩) (Kd.R_far (p := ⟨gb869, 1, none⟩) (Kd.R_far (p := ⟨gb869, 0, none⟩) (Kd.R_types HO856.out BK869.out (by decide)) (fun _ hk => hk.2) (.int .i64 t861)) (fun _ hk => hk.2) (.int .i64 t862)) (fun _ hk => hk.2) (.slice Ao25 t863.length co25)) (fun _ hk => hk.2) (.slice Ao26 t866.length co26)) (fun _ h_ => h_.1))) hb); have n1_ := Aside0.mk (Kd.R_below (by (with_reducible repeat (first | apply Kd.R_alloc | apply Kd.R_drewN | apply Kd.R_drew)); exact (Kd.R_mono (Kd.R_far (p := ⟨gb869, 3, none⟩) (Kd.R_far (p := ⟨gb869, 2, none⟩) (Kd.R_far (p := ⟨gb869, 1, none⟩) (Kd.R_far (p := ⟨gb869, 0, none⟩) (Kd.R_types HO859.out BK869.out (by decide)) (fun _ hk => hk.2) (.int .i64 t861)) (fun _ hk => hk.2) (.int .i64 t862)) (fun _ hk => hk.2) (.slice Ao25 t863.length co25)) (fun _ hk => hk.2) (.slice Ao26 t866.length co26)) (fun _ h_ => h_.1))) hb); have n2_ := Aside0.mk (Kd.R_below (by (with_reducible repeat (first | apply Kd.R_alloc | apply Kd.R_drewN | apply Kd.R_drew)); exact (Kd.R_mono (Kd.R_far (p := ⟨gb869, 3, none⟩) (Kd.R_far (p := ⟨gb869, 2, none⟩) (Kd.R_far (p := ⟨gb869, 1, none⟩) (Kd.R_far (p := ⟨gb869, 0, none⟩) (Kd.R_types HO865.out BK869.out (by decide)) (fun _ hk => hk.2) (.int .i64 t861)) (fun _ hk => hk.2) (.int .i64 t862)) (fun _ hk => hk.2) (.slice Ao25 t863.length co25)) (fun _ hk => hk.2) (.slice Ao26 t866.length co26)) (fun _ h_ => h_.1))) hb); have n3_ := Aside0.mk (Kd.R_below (by (with_reducible repeat (first | apply Kd.R_alloc | apply Kd.R_drewN | apply Kd.R_drew)); exact (Kd.R_mono (Kd.R_far (p := ⟨gb869, 3, none⟩) (Kd.R_far (p := ⟨gb869, 2, none⟩) (Kd.R_far (p := ⟨gb869, 1, none⟩) (Kd.R_far (p := ⟨gb869, 0, none⟩) (Kd.R_types HO868.out BK869.out (by decide)) (fun _ hk => hk.2) (.int .i64 t861)) (fun _ hk => hk.2) (.int .i64 t862)) (fun _ hk => hk.2) (.slice Ao25 t863.length co25)) (fun _ hk => hk.2) (.slice Ao26 t866.length co26)) (fun _ h_ => h_.1))) hb); have n4_ := Aside0.mk (blk_below (g := gb850) (o := .cells #[.int .i64 a0_0, .int .i64 a0_1, .slice A0_2 l0_2.length c0_2, .slice A0_3 l0_3.length c0_3] 53 (0, 0)) (by (with_reducible repeat (first | refine blk_drewN ?_ _ | refine blk_drew ?_ | refine blk_alloc ?_ _)); refine blk_far ?_ NB850_869.out _; (with_reducible repeat (first | refine blk_drewN ?_ _ | refine blk_drew ?_ | refine blk_alloc ?_ _)); refine blk_far ?_ NB850_869.out _; (with_reducible repeat (first | refine blk_drewN ?_ _ | refine blk_drew ?_ | refine blk_alloc ?_ _)); refine blk_far ?_ NB850_869.out _; (with_reducible repeat (first | refine blk_drewN ?_ _ | refine blk_drew ?_ | refine blk_alloc ?_ _)); refine blk_far ?_ NB850_869.out _; (with_reducible repeat (first | refine blk_drewN ?_ _ | refine blk_drew ?_ | refine blk_alloc ?_ _)); exact BK850.out) hb); have n5_ := Aside0.mk (blk_below (g := gb869) (o := .cells #[.int .i64 t861, .int .i64 t862, .slice Ao25 t863.length co25, .slice Ao26 t866.length co26] 58 (0, 0)) (by (with_reducible repeat (first | refine blk_drewN ?_ _ | refine blk_drew ?_ | refine blk_alloc ?_ _)); refine blk_put (cs := #[.int .i64 t861, .int .i64 t862, .slice Ao25 t863.length co25, .slice none 0 0]) ?_ 3 _ rfl; (with_reducible repeat (first | refine blk_drewN ?_ _ | refine blk_drew ?_ | refine blk_alloc ?_ _)); refine blk_put (cs := #[.int .i64 t861, .int .i64 t862, .slice none 0 0, .slice none 0 0]) ?_ 2 _ rfl; (with_reducible repeat (first | refine blk_drewN ?_ _ | refine blk_drew ?_ | refine blk_alloc ?_ _)); refine blk_put (cs := #[.int .i64 t861, .int .i64 0, .slice none 0 0, .slice none 0 0]) ?_ 1 _ rfl; (with_reducible repeat (first | refine blk_drewN ?_ _ | refine blk_drew ?_ | refine blk_alloc ?_ _)); refine blk_put (cs := #[.int .i64 0, .int .i64 0, .slice none 0 0, .slice none 0 0]) ?_ 0 _ rfl; (with_reducible repeat (first | refine blk_drewN ?_ _ | refine blk_drew ?_ | refine blk_alloc ?_ _)); exact BK869.out) hb); have n6_ := Aside0.mk (below_step (by repeat (first | (with_reducible first | exact HB.out | apply below_alloc | apply pw_below_drewN | apply below_drew1 | refine below_set ?_ GE850.out | refine below_set ?_ GE869.out) | exact HB.out)) hb); clear HO856; clear HO859; clear HO865; clear HO868; clear BK850; clear BK869; clear HB; have HO856 := n0_; have HO859 := n1_; have HO865 := n2_; have HO868 := n3_; have BK850 := n4_; have BK869 := n5_; have HB := n6_; clear n0_ n1_ n2_ n3_ n4_ n5_ n6_; (try clear hb); (try clear hb2); (try clear hk); (try clear hi)))
      go_ret
      exact ⟨by first | rfl | (simp [errW_none, errW_some] <;> rfl) | (simp [*, errW_none, errW_some] <;> rfl), by repeat (first | (with_reducible first | exact HB.out | apply below_alloc | apply pw_below_drewN | apply below_drew1 | refine below_set ?_ GE850.out | refine below_set ?_ GE869.out) | exact HB.out)⟩
    · rw [if_neg c11] at H
      have c11b0 : (t870 != t860) = false := by simpa using c11
      (try (have c11b1 : decide (t870 = t860) = true := by simpa using c11))
      (try (have c11b2 : (t870 == t860) = true := by simpa using c11))
      clear c11
      replace H := Option.bind_eq_some_iff.mp H
      obtain ⟨⟨t871, t872, t873, t876⟩, A280, H⟩ := H
      replace H : ((laws_eqLog.f k t861 t862 t863 t866 t871 t872 t873 t876).bind fun t879 => (if t879 = true then (some true) else (some false))) = some r := H
      have A28 := Aside0.mk A280
      clear A280
      replace H := Option.bind_eq_some_iff.mp H
      obtain ⟨t879, A290, H⟩ := H
      replace H : (if t879 = true then (some true) else (some false)) = some r := H
      have A29 := Aside0.mk A290
      clear A290
      by_cases c30 : t879 = true
      · subst c30
        have H1 : (some true) = some r := by rw [if_pos rfl] at H; exact H
        clear H
        have H := H1
        clear H1
        obtain rfl := Option.some.inj H
        go_enter Try.func11, Try.ntmps11
        try go_wp2_with (first | ((with_reducible refine gate_dst (N := 1) rfl ?_); refine box_event ?hg (N := 1) ?hd (cs := #[.int .i64 a0_0, .int .i64 a0_1, .slice A0_2 l0_2.length c0_2, .slice A0_3 l0_3.length c0_3]) (t := 53) ?hr ?_; (case hd => rfl); (case hg => rfl); (case hr => first | (go_simp; done) | (go_simp; rfl)); intro gb850 hg w31 hbox hb; have n0_ := Aside0.mk (below_step (by repeat (first | (with_reducible first | exact HB.out | apply below_alloc | apply pw_below_drewN | apply below_drew1) | exact HB.out)) hb); have n1_ := Aside0.mk (hbox); have n2_ := Aside0.mk ((by rw [hg]; exact (below_size (by repeat (first | (with_reducible first | exact HB.out | apply below_alloc | apply pw_below_drewN | apply below_drew1) | exact HB.out))) : w.heap.size ≤ gb850)); have n3_ := Aside0.mk ((by rw [hg]; exact (below_size (by repeat (first | (with_reducible first | exact HB.out | apply below_alloc | apply pw_below_drewN | apply below_drew1) | exact HB.out))) : w.heap.size ≤ gb850)); clear HB; have HB := n0_; have BK850 := n1_; have GW850 := n2_; have GE850 := n3_; clear n0_ n1_ n2_ n3_; clear hb hbox hg; have hcz32_0 : w31.cell? ⟨gb850, 0, none⟩ = some (.int .i64 a0_0) := (blk_cell BK850.out 0).trans rfl; have hcz32_1 : w31.cell? ⟨gb850, 1, none⟩ = some (.int .i64 a0_1) := (blk_cell BK850.out 1).trans rfl; have hcz32_2 : w31.cell? ⟨gb850, 2, none⟩ = some (.slice A0_2 l0_2.length c0_2) := (blk_cell BK850.out 2).trans rfl; have hcz32_3 : w31.cell? ⟨gb850, 3, none⟩ = some (.slice A0_3 l0_3.length c0_3) := (blk_cell BK850.out 3).trans rfl; have hfz32_0 := blk_frozen BK850.out 0; have hfz32_1 := blk_frozen BK850.out 1; have hfz32_2 := blk_frozen BK850.out 2; have hfz32_3 := blk_frozen BK850.out 3) | ((with_reducible refine gate_callee (f := 54) rfl ?_); refine goesL_ (some 9) rfl rfl Try.func54 (by kernel_rfl) rfl #[.agg #[.int .i64 a0_0, .int .i64 a0_1, .slice A0_2 l0_2.length c0_2, .slice A0_3 l0_3.length c0_3], .int .i64 1048576] rfl (by (try simp only [List.map_toArray, List.map_cons, List.map_nil]); first | done | rfl | (simp only [List.length_drop, List.length_take]; rfl)) ?_; (with_reducible refine (laws_szLog.calls k a0_0 a0_1 _ _ l0_2 _ _ l0_3 1048576 t851 _ ?side1 ?side2 ?side3 ?side4 A2.out).mono ?_); (case side1 => repeat (first | exact (Kd.C_below HR0_2.out HB.out) | (with_reducible refine Kd.C_alloc ?_ _) | (with_reducible refine Kd.C_drewN ?_ _) | (with_reducible refine Kd.C_drew ?_))); (case side2 => exact HC0_2.out); (case side3 => repeat (first | exact (Kd.C_below HR0_3.out HB.out) | (with_reducible refine Kd.C_alloc ?_ _) | (with_reducible refine Kd.C_drewN ?_ _) | (with_reducible refine Kd.C_drew ?_))); (case side4 => exact HC0_3.out); rintro e w33 ⟨rfl, hb⟩; refine ⟨_, rfl, ?_⟩; have n0_ := Aside0.mk (blk_below (g := gb850) (o := .cells #[.int .i64 a0_0, .int .i64 a0_1, .slice A0_2 l0_2.length c0_2, .slice A0_3 l0_3.length c0_3] 53 (0, 0)) (by (with_reducible repeat (first | refine blk_drewN ?_ _ | refine blk_drew ?_ | refine blk_alloc ?_ _)); exact BK850.out) hb); have n1_ := Aside0.mk (below_step (by repeat (first | (with_reducible first | exact HB.out | apply below_alloc | apply pw_below_drewN | apply below_drew1 | refine below_set ?_ GE850.out) | exact HB.out)) hb); clear BK850; clear HB; have BK850 := n0_; have HB := n1_; clear n0_ n1_; (try clear hb); (try clear hb2); (try clear hk); (try clear hi); have hcz34_0 : w33.cell? ⟨gb850, 0, none⟩ = some (.int .i64 a0_0) := (blk_cell BK850.out 0).trans rfl; have hcz34_1 : w33.cell? ⟨gb850, 1, none⟩ = some (.int .i64 a0_1) := (blk_cell BK850.out 1).trans rfl; have hcz34_2 : w33.cell? ⟨gb850, 2, none⟩ = some (.slice A0_2 l0_2.length c0_2) := (blk_cell BK850.out 2).trans rfl; have hcz34_3 : w33.cell? ⟨gb850, 3, none⟩ = some (.slice A0_3 l0_3.length c0_3) := (blk_cell BK850.out 3).trans rfl; have hfz34_0 := blk_frozen BK850.out 0; have hfz34_1 := blk_frozen BK850.out 1; have hfz34_2 := blk_frozen BK850.out 2; have hfz34_3 := blk_frozen BK850.out 3) | ((with_reducible refine gate_callee (f := 56) rfl ?_); refine goesL_ (some 13) rfl rfl Try.func56 (by kernel_rfl) rfl #[.agg #[.int .i64 a0_0, .int .i64 a0_1, .slice A0_2 l0_2.length c0_2, .slice A0_3 l0_3.length c0_3]] rfl (by (try simp only [List.map_toArray, List.map_cons, List.map_nil]); first | done | rfl | (simp only [List.length_drop, List.length_take]; rfl)) ?_; (with_reducible refine (laws_toLog.calls k a0_0 a0_1 _ _ l0_2 _ _ l0_3 t852 t853 t854 t857 _ ?side1 ?side2 ?side3 ?side4 A7.out).mono ?_); (case side1 => repeat (first | exact (Kd.C_below HR0_2.out HB.out) | (with_reducible refine Kd.C_alloc ?_ _) | (with_reducible refine Kd.C_drewN ?_ _) | (with_reducible refine Kd.C_drew ?_))); (case side2 => exact HC0_2.out); (case side3 => repeat (first | exact (Kd.C_below HR0_3.out HB.out) | (with_reducible refine Kd.C_alloc ?_ _) | (with_reducible refine Kd.C_drewN ?_ _) | (with_reducible refine Kd.C_drew ?_))); (case side4 => exact HC0_3.out); rintro e w35 ⟨v855, v858, rfl, ho0, ho1, hb⟩; refine ⟨_, rfl, ?_⟩; have n0_ := Aside0.mk (Kd.R_lower ho0 (below_size (by repeat (first | (with_reducible first | exact HB.out | apply below_alloc | apply pw_below_drewN | apply below_drew1 | refine below_set ?_ GE850.out) | exact HB.out)))); have n1_ := Aside0.mk (Kd.R_lower ho1 (below_size (by repeat (first | (with_reducible first | exact HB.out | apply below_alloc | apply pw_below_drewN | apply below_drew1 | refine below_set ?_ GE850.out) | exact HB.out)))); have n2_ := Aside0.mk (blk_below (g := gb850) (o := .cells #[.int .i64 a0_0, .int .i64 a0_1, .slice A0_2 l0_2.length c0_2, .slice A0_3 l0_3.length c0_3] 53 (0, 0)) (by (with_reducible repeat (first | refine blk_drewN ?_ _ | refine blk_drew ?_ | refine blk_alloc ?_ _)); exact BK850.out) hb); have n3_ := Aside0.mk (below_step (by repeat (first | (with_reducible first | exact HB.out | apply below_alloc | apply pw_below_drewN | apply below_drew1 | refine below_set ?_ GE850.out) | exact HB.out)) hb); clear BK850; clear HB; have HO856 := n0_; have HO859 := n1_; have BK850 := n2_; have HB := n3_; clear n0_ n1_ n2_ n3_; (try clear hb); (try clear hb2); (try clear hk); (try clear hi); (try clear ho0); (try clear ho1); obtain ⟨Ao36, co36, eo36⟩ := Kd.R_slice HO856.out; subst eo36; obtain ⟨Ao37, co37, eo37⟩ := Kd.R_slice HO859.out; subst eo37) | ((with_reducible refine gate_callee (f := 55) rfl ?_); refine goesL_ (some 14) rfl rfl Try.func55 (by kernel_rfl) rfl #[.agg #[.int .i64 t852, .int .i64 t853, .slice Ao36 t854.length co36, .slice Ao37 t857.length co37]] rfl (by (try simp only [List.map_toArray, List.map_cons, List.map_nil]); first | done | rfl | (simp only [List.length_drop, List.length_take]; rfl)) ?_; (with_reducible refine (spec_LogOk.calls k t852 t853 _ _ t854 _ _ t857 t860 _ ?side1 ?side2 ?side3 ?side4 A8.out).mono ?_); (case side1 => repeat (first | exact (Kd.R_reads' HO856.out).2.2 | (with_reducible refine Kd.C_alloc ?_ _) | (with_reducible refine Kd.C_drewN ?_ _) | (with_reducible refine Kd.C_drew ?_))); (case side2 => exact (Kd.R_reads' HO856.out).2.1); (case side3 => repeat (first | exact (Kd.R_reads' HO859.out).2.2 | (with_reducible refine Kd.C_alloc ?_ _) | (with_reducible refine Kd.C_drewN ?_ _) | (with_reducible refine Kd.C_drew ?_))); (case side4 => exact (Kd.R_reads' HO859.out).2.1); rintro e w38 ⟨rfl, hb⟩; refine ⟨_, rfl, ?_⟩; have n0_ := Aside0.mk (Kd.R_below (by (with_reducible repeat (first | apply Kd.R_alloc | apply Kd.R_drewN | apply Kd.R_drew)); exact HO856.out) hb); have n1_ := Aside0.mk (Kd.R_below (by (with_reducible repeat (first | apply Kd.R_alloc | apply Kd.R_drewN | apply Kd.R_drew)); exact HO859.out) hb); have n2_ := Aside0.mk (blk_below (g := gb850) (o := .cells #[.int .i64 a0_0, .int .i64 a0_1, .slice A0_2 l0_2.length c0_2, .slice A0_3 l0_3.length c0_3] 53 (0, 0)) (by (with_reducible repeat (first | refine blk_drewN ?_ _ | refine blk_drew ?_ | refine blk_alloc ?_ _)); exact BK850.out) hb); have n3_ := Aside0.mk (below_step (by repeat (first | (with_reducible first | exact HB.out | apply below_alloc | apply pw_below_drewN | apply below_drew1 | refine below_set ?_ GE850.out) | exact HB.out)) hb); clear HO856; clear HO859; clear BK850; clear HB; have HO856 := n0_; have HO859 := n1_; have BK850 := n2_; have HB := n3_; clear n0_ n1_ n2_ n3_; (try clear hb); (try clear hb2); (try clear hk); (try clear hi); have hcz39_0 : w38.cell? ⟨gb850, 0, none⟩ = some (.int .i64 a0_0) := (blk_cell BK850.out 0).trans rfl; have hcz39_1 : w38.cell? ⟨gb850, 1, none⟩ = some (.int .i64 a0_1) := (blk_cell BK850.out 1).trans rfl; have hcz39_2 : w38.cell? ⟨gb850, 2, none⟩ = some (.slice A0_2 l0_2.length c0_2) := (blk_cell BK850.out 2).trans rfl; have hcz39_3 : w38.cell? ⟨gb850, 3, none⟩ = some (.slice A0_3 l0_3.length c0_3) := (blk_cell BK850.out 3).trans rfl; have hfz39_0 := blk_frozen BK850.out 0; have hfz39_1 := blk_frozen BK850.out 1; have hfz39_2 := blk_frozen BK850.out 2; have hfz39_3 := blk_frozen BK850.out 3) | ((with_reducible refine gate_callee (f := 56) rfl ?_); refine goesL_ (some 16) rfl rfl Try.func56 (by kernel_rfl) rfl #[.agg #[.int .i64 a0_0, .int .i64 a0_1, .slice A0_2 l0_2.length c0_2, .slice A0_3 l0_3.length c0_3]] rfl (by (try simp only [List.map_toArray, List.map_cons, List.map_nil]); first | done | rfl | (simp only [List.length_drop, List.length_take]; rfl)) ?_; (with_reducible refine (laws_toLog.calls k a0_0 a0_1 _ _ l0_2 _ _ l0_3 t861 t862 t863 t866 _ ?side1 ?side2 ?side3 ?side4 A9.out).mono ?_); (case side1 => repeat (first | exact (Kd.C_below HR0_2.out HB.out) | (with_reducible refine Kd.C_alloc ?_ _) | (with_reducible refine Kd.C_drewN ?_ _) | (with_reducible refine Kd.C_drew ?_))); (case side2 => exact HC0_2.out); (case side3 => repeat (first | exact (Kd.C_below HR0_3.out HB.out) | (with_reducible refine Kd.C_alloc ?_ _) | (with_reducible refine Kd.C_drewN ?_ _) | (with_reducible refine Kd.C_drew ?_))); (case side4 => exact HC0_3.out); rintro e w40 ⟨v864, v867, rfl, ho0, ho1, hb⟩; refine ⟨_, rfl, ?_⟩; have n0_ := Aside0.mk (Kd.R_elder' (by (with_reducible repeat (first | apply Kd.R_alloc | apply Kd.R_drewN | apply Kd.R_drew)); exact HO856.out) (Kd.R_base ho0) hb); have n1_ := Aside0.mk (Kd.R_elder' (by (with_reducible repeat (first | apply Kd.R_alloc | apply Kd.R_drewN | apply Kd.R_drew)); exact HO859.out) (Kd.R_base ho1) hb); have n2_ := Aside0.mk (Kd.R_lower (Kd.R_new' ho0 (Kd.R_lt (by (with_reducible repeat (first | apply Kd.R_alloc | apply Kd.R_drewN | apply Kd.R_drew)); exact HO856.out))) (below_size (by repeat (first | (with_reducible first | exact HB.out | apply below_alloc | apply pw_below_drewN | apply below_drew1 | refine below_set ?_ GE850.out) | exact HB.out)))); have n3_ := Aside0.mk (Kd.R_lower (Kd.R_new' ho1 (Kd.R_lt (by (with_reducible repeat (first | apply Kd.R_alloc | apply Kd.R_drewN | apply Kd.R_drew)); exact HO859.out))) (below_size (by repeat (first | (with_reducible first | exact HB.out | apply below_alloc | apply pw_below_drewN | apply below_drew1 | refine below_set ?_ GE850.out) | exact HB.out)))); have n4_ := Aside0.mk (blk_below (g := gb850) (o := .cells #[.int .i64 a0_0, .int .i64 a0_1, .slice A0_2 l0_2.length c0_2, .slice A0_3 l0_3.length c0_3] 53 (0, 0)) (by (with_reducible repeat (first | refine blk_drewN ?_ _ | refine blk_drew ?_ | refine blk_alloc ?_ _)); exact BK850.out) hb); have n5_ := Aside0.mk (below_step (by repeat (first | (with_reducible first | exact HB.out | apply below_alloc | apply pw_below_drewN | apply below_drew1 | refine below_set ?_ GE850.out) | exact HB.out)) hb); clear HO856; clear HO859; clear BK850; clear HB; have HO856 := n0_; have HO859 := n1_; have HO865 := n2_; have HO868 := n3_; have BK850 := n4_; have HB := n5_; clear n0_ n1_ n2_ n3_ n4_ n5_; (try clear hb); (try clear hb2); (try clear hk); (try clear hi); (try clear ho0); (try clear ho1)) | ((with_reducible refine gate_dst (N := 5) rfl ?_); refine box_event ?hg (N := 5) ?hd (cs := #[.int .i64 0, .int .i64 0, .slice none 0 0, .slice none 0 0]) (t := 58) ?hr ?_; (case hd => rfl); (case hg => rfl); (case hr => first | (go_simp; done) | (go_simp; rfl)); intro gb869 hg w41 hbox hb; have n0_ := Aside0.mk (Kd.R_below (by (with_reducible repeat (first | apply Kd.R_alloc | apply Kd.R_drewN | apply Kd.R_drew)); exact HO856.out) hb); have n1_ := Aside0.mk (Kd.R_below (by (with_reducible repeat (first | apply Kd.R_alloc | apply Kd.R_drewN | apply Kd.R_drew)); exact HO859.out) hb); have n2_ := Aside0.mk (Kd.R_below (by (with_reducible repeat (first | apply Kd.R_alloc | apply Kd.R_drewN | apply Kd.R_drew)); exact HO865.out) hb); have n3_ := Aside0.mk (Kd.R_below (by (with_reducible repeat (first | apply Kd.R_alloc | apply Kd.R_drewN | apply Kd.R_drew)); exact HO868.out) hb); have n4_ := Aside0.mk (blk_below (g := gb850) (o := .cells #[.int .i64 a0_0, .int .i64 a0_1, .slice A0_2 l0_2.length c0_2, .slice A0_3 l0_3.length c0_3] 53 (0, 0)) (by (with_reducible repeat (first | refine blk_drewN ?_ _ | refine blk_drew ?_ | refine blk_alloc ?_ _)); exact BK850.out) hb); have n5_ := Aside0.mk (below_step (by repeat (first | (with_reducible first | exact HB.out | apply below_alloc | apply pw_below_drewN | apply below_drew1 | refine below_set ?_ GE850.out) | exact HB.out)) hb); have n6_ := Aside0.mk (hbox); have n7_ := Aside0.mk ((by rw [hg]; exact (below_size (by repeat (first | (with_reducible first | exact HB.out | apply below_alloc | apply pw_below_drewN | apply below_drew1 | refine below_set ?_ GE850.out) | exact HB.out))) : w.heap.size ≤ gb869)); have n8_ := Aside0.mk ((by rw [hg]; exact (below_size (by repeat (first | (with_reducible first | exact HB.out | apply below_alloc | apply pw_below_drewN | apply below_drew1 | refine below_set ?_ GE850.out) | exact HB.out))) : w.heap.size ≤ gb869)); have n9_ := Aside0.mk ((by rw [hg]; exact Nat.ne_of_lt (blk_lt (g := gb850) (o := .cells #[.int .i64 a0_0, .int .i64 a0_1, .slice A0_2 l0_2.length c0_2, .slice A0_3 l0_3.length c0_3] 53 (0, 0)) (by (with_reducible repeat (first | refine blk_drewN ?_ _ | refine blk_drew ?_ | refine blk_alloc ?_ _)); exact BK850.out)) : gb850 ≠ gb869)); have n10_ := Aside0.mk ((by rw [hg]; exact Nat.ne_of_gt (blk_lt (g := gb850) (o := .cells #[.int .i64 a0_0, .int .i64 a0_1, .slice A0_2 l0_2.length c0_2, .slice A0_3 l0_3.length c0_3] 53 (0, 0)) (by (with_reducible repeat (first | refine blk_drewN ?_ _ | refine blk_drew ?_ | refine blk_alloc ?_ _)); exact BK850.out)) : gb869 ≠ gb850)); clear HO856; clear HO859; clear HO865; clear HO868; clear BK850; clear HB; have HO856 := n0_; have HO859 := n1_; have HO865 := n2_; have HO868 := n3_; have BK850 := n4_; have HB := n5_; have BK869 := n6_; have GW869 := n7_; have GE869 := n8_; have NB850_869 := n9_; have NB869_850 := n10_; clear n0_ n1_ n2_ n3_ n4_ n5_ n6_ n7_ n8_ n9_ n10_; clear hb hbox hg; have hnb42 := NB869_850.out; have hnc42 := NB850_869.out; have hcz43_0 : w41.cell? ⟨gb869, 0, none⟩ = some (.int .i64 0) := (blk_cell BK869.out 0).trans rfl; have hcz43_1 : w41.cell? ⟨gb869, 1, none⟩ = some (.int .i64 0) := (blk_cell BK869.out 1).trans rfl; have hcz43_2 : w41.cell? ⟨gb869, 2, none⟩ = some (.slice none 0 0) := (blk_cell BK869.out 2).trans rfl; have hcz43_3 : w41.cell? ⟨gb869, 3, none⟩ = some (.slice none 0 0) := (blk_cell BK869.out 3).trans rfl; have hfz43_0 := blk_frozen BK869.out 0; have hfz43_1 := blk_frozen BK869.out 1; have hfz43_2 := blk_frozen BK869.out 2; have hfz43_3 := blk_frozen BK869.out 3; obtain ⟨Ao44, co44, eo44⟩ := Kd.R_slice HO865.out; subst eo44; obtain ⟨Ao45, co45, eo45⟩ := Kd.R_slice HO868.out; subst eo45) | ((with_reducible refine gate_callee (f := 57) rfl ?_); refine goesL_ (some 18) rfl rfl Try.func57 (by kernel_rfl) rfl #[.agg #[.int .i64 t861, .int .i64 t862, .slice Ao44 t863.length co44, .slice Ao45 t866.length co45]] rfl (by (try simp only [List.map_toArray, List.map_cons, List.map_nil]); first | done | rfl | (simp only [List.length_drop, List.length_take]; rfl)) ?_; (with_reducible refine (impl_LogOk.calls k t861 t862 _ _ t863 _ _ t866 t870 _ ?side1 ?side2 ?side3 ?side4 A10.out).mono ?_); (case side1 => refine (Kd.R_reads' (e := 115) (base := w.heap.size) (ok := fun k_ => (True ∧ some k_ ≠ (.slice Ao36 t854.length co36 : Value).ownBlock)) (n := t863.length) (c := co44) ?_).2.2; exact (by (with_reducible repeat (first | apply Kd.R_alloc | apply Kd.R_drewN | apply Kd.R_drew)); exact (Kd.R_mono (Kd.R_far (p := ⟨gb869, 3, none⟩) (Kd.R_far (p := ⟨gb869, 2, none⟩) (Kd.R_far (p := ⟨gb869, 1, none⟩) (Kd.R_far (p := ⟨gb869, 0, none⟩) (Kd.R_types HO865.out BK869.out (by decide)) (fun _ hk => hk.2) (.int .i64 t861)) (fun _ hk => hk.2) (.int .i64 t862)) (fun _ hk => hk.2) (.slice Ao44 t863.length co44)) (fun _ hk => hk.2) (.slice Ao45 t866.length co45)) (fun _ h_ => h_.1)))); (case side2 => exact (Kd.R_reads' HO865.out).2.1); (case side3 => refine (Kd.R_reads' (e := 72) (base := w.heap.size) (ok := fun k_ => (True ∧ some k_ ≠ (.slice Ao37 t857.length co37 : Value).ownBlock)) (n := t866.length) (c := co45) ?_).2.2; exact (by (with_reducible repeat (first | apply Kd.R_alloc | apply Kd.R_drewN | apply Kd.R_drew)); exact (Kd.R_mono (Kd.R_far (p := ⟨gb869, 3, none⟩) (Kd.R_far (p := ⟨gb869, 2, none⟩) (Kd.R_far (p := ⟨gb869, 1, none⟩) (Kd.R_far (p := ⟨gb869, 0, none⟩) (Kd.R_types HO868.out BK869.out (by decide)) (fun _ hk => hk.2) (.int .i64 t861)) (fun _ hk => hk.2) (.int .i64 t862)) (fun _ hk => hk.2) (.slice Ao44 t863.length co44)) (fun _ hk => hk.2) (.slice Ao45 t866.length co45)) (fun _ h_ => h_.1)))); (case side4 => exact (Kd.R_reads' HO868.out).2.1); rintro e w46 ⟨rfl, hb⟩; refine ⟨_, rfl, ?_⟩; have n0_ := Aside0.mk (Kd.R_below (by (with_reducible repeat (first | apply Kd.R_alloc | apply Kd.R_drewN | apply Kd.R_drew)); exact (Kd.R_mono (Kd.R_far (p := ⟨gb869, 3, none⟩) (Kd.R_far (p := ⟨gb869, 2, none⟩) (Kd.R_far (p := ⟨gb869, 1, none⟩) (Kd.R_far (p := ⟨gb869, 0, none⟩) (Kd.R_types HO856.out BK869.out (by decide)) (fun _ hk => hk.2) (.int .i64 t861)) (fun _ hk => hk.2) (.int .i64 t862)) (fun _ hk => hk.2) (.slice Ao44 t863.length co44)) (fun _ hk => hk.2) (.slice Ao45 t866.length co45)) (fun _ h_ => h_.1))) hb); have n1_ := Aside0.mk (Kd.R_below (by (with_reducible repeat (first | apply Kd.R_alloc | apply Kd.R_drewN | apply Kd.R_drew)); exact (Kd.R_mono (Kd.R_far (p := ⟨gb869, 3, none⟩) (Kd.R_far (p := ⟨gb869, 2, none⟩) (Kd.R_far (p := ⟨gb869, 1, none⟩) (Kd.R_far (p := ⟨gb869, 0, none⟩) (Kd.R_types HO859.out BK869.out (by decide)) (fun _ hk => hk.2) (.int .i64 t861)) (fun _ hk => hk.2) (.int .i64 t862)) (fun _ hk => hk.2) (.slice Ao44 t863.length co44)) (fun _ hk => hk.2) (.slice Ao45 t866.length co45)) (fun _ h_ => h_.1))) hb); have n2_ := Aside0.mk (Kd.R_below (by (with_reducible repeat (first | apply Kd.R_alloc | apply Kd.R_drewN | apply Kd.R_drew)); exact (Kd.R_mono (Kd.R_far (p := ⟨gb869, 3, none⟩) (Kd.R_far (p := ⟨gb869, 2, none⟩) (Kd.R_far (p := ⟨gb869, 1, none⟩) (Kd.R_far (p := ⟨gb869, 0, none⟩) (Kd.R_types HO865.out BK869.out (by decide)) (fun _ hk => hk.2) (.int .i64 t861)) (fun _ hk => hk.2) (.int .i64 t862)) (fun _ hk => hk.2) (.slice Ao44 t863.length co44)) (fun _ hk => hk.2) (.slice Ao45 t866.length co45)) (fun _ h_ => h_.1))) hb); have n3_ := Aside0.mk (Kd.R_below (by (with_reducible repeat (first | apply Kd.R_alloc | apply Kd.R_drewN | apply Kd.R_drew)); exact (Kd.R_mono (Kd.R_far (p := ⟨gb869, 3, none⟩) (Kd.R_far (p := ⟨gb869, 2, none⟩) (Kd.R_far (p := ⟨gb869, 1, none⟩) (Kd.R_far (p := ⟨gb869, 0, none⟩) (Kd.R_types HO868.out BK869.out (by decide)) (fun _ hk => hk.2) (.int .i64 t861)) (fun _ hk => hk.2) (.int .i64 t862)) (fun _ hk => hk.2) (.slice Ao44 t863.length co44)) (fun _ hk => hk.2) (.slice Ao45 t866.length co45)) (fun _ h_ => h_.1))) hb); have n4_ := Aside0.mk (blk_below (g := gb850) (o := .cells #[.int .i64 a0_0, .int .i64 a0_1, .slice A0_2 l0_2.length c0_2, .slice A0_3 l0_3.length c0_3] 53 (0, 0)) (by (with_reducible repeat (first | refine blk_drewN ?_ _ | refine blk_drew ?_ | refine blk_alloc ?_ _)); refine blk_far ?_ NB850_869.out _; (with_reducible repeat (first | refine blk_drewN ?_ _ | refine blk_drew ?_ | refine blk_alloc ?_ _)); refine blk_far ?_ NB850_869.out _; (with_reducible repeat (first | refine blk_drewN ?_ _ | refine blk_drew ?_ | refine blk_alloc ?_ _)); refine blk_far ?_ NB850_869.out _; (with_reducible repeat (first | refine blk_drewN ?_ _ | refine blk_drew ?_ | refine blk_alloc ?_ _)); refine blk_far ?_ NB850_869.out _; (with_reducible repeat (first | refine blk_drewN ?_ _ | refine blk_drew ?_ | refine blk_alloc ?_ _)); exact BK850.out) hb); have n5_ := Aside0.mk (blk_below (g := gb869) (o := .cells #[.int .i64 t861, .int .i64 t862, .slice Ao44 t863.length co44, .slice Ao45 t866.length co45] 58 (0, 0)) (by (with_reducible repeat (first | refine blk_drewN ?_ _ | refine blk_drew ?_ | refine blk_alloc ?_ _)); refine blk_put (cs := #[.int .i64 t861, .int .i64 t862, .slice Ao44 t863.length co44, .slice none 0 0]) ?_ 3 _ rfl; (with_reducible repeat (first | refine blk_drewN ?_ _ | refine blk_drew ?_ | refine blk_alloc ?_ _)); refine blk_put (cs := #[.int .i64 t861, .int .i64 t862, .slice none 0 0, .slice none 0 0]) ?_ 2 _ rfl; (with_reducible repeat (first | refine blk_drewN ?_ _ | refine blk_drew ?_ | refine blk_alloc ?_ _)); refine blk_put (cs := #[.int .i64 t861, .int .i64 0, .slice none 0 0, .slice none 0 0]) ?_ 1 _ rfl; (with_reducible repeat (first | refine blk_drewN ?_ _ | refine blk_drew ?_ | refine blk_alloc ?_ _)); refine blk_put (cs := #[.int .i64 0, .int .i64 0, .slice none 0 0, .slice none 0 0]) ?_ 0 _ rfl; (with_reducible repeat (first | refine blk_drewN ?_ _ | refine blk_drew ?_ | refine blk_alloc ?_ _)); exact BK869.out) hb); have n6_ := Aside0.mk (below_step (by repeat (first | (with_reducible first | exact HB.out | apply below_alloc | apply pw_below_drewN | apply below_drew1 | refine below_set ?_ GE850.out | refine below_set ?_ GE869.out) | exact HB.out)) hb); clear HO856; clear HO859; clear HO865; clear HO868; clear BK850; clear BK869; clear HB; have HO856 := n0_; have HO859 := n1_; have HO865 := n2_; have HO868 := n3_; have BK850 := n4_; have BK869 := n5_; have HB := n6_; clear n0_ n1_ n2_ n3_ n4_ n5_ n6_; (try clear hb); (try clear hb2); (try clear hk); (try clear hi)))
        have n0_ := Aside0.mk (Kd.R_drew HO856.out)
        have n1_ := Aside0.mk (Kd.R_drew HO859.out)
        have n2_ := Aside0.mk (Kd.R_drew HO865.out)
        have n3_ := Aside0.mk (Kd.R_drew HO868.out)
        have n4_ := Aside0.mk (blk_drew BK850.out)
        have n5_ := Aside0.mk (blk_drew BK869.out)
        have n6_ := Aside0.mk (below_drew1 HB.out)
        clear HO856
        clear HO859
        clear HO865
        clear HO868
        clear BK850
        clear BK869
        clear HB
        have HO856 := n0_
        have HO859 := n1_
        have HO865 := n2_
        have HO868 := n3_
        have BK850 := n4_
        have BK869 := n5_
        have HB := n6_
        clear n0_ n1_ n2_ n3_ n4_ n5_ n6_
        refine start_ (n := 5) (S := fun w' => w'.cell? ⟨gb869, 0, none⟩ = some (.int .i64 t861) ∧ w'.cell? ⟨gb869, 1, none⟩ = some (.int .i64 t862) ∧ w'.cell? ⟨gb869, 2, none⟩ = some (.slice Ao44 t863.length co44) ∧ w'.cell? ⟨gb869, 3, none⟩ = some (.slice Ao45 t866.length co45) ∧ w'.cell? ⟨gb850, 0, none⟩ = some (.int .i64 a0_0) ∧ w'.cell? ⟨gb850, 1, none⟩ = some (.int .i64 a0_1) ∧ w'.cell? ⟨gb850, 2, none⟩ = some (.slice A0_2 l0_2.length c0_2) ∧ w'.cell? ⟨gb850, 3, none⟩ = some (.slice A0_3 l0_3.length c0_3)) (ds := []) #[false, false, false, false, false] (by kernel_rfl) rfl rfl ⟨(blk_cell BK869.out 0).trans rfl, (blk_cell BK869.out 1).trans rfl, (blk_cell BK869.out 2).trans rfl, (blk_cell BK869.out 3).trans rfl, (blk_cell BK850.out 0).trans rfl, (blk_cell BK850.out 1).trans rfl, (blk_cell BK850.out 2).trans rfl, (blk_cell BK850.out 3).trans rfl⟩ (fun hHeld => ?_)
        generalize w46.drew = w47 at HO856 HO859 HO865 HO868 BK850 BK869 HB hHeld ⊢
        refine take_ (i := 0) (N := some 22) (v := ?_) (a' := ?_) #[true, false, false, false, false] rfl rfl (by kernel_rfl) (fun _ _ _ h => h) (Or.inl ⟨by rfl, ?_⟩) hHeld ?_ ?_
        rotate_left
        · rintro w' ⟨s0, s1, s2, s3, s4, s5, s6, s7⟩
          go_simp
          with_reducible rfl
        rotate_left
        · simp only [Act.put, List.setIfInBounds_toArray, List.set_cons_zero, List.set_cons_succ, i64_w, i32_w]
          rfl
        refine take_ (i := 1) (N := some 23) (v := ?_) (a' := ?_) #[true, true, false, false, false] rfl rfl (by kernel_rfl) (fun _ _ _ h => h) (Or.inl ⟨by rfl, ?_⟩) hHeld ?_ ?_
        rotate_left
        · rintro w' ⟨s0, s1, s2, s3, s4, s5, s6, s7⟩
          go_simp
          with_reducible rfl
        rotate_left
        · simp only [Act.put, List.setIfInBounds_toArray, List.set_cons_zero, List.set_cons_succ, i64_w, i32_w]
          rfl
        refine one_ (i := 2) (N := some 24) #[true, true, true, false, false] rfl rfl (by kernel_rfl) (by decide) (fun K hK => ?_)
        refine goes_ Try.func56 (by kernel_rfl) rfl #[.agg #[.int .i64 a0_0, .int .i64 a0_1, .slice A0_2 l0_2.length c0_2, .slice A0_3 l0_3.length c0_3]] (by rfl) rfl rfl (by (try simp only [List.map_toArray, List.map_cons, List.map_nil]); first | done | rfl | (simp only [List.length_drop, List.length_take]; rfl)) ?_
        with_reducible refine (laws_toLog.calls k a0_0 a0_1 _ _ l0_2 _ _ l0_3 t871 t872 t873 t876 _ ?side1 ?side2 ?side3 ?side4 A28.out).mono ?_
        (case side1 => repeat (first | exact (Kd.C_below HR0_2.out HB.out) | (with_reducible refine Kd.C_alloc ?_ _) | (with_reducible refine Kd.C_drewN ?_ _) | (with_reducible refine Kd.C_drew ?_)))
        (case side2 => exact HC0_2.out)
        (case side3 => repeat (first | exact (Kd.C_below HR0_3.out HB.out) | (with_reducible refine Kd.C_alloc ?_ _) | (with_reducible refine Kd.C_drewN ?_ _) | (with_reducible refine Kd.C_drew ?_)))
        (case side4 => exact HC0_3.out)
        rintro e w48 ⟨v874, v877, rfl, ho0, ho1, hb⟩
        refine ⟨_, rfl, ?_⟩
        have n0_ := Aside0.mk (Kd.R_elder' (by (with_reducible repeat (first | apply Kd.R_alloc | apply Kd.R_drewN | apply Kd.R_drew)); exact HO856.out) (Kd.R_base ho0) hb)
        have n1_ := Aside0.mk (Kd.R_elder' (by (with_reducible repeat (first | apply Kd.R_alloc | apply Kd.R_drewN | apply Kd.R_drew)); exact HO859.out) (Kd.R_base ho1) hb)
        have n2_ := Aside0.mk (Kd.R_elder' (by (with_reducible repeat (first | apply Kd.R_alloc | apply Kd.R_drewN | apply Kd.R_drew)); exact HO865.out) (Kd.R_base ho0) hb)
        have n3_ := Aside0.mk (Kd.R_elder' (by (with_reducible repeat (first | apply Kd.R_alloc | apply Kd.R_drewN | apply Kd.R_drew)); exact HO868.out) (Kd.R_base ho1) hb)
        have n4_ := Aside0.mk (Kd.R_lower (Kd.R_new' (Kd.R_new' ho0 (Kd.R_lt (by (with_reducible repeat (first | apply Kd.R_alloc | apply Kd.R_drewN | apply Kd.R_drew)); exact HO856.out))) (Kd.R_lt (by (with_reducible repeat (first | apply Kd.R_alloc | apply Kd.R_drewN | apply Kd.R_drew)); exact HO865.out))) (below_size (by repeat (first | (with_reducible first | exact HB.out | apply below_alloc | apply pw_below_drewN | apply below_drew1 | refine below_set ?_ GE850.out | refine below_set ?_ GE869.out) | exact HB.out))))
        have n5_ := Aside0.mk (Kd.R_lower (Kd.R_new' (Kd.R_new' ho1 (Kd.R_lt (by (with_reducible repeat (first | apply Kd.R_alloc | apply Kd.R_drewN | apply Kd.R_drew)); exact HO859.out))) (Kd.R_lt (by (with_reducible repeat (first | apply Kd.R_alloc | apply Kd.R_drewN | apply Kd.R_drew)); exact HO868.out))) (below_size (by repeat (first | (with_reducible first | exact HB.out | apply below_alloc | apply pw_below_drewN | apply below_drew1 | refine below_set ?_ GE850.out | refine below_set ?_ GE869.out) | exact HB.out))))
        have n6_ := Aside0.mk (blk_below (g := gb850) (o := .cells #[.int .i64 a0_0, .int .i64 a0_1, .slice A0_2 l0_2.length c0_2, .slice A0_3 l0_3.length c0_3] 53 (0, 0)) (by (with_reducible repeat (first | refine blk_drewN ?_ _ | refine blk_drew ?_ | refine blk_alloc ?_ _)); exact BK850.out) hb)
        have n7_ := Aside0.mk (blk_below (g := gb869) (o := .cells #[.int .i64 t861, .int .i64 t862, .slice Ao44 t863.length co44, .slice Ao45 t866.length co45] 58 (0, 0)) (by (with_reducible repeat (first | refine blk_drewN ?_ _ | refine blk_drew ?_ | refine blk_alloc ?_ _)); exact BK869.out) hb)
        have n8_ := Aside0.mk (below_step (by repeat (first | (with_reducible first | exact HB.out | apply below_alloc | apply pw_below_drewN | apply below_drew1 | refine below_set ?_ GE850.out | refine below_set ?_ GE869.out) | exact HB.out)) hb)
        clear HO856
        clear HO859
        clear HO865
        clear HO868
        clear BK850
        clear BK869
        clear HB
        have HO856 := n0_
        have HO859 := n1_
        have HO865 := n2_
        have HO868 := n3_
        have HO875 := n4_
        have HO878 := n5_
        have BK850 := n6_
        have BK869 := n7_
        have HB := n8_
        clear n0_ n1_ n2_ n3_ n4_ n5_ n6_ n7_ n8_
        (try clear hb)
        (try clear hb2)
        (try clear hk)
        (try clear hi)
        (try clear ho0)
        (try clear ho1)
        obtain ⟨Ao49, co49, eo49⟩ := Kd.R_slice HO875.out
        (first | subst eo49 | (injection eo49 with f1_ f2_ f3_; have f4_ := f1_.symm; have f5_ := f3_.symm; clear f1_ f2_ f3_; subst f4_; subst f5_))
        obtain ⟨Ao50, co50, eo50⟩ := Kd.R_slice HO878.out
        (first | subst eo50 | (injection eo50 with f1_ f2_ f3_; have f4_ := f1_.symm; have f5_ := f3_.symm; clear f1_ f2_ f3_; subst f4_; subst f5_))
        refine hK.out _ _ ⟨(blk_cell BK869.out 0).trans rfl, (blk_cell BK869.out 1).trans rfl, (blk_cell BK869.out 2).trans rfl, (blk_cell BK869.out 3).trans rfl, (blk_cell BK850.out 0).trans rfl, (blk_cell BK850.out 1).trans rfl, (blk_cell BK850.out 2).trans rfl, (blk_cell BK850.out 3).trans rfl⟩ (fun hHeld => ?_)
        clear hK K
        refine norm_ (a' := ?_) ?_ ?_
        rotate_left
        · show Act.put _ (some 24) _ = _
          simp only [Act.put, List.setIfInBounds_toArray, List.set_cons_zero, List.set_cons_succ, i64_w, i32_w]
          rfl
        refine one_ (i := 3) (N := some 25) #[true, true, true, true, false] rfl rfl (by kernel_rfl) (by decide) (fun K hK => ?_)
        refine goes_ Try.func58 (by kernel_rfl) rfl #[.agg #[.int .i64 t861, .int .i64 t862, .slice Ao44 t863.length co44, .slice Ao45 t866.length co45], .agg #[.int .i64 t871, .int .i64 t872, .slice Ao49 t873.length co49, .slice Ao50 t876.length co50]] (by rfl) rfl rfl (by (try simp only [List.map_toArray, List.map_cons, List.map_nil]); first | done | rfl | (simp only [List.length_drop, List.length_take]; rfl)) ?_
        with_reducible refine (laws_eqLog.calls k t861 t862 _ _ t863 _ _ t866 t871 t872 _ _ t873 _ _ t876 true _ ?side1 ?side2 ?side3 ?side4 ?side5 ?side6 ?side7 ?side8 A29.out).mono ?_
        (case side1 => repeat (first | exact (Kd.R_reads' HO865.out).2.2 | (with_reducible refine Kd.C_alloc ?_ _) | (with_reducible refine Kd.C_drewN ?_ _) | (with_reducible refine Kd.C_drew ?_)))
        (case side2 => exact (Kd.R_reads' HO865.out).2.1)
        (case side3 => repeat (first | exact (Kd.R_reads' HO868.out).2.2 | (with_reducible refine Kd.C_alloc ?_ _) | (with_reducible refine Kd.C_drewN ?_ _) | (with_reducible refine Kd.C_drew ?_)))
        (case side4 => exact (Kd.R_reads' HO868.out).2.1)
        (case side5 => repeat (first | exact (Kd.R_reads' HO875.out).2.2 | (with_reducible refine Kd.C_alloc ?_ _) | (with_reducible refine Kd.C_drewN ?_ _) | (with_reducible refine Kd.C_drew ?_)))
        (case side6 => exact (Kd.R_reads' HO875.out).2.1)
        (case side7 => repeat (first | exact (Kd.R_reads' HO878.out).2.2 | (with_reducible refine Kd.C_alloc ?_ _) | (with_reducible refine Kd.C_drewN ?_ _) | (with_reducible refine Kd.C_drew ?_)))
        (case side8 => exact (Kd.R_reads' HO878.out).2.1)
        rintro e w51 ⟨rfl, hb⟩
        refine ⟨_, rfl, ?_⟩
        have n0_ := Aside0.mk (Kd.R_below (by (with_reducible repeat (first | apply Kd.R_alloc | apply Kd.R_drewN | apply Kd.R_drew)); exact HO856.out) hb)
        have n1_ := Aside0.mk (Kd.R_below (by (with_reducible repeat (first | apply Kd.R_alloc | apply Kd.R_drewN | apply Kd.R_drew)); exact HO859.out) hb)
        have n2_ := Aside0.mk (Kd.R_below (by (with_reducible repeat (first | apply Kd.R_alloc | apply Kd.R_drewN | apply Kd.R_drew)); exact HO865.out) hb)
        have n3_ := Aside0.mk (Kd.R_below (by (with_reducible repeat (first | apply Kd.R_alloc | apply Kd.R_drewN | apply Kd.R_drew)); exact HO868.out) hb)
        have n4_ := Aside0.mk (Kd.R_below (by (with_reducible repeat (first | apply Kd.R_alloc | apply Kd.R_drewN | apply Kd.R_drew)); exact HO875.out) hb)
        have n5_ := Aside0.mk (Kd.R_below (by (with_reducible repeat (first | apply Kd.R_alloc | apply Kd.R_drewN | apply Kd.R_drew)); exact HO878.out) hb)
        have n6_ := Aside0.mk (blk_below (g := gb850) (o := .cells #[.int .i64 a0_0, .int .i64 a0_1, .slice A0_2 l0_2.length c0_2, .slice A0_3 l0_3.length c0_3] 53 (0, 0)) (by (with_reducible repeat (first | refine blk_drewN ?_ _ | refine blk_drew ?_ | refine blk_alloc ?_ _)); exact BK850.out) hb)
        have n7_ := Aside0.mk (blk_below (g := gb869) (o := .cells #[.int .i64 t861, .int .i64 t862, .slice Ao44 t863.length co44, .slice Ao45 t866.length co45] 58 (0, 0)) (by (with_reducible repeat (first | refine blk_drewN ?_ _ | refine blk_drew ?_ | refine blk_alloc ?_ _)); exact BK869.out) hb)
        have n8_ := Aside0.mk (below_step (by repeat (first | (with_reducible first | exact HB.out | apply below_alloc | apply pw_below_drewN | apply below_drew1 | refine below_set ?_ GE850.out | refine below_set ?_ GE869.out) | exact HB.out)) hb)
        clear HO856
        clear HO859
        clear HO865
        clear HO868
        clear HO875
        clear HO878
        clear BK850
        clear BK869
        clear HB
        have HO856 := n0_
        have HO859 := n1_
        have HO865 := n2_
        have HO868 := n3_
        have HO875 := n4_
        have HO878 := n5_
        have BK850 := n6_
        have BK869 := n7_
        have HB := n8_
        clear n0_ n1_ n2_ n3_ n4_ n5_ n6_ n7_ n8_
        (try clear hb)
        (try clear hb2)
        (try clear hk)
        (try clear hi)
        refine hK.out _ _ ⟨(blk_cell BK869.out 0).trans rfl, (blk_cell BK869.out 1).trans rfl, (blk_cell BK869.out 2).trans rfl, (blk_cell BK869.out 3).trans rfl, (blk_cell BK850.out 0).trans rfl, (blk_cell BK850.out 1).trans rfl, (blk_cell BK850.out 2).trans rfl, (blk_cell BK850.out 3).trans rfl⟩ (fun hHeld => ?_)
        clear hK K
        refine norm_ (a' := ?_) ?_ ?_
        rotate_left
        · show Act.put _ (some 25) _ = _
          simp only [Act.put, List.setIfInBounds_toArray, List.set_cons_zero, List.set_cons_succ, i64_w, i32_w]
          rfl
        refine pure_ (i := 4) (N := some 26) (v := ?_) (a' := ?_) #[true, true, true, true, true] rfl rfl (by kernel_rfl) (fun _ _ _ h => h) (Or.inl ⟨by rfl, ?_⟩) ?_ ?_
        rotate_left
        · intro w'
          go_simp
          with_reducible rfl
        rotate_left
        · simp only [Act.put, List.setIfInBounds_toArray, List.set_cons_zero, List.set_cons_succ, i64_w, i32_w]
          rfl
        refine done_ (by kernel_rfl) ?_
        try go_wp2
        go_ret
        exact ⟨by first | rfl | (simp [errW_none, errW_some] <;> rfl) | (simp [*, errW_none, errW_some] <;> rfl), by repeat (first | (with_reducible first | exact HB.out | apply below_alloc | apply pw_below_drewN | apply below_drew1 | refine below_set ?_ GE850.out | refine below_set ?_ GE869.out) | exact HB.out)⟩
      · replace c30 := Bool.eq_false_iff.mpr c30
        subst c30
        have H1 : (some false) = some r := by rw [if_neg (show ¬ (false = true) by decide)] at H; exact H
        clear H
        have H := H1
        clear H1
        obtain rfl := Option.some.inj H
        go_enter Try.func11, Try.ntmps11
        try go_wp2_with (first | ((with_reducible refine gate_dst (N := 1) rfl ?_); refine box_event ?hg (N := 1) ?hd (cs := #[.int .i64 a0_0, .int .i64 a0_1, .slice A0_2 l0_2.length c0_2, .slice A0_3 l0_3.length c0_3]) (t := 53) ?hr ?_; (case hd => rfl); (case hg => rfl); (case hr => first | (go_simp; done) | (go_simp; rfl)); intro gb850 hg w52 hbox hb; have n0_ := Aside0.mk (below_step (by repeat (first | (with_reducible first | exact HB.out | apply below_alloc | apply pw_below_drewN | apply below_drew1) | exact HB.out)) hb); have n1_ := Aside0.mk (hbox); have n2_ := Aside0.mk ((by rw [hg]; exact (below_size (by repeat (first | (with_reducible first | exact HB.out | apply below_alloc | apply pw_below_drewN | apply below_drew1) | exact HB.out))) : w.heap.size ≤ gb850)); have n3_ := Aside0.mk ((by rw [hg]; exact (below_size (by repeat (first | (with_reducible first | exact HB.out | apply below_alloc | apply pw_below_drewN | apply below_drew1) | exact HB.out))) : w.heap.size ≤ gb850)); clear HB; have HB := n0_; have BK850 := n1_; have GW850 := n2_; have GE850 := n3_; clear n0_ n1_ n2_ n3_; clear hb hbox hg; have hcz53_0 : w52.cell? ⟨gb850, 0, none⟩ = some (.int .i64 a0_0) := (blk_cell BK850.out 0).trans rfl; have hcz53_1 : w52.cell? ⟨gb850, 1, none⟩ = some (.int .i64 a0_1) := (blk_cell BK850.out 1).trans rfl; have hcz53_2 : w52.cell? ⟨gb850, 2, none⟩ = some (.slice A0_2 l0_2.length c0_2) := (blk_cell BK850.out 2).trans rfl; have hcz53_3 : w52.cell? ⟨gb850, 3, none⟩ = some (.slice A0_3 l0_3.length c0_3) := (blk_cell BK850.out 3).trans rfl; have hfz53_0 := blk_frozen BK850.out 0; have hfz53_1 := blk_frozen BK850.out 1; have hfz53_2 := blk_frozen BK850.out 2; have hfz53_3 := blk_frozen BK850.out 3) | ((with_reducible refine gate_callee (f := 54) rfl ?_); refine goesL_ (some 9) rfl rfl Try.func54 (by kernel_rfl) rfl #[.agg #[.int .i64 a0_0, .int .i64 a0_1, .slice A0_2 l0_2.length c0_2, .slice A0_3 l0_3.length c0_3], .int .i64 1048576] rfl (by (try simp only [List.map_toArray, List.map_cons, List.map_nil]); first | done | rfl | (simp only [List.length_drop, List.length_take]; rfl)) ?_; (with_reducible refine (laws_szLog.calls k a0_0 a0_1 _ _ l0_2 _ _ l0_3 1048576 t851 _ ?side1 ?side2 ?side3 ?side4 A2.out).mono ?_); (case side1 => repeat (first | exact (Kd.C_below HR0_2.out HB.out) | (with_reducible refine Kd.C_alloc ?_ _) | (with_reducible refine Kd.C_drewN ?_ _) | (with_reducible refine Kd.C_drew ?_))); (case side2 => exact HC0_2.out); (case side3 => repeat (first | exact (Kd.C_below HR0_3.out HB.out) | (with_reducible refine Kd.C_alloc ?_ _) | (with_reducible refine Kd.C_drewN ?_ _) | (with_reducible refine Kd.C_drew ?_))); (case side4 => exact HC0_3.out); rintro e w54 ⟨rfl, hb⟩; refine ⟨_, rfl, ?_⟩; have n0_ := Aside0.mk (blk_below (g := gb850) (o := .cells #[.int .i64 a0_0, .int .i64 a0_1, .slice A0_2 l0_2.length c0_2, .slice A0_3 l0_3.length c0_3] 53 (0, 0)) (by (with_reducible repeat (first | refine blk_drewN ?_ _ | refine blk_drew ?_ | refine blk_alloc ?_ _)); exact BK850.out) hb); have n1_ := Aside0.mk (below_step (by repeat (first | (with_reducible first | exact HB.out | apply below_alloc | apply pw_below_drewN | apply below_drew1 | refine below_set ?_ GE850.out) | exact HB.out)) hb); clear BK850; clear HB; have BK850 := n0_; have HB := n1_; clear n0_ n1_; (try clear hb); (try clear hb2); (try clear hk); (try clear hi); have hcz55_0 : w54.cell? ⟨gb850, 0, none⟩ = some (.int .i64 a0_0) := (blk_cell BK850.out 0).trans rfl; have hcz55_1 : w54.cell? ⟨gb850, 1, none⟩ = some (.int .i64 a0_1) := (blk_cell BK850.out 1).trans rfl; have hcz55_2 : w54.cell? ⟨gb850, 2, none⟩ = some (.slice A0_2 l0_2.length c0_2) := (blk_cell BK850.out 2).trans rfl; have hcz55_3 : w54.cell? ⟨gb850, 3, none⟩ = some (.slice A0_3 l0_3.length c0_3) := (blk_cell BK850.out 3).trans rfl; have hfz55_0 := blk_frozen BK850.out 0; have hfz55_1 := blk_frozen BK850.out 1; have hfz55_2 := blk_frozen BK850.out 2; have hfz55_3 := blk_frozen BK850.out 3) | ((with_reducible refine gate_callee (f := 56) rfl ?_); refine goesL_ (some 13) rfl rfl Try.func56 (by kernel_rfl) rfl #[.agg #[.int .i64 a0_0, .int .i64 a0_1, .slice A0_2 l0_2.length c0_2, .slice A0_3 l0_3.length c0_3]] rfl (by (try simp only [List.map_toArray, List.map_cons, List.map_nil]); first | done | rfl | (simp only [List.length_drop, List.length_take]; rfl)) ?_; (with_reducible refine (laws_toLog.calls k a0_0 a0_1 _ _ l0_2 _ _ l0_3 t852 t853 t854 t857 _ ?side1 ?side2 ?side3 ?side4 A7.out).mono ?_); (case side1 => repeat (first | exact (Kd.C_below HR0_2.out HB.out) | (with_reducible refine Kd.C_alloc ?_ _) | (with_reducible refine Kd.C_drewN ?_ _) | (with_reducible refine Kd.C_drew ?_))); (case side2 => exact HC0_2.out); (case side3 => repeat (first | exact (Kd.C_below HR0_3.out HB.out) | (with_reducible refine Kd.C_alloc ?_ _) | (with_reducible refine Kd.C_drewN ?_ _) | (with_reducible refine Kd.C_drew ?_))); (case side4 => exact HC0_3.out); rintro e w56 ⟨v855, v858, rfl, ho0, ho1, hb⟩; refine ⟨_, rfl, ?_⟩; have n0_ := Aside0.mk (Kd.R_lower ho0 (below_size (by repeat (first | (with_reducible first | exact HB.out | apply below_alloc | apply pw_below_drewN | apply below_drew1 | refine below_set ?_ GE850.out) | exact HB.out)))); have n1_ := Aside0.mk (Kd.R_lower ho1 (below_size (by repeat (first | (with_reducible first | exact HB.out | apply below_alloc | apply pw_below_drewN | apply below_drew1 | refine below_set ?_ GE850.out) | exact HB.out)))); have n2_ := Aside0.mk (blk_below (g := gb850) (o := .cells #[.int .i64 a0_0, .int .i64 a0_1, .slice A0_2 l0_2.length c0_2, .slice A0_3 l0_3.length c0_3] 53 (0, 0)) (by (with_reducible repeat (first | refine blk_drewN ?_ _ | refine blk_drew ?_ | refine blk_alloc ?_ _)); exact BK850.out) hb); have n3_ := Aside0.mk (below_step (by repeat (first | (with_reducible first | exact HB.out | apply below_alloc | apply pw_below_drewN | apply below_drew1 | refine below_set ?_ GE850.out) | exact HB.out)) hb); clear BK850; clear HB; have HO856 := n0_; have HO859 := n1_; have BK850 := n2_; have HB := n3_; clear n0_ n1_ n2_ n3_; (try clear hb); (try clear hb2); (try clear hk); (try clear hi); (try clear ho0); (try clear ho1); obtain ⟨Ao57, co57, eo57⟩ := Kd.R_slice HO856.out; subst eo57; obtain ⟨Ao58, co58, eo58⟩ := Kd.R_slice HO859.out; subst eo58) | ((with_reducible refine gate_callee (f := 55) rfl ?_); refine goesL_ (some 14) rfl rfl Try.func55 (by kernel_rfl) rfl #[.agg #[.int .i64 t852, .int .i64 t853, .slice Ao57 t854.length co57, .slice Ao58 t857.length co58]] rfl (by (try simp only [List.map_toArray, List.map_cons, List.map_nil]); first | done | rfl | (simp only [List.length_drop, List.length_take]; rfl)) ?_; (with_reducible refine (spec_LogOk.calls k t852 t853 _ _ t854 _ _ t857 t860 _ ?side1 ?side2 ?side3 ?side4 A8.out).mono ?_); (case side1 => repeat (first | exact (Kd.R_reads' HO856.out).2.2 | (with_reducible refine Kd.C_alloc ?_ _) | (with_reducible refine Kd.C_drewN ?_ _) | (with_reducible refine Kd.C_drew ?_))); (case side2 => exact (Kd.R_reads' HO856.out).2.1); (case side3 => repeat (first | exact (Kd.R_reads' HO859.out).2.2 | (with_reducible refine Kd.C_alloc ?_ _) | (with_reducible refine Kd.C_drewN ?_ _) | (with_reducible refine Kd.C_drew ?_))); (case side4 => exact (Kd.R_reads' HO859.out).2.1); rintro e w59 ⟨rfl, hb⟩; refine ⟨_, rfl, ?_⟩; have n0_ := Aside0.mk (Kd.R_below (by (with_reducible repeat (first | apply Kd.R_alloc | apply Kd.R_drewN | apply Kd.R_drew)); exact HO856.out) hb); have n1_ := Aside0.mk (Kd.R_below (by (with_reducible repeat (first | apply Kd.R_alloc | apply Kd.R_drewN | apply Kd.R_drew)); exact HO859.out) hb); have n2_ := Aside0.mk (blk_below (g := gb850) (o := .cells #[.int .i64 a0_0, .int .i64 a0_1, .slice A0_2 l0_2.length c0_2, .slice A0_3 l0_3.length c0_3] 53 (0, 0)) (by (with_reducible repeat (first | refine blk_drewN ?_ _ | refine blk_drew ?_ | refine blk_alloc ?_ _)); exact BK850.out) hb); have n3_ := Aside0.mk (below_step (by repeat (first | (with_reducible first | exact HB.out | apply below_alloc | apply pw_below_drewN | apply below_drew1 | refine below_set ?_ GE850.out) | exact HB.out)) hb); clear HO856; clear HO859; clear BK850; clear HB; have HO856 := n0_; have HO859 := n1_; have BK850 := n2_; have HB := n3_; clear n0_ n1_ n2_ n3_; (try clear hb); (try clear hb2); (try clear hk); (try clear hi); have hcz60_0 : w59.cell? ⟨gb850, 0, none⟩ = some (.int .i64 a0_0) := (blk_cell BK850.out 0).trans rfl; have hcz60_1 : w59.cell? ⟨gb850, 1, none⟩ = some (.int .i64 a0_1) := (blk_cell BK850.out 1).trans rfl; have hcz60_2 : w59.cell? ⟨gb850, 2, none⟩ = some (.slice A0_2 l0_2.length c0_2) := (blk_cell BK850.out 2).trans rfl; have hcz60_3 : w59.cell? ⟨gb850, 3, none⟩ = some (.slice A0_3 l0_3.length c0_3) := (blk_cell BK850.out 3).trans rfl; have hfz60_0 := blk_frozen BK850.out 0; have hfz60_1 := blk_frozen BK850.out 1; have hfz60_2 := blk_frozen BK850.out 2; have hfz60_3 := blk_frozen BK850.out 3) | ((with_reducible refine gate_callee (f := 56) rfl ?_); refine goesL_ (some 16) rfl rfl Try.func56 (by kernel_rfl) rfl #[.agg #[.int .i64 a0_0, .int .i64 a0_1, .slice A0_2 l0_2.length c0_2, .slice A0_3 l0_3.length c0_3]] rfl (by (try simp only [List.map_toArray, List.map_cons, List.map_nil]); first | done | rfl | (simp only [List.length_drop, List.length_take]; rfl)) ?_; (with_reducible refine (laws_toLog.calls k a0_0 a0_1 _ _ l0_2 _ _ l0_3 t861 t862 t863 t866 _ ?side1 ?side2 ?side3 ?side4 A9.out).mono ?_); (case side1 => repeat (first | exact (Kd.C_below HR0_2.out HB.out) | (with_reducible refine Kd.C_alloc ?_ _) | (with_reducible refine Kd.C_drewN ?_ _) | (with_reducible refine Kd.C_drew ?_))); (case side2 => exact HC0_2.out); (case side3 => repeat (first | exact (Kd.C_below HR0_3.out HB.out) | (with_reducible refine Kd.C_alloc ?_ _) | (with_reducible refine Kd.C_drewN ?_ _) | (with_reducible refine Kd.C_drew ?_))); (case side4 => exact HC0_3.out); rintro e w61 ⟨v864, v867, rfl, ho0, ho1, hb⟩; refine ⟨_, rfl, ?_⟩; have n0_ := Aside0.mk (Kd.R_elder' (by (with_reducible repeat (first | apply Kd.R_alloc | apply Kd.R_drewN | apply Kd.R_drew)); exact HO856.out) (Kd.R_base ho0) hb); have n1_ := Aside0.mk (Kd.R_elder' (by (with_reducible repeat (first | apply Kd.R_alloc | apply Kd.R_drewN | apply Kd.R_drew)); exact HO859.out) (Kd.R_base ho1) hb); have n2_ := Aside0.mk (Kd.R_lower (Kd.R_new' ho0 (Kd.R_lt (by (with_reducible repeat (first | apply Kd.R_alloc | apply Kd.R_drewN | apply Kd.R_drew)); exact HO856.out))) (below_size (by repeat (first | (with_reducible first | exact HB.out | apply below_alloc | apply pw_below_drewN | apply below_drew1 | refine below_set ?_ GE850.out) | exact HB.out)))); have n3_ := Aside0.mk (Kd.R_lower (Kd.R_new' ho1 (Kd.R_lt (by (with_reducible repeat (first | apply Kd.R_alloc | apply Kd.R_drewN | apply Kd.R_drew)); exact HO859.out))) (below_size (by repeat (first | (with_reducible first | exact HB.out | apply below_alloc | apply pw_below_drewN | apply below_drew1 | refine below_set ?_ GE850.out) | exact HB.out)))); have n4_ := Aside0.mk (blk_below (g := gb850) (o := .cells #[.int .i64 a0_0, .int .i64 a0_1, .slice A0_2 l0_2.length c0_2, .slice A0_3 l0_3.length c0_3] 53 (0, 0)) (by (with_reducible repeat (first | refine blk_drewN ?_ _ | refine blk_drew ?_ | refine blk_alloc ?_ _)); exact BK850.out) hb); have n5_ := Aside0.mk (below_step (by repeat (first | (with_reducible first | exact HB.out | apply below_alloc | apply pw_below_drewN | apply below_drew1 | refine below_set ?_ GE850.out) | exact HB.out)) hb); clear HO856; clear HO859; clear BK850; clear HB; have HO856 := n0_; have HO859 := n1_; have HO865 := n2_; have HO868 := n3_; have BK850 := n4_; have HB := n5_; clear n0_ n1_ n2_ n3_ n4_ n5_; (try clear hb); (try clear hb2); (try clear hk); (try clear hi); (try clear ho0); (try clear ho1)) | ((with_reducible refine gate_dst (N := 5) rfl ?_); refine box_event ?hg (N := 5) ?hd (cs := #[.int .i64 0, .int .i64 0, .slice none 0 0, .slice none 0 0]) (t := 58) ?hr ?_; (case hd => rfl); (case hg => rfl); (case hr => first | (go_simp; done) | (go_simp; rfl)); intro gb869 hg w62 hbox hb; have n0_ := Aside0.mk (Kd.R_below (by (with_reducible repeat (first | apply Kd.R_alloc | apply Kd.R_drewN | apply Kd.R_drew)); exact HO856.out) hb); have n1_ := Aside0.mk (Kd.R_below (by (with_reducible repeat (first | apply Kd.R_alloc | apply Kd.R_drewN | apply Kd.R_drew)); exact HO859.out) hb); have n2_ := Aside0.mk (Kd.R_below (by (with_reducible repeat (first | apply Kd.R_alloc | apply Kd.R_drewN | apply Kd.R_drew)); exact HO865.out) hb); have n3_ := Aside0.mk (Kd.R_below (by (with_reducible repeat (first | apply Kd.R_alloc | apply Kd.R_drewN | apply Kd.R_drew)); exact HO868.out) hb); have n4_ := Aside0.mk (blk_below (g := gb850) (o := .cells #[.int .i64 a0_0, .int .i64 a0_1, .slice A0_2 l0_2.length c0_2, .slice A0_3 l0_3.length c0_3] 53 (0, 0)) (by (with_reducible repeat (first | refine blk_drewN ?_ _ | refine blk_drew ?_ | refine blk_alloc ?_ _)); exact BK850.out) hb); have n5_ := Aside0.mk (below_step (by repeat (first | (with_reducible first | exact HB.out | apply below_alloc | apply pw_below_drewN | apply below_drew1 | refine below_set ?_ GE850.out) | exact HB.out)) hb); have n6_ := Aside0.mk (hbox); have n7_ := Aside0.mk ((by rw [hg]; exact (below_size (by repeat (first | (with_reducible first | exact HB.out | apply below_alloc | apply pw_below_drewN | apply below_drew1 | refine below_set ?_ GE850.out) | exact HB.out))) : w.heap.size ≤ gb869)); have n8_ := Aside0.mk ((by rw [hg]; exact (below_size (by repeat (first | (with_reducible first | exact HB.out | apply below_alloc | apply pw_below_drewN | apply below_drew1 | refine below_set ?_ GE850.out) | exact HB.out))) : w.heap.size ≤ gb869)); have n9_ := Aside0.mk ((by rw [hg]; exact Nat.ne_of_lt (blk_lt (g := gb850) (o := .cells #[.int .i64 a0_0, .int .i64 a0_1, .slice A0_2 l0_2.length c0_2, .slice A0_3 l0_3.length c0_3] 53 (0, 0)) (by (with_reducible repeat (first | refine blk_drewN ?_ _ | refine blk_drew ?_ | refine blk_alloc ?_ _)); exact BK850.out)) : gb850 ≠ gb869)); have n10_ := Aside0.mk ((by rw [hg]; exact Nat.ne_of_gt (blk_lt (g := gb850) (o := .cells #[.int .i64 a0_0, .int .i64 a0_1, .slice A0_2 l0_2.length c0_2, .slice A0_3 l0_3.length c0_3] 53 (0, 0)) (by (with_reducible repeat (first | refine blk_drewN ?_ _ | refine blk_drew ?_ | refine blk_alloc ?_ _)); exact BK850.out)) : gb869 ≠ gb850)); clear HO856; clear HO859; clear HO865; clear HO868; clear BK850; clear HB; have HO856 := n0_; have HO859 := n1_; have HO865 := n2_; have HO868 := n3_; have BK850 := n4_; have HB := n5_; have BK869 := n6_; have GW869 := n7_; have GE869 := n8_; have NB850_869 := n9_; have NB869_850 := n10_; clear n0_ n1_ n2_ n3_ n4_ n5_ n6_ n7_ n8_ n9_ n10_; clear hb hbox hg; have hnb63 := NB869_850.out; have hnc63 := NB850_869.out; have hcz64_0 : w62.cell? ⟨gb869, 0, none⟩ = some (.int .i64 0) := (blk_cell BK869.out 0).trans rfl; have hcz64_1 : w62.cell? ⟨gb869, 1, none⟩ = some (.int .i64 0) := (blk_cell BK869.out 1).trans rfl; have hcz64_2 : w62.cell? ⟨gb869, 2, none⟩ = some (.slice none 0 0) := (blk_cell BK869.out 2).trans rfl; have hcz64_3 : w62.cell? ⟨gb869, 3, none⟩ = some (.slice none 0 0) := (blk_cell BK869.out 3).trans rfl; have hfz64_0 := blk_frozen BK869.out 0; have hfz64_1 := blk_frozen BK869.out 1; have hfz64_2 := blk_frozen BK869.out 2; have hfz64_3 := blk_frozen BK869.out 3; obtain ⟨Ao65, co65, eo65⟩ := Kd.R_slice HO865.out; subst eo65; obtain ⟨Ao66, co66, eo66⟩ := Kd.R_slice HO868.out; subst eo66) | ((with_reducible refine gate_callee (f := 57) rfl ?_); refine goesL_ (some 18) rfl rfl Try.func57 (by kernel_rfl) rfl #[.agg #[.int .i64 t861, .int .i64 t862, .slice Ao65 t863.length co65, .slice Ao66 t866.length co66]] rfl (by (try simp only [List.map_toArray, List.map_cons, List.map_nil]); first | done | rfl | (simp only [List.length_drop, List.length_take]; rfl)) ?_; (with_reducible refine (impl_LogOk.calls k t861 t862 _ _ t863 _ _ t866 t870 _ ?side1 ?side2 ?side3 ?side4 A10.out).mono ?_); (case side1 => refine (Kd.R_reads' (e := 115) (base := w.heap.size) (ok := fun k_ => (True ∧ some k_ ≠ (.slice Ao57 t854.length co57 : Value).ownBlock)) (n := t863.length) (c := co65) ?_).2.2; exact (by (with_reducible repeat (first | apply Kd.R_alloc | apply Kd.R_drewN | apply Kd.R_drew)); exact (Kd.R_mono (Kd.R_far (p := ⟨gb869, 3, none⟩) (Kd.R_far (p := ⟨gb869, 2, none⟩) (Kd.R_far (p := ⟨gb869, 1, none⟩) (Kd.R_far (p := ⟨gb869, 0, none⟩) (Kd.R_types HO865.out BK869.out (by decide)) (fun _ hk => hk.2) (.int .i64 t861)) (fun _ hk => hk.2) (.int .i64 t862)) (fun _ hk => hk.2) (.slice Ao65 t863.length co65)) (fun _ hk => hk.2) (.slice Ao66 t866.length co66)) (fun _ h_ => h_.1)))); (case side2 => exact (Kd.R_reads' HO865.out).2.1); (case side3 => refine (Kd.R_reads' (e := 72) (base := w.heap.size) (ok := fun k_ => (True ∧ some k_ ≠ (.slice Ao58 t857.length co58 : Value).ownBlock)) (n := t866.length) (c := co66) ?_).2.2; exact (by (with_reducible repeat (first | apply Kd.R_alloc | apply Kd.R_drewN | apply Kd.R_drew)); exact (Kd.R_mono (Kd.R_far (p := ⟨gb869, 3, none⟩) (Kd.R_far (p := ⟨gb869, 2, none⟩) (Kd.R_far (p := ⟨gb869, 1, none⟩) (Kd.R_far (p := ⟨gb869, 0, none⟩) (Kd.R_types HO868.out BK869.out (by decide)) (fun _ hk => hk.2) (.int .i64 t861)) (fun _ hk => hk.2) (.int .i64 t862)) (fun _ hk => hk.2) (.slice Ao65 t863.length co65)) (fun _ hk => hk.2) (.slice Ao66 t866.length co66)) (fun _ h_ => h_.1)))); (case side4 => exact (Kd.R_reads' HO868.out).2.1); rintro e w67 ⟨rfl, hb⟩; refine ⟨_, rfl, ?_⟩; have n0_ := Aside0.mk (Kd.R_below (by (with_reducible repeat (first | apply Kd.R_alloc | apply Kd.R_drewN | apply Kd.R_drew)); exact (Kd.R_mono (Kd.R_far (p := ⟨gb869, 3, none⟩) (Kd.R_far (p := ⟨gb869, 2, none⟩) (Kd.R_far (p := ⟨gb869, 1, none⟩) (Kd.R_far (p := ⟨gb869, 0, none⟩) (Kd.R_types HO856.out BK869.out (by decide)) (fun _ hk => hk.2) (.int .i64 t861)) (fun _ hk => hk.2) (.int .i64 t862)) (fun _ hk => hk.2) (.slice Ao65 t863.length co65)) (fun _ hk => hk.2) (.slice Ao66 t866.length co66)) (fun _ h_ => h_.1))) hb); have n1_ := Aside0.mk (Kd.R_below (by (with_reducible repeat (first | apply Kd.R_alloc | apply Kd.R_drewN | apply Kd.R_drew)); exact (Kd.R_mono (Kd.R_far (p := ⟨gb869, 3, none⟩) (Kd.R_far (p := ⟨gb869, 2, none⟩) (Kd.R_far (p := ⟨gb869, 1, none⟩) (Kd.R_far (p := ⟨gb869, 0, none⟩) (Kd.R_types HO859.out BK869.out (by decide)) (fun _ hk => hk.2) (.int .i64 t861)) (fun _ hk => hk.2) (.int .i64 t862)) (fun _ hk => hk.2) (.slice Ao65 t863.length co65)) (fun _ hk => hk.2) (.slice Ao66 t866.length co66)) (fun _ h_ => h_.1))) hb); have n2_ := Aside0.mk (Kd.R_below (by (with_reducible repeat (first | apply Kd.R_alloc | apply Kd.R_drewN | apply Kd.R_drew)); exact (Kd.R_mono (Kd.R_far (p := ⟨gb869, 3, none⟩) (Kd.R_far (p := ⟨gb869, 2, none⟩) (Kd.R_far (p := ⟨gb869, 1, none⟩) (Kd.R_far (p := ⟨gb869, 0, none⟩) (Kd.R_types HO865.out BK869.out (by decide)) (fun _ hk => hk.2) (.int .i64 t861)) (fun _ hk => hk.2) (.int .i64 t862)) (fun _ hk => hk.2) (.slice Ao65 t863.length co65)) (fun _ hk => hk.2) (.slice Ao66 t866.length co66)) (fun _ h_ => h_.1))) hb); have n3_ := Aside0.mk (Kd.R_below (by (with_reducible repeat (first | apply Kd.R_alloc | apply Kd.R_drewN | apply Kd.R_drew)); exact (Kd.R_mono (Kd.R_far (p := ⟨gb869, 3, none⟩) (Kd.R_far (p := ⟨gb869, 2, none⟩) (Kd.R_far (p := ⟨gb869, 1, none⟩) (Kd.R_far (p := ⟨gb869, 0, none⟩) (Kd.R_types HO868.out BK869.out (by decide)) (fun _ hk => hk.2) (.int .i64 t861)) (fun _ hk => hk.2) (.int .i64 t862)) (fun _ hk => hk.2) (.slice Ao65 t863.length co65)) (fun _ hk => hk.2) (.slice Ao66 t866.length co66)) (fun _ h_ => h_.1))) hb); have n4_ := Aside0.mk (blk_below (g := gb850) (o := .cells #[.int .i64 a0_0, .int .i64 a0_1, .slice A0_2 l0_2.length c0_2, .slice A0_3 l0_3.length c0_3] 53 (0, 0)) (by (with_reducible repeat (first | refine blk_drewN ?_ _ | refine blk_drew ?_ | refine blk_alloc ?_ _)); refine blk_far ?_ NB850_869.out _; (with_reducible repeat (first | refine blk_drewN ?_ _ | refine blk_drew ?_ | refine blk_alloc ?_ _)); refine blk_far ?_ NB850_869.out _; (with_reducible repeat (first | refine blk_drewN ?_ _ | refine blk_drew ?_ | refine blk_alloc ?_ _)); refine blk_far ?_ NB850_869.out _; (with_reducible repeat (first | refine blk_drewN ?_ _ | refine blk_drew ?_ | refine blk_alloc ?_ _)); refine blk_far ?_ NB850_869.out _; (with_reducible repeat (first | refine blk_drewN ?_ _ | refine blk_drew ?_ | refine blk_alloc ?_ _)); exact BK850.out) hb); have n5_ := Aside0.mk (blk_below (g := gb869) (o := .cells #[.int .i64 t861, .int .i64 t862, .slice Ao65 t863.length co65, .slice Ao66 t866.length co66] 58 (0, 0)) (by (with_reducible repeat (first | refine blk_drewN ?_ _ | refine blk_drew ?_ | refine blk_alloc ?_ _)); refine blk_put (cs := #[.int .i64 t861, .int .i64 t862, .slice Ao65 t863.length co65, .slice none 0 0]) ?_ 3 _ rfl; (with_reducible repeat (first | refine blk_drewN ?_ _ | refine blk_drew ?_ | refine blk_alloc ?_ _)); refine blk_put (cs := #[.int .i64 t861, .int .i64 t862, .slice none 0 0, .slice none 0 0]) ?_ 2 _ rfl; (with_reducible repeat (first | refine blk_drewN ?_ _ | refine blk_drew ?_ | refine blk_alloc ?_ _)); refine blk_put (cs := #[.int .i64 t861, .int .i64 0, .slice none 0 0, .slice none 0 0]) ?_ 1 _ rfl; (with_reducible repeat (first | refine blk_drewN ?_ _ | refine blk_drew ?_ | refine blk_alloc ?_ _)); refine blk_put (cs := #[.int .i64 0, .int .i64 0, .slice none 0 0, .slice none 0 0]) ?_ 0 _ rfl; (with_reducible repeat (first | refine blk_drewN ?_ _ | refine blk_drew ?_ | refine blk_alloc ?_ _)); exact BK869.out) hb); have n6_ := Aside0.mk (below_step (by repeat (first | (with_reducible first | exact HB.out | apply below_alloc | apply pw_below_drewN | apply below_drew1 | refine below_set ?_ GE850.out | refine below_set ?_ GE869.out) | exact HB.out)) hb); clear HO856; clear HO859; clear HO865; clear HO868; clear BK850; clear BK869; clear HB; have HO856 := n0_; have HO859 := n1_; have HO865 := n2_; have HO868 := n3_; have BK850 := n4_; have BK869 := n5_; have HB := n6_; clear n0_ n1_ n2_ n3_ n4_ n5_ n6_; (try clear hb); (try clear hb2); (try clear hk); (try clear hi)))
        have n0_ := Aside0.mk (Kd.R_drew HO856.out)
        have n1_ := Aside0.mk (Kd.R_drew HO859.out)
        have n2_ := Aside0.mk (Kd.R_drew HO865.out)
        have n3_ := Aside0.mk (Kd.R_drew HO868.out)
        have n4_ := Aside0.mk (blk_drew BK850.out)
        have n5_ := Aside0.mk (blk_drew BK869.out)
        have n6_ := Aside0.mk (below_drew1 HB.out)
        clear HO856
        clear HO859
        clear HO865
        clear HO868
        clear BK850
        clear BK869
        clear HB
        have HO856 := n0_
        have HO859 := n1_
        have HO865 := n2_
        have HO868 := n3_
        have BK850 := n4_
        have BK869 := n5_
        have HB := n6_
        clear n0_ n1_ n2_ n3_ n4_ n5_ n6_
        refine start_ (n := 5) (S := fun w' => w'.cell? ⟨gb869, 0, none⟩ = some (.int .i64 t861) ∧ w'.cell? ⟨gb869, 1, none⟩ = some (.int .i64 t862) ∧ w'.cell? ⟨gb869, 2, none⟩ = some (.slice Ao65 t863.length co65) ∧ w'.cell? ⟨gb869, 3, none⟩ = some (.slice Ao66 t866.length co66) ∧ w'.cell? ⟨gb850, 0, none⟩ = some (.int .i64 a0_0) ∧ w'.cell? ⟨gb850, 1, none⟩ = some (.int .i64 a0_1) ∧ w'.cell? ⟨gb850, 2, none⟩ = some (.slice A0_2 l0_2.length c0_2) ∧ w'.cell? ⟨gb850, 3, none⟩ = some (.slice A0_3 l0_3.length c0_3)) (ds := []) #[false, false, false, false, false] (by kernel_rfl) rfl rfl ⟨(blk_cell BK869.out 0).trans rfl, (blk_cell BK869.out 1).trans rfl, (blk_cell BK869.out 2).trans rfl, (blk_cell BK869.out 3).trans rfl, (blk_cell BK850.out 0).trans rfl, (blk_cell BK850.out 1).trans rfl, (blk_cell BK850.out 2).trans rfl, (blk_cell BK850.out 3).trans rfl⟩ (fun hHeld => ?_)
        generalize w67.drew = w68 at HO856 HO859 HO865 HO868 BK850 BK869 HB hHeld ⊢
        refine take_ (i := 0) (N := some 22) (v := ?_) (a' := ?_) #[true, false, false, false, false] rfl rfl (by kernel_rfl) (fun _ _ _ h => h) (Or.inl ⟨by rfl, ?_⟩) hHeld ?_ ?_
        rotate_left
        · rintro w' ⟨s0, s1, s2, s3, s4, s5, s6, s7⟩
          go_simp
          with_reducible rfl
        rotate_left
        · simp only [Act.put, List.setIfInBounds_toArray, List.set_cons_zero, List.set_cons_succ, i64_w, i32_w]
          rfl
        refine take_ (i := 1) (N := some 23) (v := ?_) (a' := ?_) #[true, true, false, false, false] rfl rfl (by kernel_rfl) (fun _ _ _ h => h) (Or.inl ⟨by rfl, ?_⟩) hHeld ?_ ?_
        rotate_left
        · rintro w' ⟨s0, s1, s2, s3, s4, s5, s6, s7⟩
          go_simp
          with_reducible rfl
        rotate_left
        · simp only [Act.put, List.setIfInBounds_toArray, List.set_cons_zero, List.set_cons_succ, i64_w, i32_w]
          rfl
        refine one_ (i := 2) (N := some 24) #[true, true, true, false, false] rfl rfl (by kernel_rfl) (by decide) (fun K hK => ?_)
        refine goes_ Try.func56 (by kernel_rfl) rfl #[.agg #[.int .i64 a0_0, .int .i64 a0_1, .slice A0_2 l0_2.length c0_2, .slice A0_3 l0_3.length c0_3]] (by rfl) rfl rfl (by (try simp only [List.map_toArray, List.map_cons, List.map_nil]); first | done | rfl | (simp only [List.length_drop, List.length_take]; rfl)) ?_
        with_reducible refine (laws_toLog.calls k a0_0 a0_1 _ _ l0_2 _ _ l0_3 t871 t872 t873 t876 _ ?side1 ?side2 ?side3 ?side4 A28.out).mono ?_
        (case side1 => repeat (first | exact (Kd.C_below HR0_2.out HB.out) | (with_reducible refine Kd.C_alloc ?_ _) | (with_reducible refine Kd.C_drewN ?_ _) | (with_reducible refine Kd.C_drew ?_)))
        (case side2 => exact HC0_2.out)
        (case side3 => repeat (first | exact (Kd.C_below HR0_3.out HB.out) | (with_reducible refine Kd.C_alloc ?_ _) | (with_reducible refine Kd.C_drewN ?_ _) | (with_reducible refine Kd.C_drew ?_)))
        (case side4 => exact HC0_3.out)
        rintro e w69 ⟨v874, v877, rfl, ho0, ho1, hb⟩
        refine ⟨_, rfl, ?_⟩
        have n0_ := Aside0.mk (Kd.R_elder' (by (with_reducible repeat (first | apply Kd.R_alloc | apply Kd.R_drewN | apply Kd.R_drew)); exact HO856.out) (Kd.R_base ho0) hb)
        have n1_ := Aside0.mk (Kd.R_elder' (by (with_reducible repeat (first | apply Kd.R_alloc | apply Kd.R_drewN | apply Kd.R_drew)); exact HO859.out) (Kd.R_base ho1) hb)
        have n2_ := Aside0.mk (Kd.R_elder' (by (with_reducible repeat (first | apply Kd.R_alloc | apply Kd.R_drewN | apply Kd.R_drew)); exact HO865.out) (Kd.R_base ho0) hb)
        have n3_ := Aside0.mk (Kd.R_elder' (by (with_reducible repeat (first | apply Kd.R_alloc | apply Kd.R_drewN | apply Kd.R_drew)); exact HO868.out) (Kd.R_base ho1) hb)
        have n4_ := Aside0.mk (Kd.R_lower (Kd.R_new' (Kd.R_new' ho0 (Kd.R_lt (by (with_reducible repeat (first | apply Kd.R_alloc | apply Kd.R_drewN | apply Kd.R_drew)); exact HO856.out))) (Kd.R_lt (by (with_reducible repeat (first | apply Kd.R_alloc | apply Kd.R_drewN | apply Kd.R_drew)); exact HO865.out))) (below_size (by repeat (first | (with_reducible first | exact HB.out | apply below_alloc | apply pw_below_drewN | apply below_drew1 | refine below_set ?_ GE850.out | refine below_set ?_ GE869.out) | exact HB.out))))
        have n5_ := Aside0.mk (Kd.R_lower (Kd.R_new' (Kd.R_new' ho1 (Kd.R_lt (by (with_reducible repeat (first | apply Kd.R_alloc | apply Kd.R_drewN | apply Kd.R_drew)); exact HO859.out))) (Kd.R_lt (by (with_reducible repeat (first | apply Kd.R_alloc | apply Kd.R_drewN | apply Kd.R_drew)); exact HO868.out))) (below_size (by repeat (first | (with_reducible first | exact HB.out | apply below_alloc | apply pw_below_drewN | apply below_drew1 | refine below_set ?_ GE850.out | refine below_set ?_ GE869.out) | exact HB.out))))
        have n6_ := Aside0.mk (blk_below (g := gb850) (o := .cells #[.int .i64 a0_0, .int .i64 a0_1, .slice A0_2 l0_2.length c0_2, .slice A0_3 l0_3.length c0_3] 53 (0, 0)) (by (with_reducible repeat (first | refine blk_drewN ?_ _ | refine blk_drew ?_ | refine blk_alloc ?_ _)); exact BK850.out) hb)
        have n7_ := Aside0.mk (blk_below (g := gb869) (o := .cells #[.int .i64 t861, .int .i64 t862, .slice Ao65 t863.length co65, .slice Ao66 t866.length co66] 58 (0, 0)) (by (with_reducible repeat (first | refine blk_drewN ?_ _ | refine blk_drew ?_ | refine blk_alloc ?_ _)); exact BK869.out) hb)
        have n8_ := Aside0.mk (below_step (by repeat (first | (with_reducible first | exact HB.out | apply below_alloc | apply pw_below_drewN | apply below_drew1 | refine below_set ?_ GE850.out | refine below_set ?_ GE869.out) | exact HB.out)) hb)
        clear HO856
        clear HO859
        clear HO865
        clear HO868
        clear BK850
        clear BK869
        clear HB
        have HO856 := n0_
        have HO859 := n1_
        have HO865 := n2_
        have HO868 := n3_
        have HO875 := n4_
        have HO878 := n5_
        have BK850 := n6_
        have BK869 := n7_
        have HB := n8_
        clear n0_ n1_ n2_ n3_ n4_ n5_ n6_ n7_ n8_
        (try clear hb)
        (try clear hb2)
        (try clear hk)
        (try clear hi)
        (try clear ho0)
        (try clear ho1)
        obtain ⟨Ao70, co70, eo70⟩ := Kd.R_slice HO875.out
        (first | subst eo70 | (injection eo70 with f1_ f2_ f3_; have f4_ := f1_.symm; have f5_ := f3_.symm; clear f1_ f2_ f3_; subst f4_; subst f5_))
        obtain ⟨Ao71, co71, eo71⟩ := Kd.R_slice HO878.out
        (first | subst eo71 | (injection eo71 with f1_ f2_ f3_; have f4_ := f1_.symm; have f5_ := f3_.symm; clear f1_ f2_ f3_; subst f4_; subst f5_))
        refine hK.out _ _ ⟨(blk_cell BK869.out 0).trans rfl, (blk_cell BK869.out 1).trans rfl, (blk_cell BK869.out 2).trans rfl, (blk_cell BK869.out 3).trans rfl, (blk_cell BK850.out 0).trans rfl, (blk_cell BK850.out 1).trans rfl, (blk_cell BK850.out 2).trans rfl, (blk_cell BK850.out 3).trans rfl⟩ (fun hHeld => ?_)
        clear hK K
        refine norm_ (a' := ?_) ?_ ?_
        rotate_left
        · show Act.put _ (some 24) _ = _
          simp only [Act.put, List.setIfInBounds_toArray, List.set_cons_zero, List.set_cons_succ, i64_w, i32_w]
          rfl
        refine one_ (i := 3) (N := some 25) #[true, true, true, true, false] rfl rfl (by kernel_rfl) (by decide) (fun K hK => ?_)
        refine goes_ Try.func58 (by kernel_rfl) rfl #[.agg #[.int .i64 t861, .int .i64 t862, .slice Ao65 t863.length co65, .slice Ao66 t866.length co66], .agg #[.int .i64 t871, .int .i64 t872, .slice Ao70 t873.length co70, .slice Ao71 t876.length co71]] (by rfl) rfl rfl (by (try simp only [List.map_toArray, List.map_cons, List.map_nil]); first | done | rfl | (simp only [List.length_drop, List.length_take]; rfl)) ?_
        with_reducible refine (laws_eqLog.calls k t861 t862 _ _ t863 _ _ t866 t871 t872 _ _ t873 _ _ t876 false _ ?side1 ?side2 ?side3 ?side4 ?side5 ?side6 ?side7 ?side8 A29.out).mono ?_
        (case side1 => repeat (first | exact (Kd.R_reads' HO865.out).2.2 | (with_reducible refine Kd.C_alloc ?_ _) | (with_reducible refine Kd.C_drewN ?_ _) | (with_reducible refine Kd.C_drew ?_)))
        (case side2 => exact (Kd.R_reads' HO865.out).2.1)
        (case side3 => repeat (first | exact (Kd.R_reads' HO868.out).2.2 | (with_reducible refine Kd.C_alloc ?_ _) | (with_reducible refine Kd.C_drewN ?_ _) | (with_reducible refine Kd.C_drew ?_)))
        (case side4 => exact (Kd.R_reads' HO868.out).2.1)
        (case side5 => repeat (first | exact (Kd.R_reads' HO875.out).2.2 | (with_reducible refine Kd.C_alloc ?_ _) | (with_reducible refine Kd.C_drewN ?_ _) | (with_reducible refine Kd.C_drew ?_)))
        (case side6 => exact (Kd.R_reads' HO875.out).2.1)
        (case side7 => repeat (first | exact (Kd.R_reads' HO878.out).2.2 | (with_reducible refine Kd.C_alloc ?_ _) | (with_reducible refine Kd.C_drewN ?_ _) | (with_reducible refine Kd.C_drew ?_)))
        (case side8 => exact (Kd.R_reads' HO878.out).2.1)
        rintro e w72 ⟨rfl, hb⟩
        refine ⟨_, rfl, ?_⟩
        have n0_ := Aside0.mk (Kd.R_below (by (with_reducible repeat (first | apply Kd.R_alloc | apply Kd.R_drewN | apply Kd.R_drew)); exact HO856.out) hb)
        have n1_ := Aside0.mk (Kd.R_below (by (with_reducible repeat (first | apply Kd.R_alloc | apply Kd.R_drewN | apply Kd.R_drew)); exact HO859.out) hb)
        have n2_ := Aside0.mk (Kd.R_below (by (with_reducible repeat (first | apply Kd.R_alloc | apply Kd.R_drewN | apply Kd.R_drew)); exact HO865.out) hb)
        have n3_ := Aside0.mk (Kd.R_below (by (with_reducible repeat (first | apply Kd.R_alloc | apply Kd.R_drewN | apply Kd.R_drew)); exact HO868.out) hb)
        have n4_ := Aside0.mk (Kd.R_below (by (with_reducible repeat (first | apply Kd.R_alloc | apply Kd.R_drewN | apply Kd.R_drew)); exact HO875.out) hb)
        have n5_ := Aside0.mk (Kd.R_below (by (with_reducible repeat (first | apply Kd.R_alloc | apply Kd.R_drewN | apply Kd.R_drew)); exact HO878.out) hb)
        have n6_ := Aside0.mk (blk_below (g := gb850) (o := .cells #[.int .i64 a0_0, .int .i64 a0_1, .slice A0_2 l0_2.length c0_2, .slice A0_3 l0_3.length c0_3] 53 (0, 0)) (by (with_reducible repeat (first | refine blk_drewN ?_ _ | refine blk_drew ?_ | refine blk_alloc ?_ _)); exact BK850.out) hb)
        have n7_ := Aside0.mk (blk_below (g := gb869) (o := .cells #[.int .i64 t861, .int .i64 t862, .slice Ao65 t863.length co65, .slice Ao66 t866.length co66] 58 (0, 0)) (by (with_reducible repeat (first | refine blk_drewN ?_ _ | refine blk_drew ?_ | refine blk_alloc ?_ _)); exact BK869.out) hb)
        have n8_ := Aside0.mk (below_step (by repeat (first | (with_reducible first | exact HB.out | apply below_alloc | apply pw_below_drewN | apply below_drew1 | refine below_set ?_ GE850.out | refine below_set ?_ GE869.out) | exact HB.out)) hb)
        clear HO856
        clear HO859
        clear HO865
        clear HO868
        clear HO875
        clear HO878
        clear BK850
        clear BK869
        clear HB
        have HO856 := n0_
        have HO859 := n1_
        have HO865 := n2_
        have HO868 := n3_
        have HO875 := n4_
        have HO878 := n5_
        have BK850 := n6_
        have BK869 := n7_
        have HB := n8_
        clear n0_ n1_ n2_ n3_ n4_ n5_ n6_ n7_ n8_
        (try clear hb)
        (try clear hb2)
        (try clear hk)
        (try clear hi)
        refine hK.out _ _ ⟨(blk_cell BK869.out 0).trans rfl, (blk_cell BK869.out 1).trans rfl, (blk_cell BK869.out 2).trans rfl, (blk_cell BK869.out 3).trans rfl, (blk_cell BK850.out 0).trans rfl, (blk_cell BK850.out 1).trans rfl, (blk_cell BK850.out 2).trans rfl, (blk_cell BK850.out 3).trans rfl⟩ (fun hHeld => ?_)
        clear hK K
        refine norm_ (a' := ?_) ?_ ?_
        rotate_left
        · show Act.put _ (some 25) _ = _
          simp only [Act.put, List.setIfInBounds_toArray, List.set_cons_zero, List.set_cons_succ, i64_w, i32_w]
          rfl
        refine pure_ (i := 4) (N := some 26) (v := ?_) (a' := ?_) #[true, true, true, true, true] rfl rfl (by kernel_rfl) (fun _ _ _ h => h) (Or.inl ⟨by rfl, ?_⟩) ?_ ?_
        rotate_left
        · intro w'
          go_simp
          with_reducible rfl
        rotate_left
        · simp only [Act.put, List.setIfInBounds_toArray, List.set_cons_zero, List.set_cons_succ, i64_w, i32_w]
          rfl
        refine done_ (by kernel_rfl) ?_
        try go_wp2
        go_ret
        exact ⟨by first | rfl | (simp [errW_none, errW_some] <;> rfl) | (simp [*, errW_none, errW_some] <;> rfl), by repeat (first | (with_reducible first | exact HB.out | apply below_alloc | apply pw_below_drewN | apply below_drew1 | refine below_set ?_ GE850.out | refine below_set ?_ GE869.out) | exact HB.out)⟩
end Go.Proofs.Ytjcpkplneflleaa.Q
namespace Go.Proofs.Ytjcpkplneflleaa.Opened
open Go.ChangeShapes Go.WideShapes Go.Deep Go.RowKit Go.Proofs.YtjcpkplneflleaaW.PrintWords
/-- Cells of type t that can be read as data are of kind d; and what is good of what they say. -/
def Opens (P : Program) (t : TypeId) {α : Type} (d : Kd α) (good : α → Prop) : Prop :=
  P.cellsOf t = d.sz ∧ ∀ (H : Type) (enc : TypeId × Value → H) (w : World) (base : Nat) (spare : Nat → Bool) (held : Bool) (fuel : Nat) (cs : List Value) (x : DataW H × List MemPlace),
    DataW.trod enc P w base spare held fuel t cs = some x → ∃ a, d.K w a cs ∧ good a
section
variable {P : Program} {t e : TypeId}
theorem opens_int {k : IntKind} (hu : P.underlying t = some (.int k)) (hc : P.cellsOf t = 1) : Opens P t (Kd.int k) (fun n => (Lit.int k n).wf = true) := by
  refine ⟨hc, fun H enc w base spare held fuel cs x h => ?_⟩
  cases fuel with
  | zero => simp [DataW.trod] at h
  | succ fuel =>
    unfold DataW.trod at h
    rw [hu] at h
    split at h
    all_goals first | (cases h; done) | skip
    all_goals try simp_all
    obtain ⟨⟨rfl, h1⟩, _⟩ := h
    exact ⟨_, rfl, h1⟩
theorem opens_string (hu : P.underlying t = some .string) (hc : P.cellsOf t = 1) : Opens P t Kd.string (fun s => s.size ≤ 9223372036854775807) := by
  refine ⟨hc, fun H enc w base spare held fuel cs x h => ?_⟩
  cases fuel with
  | zero => simp [DataW.trod] at h
  | succ fuel =>
    unfold DataW.trod at h
    rw [hu] at h
    split at h
    all_goals first | (cases h; done) | skip
    all_goals try simp_all
    obtain ⟨h1, _⟩ := h
    simp only [maxLen] at h1
    exact ⟨_, rfl, h1⟩
theorem opens_slice {α : Type} {d : Kd α} {good : α → Prop} {e' : Nat} (hu : P.underlying t = some (.slice e)) (hc : P.cellsOf t = 1) (he : Opens P e d good) : Opens P t (Kd.slice e' d) (fun l => l.length ≤ 9223372036854775807 ∧ ∀ a ∈ l, good a) := by
  refine ⟨hc, fun H enc w base spare held fuel cs x h => ?_⟩
  rcases open_slice hu h with ⟨rfl, _⟩ | ⟨a, len, cap, m, n, D, Pl, rfl, hb, hl, hm, hmm, _, hi⟩
  · exact ⟨[], ⟨none, 0, rfl, Nat.le_refl _, rfl, by simp, fun h0 => absurd h0 (by simp)⟩, by simp, by simp⟩
  · have hlm : len ≤ m := by
      rw [hmm]
      split <;> omega
    have key : ∀ i, i < len → ∃ y cs', w.cells? base (a.add (i * d.sz)) d.sz = some cs' ∧ d.K w y cs' ∧ good y := by
      intro i hil
      obtain ⟨cs', h1, h2⟩ := hi i (by omega)
      rw [he.1] at h1
      obtain ⟨y, hy, hg⟩ := he.2 _ _ _ _ _ _ _ _ _ h2
      exact ⟨y, cs', h1, hy, hg⟩
    clear hi
    have build : ∀ k, k ≤ len → ∃ l : List α, l.length = k ∧ (∀ y ∈ l, good y) ∧ ∀ j p, l[j]? = some p → ∃ c, c.length = d.sz ∧ d.K w p c ∧ ∀ i u, c[i]? = some u → w.cell? (a.add (j * d.sz + i)) = some u := by
      intro k
      induction k with
      | zero => intro _; exact ⟨[], rfl, by simp, fun j p hj => by simp at hj⟩
      | succ k ih =>
        intro hk
        obtain ⟨l, hlen, hgood, hcell⟩ := ih (by omega)
        obtain ⟨y, cs', h1, hy, hg⟩ := key k (by omega)
        refine ⟨l ++ [y], by simp [hlen], ?_, ?_⟩
        · intro z hz
          rcases List.mem_append.1 hz with hz | hz
          · exact hgood z hz
          · rw [List.mem_singleton.1 hz]; exact hg
        · intro j p hj
          by_cases hjk : j < k
          · rw [List.getElem?_append_left (by omega)] at hj
            exact hcell j p hj
          · have hjl : j = k := by
              have := (List.getElem?_eq_some_iff.1 hj).1
              simp [hlen] at this
              omega
            subst hjl
            rw [List.getElem?_append_right (by omega), hlen, Nat.sub_self] at hj
            obtain rfl : y = p := by simpa using hj
            obtain ⟨_, hcl, hat⟩ := World.cells?_some h1
            refine ⟨cs', hcl, hy, fun i u hu => ?_⟩
            have hil : i < d.sz := by rw [← hcl]; exact (List.getElem?_eq_some_iff.1 hu).1
            have := hat i hil
            rw [← Go.Deep.add_add, this, hu]
    obtain ⟨l, hlen, hgood, hcell⟩ := build len (Nat.le_refl _)
    have hmx : maxLen = 9223372036854775807 := rfl
    exact ⟨l, ⟨some a, cap, by rw [hlen], by omega, rfl, by omega, fun _ => ⟨a, rfl, hcell⟩⟩, by omega, hgood⟩
/-- Fields in line from an offset on. -/
def OpensF (P : Program) (fs : List Field) (off : Nat) {α : Type} (d : Kd α) (good : α → Prop) : Prop :=
  ∀ (H : Type) (enc : TypeId × Value → H) (w : World) (base : Nat) (spare : Nat → Bool) (held : Bool) (fuel : Nat) (cs : List Value),
    off + d.sz ≤ cs.length → (∀ f ∈ fs, ∃ x, DataW.trod enc P w base spare held fuel f.type ((cs.drop f.offset).take (P.cellsOf f.type)) = some x) → ∃ a, d.K w a ((cs.drop off).take d.sz) ∧ good a
theorem opensF_one {α : Type} {d : Kd α} {good : α → Prop} {f : Field} {off : Nat} (h : Opens P f.type d good) (ho : f.offset = off) : OpensF P [f] off d good := by
  intro H enc w base spare held fuel cs hl hf
  obtain ⟨x, hx⟩ := hf f List.mem_cons_self
  rw [ho, h.1] at hx
  exact h.2 _ _ _ _ _ _ _ _ _ hx
theorem opensF_cons {α β : Type} {d : Kd α} {d2 : Kd β} {good : α → Prop} {good2 : β → Prop} {f : Field} {fs : List Field} {off : Nat} (h : Opens P f.type d good) (ho : f.offset = off) (h2 : OpensF P fs (off + d.sz) d2 good2) :
    OpensF P (f :: fs) off (Kd.pair d d2) (fun x => good x.1 ∧ good2 x.2) := by
  intro H enc w base spare held fuel cs hl hf
  have hsz : (Kd.pair d d2).sz = d.sz + d2.sz := rfl
  rw [hsz] at hl ⊢
  obtain ⟨x, hx⟩ := hf f List.mem_cons_self
  rw [ho, h.1] at hx
  obtain ⟨a, ha, hg⟩ := h.2 _ _ _ _ _ _ _ _ _ hx
  obtain ⟨b, hb, hg2⟩ := h2 H enc w base spare held fuel cs (by omega) (fun f hf' => hf f (List.mem_cons_of_mem _ hf'))
  refine ⟨(a, b), ⟨_, _, ?_, ha, hb⟩, hg, hg2⟩
  rw [← List.drop_drop, List.take_add]
theorem opens_struct {α β : Type} {d : Kd α} {good : α → Prop} {fs : Array Field} (f : β → α) (g : α → β) (hfg : ∀ a, f (g a) = a) (hu : P.underlying t = some (.struct fs)) (hc : P.cellsOf t = d.sz) (h : OpensF P fs.toList 0 d good) : Opens P t (Kd.iso d f) (fun x => good (f x)) := by
  refine ⟨hc, fun H enc w base spare held fuel cs x hx => ?_⟩
  obtain ⟨xs, n, _, _, hl, hlen, hf⟩ := DataW.trod_struct hu hx
  have hall : ∀ f ∈ fs.toList, ∃ x, DataW.trod enc P w base spare held n f.type ((cs.drop f.offset).take (P.cellsOf f.type)) = some x := by
    intro f hm
    obtain ⟨j, hj, rfl⟩ := List.mem_iff_getElem.1 hm
    have hj' : j < fs.size := by simpa using hj
    have h1 := hf j (fs[j]) (Array.getElem?_eq_getElem hj')
    have hjx : j < xs.length := by omega
    rw [List.getElem?_eq_getElem hjx] at h1
    refine ⟨xs[j], ?_⟩
    have h2 : fs.toList[j] = fs[j] := by simp
    rw [h2]
    exact h1
  obtain ⟨a, ha, hg⟩ := h H enc w base spare held n cs (by omega) hall
  rw [List.drop_zero, List.take_of_length_le (by omega)] at ha
  exact ⟨g a, by show d.K w (f (g a)) cs; rw [hfg]; exact ha, by show good (f (g a)); rw [hfg]; exact hg⟩
end
/-- A whole argument. -/
theorem open_arg {H : Type} {enc : TypeId × Value → H} {P : Program} {t : TypeId} {α : Type} {d : Kd α} {good : α → Prop} (h : Opens P t d good) {w : World} {base : Nat} {spare : Nat → Bool} {held : Bool} {v : Value} {x : DataW H} {ps : List MemPlace}
    (hx : DataW.Trod enc P w base spare held t v x ps) : ∃ a, d.K w a v.cells.toList ∧ good a := by
  obtain ⟨fuel, hf⟩ := hx
  exact h.2 _ _ _ _ _ _ _ _ _ hf
end Go.Proofs.Ytjcpkplneflleaa.Opened
namespace Go.Proofs.Ytjcpkplneflleaa.Base
open Go.RowKit Go.Proofs.YtjcpkplneflleaaW.PrintWords
theorem w64 {n : Int} (h0 : -9223372036854775808 ≤ n) (h1 : n ≤ 9223372036854775807) : wrap64 n = n := by unfold wrap64; omega
theorem w64s {n : Int} {b : Nat} (h0 : 0 ≤ n) (h1 : n < b) (hb : b ≤ 4611686018427387904) : wrap64 (n + 1) = n + 1 := w64 (by omega) (by omega)
section
variable {α β : Type} {g f : Nat → Option α} {r : α}
theorem Ev.of_eq {g f : Nat → Option α} (k : Ev f r) (h : ∀ k, g k = f k) : Ev g r := Ev.congr h k
theorem Ev.pos {c : Prop} [Decidable c] (h : c) (k : Ev g r) : Ev (fun n => if c then g n else f n) r := by simpa only [if_pos h] using k
theorem Ev.neg {c : Prop} [Decidable c] (h : ¬ c) (k : Ev f r) : Ev (fun n => if c then g n else f n) r := by simpa only [if_neg h] using k
theorem Ev.ite {c : Prop} [Decidable c] (h : c → Ev g r) (k : ¬ c → Ev f r) : Ev (fun n => if c then g n else f n) r := by
  by_cases hc : c
  · exact Ev.pos hc (h hc)
  · exact Ev.neg hc (k hc)
theorem Ev.sbind {a : β} {f : Nat → β → Option α} (k : Ev (fun n => f n a) r) : Ev (fun n => (some a).bind (f n)) r := by simpa only [Option.bind_some] using k
theorem Ev.const (r : α) {o : Option α} (h : o = some r) : Ev (fun _ => o) r := ⟨0, fun _ _ => h⟩
end
/-- p holds at i, i + 1, .., n - 1. -/
def allOf (p : Nat → Bool) (i n : Nat) : Bool := (List.range' i (n - i)).all p
theorem allOf_end (p : Nat → Bool) (n : Nat) : allOf p n n = true := by simp [allOf]
theorem allOf_step (p : Nat → Bool) {i n : Nat} (h : i < n) : allOf p i n = (p i && allOf p (i + 1) n) := by
  unfold allOf
  rw [show n - i = (n - (i + 1)) + 1 by omega, List.range'_succ, List.all_cons]
theorem allOf_iff (p : Nat → Bool) (i n : Nat) : allOf p i n = true ↔ ∀ j, i ≤ j → j < n → p j = true := by
  unfold allOf
  rw [List.all_eq_true]
  constructor
  · intro h j h1 h2
    exact h j (by rw [List.mem_range'_1]; omega)
  · intro h j hj
    rw [List.mem_range'_1] at hj
    exact h j hj.1 (by omega)
/-- A loop that asks a test of each index, and ends with 'no' at the first that fails. -/
theorem scan {β : Type} (g : Nat → Int → Option β) (n : Nat) (p : Nat → Bool) (yes no : β)
    (hend : Ev (fun k => g k (n : Int)) yes)
    (hgo : ∀ i : Nat, i < n → p i = true → ∀ r, Ev (fun k => g k ((i : Int) + 1)) r → Ev (fun k => g k (i : Int)) r)
    (hno : ∀ i : Nat, i < n → p i = false → Ev (fun k => g k (i : Int)) no) :
    ∀ d i : Nat, n - i = d → i ≤ n → Ev (fun k => g k (i : Int)) (if allOf p i n = true then yes else no) := by
  intro d
  induction d with
  | zero =>
    intro i hd hi
    have : i = n := by omega
    subst this
    rw [allOf_end, if_pos rfl]
    exact hend
  | succ d ih =>
    intro i hd hi
    rw [allOf_step p (by omega)]
    cases hp : p i with
    | true =>
      rw [Bool.true_and]
      exact hgo i (by omega) hp _ (ih (i + 1) (by omega) (by omega))
    | false =>
      rw [Bool.false_and, if_neg (by decide)]
      exact hno i (by omega) hp
theorem scan0 {β : Type} (g : Nat → Int → Option β) (n : Nat) (p : Nat → Bool) (yes no : β)
    (hend : Ev (fun k => g k (n : Int)) yes)
    (hgo : ∀ i : Nat, i < n → p i = true → ∀ r, Ev (fun k => g k ((i : Int) + 1)) r → Ev (fun k => g k (i : Int)) r)
    (hno : ∀ i : Nat, i < n → p i = false → Ev (fun k => g k (i : Int)) no) :
    Ev (fun k => g k 0) (if allOf p 0 n = true then yes else no) := scan g n p yes no hend hgo hno n 0 rfl (Nat.zero_le _)
theorem Ev.cast {α : Type} {g : Nat → Option α} {r r' : α} (h : Ev g r) (e : r = r') : Ev g r' := e ▸ h
theorem Ev.iteR {α : Type} {g f : Nat → Option α} {r s : α} {c : Prop} [Decidable c] (h : Ev g r) (k : Ev f s) : Ev (fun n => if c then g n else f n) (if c then r else s) := by
  split
  · exact h
  · exact k
theorem bytes_inj {s t : ByteArray} : s.toList = t.toList ↔ s = t := by
  constructor
  · intro h
    rw [ByteArray.toList_eq, ByteArray.toList_eq] at h
    exact ByteArray.ext (by rw [← Array.toList_inj]; exact h)
  · intro h; rw [h]
/-- A proposition as a Bool. -/
noncomputable def tr (p : Prop) : Bool := @decide p (Classical.propDecidable p)
theorem tr_iff {p : Prop} : tr p = true ↔ p := by unfold tr; exact @decide_eq_true_iff p (Classical.propDecidable p)
theorem tr_t {p : Prop} (h : p) : tr p = true := tr_iff.2 h
theorem tr_f {p : Prop} (h : ¬ p) : tr p = false := by
  cases e : tr p with
  | true => exact absurd (tr_iff.1 e) h
  | false => rfl
theorem of_tr_f {p : Prop} (h : tr p = false) : ¬ p := fun k => by rw [tr_t k] at h; cases h
/-- A loop that compares two lists of one length, element by element. -/
theorem eqLoop {α : Type} (g : Nat → Int → Option Bool) (a b : List α) (z : α) (hl : a.length = b.length)
    (hend : Ev (fun k => g k (a.length : Int)) true)
    (hgo : ∀ i : Nat, i < a.length → a.getD i z = b.getD i z → ∀ r, Ev (fun k => g k ((i : Int) + 1)) r → Ev (fun k => g k (i : Int)) r)
    (hno : ∀ i : Nat, i < a.length → a.getD i z ≠ b.getD i z → Ev (fun k => g k (i : Int)) false) :
    Ev (fun k => g k 0) (tr (a = b)) := by
  refine Ev.cast (scan0 g a.length (fun i => tr (a.getD i z = b.getD i z)) true false hend (fun i hi hp => hgo i hi (tr_iff.1 hp)) (fun i hi hp => hno i hi (of_tr_f hp))) ?_
  rw [Bool.eq_iff_iff, tr_iff]
  have : (∀ j, 0 ≤ j → j < a.length → tr (a.getD j z = b.getD j z) = true) ↔ a = b := by
    constructor
    · intro h
      apply List.ext_getElem hl
      intro i h1 h2
      have := tr_iff.1 (h i (Nat.zero_le _) h1)
      rwa [List.getD_eq_getElem?_getD, List.getD_eq_getElem?_getD, List.getElem?_eq_getElem h1, List.getElem?_eq_getElem h2] at this
    · rintro rfl j _ _
      exact tr_t rfl
  rw [← this, ← allOf_iff]
  split <;> simp_all
/-- A loop that fills a list made ahead of it. -/
theorem fillLoop {β : Type} (g : Nat → List β → Int → Option (List β)) (n : Nat) (F : Nat → β)
    (hend : ∀ out : List β, out.length = n → Ev (fun k => g k out (n : Int)) out)
    (hgo : ∀ (i : Nat) (out : List β), i < n → out.length = n → ∀ r, Ev (fun k => g k (out.set i (F i)) ((i : Int) + 1)) r → Ev (fun k => g k out (i : Int)) r) :
    ∀ d i : Nat, n - i = d → i ≤ n → ∀ out : List β, out.length = n → Ev (fun k => g k out (i : Int)) (out.take i ++ (List.range' i (n - i)).map F) := by
  intro d
  induction d with
  | zero =>
    intro i hd hi out ho
    have : i = n := by omega
    subst this
    rw [hd, List.take_of_length_le (by omega)]
    simpa using hend out ho
  | succ d ih =>
    intro i hd hi out ho
    have h := ih (i + 1) (by omega) (by omega) (out.set i (F i)) (by simpa using ho)
    refine Ev.cast (hgo i out (by omega) ho _ h) ?_
    rw [show n - i = (n - (i + 1)) + 1 by omega, List.range'_succ, List.map_cons, List.take_succ_eq_append_getElem (by rw [List.length_set]; omega)]
    simp [List.take_set_of_le]
theorem fill0 {β : Type} (g : Nat → List β → Int → Option (List β)) (n : Nat) (F : Nat → β) (out : List β) (ho : out.length = n)
    (hend : ∀ out : List β, out.length = n → Ev (fun k => g k out (n : Int)) out)
    (hgo : ∀ (i : Nat) (out : List β), i < n → out.length = n → ∀ r, Ev (fun k => g k (out.set i (F i)) ((i : Int) + 1)) r → Ev (fun k => g k out (i : Int)) r) :
    Ev (fun k => g k out 0) ((List.range n).map F) := by
  refine Ev.cast (fillLoop g n F hend hgo n 0 rfl (Nat.zero_le _) out ho) ?_
  simp [List.range_eq_range']
theorem map_range_get {α β : Type} (l : List α) (z : α) (f : α → β) : (List.range l.length).map (fun j => f (l.getD j z)) = l.map f := by
  apply List.ext_getElem (by simp)
  intro i h1 h2
  simp only [List.length_map, List.length_range] at h1
  simp [List.getD_eq_getElem?_getD, List.getElem?_eq_getElem h1]
/-- A loop that counts sizes down: it tells a negative number, or all it saw was small. -/
theorem sizeLoop (g : Nat → Int → Int → Option Int) (n : Nat) (P : Nat → Prop)
    (hend : ∀ a : Int, Ev (fun k => g k a (n : Int)) a)
    (step : ∀ (i : Nat) (a : Int), i < n → 0 ≤ a → a ≤ 1048576 → (Ev (fun k => g k a (i : Int)) (-1)) ∨ ∃ b, 0 ≤ b ∧ b ≤ a ∧ P i ∧ ∀ r, Ev (fun k => g k b ((i : Int) + 1)) r → Ev (fun k => g k a (i : Int)) r) :
    ∀ d i : Nat, n - i = d → i ≤ n → ∀ a : Int, 0 ≤ a → a ≤ 1048576 → ∃ r, Ev (fun k => g k a (i : Int)) r ∧ (0 ≤ r → r ≤ a ∧ ∀ j, i ≤ j → j < n → P j) := by
  intro d
  induction d with
  | zero =>
    intro i hd hi a h0 h1
    have : i = n := by omega
    subst this
    exact ⟨a, hend a, fun _ => ⟨Int.le_refl _, fun j h2 h3 => absurd h3 (by omega)⟩⟩
  | succ d ih =>
    intro i hd hi a h0 h1
    rcases step i a (by omega) h0 h1 with h | ⟨b, hb0, hb1, hP, hk⟩
    · exact ⟨-1, h, fun h => absurd h (by omega)⟩
    · obtain ⟨r, hr, hp⟩ := ih (i + 1) (by omega) (by omega) b hb0 (by omega)
      refine ⟨r, hk r hr, fun h => ⟨by have := (hp h).1; omega, fun j h2 h3 => ?_⟩⟩
      by_cases he : j = i
      · subst he; exact hP
      · exact (hp h).2 j (by omega) h3
theorem asc_ext : ∀ l m : List Int, l.Pairwise (· < ·) → m.Pairwise (· < ·) → (∀ x, x ∈ l ↔ x ∈ m) → l = m
  | [], [], _, _, _ => rfl
  | [], y :: m, _, _, h => absurd ((h y).2 List.mem_cons_self) (by simp)
  | x :: l, [], _, _, h => absurd ((h x).1 List.mem_cons_self) (by simp)
  | x :: l, y :: m, hl, hm, h => by
    rw [List.pairwise_cons] at hl hm
    have exy : x = y := by
      rcases List.mem_cons.1 ((h x).1 List.mem_cons_self) with h1 | h1
      · exact h1
      · rcases List.mem_cons.1 ((h y).2 List.mem_cons_self) with h2 | h2
        · exact h2.symm
        · have a := hm.1 x h1
          have b := hl.1 y h2
          omega
    subst exy
    congr 1
    refine asc_ext l m hl.2 hm.2 (fun z => ?_)
    constructor
    · intro hz
      rcases List.mem_cons.1 ((h z).1 (List.mem_cons_of_mem _ hz)) with h1 | h1
      · subst h1; have := hl.1 z hz; omega
      · exact h1
    · intro hz
      rcases List.mem_cons.1 ((h z).2 (List.mem_cons_of_mem _ hz)) with h1 | h1
      · subst h1; have := hm.1 z hz; omega
      · exact h1
/-- A number put into an ascending list. -/
def insL (n : Int) : List Int → List Int
  | [] => [n]
  | x :: xs => if x < n then x :: insL n xs else if x = n then x :: xs else n :: x :: xs
theorem mem_insL (n x : Int) : ∀ l : List Int, x ∈ insL n l ↔ x = n ∨ x ∈ l
  | [] => by simp [insL]
  | y :: l => by
    unfold insL
    have ih := mem_insL n x l
    split
    · rw [List.mem_cons, ih, List.mem_cons]
      grind
    · split
      · rename_i h; subst h; rw [List.mem_cons]; grind
      · rw [List.mem_cons]
theorem asc_insL (n : Int) : ∀ l : List Int, l.Pairwise (· < ·) → (insL n l).Pairwise (· < ·)
  | [], _ => by simp [insL]
  | y :: l, h => by
    unfold insL
    have ih := asc_insL n l
    rw [List.pairwise_cons] at h
    split
    · rename_i hy
      rw [List.pairwise_cons]
      refine ⟨fun z hz => ?_, ih h.2⟩
      rcases (mem_insL n z l).1 hz with h1 | h1
      · omega
      · exact h.1 z h1
    · split
      · rw [List.pairwise_cons]; exact h
      · rename_i h1 h2
        rw [List.pairwise_cons]
        refine ⟨fun z hz => ?_, List.pairwise_cons.2 h⟩
        rcases List.mem_cons.1 hz with h3 | h3
        · omega
        · have := h.1 z h3; omega
theorem insL_length (n : Int) : ∀ l : List Int, (insL n l).length ≤ l.length + 1
  | [] => by simp [insL]
  | y :: l => by
    unfold insL
    have ih := insL_length n l
    split
    · simp; omega
    · split
      · simp
      · simp
end Go.Proofs.Ytjcpkplneflleaa.Base
namespace Go.Proofs.Ytjcpkplneflleaa.WordLaw
open Go.RowKit Go.Proofs.YtjcpkplneflleaaW.PrintWords Go.Proofs.Ytjcpkplneflleaa.Base Go.Proofs.Ytjcpkplneflleaa.Q
def lowC (c : Int) : Bool := decide (97 ≤ c) && decide (c ≤ 122)
def bodyC (c : Int) : Bool := lowC c || (decide (48 ≤ c) && decide (c ≤ 57))
def bodyB (s : ByteArray) : Bool := if allOf (fun j => bodyC (bt s j)) 0 s.size = true then decide ((s.size : Int) ≤ 12) else false
def wordB (s : ByteArray) : Bool := if allOf (fun j => lowC (bt s j)) 0 s.size = true then decide (1 ≤ (s.size : Int)) && decide ((s.size : Int) ≤ 4) else false
theorem lowC_t {c : Int} (h : lowC c = true) : 97 ≤ c ∧ c ≤ 122 := by simpa [lowC] using h
theorem lowC_f {c : Int} (h : lowC c = false) : c < 97 ∨ 122 < c := by
  simp [lowC] at h
  omega
theorem in_is (a b c : Int) : impl_in.f a b c = some (decide (b ≤ a) && decide (a ≤ c)) := by
  unfold impl_in.f
  split
  · rename_i h
    have : b ≤ a := h
    simp [this]
  · rename_i h
    have : ¬ b ≤ a := h
    simp [this]
theorem wbt (s : ByteArray) (i : Int) : wrap64 (bt s i) = bt s i := by
  have := bt_range s i
  exact w64 (by omega) (by omega)
theorem impl_body (s : ByteArray) (h : s.size ≤ 4611686018427387903) : Ev (fun k => impl_TreeBody.f k s) (bodyB s) := by
  unfold impl_TreeBody.f bodyB
  refine scan0 (fun k i => impl_TreeBody.l0 k s i) s.size _ _ _ ?_ ?_ ?_
  · exact Ev.step (fun k => by rw [impl_TreeBody.l0, if_neg (by omega)]) (Ev.now _)
  · intro i hi hp r hr
    refine Ev.step (f := fun k => impl_TreeBody.l0 k s ((i : Int) + 1)) (fun k => ?_) hr
    rw [impl_TreeBody.l0, if_pos (by omega), if_pos (by omega), wbt, in_is, w64s (b := s.size) (by omega) (by omega) (by omega)]
    simp only [Option.bind_some, in_is]
    cases hl : lowC (bt s i) with
    | true => rw [lowC] at hl; rw [hl, if_pos rfl]
    | false =>
      have hb : (decide (48 ≤ bt s i) && decide (bt s i ≤ 57)) = true := by simpa [bodyC, hl] using hp
      rw [lowC] at hl
      rw [hl, hb, if_neg (by decide), if_pos rfl]
  · intro i hi hp
    refine Ev.step (f := fun _ => some false) (fun k => ?_) (Ev.now _)
    rw [impl_TreeBody.l0, if_pos (by omega), if_pos (by omega), wbt, in_is]
    have hp' : bodyC (bt s i) = false := hp
    unfold bodyC lowC at hp'
    rw [Bool.or_eq_false_iff] at hp'
    simp only [Option.bind_some, in_is, hp'.1, hp'.2, Bool.false_eq_true, if_false]
theorem impl_word (s : ByteArray) (h : s.size ≤ 4611686018427387903) : Ev (fun k => impl_TreeWord.f k s) (wordB s) := by
  unfold impl_TreeWord.f wordB
  refine scan0 (fun k i => impl_TreeWord.l0 k s i) s.size _ _ _ ?_ ?_ ?_
  · exact Ev.step (fun k => by rw [impl_TreeWord.l0, if_neg (by omega), in_is, Option.bind_some]) (Ev.now _)
  · intro i hi hp r hr
    refine Ev.step (f := fun k => impl_TreeWord.l0 k s ((i : Int) + 1)) (fun k => ?_) hr
    have hp' : lowC (bt s i) = true := hp
    rw [lowC] at hp'
    rw [impl_TreeWord.l0, if_pos (by omega), if_pos (by omega), wbt, in_is, w64s (b := s.size) (by omega) (by omega) (by omega)]
    simp only [Option.bind_some, hp', if_true]
  · intro i hi hp
    refine Ev.step (f := fun _ => some false) (fun k => ?_) (Ev.now _)
    have hp' : lowC (bt s i) = false := hp
    rw [lowC] at hp'
    rw [impl_TreeWord.l0, if_pos (by omega), if_pos (by omega), wbt, in_is]
    simp only [Option.bind_some, hp', Bool.false_eq_true, if_false]
theorem spec_body (s : ByteArray) (h : s.size ≤ 4611686018427387903) : Ev (fun k => spec_TreeBody.f k s) (bodyB s) := by
  unfold spec_TreeBody.f bodyB
  refine scan0 (fun k i => spec_TreeBody.l0 k s i) s.size _ _ _ ?_ ?_ ?_
  · exact Ev.step (fun k => by rw [spec_TreeBody.l0, if_neg (by omega)]) (Ev.now _)
  · intro i hi hp r hr
    refine Ev.step (f := fun k => spec_TreeBody.l0 k s ((i : Int) + 1)) (fun k => ?_) hr
    rw [spec_TreeBody.l0, if_pos (by omega), if_pos (by omega), w64s (b := s.size) (by omega) (by omega) (by omega)]
    simp only [bodyC, lowC, Bool.or_eq_true, Bool.and_eq_true, decide_eq_true_eq] at hp
    repeat' split
    all_goals first | rfl | omega
  · intro i hi hp
    refine Ev.step (f := fun _ => some false) (fun k => ?_) (Ev.now _)
    rw [spec_TreeBody.l0, if_pos (by omega), if_pos (by omega)]
    simp only [bodyC, lowC, Bool.or_eq_false_iff, Bool.and_eq_false_iff, decide_eq_false_iff_not] at hp
    repeat' split
    all_goals first | rfl | omega
theorem spec_word (s : ByteArray) (h : s.size ≤ 4611686018427387903) : Ev (fun k => spec_TreeWord.f k s) (wordB s) := by
  unfold spec_TreeWord.f wordB
  refine scan0 (fun k i => spec_TreeWord.l0 k s i) s.size _ _ _ ?_ ?_ ?_
  · refine Ev.step (f := fun _ => some (decide (1 ≤ (s.size : Int)) && decide ((s.size : Int) ≤ 4))) (fun k => ?_) (Ev.now _)
    rw [spec_TreeWord.l0, if_neg (by omega)]
    split
    · rename_i h1
      have : 1 ≤ (s.size : Int) := h1
      simp [this]
    · rename_i h1
      have : ¬ 1 ≤ (s.size : Int) := h1
      simp only [this, decide_false, Bool.false_and]
  · intro i hi hp r hr
    refine Ev.step (f := fun k => spec_TreeWord.l0 k s ((i : Int) + 1)) (fun k => ?_) hr
    have := lowC_t hp
    rw [spec_TreeWord.l0, if_pos (by omega), if_pos (by omega), if_neg (by omega), if_neg (by omega), w64s (b := s.size) (by omega) (by omega) (by omega)]
  · intro i hi hp
    refine Ev.step (f := fun _ => some false) (fun k => ?_) (Ev.now _)
    have := lowC_f hp
    rw [spec_TreeWord.l0, if_pos (by omega), if_pos (by omega)]
    repeat' split
    all_goals first | rfl | omega
end Go.Proofs.Ytjcpkplneflleaa.WordLaw
namespace Go.Proofs.Ytjcpkplneflleaa.Ops
open Go.RowKit Go.Proofs.YtjcpkplneflleaaW.PrintWords Go.Proofs.Ytjcpkplneflleaa.Base Go.Proofs.Ytjcpkplneflleaa.Q Go.Proofs.Ytjcpkplneflleaa.WordLaw
def smallOp (x : S90) : Prop := x.f2.size ≤ 1048576 ∧ x.f4.size ≤ 1048576 ∧ x.f6.size ≤ 1048576
def cvOp (x : S90) : S72 := ⟨x.f0, x.f1, x.f2, x.f3, x.f4, x.f5, x.f6⟩
theorem size_step {a : Int} {s : Nat} (h0 : 0 ≤ a) (h1 : a ≤ 1048576) (hs : s ≤ 9223372036854775807) : wrap64 (a - (s : Int)) = a - s := w64 (by omega) (by omega)
theorem szOp (a0 a1 a3 a5 : Int) (s2 s4 s6 : ByteArray) (a : Int) (h0 : 0 ≤ a) (h1 : a ≤ 1048576) (z2 : s2.size ≤ 9223372036854775807) (z4 : s4.size ≤ 9223372036854775807) (z6 : s6.size ≤ 9223372036854775807) :
    ∃ r, laws_szOp.f a0 a1 s2 a3 s4 a5 s6 a = some r ∧ (r = -1 ∨ (0 ≤ r ∧ r ≤ a ∧ s2.size ≤ 1048576 ∧ s4.size ≤ 1048576 ∧ s6.size ≤ 1048576)) := by
  unfold laws_szOp.f
  rw [size_step h0 h1 z2]
  by_cases c2 : a - (s2.size : Int) < 0
  · rw [if_pos c2]; exact ⟨-1, rfl, .inl rfl⟩
  · rw [if_neg c2, size_step (a := a - (s2.size : Int)) (by omega) (by omega) z4]
    by_cases c4 : a - (s2.size : Int) - (s4.size : Int) < 0
    · rw [if_pos c4]; exact ⟨-1, rfl, .inl rfl⟩
    · rw [if_neg c4, size_step (a := a - (s2.size : Int) - (s4.size : Int)) (by omega) (by omega) z6]
      by_cases c6 : a - (s2.size : Int) - (s4.size : Int) - (s6.size : Int) < 0
      · rw [if_pos c6]; exact ⟨-1, rfl, .inl rfl⟩
      · rw [if_neg c6]
        exact ⟨_, rfl, .inr ⟨by omega, by omega, by omega, by omega, by omega⟩⟩
theorem szOpS (l : List S90) (hl : l.length ≤ 9223372036854775807) (hs : ∀ y ∈ l, y.f2.size ≤ 9223372036854775807 ∧ y.f4.size ≤ 9223372036854775807 ∧ y.f6.size ≤ 9223372036854775807) (a : Int) (h0 : 0 ≤ a) (h1 : a ≤ 1048576) :
    ∃ r, Ev (fun k => laws_szOpS.f k l a) r ∧ (0 ≤ r → r ≤ a ∧ l.length ≤ 1048576 ∧ ∀ x ∈ l, smallOp x) := by
  unfold laws_szOpS.f
  rw [size_step h0 h1 hl]
  by_cases c : a - (l.length : Int) < 0
  · exact ⟨-1, Ev.pos c (Ev.now _), fun h => absurd h (by omega)⟩
  · obtain ⟨r, hr, hp⟩ := sizeLoop (fun k a i => laws_szOpS.l0 k l a i) l.length (fun j => ∀ x, l[j]? = some x → smallOp x)
      (fun a => Ev.step (fun k => by rw [laws_szOpS.l0, if_neg (by omega)]) (Ev.now _))
      (fun i a hi h0 h1 => by
        have hx : l[i] ∈ l := List.getElem_mem hi
        have e : rd_T90 l (i : Int) = l[i] := by simp [rd_T90, List.getD_eq_getElem?_getD, List.getElem?_eq_getElem hi]
        obtain ⟨z2, z4, z6⟩ := hs _ hx
        obtain ⟨r, hr, hp⟩ := szOp l[i].f0 l[i].f1 l[i].f3 l[i].f5 l[i].f2 l[i].f4 l[i].f6 a h0 h1 z2 z4 z6
        have hstep : ∀ k, laws_szOpS.l0 (k + 1) l a (i : Int) = if r < 0 then some (-1) else laws_szOpS.l0 k l r ((i : Int) + 1) := by
          intro k
          rw [laws_szOpS.l0, if_pos (by omega), if_pos (by omega), e, hr, w64s (b := 4611686018427387904) (by omega) (by omega) (by omega)]
          rfl
        rcases hp with rfl | ⟨p0, p1, p2⟩
        · left
          exact Ev.step (f := fun _ => some (-1)) (fun k => by rw [hstep, if_pos (by decide)]) (Ev.now _)
        · right
          refine ⟨r, p0, p1, ?_, fun q hq => Ev.step (fun k => by rw [hstep, if_neg (by omega)]) hq⟩
          intro x hx'
          rw [List.getElem?_eq_getElem hi] at hx'
          injection hx' with hx'
          rw [← hx']
          exact p2)
      l.length 0 rfl (Nat.zero_le _) (a - (l.length : Int)) (by omega) (by omega)
    refine ⟨r, Ev.neg c hr, fun h => ⟨by have := (hp h).1; omega, by omega, fun x hx => ?_⟩⟩
    obtain ⟨j, hj, rfl⟩ := List.mem_iff_getElem.1 hx
    exact (hp h).2 j (Nat.zero_le _) hj _ (List.getElem?_eq_getElem hj)
theorem toOpS (l : List S90) (hl : l.length ≤ 1048576) : Ev (fun k => laws_toOpS.f k l) (l.map cvOp) := by
  unfold laws_toOpS.f
  refine Ev.pos (by omega) (Ev.pos (by omega) ?_)
  refine Ev.cast (fill0 (fun k out i => laws_toOpS.l0 k l out i) l.length (fun j => cvOp (l.getD j z90)) _ (by simp) ?_ ?_) (map_range_get l _ _)
  · intro out _
    exact Ev.step (fun k => by rw [laws_toOpS.l0, if_neg (by omega)]) (Ev.now _)
  · intro i out hi ho r hr
    refine Ev.step (fun k => ?_) hr
    rw [laws_toOpS.l0, if_pos (by omega), if_pos (by omega), w64s (b := l.length) (by omega) (by omega) (by omega)]
    unfold laws_toOp.f
    simp only [Option.bind_some]
    rw [if_pos (by omega)]
    rfl
theorem op_ext (x y : S72) : (x.f0 = y.f0 ∧ x.f1 = y.f1 ∧ x.f2.toList = y.f2.toList ∧ x.f3 = y.f3 ∧ x.f4.toList = y.f4.toList ∧ x.f5 = y.f5 ∧ x.f6.toList = y.f6.toList) ↔ x = y := by
  simp only [bytes_inj]
  constructor
  · rintro ⟨h0, h1, h2, h3, h4, h5, h6⟩
    cases x; cases y
    simp_all
  · rintro rfl
    simp
theorem eqOp_is (x y : S72) : laws_eqOp.f x.f0 x.f1 x.f2 x.f3 x.f4 x.f5 x.f6 y.f0 y.f1 y.f2 y.f3 y.f4 y.f5 y.f6 = some (tr (x = y)) := by
  have h := op_ext x y
  unfold laws_eqOp.f
  repeat' split
  all_goals (congr 1; symm)
  all_goals first | (rw [tr_iff, ← h]; grind) | (apply tr_f; rw [← h]; grind)
theorem eqOpS (a b : List S72) (hl : a.length ≤ 4611686018427387903) : Ev (fun k => laws_eqOpS.f k a b) (tr (a = b)) := by
  unfold laws_eqOpS.f
  by_cases c : (a.length : Int) = (b.length : Int)
  · refine Ev.pos c (eqLoop (fun k i => laws_eqOpS.l0 k a b i) a b z72 (by omega) ?_ ?_ ?_)
    · exact Ev.step (fun k => by rw [laws_eqOpS.l0, if_neg (by omega)]) (Ev.now _)
    · intro i hi he r hr
      refine Ev.step (fun k => ?_) hr
      have he' : rd_T72 a i = rd_T72 b i := by simpa [rd_T72] using he
      rw [laws_eqOpS.l0, if_pos (by omega), if_pos (by omega), if_pos (by omega), eqOp_is, Option.bind_some, if_pos (tr_t he'), w64s (b := a.length) (by omega) (by omega) (by omega)]
    · intro i hi he
      refine Ev.step (f := fun _ => some false) (fun k => ?_) (Ev.now _)
      have he' : rd_T72 a i ≠ rd_T72 b i := by simpa [rd_T72] using he
      rw [laws_eqOpS.l0, if_pos (by omega), if_pos (by omega), if_pos (by omega), eqOp_is, Option.bind_some, if_neg (fun h => he' (tr_iff.1 h))]
  · refine Ev.neg c (Ev.cast (Ev.now false) ?_)
    symm
    apply tr_f
    rintro rfl
    exact c rfl
end Go.Proofs.Ytjcpkplneflleaa.Ops
namespace Go.Proofs.Ytjcpkplneflleaa.OpOk
open Go.RowKit Go.Proofs.YtjcpkplneflleaaW.PrintWords Go.Proofs.Ytjcpkplneflleaa.Base Go.Proofs.Ytjcpkplneflleaa.Q Go.Proofs.Ytjcpkplneflleaa.WordLaw
def inB (a lo hi : Int) : Bool := decide (lo ≤ a) && decide (a ≤ hi)
def noB (s : ByteArray) : Bool := s.toList == ([] : List UInt8)
/-- Is this operation, by its fields, a valid one? -/
def opB (kind dir : Int) (name : ByteArray) (dir2 : Int) (name2 : ByteArray) (id : Int) (text : ByteArray) : Bool :=
  inB id 1 31 &&
    (if kind = 1 ∨ kind = 2 ∨ kind = 3 then inB dir 0 31 && wordB name && (decide (dir2 = 0) && noB name2) && noB text
    else if kind = 4 then inB dir 0 31 && wordB name && (inB dir2 0 31 && wordB name2) && noB text
    else if kind = 5 then decide (dir = 0) && noB name && (decide (dir2 = 0) && noB name2) && bodyB text
    else false)
theorem l1Id (a : Int) : spec_l1Id.f a = some (inB a 0 31) := by
  unfold spec_l1Id.f inB
  have e : decide (a < 32) = decide (a ≤ 31) := by rw [Bool.eq_iff_iff]; simp; omega
  split
  · rename_i h
    have : 0 ≤ a := h
    simp [this, e]
  · rename_i h
    have : ¬ 0 ≤ a := h
    simp [this]
section
variable {k d d2 i : Int} {n n2 t : ByteArray}
theorem spec4 (x3 x4 x5 x6 x41 : Bool) (ht : t.size ≤ 4611686018427387903) : Ev (fun j => spec_OpOk.j4 j x3 x4 x5 x6 k x41 k d n d2 n2 i t)
    (if x41 = true then x3 && x4 && x6 && noB t else if k = 4 then x3 && x4 && x5 && noB t else if k = 5 then x3 && (decide (d = 0) && noB n) && x6 && bodyB t else false) := by
  refine Ev.step (fun j => by rw [spec_OpOk.j4]) ?_
  refine Ev.iteR ?_ (Ev.iteR ?_ (Ev.iteR ?_ (Ev.now _)))
  · cases x3 <;> cases x4 <;> cases x6 <;> exact Ev.now _
  · cases x3 <;> cases x4 <;> cases x5 <;> exact Ev.now _
  · refine Ev.cast (Ev.iteR (Ev.iteR (Ev.iteR (Ev.iteR (Ev.bind (spec_body t ht) (Ev.now _)) (Ev.now _)) (Ev.now _)) (Ev.now _)) (Ev.now _)) ?_
    cases x3 <;> cases x6 <;> simp [noB]
    all_goals by_cases h : d = 0 <;> by_cases h2 : n.toList = [] <;> simp [h, h2]
theorem spec3 (x3 x4 x5 x6 : Bool) (ht : t.size ≤ 4611686018427387903) : Ev (fun j => spec_OpOk.j3 j x3 x4 x5 x6 k d n d2 n2 i t)
    (if k = 1 ∨ k = 2 ∨ k = 3 then x3 && x4 && x6 && noB t else if k = 4 then x3 && x4 && x5 && noB t else if k = 5 then x3 && (decide (d = 0) && noB n) && x6 && bodyB t else false) := by
  refine Ev.step (fun j => by rw [spec_OpOk.j3]) ?_
  refine Ev.cast (Ev.iteR (spec4 x3 x4 x5 x6 _ ht) (Ev.iteR (spec4 x3 x4 x5 x6 _ ht) (spec4 x3 x4 x5 x6 _ ht))) ?_
  by_cases h1 : k = 1
  · subst h1; simp
  · by_cases h2 : k = 2
    · subst h2; simp
    · by_cases h3 : k = 3
      · subst h3; simp
      · simp [h1, h2, h3]
theorem spec2 (x3 x4 x5 : Bool) (ht : t.size ≤ 4611686018427387903) : Ev (fun j => spec_OpOk.j2 j x3 x4 x5 k d n d2 n2 i t)
    (if k = 1 ∨ k = 2 ∨ k = 3 then x3 && x4 && (decide (d2 = 0) && noB n2) && noB t else if k = 4 then x3 && x4 && x5 && noB t else if k = 5 then x3 && (decide (d = 0) && noB n) && (decide (d2 = 0) && noB n2) && bodyB t else false) := by
  refine Ev.step (fun j => by rw [spec_OpOk.j2]) ?_
  refine Ev.cast (Ev.iteR (spec3 x3 x4 x5 _ ht) (spec3 x3 x4 x5 _ ht)) ?_
  by_cases h : d2 = 0 <;> simp [h, noB]
theorem spec_ok (hn : n.size ≤ 4611686018427387903) (hn2 : n2.size ≤ 4611686018427387903) (ht : t.size ≤ 4611686018427387903) : Ev (fun j => spec_OpOk.f j k d n d2 n2 i t) (opB k d n d2 n2 i t) := by
  unfold spec_OpOk.f
  have main : ∀ x3, Ev (fun j => spec_OpOk.j0 j x3 k d n d2 n2 i t) (if k = 1 ∨ k = 2 ∨ k = 3 then x3 && (inB d 0 31 && wordB n) && (decide (d2 = 0) && noB n2) && noB t else if k = 4 then x3 && (inB d 0 31 && wordB n) && (inB d2 0 31 && wordB n2) && noB t else if k = 5 then x3 && (decide (d = 0) && noB n) && (decide (d2 = 0) && noB n2) && bodyB t else false) := by
    intro x3
    have s1 : ∀ x4, Ev (fun j => spec_OpOk.j1 j x3 x4 k d n d2 n2 i t) (if k = 1 ∨ k = 2 ∨ k = 3 then x3 && x4 && (decide (d2 = 0) && noB n2) && noB t else if k = 4 then x3 && x4 && (inB d2 0 31 && wordB n2) && noB t else if k = 5 then x3 && (decide (d = 0) && noB n) && (decide (d2 = 0) && noB n2) && bodyB t else false) := by
      intro x4
      refine Ev.step (fun j => by rw [spec_OpOk.j1, l1Id, Option.bind_some]) ?_
      refine Ev.cast (Ev.iteR (Ev.bind (spec_word n2 hn2) (spec2 x3 x4 _ ht)) (spec2 x3 x4 _ ht)) ?_
      cases inB d2 0 31 <;> simp
    refine Ev.step (fun j => by rw [spec_OpOk.j0, l1Id, Option.bind_some]) ?_
    refine Ev.cast (Ev.iteR (Ev.bind (spec_word n hn) (s1 _)) (s1 _)) ?_
    cases inB d 0 31 <;> simp
  refine Ev.cast (r := if i ≥ 1 then _ else _) (Ev.iteR (Ev.of_eq (f := fun j => spec_OpOk.j0 j (inB i 0 31) k d n d2 n2 i t) (main _) (fun j => by rw [l1Id, Option.bind_some])) (main false)) ?_
  unfold opB
  have e : inB i 1 31 = (decide (i ≥ 1) && inB i 0 31) := by
    unfold inB
    rw [Bool.eq_iff_iff]
    simp
    omega
  rw [e]
  by_cases h : i ≥ 1
  · rw [if_pos h, decide_eq_true h, Bool.true_and]
    cases inB i 0 31 <;> simp [Bool.and_assoc]
  · rw [if_neg h, decide_eq_false h]
    simp
theorem impl2 (x3 x4 x27 : Bool) (hn2 : n2.size ≤ 4611686018427387903) (ht : t.size ≤ 4611686018427387903) : Ev (fun j => impl_OpOk.j2 j x3 x4 k x27 k d n d2 n2 i t)
    (if x27 = true then x3 && x4 && noB t else if k = 4 then x3 && (inB d2 0 31 && wordB n2) && noB t else if k = 5 then (decide (d = 0) && noB n) && x4 && bodyB t else false) := by
  refine Ev.step (fun j => by rw [impl_OpOk.j2]) ?_
  refine Ev.iteR ?_ (Ev.iteR ?_ (Ev.iteR ?_ (Ev.now _)))
  · cases x3 <;> cases x4 <;> exact Ev.now _
  · refine Ev.cast (Ev.iteR (Ev.of_eq (f := fun j => if inB d2 0 31 = true then (impl_TreeWord.f j n2).bind fun t178 => if t178 = true then some (t.toList == ([] : List UInt8)) else some false else some false) (Ev.iteR (Ev.bind (impl_word n2 hn2) (Ev.iteR (Ev.now _) (Ev.now _))) (Ev.now _)) (fun j => by rw [in_is, Option.bind_some]; rfl)) (Ev.now _)) ?_
    cases x3 <;> cases inB d2 0 31 <;> cases wordB n2 <;> simp [noB]
  · refine Ev.cast (Ev.iteR (Ev.iteR (Ev.iteR (Ev.bind (impl_body t ht) (Ev.now _)) (Ev.now _)) (Ev.now _)) (Ev.now _)) ?_
    by_cases h : d = 0 <;> by_cases h2 : n.toList = [] <;> cases x4 <;> simp [h, h2, noB]
theorem impl1 (x3 x4 : Bool) (hn2 : n2.size ≤ 4611686018427387903) (ht : t.size ≤ 4611686018427387903) : Ev (fun j => impl_OpOk.j1 j x3 x4 k d n d2 n2 i t)
    (if k = 1 ∨ k = 2 ∨ k = 3 then x3 && x4 && noB t else if k = 4 then x3 && (inB d2 0 31 && wordB n2) && noB t else if k = 5 then (decide (d = 0) && noB n) && x4 && bodyB t else false) := by
  refine Ev.step (fun j => by rw [impl_OpOk.j1]) ?_
  refine Ev.cast (Ev.iteR (impl2 x3 x4 _ hn2 ht) (Ev.iteR (impl2 x3 x4 _ hn2 ht) (impl2 x3 x4 _ hn2 ht))) ?_
  by_cases h1 : k = 1
  · subst h1; simp
  · by_cases h2 : k = 2
    · subst h2; simp
    · by_cases h3 : k = 3
      · subst h3; simp
      · simp [h1, h2, h3]
theorem impl_ok (hn : n.size ≤ 4611686018427387903) (hn2 : n2.size ≤ 4611686018427387903) (ht : t.size ≤ 4611686018427387903) : Ev (fun j => impl_OpOk.f j k d n d2 n2 i t) (opB k d n d2 n2 i t) := by
  unfold impl_OpOk.f
  have main : ∀ x3, Ev (fun j => impl_OpOk.j0 j x3 k d n d2 n2 i t) (if k = 1 ∨ k = 2 ∨ k = 3 then x3 && (decide (d2 = 0) && noB n2) && noB t else if k = 4 then x3 && (inB d2 0 31 && wordB n2) && noB t else if k = 5 then (decide (d = 0) && noB n) && (decide (d2 = 0) && noB n2) && bodyB t else false) := by
    intro x3
    refine Ev.step (fun j => by rw [impl_OpOk.j0]) ?_
    refine Ev.cast (Ev.iteR (impl1 x3 _ hn2 ht) (impl1 x3 _ hn2 ht)) ?_
    by_cases h : d2 = 0 <;> simp [h, noB]
  have inner : Ev (fun j => (impl_in.f d 0 31).bind fun t175 => if t175 = true then (impl_TreeWord.f j n).bind fun t176 => impl_OpOk.j0 j t176 k d n d2 n2 i t else impl_OpOk.j0 j false k d n d2 n2 i t) (if k = 1 ∨ k = 2 ∨ k = 3 then (inB d 0 31 && wordB n) && (decide (d2 = 0) && noB n2) && noB t else if k = 4 then (inB d 0 31 && wordB n) && (inB d2 0 31 && wordB n2) && noB t else if k = 5 then (decide (d = 0) && noB n) && (decide (d2 = 0) && noB n2) && bodyB t else false) := by
    refine Ev.of_eq (f := fun j => if inB d 0 31 = true then (impl_TreeWord.f j n).bind fun t176 => impl_OpOk.j0 j t176 k d n d2 n2 i t else impl_OpOk.j0 j false k d n d2 n2 i t) ?_ (fun j => by rw [in_is, Option.bind_some]; rfl)
    refine Ev.cast (Ev.iteR (Ev.bind (impl_word n hn) (main _)) (main _)) ?_
    cases inB d 0 31 <;> simp
  refine Ev.of_eq (f := fun j => if inB i 1 31 = true then (impl_in.f d 0 31).bind fun t175 => if t175 = true then (impl_TreeWord.f j n).bind fun t176 => impl_OpOk.j0 j t176 k d n d2 n2 i t else impl_OpOk.j0 j false k d n d2 n2 i t else some false) ?_ (fun j => by rw [in_is, Option.bind_some]; rfl)
  refine Ev.cast (Ev.iteR inner (Ev.now false)) ?_
  unfold opB
  cases inB i 1 31 <;> simp
end
end Go.Proofs.Ytjcpkplneflleaa.OpOk
namespace Go.Proofs.Ytjcpkplneflleaa.Forms
open Go.RowKit Go.Proofs.YtjcpkplneflleaaW.PrintWords Go.Proofs.Ytjcpkplneflleaa.Base Go.Proofs.Ytjcpkplneflleaa.Q Go.Proofs.Ytjcpkplneflleaa.OpOk
def wideO (x : S72) : Prop := x.f2.size ≤ 4611686018427387903 ∧ x.f4.size ≤ 4611686018427387903 ∧ x.f6.size ≤ 4611686018427387903
def okX (x : S72) : Bool := opB x.f0 x.f1 x.f2 x.f3 x.f4 x.f5 x.f6
def formsB (l : List S72) : Bool := decide ((l.length : Int) ≤ 60) && allOf (fun j => okX (rd_T72 l (j : Int))) 0 l.length
theorem wide_rd {l : List S72} (hw : ∀ x ∈ l, wideO x) {i : Nat} (hi : i < l.length) : wideO (rd_T72 l (i : Int)) := by
  have e : rd_T72 l (i : Int) = l[i] := by simp [rd_T72, List.getD_eq_getElem?_getD, List.getElem?_eq_getElem hi]
  rw [e]
  exact hw _ (List.getElem_mem hi)
theorem spec_forms (l : List S72) (hw : ∀ x ∈ l, wideO x) : Ev (fun k => spec_l3Forms.f k l) (formsB l) := by
  unfold spec_l3Forms.f formsB
  by_cases c : (l.length : Int) > 60
  · refine Ev.pos c (Ev.cast (Ev.now _) ?_)
    rw [decide_eq_false (by omega)]
    rfl
  · refine Ev.neg c ?_
    rw [decide_eq_true (by omega), Bool.true_and]
    refine Ev.cast (scan0 (fun k i => spec_l3Forms.l0 k l i) l.length (fun j => okX (rd_T72 l (j : Int))) true false ?_ ?_ ?_) (by split <;> simp_all)
    · exact Ev.step (f := fun _ => some true) (fun k => by rw [spec_l3Forms.l0, if_neg (by omega)]) (Ev.now _)
    · intro i hi hp r hr
      have hx := wide_rd hw hi
      refine Ev.step (fun k => by rw [spec_l3Forms.l0, if_pos (by omega), if_pos (by omega), w64s (b := 61) (by omega) (by omega) (by omega)]) (Ev.bind (spec_ok hx.1 hx.2.1 hx.2.2) ?_)
      exact Ev.pos hp hr
    · intro i hi hp
      have hx := wide_rd hw hi
      refine Ev.step (fun k => by rw [spec_l3Forms.l0, if_pos (by omega), if_pos (by omega)]) (Ev.bind (spec_ok hx.1 hx.2.1 hx.2.2) ?_)
      exact Ev.neg (by unfold okX at hp; rw [hp]; decide) (Ev.now _)
theorem impl_forms (l : List S72) (hl : l.length ≤ 4611686018427387903) (hw : ∀ x ∈ l, wideO x) : Ev (fun k => impl_opsOk.f k l 60) (formsB l) := by
  unfold impl_opsOk.f formsB
  refine Ev.cast (scan0 (fun k i => impl_opsOk.l0 k l 60 l (l.length : Int) i) l.length (fun j => okX (rd_T72 l (j : Int))) (decide ((l.length : Int) ≤ 60)) false ?_ ?_ ?_) ?_
  · exact Ev.step (f := fun _ => some (decide ((l.length : Int) ≤ 60))) (fun k => by rw [impl_opsOk.l0, if_neg (by omega)]) (Ev.now _)
  · intro i hi hp r hr
    have hx := wide_rd hw hi
    refine Ev.step (fun k => by rw [impl_opsOk.l0, if_pos (by omega), if_pos (by omega), if_pos (by omega), w64s (b := l.length) (by omega) (by omega) (by omega)]) (Ev.bind (impl_ok hx.1 hx.2.1 hx.2.2) ?_)
    exact Ev.pos hp hr
  · intro i hi hp
    have hx := wide_rd hw hi
    refine Ev.step (fun k => by rw [impl_opsOk.l0, if_pos (by omega), if_pos (by omega), if_pos (by omega)]) (Ev.bind (impl_ok hx.1 hx.2.1 hx.2.2) ?_)
    exact Ev.neg (by unfold okX at hp; rw [hp]; decide) (Ev.now _)
  · cases allOf (fun j => okX (rd_T72 l (j : Int))) 0 l.length <;> simp
end Go.Proofs.Ytjcpkplneflleaa.Forms
namespace Go.Proofs.Ytjcpkplneflleaa.Ids
open Go.RowKit Go.Proofs.YtjcpkplneflleaaW.PrintWords Go.Proofs.Ytjcpkplneflleaa.Base Go.Proofs.Ytjcpkplneflleaa.Q Go.Proofs.Ytjcpkplneflleaa.OpOk
theorem rd_nat (l : List Int) (i : Nat) : rd l (i : Int) = l.getD i 0 := rfl
theorem rd_get {l : List Int} {i : Nat} (h : i < l.length) : rd l (i : Int) = l[i] := by
  rw [rd_nat, List.getD_eq_getElem?_getD, List.getElem?_eq_getElem h]; rfl
theorem mem_idsU (b : List Bool) (n : Nat) (x : Int) : x ∈ idsU b n ↔ ∃ i : Nat, i < n ∧ b.getD i false = true ∧ x = i := by
  unfold idsU
  simp only [List.mem_map, List.mem_filter, List.mem_range]
  constructor
  · rintro ⟨i, ⟨h1, h2⟩, rfl⟩; exact ⟨i, h1, h2, rfl⟩
  · rintro ⟨i, h1, h2, rfl⟩; exact ⟨i, ⟨h1, h2⟩, rfl⟩
theorem asc_idsU (b : List Bool) (n : Nat) : (idsU b n).Pairwise (· < ·) := by
  induction n with
  | zero => simp [idsU]
  | succ n ih =>
    rw [idsU_succ]
    split
    · rw [List.pairwise_append]
      refine ⟨ih, by simp, ?_⟩
      intro x hx y hy
      rw [List.mem_singleton] at hy
      obtain ⟨i, hi, _, rfl⟩ := (mem_idsU b n x).1 hx
      omega
    · exact ih
theorem mem_idsU_set (b : List Bool) (hb : b.length = 32) (q : Int) (h0 : 0 ≤ q) (h1 : q < 32) (x : Int) : x ∈ idsU (b.set q.toNat true) 32 ↔ x = q ∨ x ∈ idsU b 32 := by
  rw [mem_idsU, mem_idsU]
  constructor
  · rintro ⟨i, hi, h2, rfl⟩
    by_cases he : i = q.toNat
    · left; omega
    · right
      refine ⟨i, hi, ?_, rfl⟩
      rw [List.getD_eq_getElem?_getD, List.getElem?_set_ne (by omega)] at h2
      rw [List.getD_eq_getElem?_getD]; exact h2
  · rintro (rfl | ⟨i, hi, h2, rfl⟩)
    · refine ⟨x.toNat, by omega, ?_, by omega⟩
      rw [List.getD_eq_getElem?_getD, List.getElem?_set_self (by omega)]
      rfl
    · refine ⟨i, hi, ?_, rfl⟩
      by_cases he : i = q.toNat
      · rw [he, List.getD_eq_getElem?_getD, List.getElem?_set_self (by omega)]; rfl
      · rw [List.getD_eq_getElem?_getD, List.getElem?_set_ne (by omega), ← List.getD_eq_getElem?_getD]; exact h2
/-- What a valid operation names. -/
def names (kind dir dir2 id : Int) : List Int := id :: ((if kind = 5 then [] else [dir]) ++ (if kind = 4 then [dir2] else []))
theorem op_ranges {k d d2 i : Int} {n n2 t : ByteArray} (h : opB k d n d2 n2 i t = true) : (1 ≤ i ∧ i ≤ 31) ∧ (0 ≤ d ∧ d ≤ 31) ∧ (k = 4 → 0 ≤ d2 ∧ d2 ≤ 31) ∧ (k = 1 ∨ k = 2 ∨ k = 3 ∨ k = 4 ∨ k = 5) := by
  unfold opB inB at h
  simp only [Bool.and_eq_true, decide_eq_true_eq] at h
  obtain ⟨h1, h2⟩ := h
  split at h2
  · simp only [Bool.and_eq_true, decide_eq_true_eq] at h2
    refine ⟨h1, h2.1.1.1, ?_, ?_⟩
    · intro h4; omega
    · omega
  · split at h2
    · simp only [Bool.and_eq_true, decide_eq_true_eq] at h2
      exact ⟨h1, h2.1.1.1, fun _ => h2.1.2.1, by omega⟩
    · split at h2
      · simp only [Bool.and_eq_true, decide_eq_true_eq] at h2
        have := h2.1.1.1
        exact ⟨h1, by omega, fun h4 => by omega, by omega⟩
      · cases h2
theorem nameSet_ok {k d d2 i : Int} {n n2 t : ByteArray} (h : opB k d n d2 n2 i t = true) (b : List Bool) (hb : b.length = 32) :
    ∃ b', nameSet b k d d2 i = some b' ∧ b'.length = 32 ∧ ∀ x, x ∈ idsU b' 32 ↔ x ∈ names k d d2 i ∨ x ∈ idsU b 32 := by
  obtain ⟨r1, r2, r3, r4⟩ := op_ranges h
  unfold nameSet
  rw [if_pos (by omega)]
  by_cases k5 : k = 5
  · rw [if_pos k5]
    refine ⟨_, rfl, by simpa using hb, fun x => ?_⟩
    rw [mem_idsU_set b hb i (by omega) (by omega)]
    have : ¬ k = 4 := by omega
    simp [names, k5]
  · rw [if_neg k5, if_pos (by omega)]
    by_cases k4 : k = 4
    · have := r3 k4
      rw [if_pos k4, if_pos (by omega)]
      refine ⟨_, rfl, by simpa using hb, fun x => ?_⟩
      rw [mem_idsU_set _ (by simpa using hb) d2 (by omega) (by omega), mem_idsU_set _ (by simpa using hb) d (by omega) (by omega), mem_idsU_set b hb i (by omega) (by omega)]
      simp only [names, if_neg k5, if_pos k4, List.mem_cons, List.cons_append, List.nil_append, List.not_mem_nil, or_false]
      grind
    · rw [if_neg k4]
      refine ⟨_, rfl, by simpa using hb, fun x => ?_⟩
      rw [mem_idsU_set _ (by simpa using hb) d (by omega) (by omega), mem_idsU_set b hb i (by omega) (by omega)]
      simp only [names, if_neg k5, if_neg k4, List.mem_cons, List.append_nil, List.not_mem_nil, or_false]
      grind
/-- What an operation names, ascending. -/
def idsOp (k d : Int) (n : ByteArray) (d2 : Int) (n2 : ByteArray) (i : Int) (t : ByteArray) : List Int :=
  if opB k d n d2 n2 i t = true then (if k = 5 then [i] else if k = 4 then insL d2 (insL d [i]) else insL d [i]) else []
theorem mem_idsOp {k d d2 i : Int} {n n2 t : ByteArray} (h : opB k d n d2 n2 i t = true) (x : Int) : x ∈ idsOp k d n d2 n2 i t ↔ x ∈ names k d d2 i := by
  unfold idsOp names
  rw [if_pos h]
  by_cases k5 : k = 5
  · simp [k5]
  · by_cases k4 : k = 4
    · rw [if_neg k5, if_pos k4, mem_insL, mem_insL, if_neg k5, if_pos k4]
      simp
      grind
    · rw [if_neg k5, if_neg k4, mem_insL, if_neg k5, if_neg k4]
      simp
      grind
theorem idsOp_length (k d : Int) (n : ByteArray) (d2 : Int) (n2 : ByteArray) (i : Int) (t : ByteArray) : (idsOp k d n d2 n2 i t).length ≤ 3 := by
  unfold idsOp
  split
  · split
    · simp
    · split
      · have h1 := insL_length d [i]
        have h2 := insL_length d2 (insL d [i])
        simp at h1
        omega
      · have h1 := insL_length d [i]
        simp at h1
        omega
  · simp
theorem idsU_zero : idsU (List.replicate 32 false) 32 = [] := by decide
section
variable {k d d2 i : Int} {n n2 t : ByteArray}
theorem nameF_ok (hn : n.size ≤ 4611686018427387903) (hn2 : n2.size ≤ 4611686018427387903) (ht : t.size ≤ 4611686018427387903) (b : List Bool) (hb : b.length = 32) :
    ∃ b', Ev (fun j => nameF j k d n d2 n2 i t b) b' ∧ b'.length = 32 ∧ ∀ x, x ∈ idsU b' 32 ↔ x ∈ idsOp k d n d2 n2 i t ∨ x ∈ idsU b 32 := by
  cases ho : opB k d n d2 n2 i t with
  | true =>
    obtain ⟨b', h1, h2, h3⟩ := nameSet_ok ho b hb
    refine ⟨b', ?_, h2, fun x => by rw [h3, mem_idsOp ho]⟩
    unfold nameF
    exact Ev.bind (impl_ok hn hn2 ht) (by rw [ho]; exact Ev.pos rfl (Ev.const _ h1))
  | false =>
    refine ⟨b, ?_, hb, fun x => by simp [idsOp, ho]⟩
    unfold nameF
    exact Ev.bind (impl_ok hn hn2 ht) (by rw [ho]; exact Ev.neg (by decide) (Ev.now _))
end
theorem l2Put (l : List Int) (q : Int) (hl : l.length ≤ 1000) : Ev (fun k => spec_l2Put.f k l q) (insL q l) := by
  unfold spec_l2Put.f
  have key : ∀ dd j : Nat, l.length - j = dd → j ≤ l.length → Ev (fun k => spec_l2Put.l0 k l q (j : Int)) (l.take j ++ insL q (l.drop j)) := by
    intro dd
    induction dd with
    | zero =>
      intro j hd hj
      have : j = l.length := by omega
      subst this
      refine Ev.step (f := fun _ => some (l.take l.length ++ insL q (l.drop l.length))) (fun k => ?_) (Ev.now _)
      rw [spec_l2Put.l0, if_neg (by omega), List.drop_length, List.take_length]
      simp only [Option.bind_some, Int.toNat_natCast, List.drop_length, List.take_length, List.append_nil, insL]
      rw [if_pos (by omega), if_pos (by omega), if_pos (by simp), if_pos (by omega), if_pos (by simp; omega)]
    | succ dd ih =>
      intro j hd hj
      have hlt : j < l.length := by omega
      have hr := rd_get hlt
      have hdr : l.drop j = l[j] :: l.drop (j + 1) := List.drop_eq_getElem_cons hlt
      by_cases c1 : l[j] < q
      · have h := ih (j + 1) (by omega) (by omega)
        refine Ev.cast (Ev.step (fun k => ?_) h) ?_
        · rw [spec_l2Put.l0, if_pos (by omega), if_pos (by omega), hr, if_pos c1, w64s (b := l.length) (by omega) (by omega) (by omega)]
          rfl
        · rw [hdr, insL, if_pos c1, List.take_succ_eq_append_getElem hlt]
          simp only [List.append_assoc, List.singleton_append]
      · by_cases c2 : l[j] = q
        · refine Ev.step (f := fun _ => some (l.take j ++ insL q (l.drop j))) (fun k => ?_) (Ev.now _)
          rw [spec_l2Put.l0, if_pos (by omega), if_pos (by omega), hr, if_neg c1, if_pos c2, hdr, insL, if_neg c1, if_pos c2, ← hdr, List.take_append_drop]
        · refine Ev.step (f := fun _ => some (l.take j ++ insL q (l.drop j))) (fun k => ?_) (Ev.now _)
          rw [spec_l2Put.l0, if_pos (by omega), if_pos (by omega), hr, if_neg c1, if_neg c2]
          simp only [Option.bind_some, Int.toNat_natCast, List.nil_append, List.length_nil, List.length_append, List.length_take, List.length_drop, List.length_cons]
          rw [if_pos (by omega), if_pos (by omega), if_pos (by omega), if_pos (by omega), hdr, insL, if_neg c1, if_neg c2, ← hdr]
          simp
  exact key l.length 0 rfl (Nat.zero_le _)
section
variable {k d d2 i : Int} {n n2 t : ByteArray}
theorem spec_ids (hn : n.size ≤ 4611686018427387903) (hn2 : n2.size ≤ 4611686018427387903) (ht : t.size ≤ 4611686018427387903) : Ev (fun j => spec_OpIds.f j k d n d2 n2 i t) (idsOp k d n d2 n2 i t) := by
  unfold spec_OpIds.f
  refine Ev.bind (spec_ok hn hn2 ht) ?_
  cases ho : opB k d n d2 n2 i t with
  | false =>
    refine Ev.neg (by decide) (Ev.cast (Ev.now _) ?_)
    simp [idsOp, ho]
  | true =>
    refine Ev.pos rfl (Ev.sbind ?_)
    unfold idsOp
    rw [if_pos ho]
    by_cases k5 : k = 5
    · rw [if_pos k5]
      exact Ev.pos k5 (Ev.neg (by omega) (Ev.now _))
    · rw [if_neg k5]
      have h1 := insL_length d [i]
      simp at h1
      refine Ev.neg k5 (Ev.bind (l2Put [i] d (by simp)) ?_)
      by_cases k4 : k = 4
      · rw [if_pos k4]
        exact Ev.pos k4 (Ev.bind (l2Put _ d2 (by omega)) (Ev.now _))
      · rw [if_neg k4]
        exact Ev.neg k4 (Ev.now _)
end
end Go.Proofs.Ytjcpkplneflleaa.Ids
namespace Go.Proofs.Ytjcpkplneflleaa.LogIds
open Go.RowKit Go.Proofs.YtjcpkplneflleaaW.PrintWords Go.Proofs.Ytjcpkplneflleaa.Base Go.Proofs.Ytjcpkplneflleaa.Q Go.Proofs.Ytjcpkplneflleaa.OpOk Go.Proofs.Ytjcpkplneflleaa.Ids
/-- The texts of an operation are short enough for a loop's counter. -/
def wideOp (x : S72) : Prop := x.f2.size ≤ 4611686018427387903 ∧ x.f4.size ≤ 4611686018427387903 ∧ x.f6.size ≤ 4611686018427387903
def idsX (x : S72) : List Int := idsOp x.f0 x.f1 x.f2 x.f3 x.f4 x.f5 x.f6
def foldIns (o : List Int) (l : List Int) : List Int := l.foldl (fun o q => insL q o) o
theorem mem_foldIns (x : Int) : ∀ (l o : List Int), x ∈ foldIns o l ↔ x ∈ l ∨ x ∈ o
  | [], o => by simp [foldIns]
  | q :: l, o => by
    have h := mem_foldIns x l (insL q o)
    unfold foldIns at h ⊢
    rw [List.foldl_cons, h, mem_insL, List.mem_cons]
    grind
theorem asc_foldIns : ∀ (l o : List Int), o.Pairwise (· < ·) → (foldIns o l).Pairwise (· < ·)
  | [], _, h => h
  | q :: l, o, h => asc_foldIns l (insL q o) (asc_insL q o h)
theorem foldIns_length : ∀ (l o : List Int), (foldIns o l).length ≤ o.length + l.length
  | [], o => by simp [foldIns]
  | q :: l, o => by
    have h := foldIns_length l (insL q o)
    have h2 := insL_length q o
    unfold foldIns at h ⊢
    rw [List.foldl_cons, List.length_cons]
    omega
def logFold (o : List Int) (l : List S72) : List Int := l.foldl (fun o x => foldIns o (idsX x)) o
theorem mem_logFold (q : Int) : ∀ (l : List S72) (o : List Int), q ∈ logFold o l ↔ (∃ x ∈ l, q ∈ idsX x) ∨ q ∈ o
  | [], o => by simp [logFold]
  | x :: l, o => by
    have h := mem_logFold q l (foldIns o (idsX x))
    unfold logFold at h ⊢
    rw [List.foldl_cons, h, mem_foldIns]
    simp only [List.mem_cons, exists_eq_or_imp]
    grind
theorem asc_logFold : ∀ (l : List S72) (o : List Int), o.Pairwise (· < ·) → (logFold o l).Pairwise (· < ·)
  | [], _, h => h
  | x :: l, o, h => asc_logFold l (foldIns o (idsX x)) (asc_foldIns _ _ h)
theorem rdOp {l : List S72} {i : Nat} (hi : i < l.length) : rd_T72 l (i : Int) = l[i] := by simp [rd_T72, List.getD_eq_getElem?_getD, List.getElem?_eq_getElem hi]
theorem logSet_ok : ∀ (l : List S72), (∀ x ∈ l, wideOp x) → ∀ b : List Bool, b.length = 32 →
    ∃ b', Ev (fun k => logSet k l b) b' ∧ b'.length = 32 ∧ ∀ q, q ∈ idsU b' 32 ↔ (∃ x ∈ l, q ∈ idsX x) ∨ q ∈ idsU b 32
  | [], _, b, hb => ⟨b, Ev.now _, hb, fun q => by simp⟩
  | x :: l, hw, b, hb => by
    have hx := hw x List.mem_cons_self
    obtain ⟨b1, h1, h2, h3⟩ := nameF_ok (k := x.f0) (d := x.f1) (d2 := x.f3) (i := x.f5) hx.1 hx.2.1 hx.2.2 b hb
    obtain ⟨b2, h4, h5, h6⟩ := logSet_ok l (fun y hy => hw y (List.mem_cons_of_mem _ hy)) b1 h2
    refine ⟨b2, Ev.bind h1 h4, h5, fun q => ?_⟩
    rw [h6, h3]
    simp only [List.mem_cons, exists_eq_or_imp]
    unfold idsX
    grind
theorem impl_logIds (l : List S72) (hw : ∀ x ∈ l, wideOp x) : Ev (fun k => impl_LogIds.f k l) (logFold [] (l.take 60)) := by
  obtain ⟨b, h1, h2, h3⟩ := logSet_ok (l.take 60) (fun x hx => hw x (List.mem_of_mem_take hx)) (List.replicate 32 false) (by simp)
  unfold impl_LogIds.f
  refine Ev.bind h1 (Ev.cast (Ev.now _) ?_)
  refine asc_ext _ _ (asc_idsU _ _) (asc_logFold _ _ List.Pairwise.nil) (fun q => ?_)
  rw [h3, mem_logFold, idsU_zero]
theorem spec_logIds (l : List S72) (hl : l.length ≤ 4611686018427387903) (hw : ∀ x ∈ l, wideOp x) : Ev (fun k => spec_LogIds.f k l) (logFold [] (l.take 60)) := by
  unfold spec_LogIds.f
  have inner : ∀ (r : List Int) (i : Int) (ids : List Int), ids.length ≤ 3 → ∀ d j : Nat, ids.length - j = d → j ≤ ids.length → ∀ o : List Int, o.length + d ≤ 1000 →
      Ev (fun k => spec_LogIds.l0 k l (foldIns o (ids.drop j)) (wrap64 (i + 1))) r → Ev (fun k => spec_LogIds.l1 k l o i ids (j : Int)) r := by
    intro r i ids hids d
    induction d with
    | zero =>
      intro j hd hj o ho hr
      have : j = ids.length := by omega
      subst this
      have hr : Ev (fun k => spec_LogIds.l0 k l o (wrap64 (i + 1))) r := by rw [List.drop_length] at hr; exact hr
      exact Ev.step (fun k => by rw [spec_LogIds.l1, if_neg (by omega)]) hr
    | succ d ih =>
      intro j hd hj o ho hr
      have hlt : j < ids.length := by omega
      have h1 := insL_length (rd ids (j : Int)) o
      refine Ev.step (fun k => by rw [spec_LogIds.l1, if_pos (by omega), if_pos (by omega), w64s (b := ids.length) (by omega) (by omega) (by omega)]) (Ev.bind (l2Put o _ (by omega)) ?_)
      refine ih (j + 1) (by omega) (by omega) _ (by omega) ?_
      rw [List.drop_eq_getElem_cons hlt] at hr
      rw [rd_get hlt]
      exact hr
  have key : ∀ d i : Nat, (l.take 60).length - i = d → i ≤ (l.take 60).length → ∀ o : List Int, o.length ≤ 3 * i → Ev (fun k => spec_LogIds.l0 k l o (i : Int)) (logFold o ((l.take 60).drop i)) := by
    intro d
    induction d with
    | zero =>
      intro i hd hi o ho
      have hi' : i = (l.take 60).length := by omega
      have hlen := List.length_take (i := 60) (l := l)
      have e0 : (l.take 60).drop i = [] := List.drop_eq_nil_of_le (by omega)
      rw [e0]
      show Ev (fun k => spec_LogIds.l0 k l o (i : Int)) o
      have fin : Ev (fun k => spec_LogIds.j1 k l o (i : Int) false) o := Ev.step (f := fun _ => some o) (fun k => by rw [spec_LogIds.j1, if_neg (by decide)]) (Ev.now _)
      refine Ev.step (fun k => by rw [spec_LogIds.l0]) (Ev.ite (fun h => ?_) (fun _ => fin))
      rw [decide_eq_false (by omega)]
      exact fin
    | succ d ih =>
      intro i hd hi o ho
      have hlt : i < (l.take 60).length := by omega
      have hlen := List.length_take (i := 60) (l := l)
      have hil : i < l.length := by omega
      have hx := hw _ (List.getElem_mem hil)
      have e60 : (l.take 60)[i] = l[i] := List.getElem_take
      rw [List.drop_eq_getElem_cons hlt, e60]
      have hids : idsX l[i] = idsOp l[i].f0 l[i].f1 l[i].f2 l[i].f3 l[i].f4 l[i].f5 l[i].f6 := rfl
      have h3 : (idsX l[i]).length ≤ 3 := idsOp_length _ _ _ _ _ _ _
      have hf := foldIns_length (idsX l[i]) o
      refine Ev.step (fun k => by rw [spec_LogIds.l0, if_pos (by omega), decide_eq_true (by omega)]) ?_
      refine Ev.step (fun k => by rw [spec_LogIds.j1, if_pos rfl, if_pos (by omega), if_pos (by omega), rdOp hil]) ?_
      refine Ev.bind (spec_ids hx.1 hx.2.1 hx.2.2) ?_
      refine inner _ _ _ h3 (idsX l[i]).length 0 (by omega) (Nat.zero_le _) o (by omega) ?_
      rw [List.drop_zero, w64s (b := l.length) (by omega) (by omega) (by omega)]
      exact ih (i + 1) (by omega) (by omega) _ (by omega)
  exact key _ 0 rfl (Nat.zero_le _) [] (by simp)
theorem logFold_length (l : List S72) : (logFold [] (l.take 60)).length ≤ 180 := by
  have : ∀ (l : List S72) (o : List Int), (logFold o l).length ≤ o.length + 3 * l.length := by
    intro l
    induction l with
    | nil => intro o; simp [logFold]
    | cons x l ih =>
      intro o
      have h := ih (foldIns o (idsX x))
      have h2 := foldIns_length (idsX x) o
      have h3 : (idsX x).length ≤ 3 := idsOp_length _ _ _ _ _ _ _
      unfold logFold at h ⊢
      rw [List.foldl_cons, List.length_cons]
      omega
  have h := this (l.take 60) []
  have h2 := List.length_take (i := 60) (l := l)
  simp at h
  omega
end Go.Proofs.Ytjcpkplneflleaa.LogIds
namespace Go.Proofs.Ytjcpkplneflleaa.Pure
open Go.RowKit Go.Proofs.YtjcpkplneflleaaW.PrintWords Go.Proofs.Ytjcpkplneflleaa.Base Go.Proofs.Ytjcpkplneflleaa.Q Go.Proofs.Ytjcpkplneflleaa.Ops Go.Proofs.Ytjcpkplneflleaa.Ids Go.Proofs.Ytjcpkplneflleaa.LogIds Go.Proofs.Ytjcpkplneflleaa.Forms
def cvB (x : S152) : S115 := ⟨x.f0, x.f1⟩
theorem toBaseS (l : List S152) (hl : l.length ≤ 1048576) : Ev (fun k => laws_toBaseS.f k l) (l.map cvB) := by
  unfold laws_toBaseS.f
  refine Ev.pos (by omega) (Ev.pos (by omega) ?_)
  refine Ev.cast (fill0 (fun k out i => laws_toBaseS.l0 k l out i) l.length (fun j => cvB (l.getD j z152)) _ (by simp) ?_ ?_) (map_range_get l _ _)
  · intro out _
    exact Ev.step (fun k => by rw [laws_toBaseS.l0, if_neg (by omega)]) (Ev.now _)
  · intro i out hi ho r hr
    refine Ev.step (fun k => ?_) hr
    rw [laws_toBaseS.l0, if_pos (by omega), if_pos (by omega), w64s (b := l.length) (by omega) (by omega) (by omega)]
    unfold laws_toBase.f
    simp only [Option.bind_some]
    rw [if_pos (by omega)]
    rfl
theorem eqBaseS (a : List S115) (hl : a.length ≤ 4611686018427387903) : Ev (fun k => laws_eqBaseS.f k a a) true := by
  unfold laws_eqBaseS.f
  refine Ev.pos rfl (Ev.cast (scan0 (fun k i => laws_eqBaseS.l0 k a a i) a.length (fun _ => true) true false ?_ ?_ ?_) (by split <;> simp_all [allOf]))
  · exact Ev.step (f := fun _ => some true) (fun k => by rw [laws_eqBaseS.l0, if_neg (by omega)]) (Ev.now _)
  · intro i hi _ r hr
    refine Ev.step (fun k => ?_) hr
    rw [laws_eqBaseS.l0, if_pos (by omega), if_pos (by omega), if_pos (by omega), w64s (b := a.length) (by omega) (by omega) (by omega)]
    unfold laws_eqBase.f
    rw [if_pos rfl, if_pos rfl]
    rfl
  · intro i _ h; cases h
def baseB (l : List Int) (b : List S115) (j : Nat) : Bool := decide ((rd_T115 b (j : Int)).f0 = rd l (j : Int)) && (decide ((rd_T115 b (j : Int)).f1 ≥ 0) && decide ((rd_T115 b (j : Int)).f1 ≤ 1000000))
def logOkB (c o : Int) (b : List S115) (l : List S72) : Bool :=
  (decide (0 ≤ c ∧ c ≤ 2) && decide (1 ≤ o ∧ o ≤ 1000) && formsB l) && (decide (((logFold [] (l.take 60)).length : Int) = (b.length : Int)) && allOf (baseB (logFold [] (l.take 60)) b) 0 b.length)
theorem spec_logOk (c o : Int) (b : List S115) (l : List S72) (hl : l.length ≤ 4611686018427387903) (hw : ∀ x ∈ l, wideO x) : Ev (fun k => spec_LogOk.f k c o b l) (logOkB c o b l) := by
  have hlen := logFold_length l
  have bad : Ev (fun k => spec_LogOk.j0 k true c o b l) false := Ev.step (f := fun _ => some false) (fun k => by rw [spec_LogOk.j0, if_pos rfl]) (Ev.now _)
  have good : Ev (fun k => spec_LogOk.j0 k false c o b l) (decide (((logFold [] (l.take 60)).length : Int) = (b.length : Int)) && allOf (baseB (logFold [] (l.take 60)) b) 0 b.length) := by
    refine Ev.step (fun k => by rw [spec_LogOk.j0, if_neg (by decide)]) (Ev.bind (spec_logIds l hl hw) ?_)
    generalize hg : logFold [] (l.take 60) = g at hlen
    by_cases e : (g.length : Int) = (b.length : Int)
    · refine Ev.pos e ?_
      rw [decide_eq_true e, Bool.true_and]
      refine Ev.cast (scan0 (fun k i => spec_LogOk.l0 k g i c o b l) b.length (baseB g b) true false ?_ ?_ ?_) (by split <;> simp_all)
      · exact Ev.step (f := fun _ => some true) (fun k => by rw [spec_LogOk.l0, if_neg (by omega)]) (Ev.now _)
      · intro i hi hp r hr
        simp only [baseB, Bool.and_eq_true, decide_eq_true_eq] at hp
        refine Ev.step (fun k => ?_) hr
        rw [spec_LogOk.l0, if_pos (by omega), if_pos (by omega), if_pos (by omega), if_pos hp.1, if_neg (by omega), if_neg (by omega), w64s (b := b.length) (by omega) (by omega) (by omega)]
      · intro i hi hp
        refine Ev.step (f := fun _ => some false) (fun k => ?_) (Ev.now _)
        rw [spec_LogOk.l0, if_pos (by omega), if_pos (by omega), if_pos (by omega)]
        by_cases c1 : (rd_T115 b (i : Int)).f0 = rd g (i : Int)
        · rw [if_pos c1]
          by_cases c2 : (rd_T115 b (i : Int)).f1 < 0
          · rw [if_pos c2]
          · rw [if_neg c2]
            by_cases c3 : (rd_T115 b (i : Int)).f1 > 1000000
            · rw [if_pos c3]
            · exfalso
              rw [baseB, decide_eq_true c1, decide_eq_true (by omega), decide_eq_true (by omega)] at hp
              cases hp
        · rw [if_neg c1]
    · refine Ev.neg e (Ev.cast (Ev.now _) ?_)
      rw [decide_eq_false e]
      rfl
  unfold spec_LogOk.f logOkB
  by_cases c1 : c < 0
  · refine Ev.pos c1 (Ev.cast bad ?_)
    rw [decide_eq_false (p := 0 ≤ c ∧ c ≤ 2) (by omega)]
    rfl
  refine Ev.neg c1 ?_
  by_cases c2 : c ≥ 3
  · refine Ev.pos c2 (Ev.cast bad ?_)
    rw [decide_eq_false (p := 0 ≤ c ∧ c ≤ 2) (by omega)]
    rfl
  refine Ev.neg c2 ?_
  rw [decide_eq_true (p := 0 ≤ c ∧ c ≤ 2) (by omega), Bool.true_and]
  by_cases c3 : o < 1
  · refine Ev.pos c3 (Ev.cast bad ?_)
    rw [decide_eq_false (p := 1 ≤ o ∧ o ≤ 1000) (by omega)]
    rfl
  refine Ev.neg c3 ?_
  by_cases c4 : o > 1000
  · refine Ev.pos c4 (Ev.cast bad ?_)
    rw [decide_eq_false (p := 1 ≤ o ∧ o ≤ 1000) (by omega)]
    rfl
  refine Ev.neg c4 ?_
  rw [decide_eq_true (p := 1 ≤ o ∧ o ≤ 1000) (by omega), Bool.true_and]
  refine Ev.bind (spec_forms l hw) ?_
  cases formsB l with
  | true => rw [Bool.true_and]; exact good
  | false => exact bad
theorem impl_logOk (c o : Int) (b : List S115) (l : List S72) (hl : l.length ≤ 4611686018427387903) (hw : ∀ x ∈ l, wideO x) : Ev (fun k => impl_LogOk.f k c o b l) (logOkB c o b l) := by
  have hlen := logFold_length l
  have bad : Ev (fun k => impl_LogOk.j0 k true c o b l) false := Ev.step (f := fun _ => some false) (fun k => by rw [impl_LogOk.j0, if_pos rfl]) (Ev.now _)
  have good : Ev (fun k => impl_LogOk.j0 k false c o b l) (decide (((logFold [] (l.take 60)).length : Int) = (b.length : Int)) && allOf (baseB (logFold [] (l.take 60)) b) 0 b.length) := by
    refine Ev.step (fun k => by rw [impl_LogOk.j0, if_neg (by decide)]) (Ev.bind (impl_logIds l hw) ?_)
    generalize hg : logFold [] (l.take 60) = g at hlen
    by_cases e : (g.length : Int) = (b.length : Int)
    · refine Ev.pos e ?_
      rw [decide_eq_true e, Bool.true_and]
      refine Ev.cast (scan0 (fun k i => impl_LogOk.l0 k g b (b.length : Int) i) b.length (baseB g b) true false ?_ ?_ ?_) (by split <;> simp_all)
      · exact Ev.step (f := fun _ => some true) (fun k => by rw [impl_LogOk.l0, if_neg (by omega)]) (Ev.now _)
      · intro i hi hp r hr
        simp only [baseB, Bool.and_eq_true, decide_eq_true_eq] at hp
        refine Ev.step (fun k => ?_) hr
        rw [impl_LogOk.l0, if_pos (by omega), if_pos (by omega), if_pos (by omega), if_pos (by omega), if_pos hp.1, w64s (b := b.length) (by omega) (by omega) (by omega)]
        unfold impl_in.f
        rw [if_pos (by omega), Option.bind_some, if_pos (decide_eq_true hp.2.2)]
      · intro i hi hp
        refine Ev.step (f := fun _ => some false) (fun k => ?_) (Ev.now _)
        rw [impl_LogOk.l0, if_pos (by omega), if_pos (by omega), if_pos (by omega), if_pos (by omega)]
        by_cases c1 : (rd_T115 b (i : Int)).f0 = rd g (i : Int)
        · rw [if_pos c1]
          unfold impl_in.f
          by_cases c2 : (rd_T115 b (i : Int)).f1 ≥ 0
          · rw [if_pos c2, Option.bind_some]
            rw [baseB, decide_eq_true c1, decide_eq_true c2, Bool.true_and, Bool.true_and] at hp
            rw [hp, if_neg (by decide)]
          · rw [if_neg c2, Option.bind_some, if_neg (by decide)]
        · rw [if_neg c1]
    · refine Ev.neg e (Ev.cast (Ev.now _) ?_)
      rw [decide_eq_false e]
      rfl
  unfold impl_LogOk.f logOkB impl_isClient.f impl_in.f
  by_cases c1 : c ≥ 0
  · by_cases c2 : c ≤ 2
    · rw [if_pos c1, decide_eq_true c2, decide_eq_true (p := 0 ≤ c ∧ c ≤ 2) ⟨c1, c2⟩, Bool.true_and]
      simp only [Option.bind_some]
      refine Ev.pos (by simp) ?_
      by_cases c3 : o ≥ 1
      · by_cases c4 : o ≤ 1000
        · rw [if_pos c3, decide_eq_true c4, decide_eq_true (p := 1 ≤ o ∧ o ≤ 1000) ⟨c3, c4⟩, Bool.true_and]
          simp only [Option.bind_some]
          refine Ev.pos (by simp) (Ev.bind (impl_forms l hl hw) ?_)
          cases formsB l with
          | true => rw [Bool.true_and]; exact good
          | false => exact bad
        · rw [if_pos c3, decide_eq_false c4, decide_eq_false (p := 1 ≤ o ∧ o ≤ 1000) (by omega)]
          simp only [Option.bind_some]
          exact Ev.neg (by decide) bad
      · rw [if_neg c3, decide_eq_false (p := 1 ≤ o ∧ o ≤ 1000) (by omega)]
        simp only [Option.bind_some]
        exact Ev.neg (by decide) bad
    · rw [if_pos c1, decide_eq_false c2, decide_eq_false (p := 0 ≤ c ∧ c ≤ 2) (by omega)]
      simp only [Option.bind_some]
      exact Ev.neg (by decide) bad
  · rw [if_neg c1, decide_eq_false (p := 0 ≤ c ∧ c ≤ 2) (by omega)]
    simp only [Option.bind_some]
    exact Ev.neg (by decide) bad
theorem FnExactLogOk (a0_0 : Int) (a0_1 : Int) (l0_2 : List S152) (l0_3 : List S90) (hg0 : (Lit.int .i64 a0_0).wf = true ∧ (Lit.int .i64 a0_1).wf = true ∧ (l0_2.length ≤ 9223372036854775807 ∧ ∀ y0 ∈ l0_2, (Lit.int .i64 y0.f0).wf = true ∧ (Lit.int .i64 y0.f1).wf = true) ∧ (l0_3.length ≤ 9223372036854775807 ∧ ∀ y0 ∈ l0_3, (Lit.int .i64 y0.f0).wf = true ∧ (Lit.int .i64 y0.f1).wf = true ∧ y0.f2.size ≤ 9223372036854775807 ∧ (Lit.int .i64 y0.f3).wf = true ∧ y0.f4.size ≤ 9223372036854775807 ∧ (Lit.int .i64 y0.f5).wf = true ∧ y0.f6.size ≤ 9223372036854775807)) :
    ∃ k, laws_FnExactLogOk.f k a0_0 a0_1 l0_2 l0_3 = some true := by
  refine Ev.rounds (?_ : Ev (fun k => laws_FnExactLogOk.f k a0_0 a0_1 l0_2 l0_3) true)
  obtain ⟨_, _, hb, ho⟩ := hg0
  unfold laws_FnExactLogOk.f laws_szLog.f laws_szBaseS.f
  rw [size_step (a := 1048576) (by omega) (by omega) hb.1]
  by_cases c : (1048576 : Int) - (l0_2.length : Int) < 0
  · rw [if_pos c]
    exact Ev.bind (Ev.sbind (Ev.pos (by omega) (Ev.now (-1)))) (Ev.pos (by omega) (Ev.now _))
  rw [if_neg c]
  obtain ⟨r0, h0, p0⟩ := szOpS l0_3 ho.1 (fun y hy => let ⟨_, _, h2, _, h4, _, h6⟩ := ho.2 y hy; ⟨h2, h4, h6⟩) (1048576 - (l0_2.length : Int)) (by omega) (by omega)
  by_cases c0 : r0 < 0
  · exact Ev.bind (Ev.sbind (Ev.neg c (Ev.bind h0 (Ev.pos c0 (Ev.now (-1)))))) (Ev.pos (by omega) (Ev.now _))
  refine Ev.bind (Ev.sbind (Ev.neg c (Ev.bind h0 (Ev.neg c0 (Ev.now r0))))) (Ev.neg c0 ?_)
  obtain ⟨_, z0, zs⟩ := p0 (by omega)
  have L0 : (l0_3.map cvOp).length ≤ 1048576 := by rw [List.length_map]; omega
  have L1 : (l0_2.map cvB).length ≤ 1048576 := by rw [List.length_map]; omega
  have hw : ∀ x ∈ l0_3.map cvOp, wideO x := by
    intro x hx
    obtain ⟨y, hy, rfl⟩ := List.mem_map.1 hx
    obtain ⟨a, b, c⟩ := zs y hy
    exact ⟨by show y.f2.size ≤ _; omega, by show y.f4.size ≤ _; omega, by show y.f6.size ≤ _; omega⟩
  have t0 : Ev (fun k => laws_toLog.f k a0_0 a0_1 l0_2 l0_3) (a0_0, a0_1, l0_2.map cvB, l0_3.map cvOp) := by
    unfold laws_toLog.f
    exact Ev.bind (toBaseS l0_2 (by omega)) (Ev.bind (toOpS l0_3 z0) (Ev.now _))
  refine Ev.bind t0 (Ev.bind (spec_logOk a0_0 a0_1 (l0_2.map cvB) (l0_3.map cvOp) (by omega) hw) (Ev.bind t0 (Ev.bind (impl_logOk a0_0 a0_1 (l0_2.map cvB) (l0_3.map cvOp) (by omega) hw) (Ev.neg (by simp) (Ev.bind t0 (Ev.bind (a := true) ?_ (Ev.pos rfl (Ev.now _))))))))
  unfold laws_eqLog.f
  exact Ev.pos rfl (Ev.pos rfl (Ev.bind (eqBaseS (l0_2.map cvB) (by omega)) (Ev.pos rfl (Ev.bind (eqOpS (l0_3.map cvOp) (l0_3.map cvOp) (by omega)) (Ev.pos (tr_t rfl) (Ev.now _))))))
end Go.Proofs.Ytjcpkplneflleaa.Pure
