/- Part 4 of what the proof of FnExactTreePath uses: plain functions with the answers of the Go functions, the proofs that the calls come to them, and plain lemmas. -/
import Derived.Deep.Slices
import Derived.Deep.Fields
import Derived.ChangeSame
import Derived.OpenShut
import Derived.ShutString
import Derived.SizedLaws
import Derived.Carry
import Derived.Lib.Strings
import Derived.Test.YtlaichooanflaaaVFnExactTreePath0
import Derived.Test.YtlaichooanflaaaVFnExactTreePath1
import Derived.Test.YtlaichooanflaaaVFnExactTreePath2
import Derived.Test.YtlaichooanflaaaVFnExactTreePath3
namespace Go.Proofs.Ytlaichooanflaaa.Q
open Go.RowKit Go.Proofs.YtlaichooanflaaaW.PrintWords Go.Proofs.YtlaichooanflaaaW.PrintLast Go.Proofs.YtlaichooanflaaaW.PrintMore
attribute [local go_sem] Go.Proofs.Ytlaichooanflaaa.Mem.str_leq Go.Proofs.Ytlaichooanflaaa.Mem.str_gtr Go.Proofs.Ytlaichooanflaaa.Mem.str_geq max2_int min2_int max_two min_two max_three min_three max_four min_four   -- for this text's walks alone
set_option linter.unusedVariables false
set_option linter.unusedSimpArgs false
def impl_TreePath.f (k : Nat) (l0_0 : List (S69)) (a1 : Int) : Option (ByteArray) := (impl_TreeOk.f k l0_0).bind fun t874 => (if t874 = true then ((impl_path.f k l0_0 a1).bind fun t875 => (some t875)) else (some (⟨#[]⟩ : ByteArray)))
set_option maxHeartbeats 8000000 in
set_option maxRecDepth 100000 in
theorem impl_TreePath.calls (k : Nat) (A0_0 : Option Addr) (c0_0 : Nat) (l0_0 : List (S69)) (a1 : Int) (r : ByteArray) (w : World) (hr0_0 : Kd.C k69 w A0_0 l0_0.length l0_0) (hc0_0 : l0_0.length ≤ c0_0) (h : impl_TreePath.f k l0_0 a1 = some r) :
    Calls Try.prog 60 #[.agg #[.slice A0_0 l0_0.length c0_0], .int .i64 a1] w fun e w' => e = .returned (.string r) ∧ Below w.heap.size w w' := by
  have hu30 := Try.underlying30
  have HR0_0 := Aside0.mk hr0_0
  have HC0_0 := Aside0.mk hc0_0
  clear hr0_0 hc0_0
  have HB := Aside0.mk (Below.refl w.heap.size w)
  have H : ((impl_TreeOk.f k l0_0).bind fun t874 => (if t874 = true then ((impl_path.f k l0_0 a1).bind fun t875 => (some t875)) else (some (⟨#[]⟩ : ByteArray)))) = some r := h
  clear h
  replace H := Option.bind_eq_some_iff.mp H
  obtain ⟨t874, A30, H⟩ := H
  replace H : (if t874 = true then ((impl_path.f k l0_0 a1).bind fun t875 => (some t875)) else (some (⟨#[]⟩ : ByteArray))) = some r := H
  have A3 := Aside0.mk A30
  clear A30
  by_cases c4 : t874 = true
  · subst c4
    have H1 : ((impl_path.f k l0_0 a1).bind fun t875 => (some t875)) = some r := by rw [if_pos rfl] at H; exact H
    clear H
    have H := H1
    clear H1
    replace H := Option.bind_eq_some_iff.mp H
    obtain ⟨t875, A50, H⟩ := H
    replace H : (some t875) = some r := H
    have A5 := Aside0.mk A50
    clear A50
    obtain rfl := Option.some.inj H
    go_enter Try.func60, Try.ntmps60
    go_wp2_with (first | ((with_reducible refine gate_dst (N := 2) rfl ?_); refine box_event ?hg (N := 2) ?hd (cs := #[.slice A0_0 l0_0.length c0_0]) (t := 30) ?hr ?_; (case hd => rfl); (case hg => rfl); (case hr => first | (go_simp; done) | (go_simp; rfl)); intro gb873 hg w6 hbox hb; have n0_ := Aside0.mk (below_step (by repeat (first | (with_reducible first | exact HB.out | apply below_alloc | apply pw_below_drewN | apply below_drew1) | exact HB.out)) hb); have n1_ := Aside0.mk (hbox); have n2_ := Aside0.mk ((by rw [hg]; exact (below_size (by repeat (first | (with_reducible first | exact HB.out | apply below_alloc | apply pw_below_drewN | apply below_drew1) | exact HB.out))) : w.heap.size ≤ gb873)); have n3_ := Aside0.mk ((by rw [hg]; exact (below_size (by repeat (first | (with_reducible first | exact HB.out | apply below_alloc | apply pw_below_drewN | apply below_drew1) | exact HB.out))) : w.heap.size ≤ gb873)); clear HB; have HB := n0_; have BK873 := n1_; have GW873 := n2_; have GE873 := n3_; clear n0_ n1_ n2_ n3_; clear hb hbox hg; have hcz7_0 : w6.cell? ⟨gb873, 0, none⟩ = some (.slice A0_0 l0_0.length c0_0) := (blk_cell BK873.out 0).trans rfl; have hfz7_0 := blk_frozen BK873.out 0) | ((with_reducible refine gate_callee (f := 47) rfl ?_); refine goesL_ (some 6) rfl rfl Try.func47 (by kernel_rfl) rfl #[.agg #[.slice A0_0 l0_0.length c0_0]] rfl (by (try simp only [List.map_toArray, List.map_cons, List.map_nil]); first | done | rfl | (simp only [List.length_drop, List.length_take]; rfl)) ?_; (with_reducible refine (impl_TreeOk.calls k _ _ l0_0 true _ ?side1 ?side2 A3.out).mono ?_); (case side1 => repeat (first | exact (Kd.C_below HR0_0.out HB.out) | (with_reducible refine Kd.C_alloc ?_ _) | (with_reducible refine Kd.C_drewN ?_ _) | (with_reducible refine Kd.C_drew ?_))); (case side2 => exact HC0_0.out); rintro e w8 ⟨rfl, hb⟩; refine ⟨_, rfl, ?_⟩; have n0_ := Aside0.mk (blk_below (g := gb873) (o := .cells #[.slice A0_0 l0_0.length c0_0] 30 (0, 0)) (by (with_reducible repeat (first | refine blk_drewN ?_ _ | refine blk_drew ?_ | refine blk_alloc ?_ _)); exact BK873.out) hb); have n1_ := Aside0.mk (below_step (by repeat (first | (with_reducible first | exact HB.out | apply below_alloc | apply pw_below_drewN | apply below_drew1 | refine below_set ?_ GE873.out) | exact HB.out)) hb); clear BK873; clear HB; have BK873 := n0_; have HB := n1_; clear n0_ n1_; (try clear hb); (try clear hb2); (try clear hk); (try clear hi); have hcz9_0 : w8.cell? ⟨gb873, 0, none⟩ = some (.slice A0_0 l0_0.length c0_0) := (blk_cell BK873.out 0).trans rfl; have hfz9_0 := blk_frozen BK873.out 0) | ((with_reducible refine gate_callee (f := 120) rfl ?_); refine goesL_ (some 10) rfl rfl Try.func120 (by kernel_rfl) rfl #[.agg #[.slice A0_0 l0_0.length c0_0], .int .i64 a1] rfl (by (try simp only [List.map_toArray, List.map_cons, List.map_nil]); first | done | rfl | (simp only [List.length_drop, List.length_take]; rfl)) ?_; (with_reducible refine (impl_path.calls k _ _ l0_0 a1 t875 _ ?side1 ?side2 A5.out).mono ?_); (case side1 => repeat (first | exact (Kd.C_below HR0_0.out HB.out) | (with_reducible refine Kd.C_alloc ?_ _) | (with_reducible refine Kd.C_drewN ?_ _) | (with_reducible refine Kd.C_drew ?_))); (case side2 => exact HC0_0.out); rintro e w10 ⟨rfl, hb⟩; refine ⟨_, rfl, ?_⟩; have n0_ := Aside0.mk (blk_below (g := gb873) (o := .cells #[.slice A0_0 l0_0.length c0_0] 30 (0, 0)) (by (with_reducible repeat (first | refine blk_drewN ?_ _ | refine blk_drew ?_ | refine blk_alloc ?_ _)); exact BK873.out) hb); have n1_ := Aside0.mk (below_step (by repeat (first | (with_reducible first | exact HB.out | apply below_alloc | apply pw_below_drewN | apply below_drew1 | refine below_set ?_ GE873.out) | exact HB.out)) hb); clear BK873; clear HB; have BK873 := n0_; have HB := n1_; clear n0_ n1_; (try clear hb); (try clear hb2); (try clear hk); (try clear hi)))
    go_ret
    exact ⟨by first | rfl | (simp [errW_none, errW_some] <;> rfl) | (simp [*, errW_none, errW_some] <;> rfl), by repeat (first | (with_reducible first | exact HB.out | apply below_alloc | apply pw_below_drewN | apply below_drew1 | refine below_set ?_ GE873.out) | exact HB.out)⟩
  · replace c4 := Bool.eq_false_iff.mpr c4
    subst c4
    have H1 : (some (⟨#[]⟩ : ByteArray)) = some r := by rw [if_neg (show ¬ (false = true) by decide)] at H; exact H
    clear H
    have H := H1
    clear H1
    obtain rfl := Option.some.inj H
    go_enter Try.func60, Try.ntmps60
    go_wp2_with (first | ((with_reducible refine gate_dst (N := 2) rfl ?_); refine box_event ?hg (N := 2) ?hd (cs := #[.slice A0_0 l0_0.length c0_0]) (t := 30) ?hr ?_; (case hd => rfl); (case hg => rfl); (case hr => first | (go_simp; done) | (go_simp; rfl)); intro gb873 hg w11 hbox hb; have n0_ := Aside0.mk (below_step (by repeat (first | (with_reducible first | exact HB.out | apply below_alloc | apply pw_below_drewN | apply below_drew1) | exact HB.out)) hb); have n1_ := Aside0.mk (hbox); have n2_ := Aside0.mk ((by rw [hg]; exact (below_size (by repeat (first | (with_reducible first | exact HB.out | apply below_alloc | apply pw_below_drewN | apply below_drew1) | exact HB.out))) : w.heap.size ≤ gb873)); have n3_ := Aside0.mk ((by rw [hg]; exact (below_size (by repeat (first | (with_reducible first | exact HB.out | apply below_alloc | apply pw_below_drewN | apply below_drew1) | exact HB.out))) : w.heap.size ≤ gb873)); clear HB; have HB := n0_; have BK873 := n1_; have GW873 := n2_; have GE873 := n3_; clear n0_ n1_ n2_ n3_; clear hb hbox hg; have hcz12_0 : w11.cell? ⟨gb873, 0, none⟩ = some (.slice A0_0 l0_0.length c0_0) := (blk_cell BK873.out 0).trans rfl; have hfz12_0 := blk_frozen BK873.out 0) | ((with_reducible refine gate_callee (f := 47) rfl ?_); refine goesL_ (some 6) rfl rfl Try.func47 (by kernel_rfl) rfl #[.agg #[.slice A0_0 l0_0.length c0_0]] rfl (by (try simp only [List.map_toArray, List.map_cons, List.map_nil]); first | done | rfl | (simp only [List.length_drop, List.length_take]; rfl)) ?_; (with_reducible refine (impl_TreeOk.calls k _ _ l0_0 false _ ?side1 ?side2 A3.out).mono ?_); (case side1 => repeat (first | exact (Kd.C_below HR0_0.out HB.out) | (with_reducible refine Kd.C_alloc ?_ _) | (with_reducible refine Kd.C_drewN ?_ _) | (with_reducible refine Kd.C_drew ?_))); (case side2 => exact HC0_0.out); rintro e w13 ⟨rfl, hb⟩; refine ⟨_, rfl, ?_⟩; have n0_ := Aside0.mk (blk_below (g := gb873) (o := .cells #[.slice A0_0 l0_0.length c0_0] 30 (0, 0)) (by (with_reducible repeat (first | refine blk_drewN ?_ _ | refine blk_drew ?_ | refine blk_alloc ?_ _)); exact BK873.out) hb); have n1_ := Aside0.mk (below_step (by repeat (first | (with_reducible first | exact HB.out | apply below_alloc | apply pw_below_drewN | apply below_drew1 | refine below_set ?_ GE873.out) | exact HB.out)) hb); clear BK873; clear HB; have BK873 := n0_; have HB := n1_; clear n0_ n1_; (try clear hb); (try clear hb2); (try clear hk); (try clear hi)))
    go_ret
    exact ⟨by first | rfl | (simp [errW_none, errW_some] <;> rfl) | (simp [*, errW_none, errW_some] <;> rfl), by repeat (first | (with_reducible first | exact HB.out | apply below_alloc | apply pw_below_drewN | apply below_drew1 | refine below_set ?_ GE873.out) | exact HB.out)⟩
end Go.Proofs.Ytlaichooanflaaa.Q
namespace Go.Proofs.Ytlaichooanflaaa.Q
open Go.RowKit Go.Proofs.YtlaichooanflaaaW.PrintWords Go.Proofs.YtlaichooanflaaaW.PrintLast Go.Proofs.YtlaichooanflaaaW.PrintMore
attribute [local go_sem] Go.Proofs.Ytlaichooanflaaa.Mem.str_leq Go.Proofs.Ytlaichooanflaaa.Mem.str_gtr Go.Proofs.Ytlaichooanflaaa.Mem.str_geq max2_int min2_int max_two min_two max_three min_three max_four min_four   -- for this text's walks alone
set_option linter.unusedVariables false
set_option linter.unusedSimpArgs false
def laws_FnExactTreePath.f (k : Nat) (l0_0 : List (S138)) (a1 : Int) : Option (Bool) := (laws_szTree.f k l0_0 1048576).bind fun t877 => (if t877 < 0 then (some true) else ((laws_toTree.f k l0_0).bind fun t878 => ((spec_TreePath.f k t878 a1).bind fun t881 => ((laws_toTree.f k l0_0).bind fun t882 => ((impl_TreePath.f k t882 a1).bind fun t886 => (if t886.toList = t881.toList then ((laws_toTree.f k l0_0).bind fun t887 => ((laws_eqTree.f k t882 t887).bind fun t890 => (if t890 = true then (some true) else (some false)))) else (some false)))))))
set_option maxHeartbeats 8000000 in
set_option maxRecDepth 100000 in
theorem laws_FnExactTreePath.calls (k : Nat) (A0_0 : Option Addr) (c0_0 : Nat) (l0_0 : List (S138)) (a1 : Int) (r : Bool) (w : World) (hr0_0 : Kd.C k138 w A0_0 l0_0.length l0_0) (hc0_0 : l0_0.length ≤ c0_0) (h : laws_FnExactTreePath.f k l0_0 a1 = some r) :
    Calls Try.prog 12 #[.agg #[.slice A0_0 l0_0.length c0_0], .int .i64 a1] w fun e w' => e = .returned (.bool r) ∧ Below w.heap.size w w' := by
  have hu24 := Try.underlying24
  have hu30 := Try.underlying30
  have HR0_0 := Aside0.mk hr0_0
  have HC0_0 := Aside0.mk hc0_0
  clear hr0_0 hc0_0
  have HB := Aside0.mk (Below.refl w.heap.size w)
  have H : ((laws_szTree.f k l0_0 1048576).bind fun t877 => (if t877 < 0 then (some true) else ((laws_toTree.f k l0_0).bind fun t878 => ((spec_TreePath.f k t878 a1).bind fun t881 => ((laws_toTree.f k l0_0).bind fun t882 => ((impl_TreePath.f k t882 a1).bind fun t886 => (if t886.toList = t881.toList then ((laws_toTree.f k l0_0).bind fun t887 => ((laws_eqTree.f k t882 t887).bind fun t890 => (if t890 = true then (some true) else (some false)))) else (some false)))))))) = some r := h
  clear h
  replace H := Option.bind_eq_some_iff.mp H
  obtain ⟨t877, A30, H⟩ := H
  replace H : (if t877 < 0 then (some true) else ((laws_toTree.f k l0_0).bind fun t878 => ((spec_TreePath.f k t878 a1).bind fun t881 => ((laws_toTree.f k l0_0).bind fun t882 => ((impl_TreePath.f k t882 a1).bind fun t886 => (if t886.toList = t881.toList then ((laws_toTree.f k l0_0).bind fun t887 => ((laws_eqTree.f k t882 t887).bind fun t890 => (if t890 = true then (some true) else (some false)))) else (some false))))))) = some r := H
  have A3 := Aside0.mk A30
  clear A30
  by_cases c4 : t877 < 0
  · rw [if_pos c4] at H
    have c4b0 : decide (t877 < 0) = true := decide_eq_true c4
    clear c4
    obtain rfl := Option.some.inj H
    go_enter Try.func12, Try.ntmps12
    go_wp2_with (first | ((with_reducible refine gate_dst (N := 2) rfl ?_); refine box_event ?hg (N := 2) ?hd (cs := #[.slice A0_0 l0_0.length c0_0]) (t := 24) ?hr ?_; (case hd => rfl); (case hg => rfl); (case hr => first | (go_simp; done) | (go_simp; rfl)); intro gb876 hg w5 hbox hb; have n0_ := Aside0.mk (below_step (by repeat (first | (with_reducible first | exact HB.out | apply below_alloc | apply pw_below_drewN | apply below_drew1) | exact HB.out)) hb); have n1_ := Aside0.mk (hbox); have n2_ := Aside0.mk ((by rw [hg]; exact (below_size (by repeat (first | (with_reducible first | exact HB.out | apply below_alloc | apply pw_below_drewN | apply below_drew1) | exact HB.out))) : w.heap.size ≤ gb876)); have n3_ := Aside0.mk ((by rw [hg]; exact (below_size (by repeat (first | (with_reducible first | exact HB.out | apply below_alloc | apply pw_below_drewN | apply below_drew1) | exact HB.out))) : w.heap.size ≤ gb876)); clear HB; have HB := n0_; have BK876 := n1_; have GW876 := n2_; have GE876 := n3_; clear n0_ n1_ n2_ n3_; clear hb hbox hg; have hcz6_0 : w5.cell? ⟨gb876, 0, none⟩ = some (.slice A0_0 l0_0.length c0_0) := (blk_cell BK876.out 0).trans rfl; have hfz6_0 := blk_frozen BK876.out 0) | ((with_reducible refine gate_callee (f := 28) rfl ?_); refine goesL_ (some 11) rfl rfl Try.func28 (by kernel_rfl) rfl #[.agg #[.slice A0_0 l0_0.length c0_0], .int .i64 1048576] rfl (by (try simp only [List.map_toArray, List.map_cons, List.map_nil]); first | done | rfl | (simp only [List.length_drop, List.length_take]; rfl)) ?_; (with_reducible refine (laws_szTree.calls k _ _ l0_0 1048576 t877 _ ?side1 ?side2 A3.out).mono ?_); (case side1 => repeat (first | exact (Kd.C_below HR0_0.out HB.out) | (with_reducible refine Kd.C_alloc ?_ _) | (with_reducible refine Kd.C_drewN ?_ _) | (with_reducible refine Kd.C_drew ?_))); (case side2 => exact HC0_0.out); rintro e w7 ⟨rfl, hb⟩; refine ⟨_, rfl, ?_⟩; have n0_ := Aside0.mk (blk_below (g := gb876) (o := .cells #[.slice A0_0 l0_0.length c0_0] 24 (0, 0)) (by (with_reducible repeat (first | refine blk_drewN ?_ _ | refine blk_drew ?_ | refine blk_alloc ?_ _)); exact BK876.out) hb); have n1_ := Aside0.mk (below_step (by repeat (first | (with_reducible first | exact HB.out | apply below_alloc | apply pw_below_drewN | apply below_drew1 | refine below_set ?_ GE876.out) | exact HB.out)) hb); clear BK876; clear HB; have BK876 := n0_; have HB := n1_; clear n0_ n1_; (try clear hb); (try clear hb2); (try clear hk); (try clear hi)))
    go_ret
    exact ⟨by first | rfl | (simp [errW_none, errW_some] <;> rfl) | (simp [*, errW_none, errW_some] <;> rfl), by repeat (first | (with_reducible first | exact HB.out | apply below_alloc | apply pw_below_drewN | apply below_drew1 | refine below_set ?_ GE876.out) | exact HB.out)⟩
  · rw [if_neg c4] at H
    have c4b0 : decide (t877 < 0) = false := decide_eq_false c4
    clear c4
    replace H := Option.bind_eq_some_iff.mp H
    obtain ⟨t878, A80, H⟩ := H
    replace H : ((spec_TreePath.f k t878 a1).bind fun t881 => ((laws_toTree.f k l0_0).bind fun t882 => ((impl_TreePath.f k t882 a1).bind fun t886 => (if t886.toList = t881.toList then ((laws_toTree.f k l0_0).bind fun t887 => ((laws_eqTree.f k t882 t887).bind fun t890 => (if t890 = true then (some true) else (some false)))) else (some false))))) = some r := H
    have A8 := Aside0.mk A80
    clear A80
    replace H := Option.bind_eq_some_iff.mp H
    obtain ⟨t881, A90, H⟩ := H
    replace H : ((laws_toTree.f k l0_0).bind fun t882 => ((impl_TreePath.f k t882 a1).bind fun t886 => (if t886.toList = t881.toList then ((laws_toTree.f k l0_0).bind fun t887 => ((laws_eqTree.f k t882 t887).bind fun t890 => (if t890 = true then (some true) else (some false)))) else (some false)))) = some r := H
    have A9 := Aside0.mk A90
    clear A90
    replace H := Option.bind_eq_some_iff.mp H
    obtain ⟨t882, A100, H⟩ := H
    replace H : ((impl_TreePath.f k t882 a1).bind fun t886 => (if t886.toList = t881.toList then ((laws_toTree.f k l0_0).bind fun t887 => ((laws_eqTree.f k t882 t887).bind fun t890 => (if t890 = true then (some true) else (some false)))) else (some false))) = some r := H
    have A10 := Aside0.mk A100
    clear A100
    replace H := Option.bind_eq_some_iff.mp H
    obtain ⟨t886, A110, H⟩ := H
    replace H : (if t886.toList = t881.toList then ((laws_toTree.f k l0_0).bind fun t887 => ((laws_eqTree.f k t882 t887).bind fun t890 => (if t890 = true then (some true) else (some false)))) else (some false)) = some r := H
    have A11 := Aside0.mk A110
    clear A110
    by_cases c12 : t886.toList = t881.toList
    · rw [if_pos c12] at H
      have c12b0 : (t886.toList == t881.toList) = true := beq_iff_eq.mpr c12
      have c12b1 : (t886.toList != t881.toList) = false := bne_eq_false_iff_eq.mpr c12
      clear c12
      replace H := Option.bind_eq_some_iff.mp H
      obtain ⟨t887, A130, H⟩ := H
      replace H : ((laws_eqTree.f k t882 t887).bind fun t890 => (if t890 = true then (some true) else (some false))) = some r := H
      have A13 := Aside0.mk A130
      clear A130
      replace H := Option.bind_eq_some_iff.mp H
      obtain ⟨t890, A140, H⟩ := H
      replace H : (if t890 = true then (some true) else (some false)) = some r := H
      have A14 := Aside0.mk A140
      clear A140
      by_cases c15 : t890 = true
      · subst c15
        have H1 : (some true) = some r := by rw [if_pos rfl] at H; exact H
        clear H
        have H := H1
        clear H1
        obtain rfl := Option.some.inj H
        go_enter Try.func12, Try.ntmps12
        try go_wp2_with (first | ((with_reducible refine gate_dst (N := 2) rfl ?_); refine box_event ?hg (N := 2) ?hd (cs := #[.slice A0_0 l0_0.length c0_0]) (t := 24) ?hr ?_; (case hd => rfl); (case hg => rfl); (case hr => first | (go_simp; done) | (go_simp; rfl)); intro gb876 hg w16 hbox hb; have n0_ := Aside0.mk (below_step (by repeat (first | (with_reducible first | exact HB.out | apply below_alloc | apply pw_below_drewN | apply below_drew1) | exact HB.out)) hb); have n1_ := Aside0.mk (hbox); have n2_ := Aside0.mk ((by rw [hg]; exact (below_size (by repeat (first | (with_reducible first | exact HB.out | apply below_alloc | apply pw_below_drewN | apply below_drew1) | exact HB.out))) : w.heap.size ≤ gb876)); have n3_ := Aside0.mk ((by rw [hg]; exact (below_size (by repeat (first | (with_reducible first | exact HB.out | apply below_alloc | apply pw_below_drewN | apply below_drew1) | exact HB.out))) : w.heap.size ≤ gb876)); clear HB; have HB := n0_; have BK876 := n1_; have GW876 := n2_; have GE876 := n3_; clear n0_ n1_ n2_ n3_; clear hb hbox hg; have hcz17_0 : w16.cell? ⟨gb876, 0, none⟩ = some (.slice A0_0 l0_0.length c0_0) := (blk_cell BK876.out 0).trans rfl; have hfz17_0 := blk_frozen BK876.out 0) | ((with_reducible refine gate_callee (f := 28) rfl ?_); refine goesL_ (some 11) rfl rfl Try.func28 (by kernel_rfl) rfl #[.agg #[.slice A0_0 l0_0.length c0_0], .int .i64 1048576] rfl (by (try simp only [List.map_toArray, List.map_cons, List.map_nil]); first | done | rfl | (simp only [List.length_drop, List.length_take]; rfl)) ?_; (with_reducible refine (laws_szTree.calls k _ _ l0_0 1048576 t877 _ ?side1 ?side2 A3.out).mono ?_); (case side1 => repeat (first | exact (Kd.C_below HR0_0.out HB.out) | (with_reducible refine Kd.C_alloc ?_ _) | (with_reducible refine Kd.C_drewN ?_ _) | (with_reducible refine Kd.C_drew ?_))); (case side2 => exact HC0_0.out); rintro e w18 ⟨rfl, hb⟩; refine ⟨_, rfl, ?_⟩; have n0_ := Aside0.mk (blk_below (g := gb876) (o := .cells #[.slice A0_0 l0_0.length c0_0] 24 (0, 0)) (by (with_reducible repeat (first | refine blk_drewN ?_ _ | refine blk_drew ?_ | refine blk_alloc ?_ _)); exact BK876.out) hb); have n1_ := Aside0.mk (below_step (by repeat (first | (with_reducible first | exact HB.out | apply below_alloc | apply pw_below_drewN | apply below_drew1 | refine below_set ?_ GE876.out) | exact HB.out)) hb); clear BK876; clear HB; have BK876 := n0_; have HB := n1_; clear n0_ n1_; (try clear hb); (try clear hb2); (try clear hk); (try clear hi); have hcz19_0 : w18.cell? ⟨gb876, 0, none⟩ = some (.slice A0_0 l0_0.length c0_0) := (blk_cell BK876.out 0).trans rfl; have hfz19_0 := blk_frozen BK876.out 0) | ((with_reducible refine gate_callee (f := 31) rfl ?_); refine goesL_ (some 15) rfl rfl Try.func31 (by kernel_rfl) rfl #[.agg #[.slice A0_0 l0_0.length c0_0]] rfl (by (try simp only [List.map_toArray, List.map_cons, List.map_nil]); first | done | rfl | (simp only [List.length_drop, List.length_take]; rfl)) ?_; (with_reducible refine (laws_toTree.calls k _ _ l0_0 t878 _ ?side1 ?side2 A8.out).mono ?_); (case side1 => repeat (first | exact (Kd.C_below HR0_0.out HB.out) | (with_reducible refine Kd.C_alloc ?_ _) | (with_reducible refine Kd.C_drewN ?_ _) | (with_reducible refine Kd.C_drew ?_))); (case side2 => exact HC0_0.out); rintro e w20 ⟨v879, rfl, ho0, hb⟩; refine ⟨_, rfl, ?_⟩; have n0_ := Aside0.mk (Kd.S_lower ho0 (below_size (by repeat (first | (with_reducible first | exact HB.out | apply below_alloc | apply pw_below_drewN | apply below_drew1 | refine below_set ?_ GE876.out) | exact HB.out)))); have n1_ := Aside0.mk (blk_below (g := gb876) (o := .cells #[.slice A0_0 l0_0.length c0_0] 24 (0, 0)) (by (with_reducible repeat (first | refine blk_drewN ?_ _ | refine blk_drew ?_ | refine blk_alloc ?_ _)); exact BK876.out) hb); have n2_ := Aside0.mk (below_step (by repeat (first | (with_reducible first | exact HB.out | apply below_alloc | apply pw_below_drewN | apply below_drew1 | refine below_set ?_ GE876.out) | exact HB.out)) hb); clear BK876; clear HB; have HO880 := n0_; have BK876 := n1_; have HB := n2_; clear n0_ n1_ n2_; (try clear hb); (try clear hb2); (try clear hk); (try clear hi); (try clear ho0); obtain ⟨Ao21, co21, eo21⟩ := Kd.S_slice HO880.out; subst eo21) | ((with_reducible refine gate_callee (f := 59) rfl ?_); refine goesL_ (some 17) rfl rfl Try.func59 (by kernel_rfl) rfl #[.agg #[.slice Ao21 t878.length co21], .int .i64 a1] rfl (by (try simp only [List.map_toArray, List.map_cons, List.map_nil]); first | done | rfl | (simp only [List.length_drop, List.length_take]; rfl)) ?_; (with_reducible refine (spec_TreePath.calls k _ _ t878 a1 t881 _ ?side1 ?side2 A9.out).mono ?_); (case side1 => repeat (first | exact (Kd.S_reads' HO880.out).2.2 | (with_reducible refine Kd.C_alloc ?_ _) | (with_reducible refine Kd.C_drewN ?_ _) | (with_reducible refine Kd.C_drew ?_))); (case side2 => exact (Kd.S_reads' HO880.out).2.1); rintro e w22 ⟨rfl, hb⟩; refine ⟨_, rfl, ?_⟩; have n0_ := Aside0.mk (Kd.S_below (by (with_reducible repeat (first | apply Kd.S_alloc | apply Kd.S_drewN | apply Kd.S_drew)); exact HO880.out) hb); have n1_ := Aside0.mk (blk_below (g := gb876) (o := .cells #[.slice A0_0 l0_0.length c0_0] 24 (0, 0)) (by (with_reducible repeat (first | refine blk_drewN ?_ _ | refine blk_drew ?_ | refine blk_alloc ?_ _)); exact BK876.out) hb); have n2_ := Aside0.mk (below_step (by repeat (first | (with_reducible first | exact HB.out | apply below_alloc | apply pw_below_drewN | apply below_drew1 | refine below_set ?_ GE876.out) | exact HB.out)) hb); clear HO880; clear BK876; clear HB; have HO880 := n0_; have BK876 := n1_; have HB := n2_; clear n0_ n1_ n2_; (try clear hb); (try clear hb2); (try clear hk); (try clear hi); have hcz23_0 : w22.cell? ⟨gb876, 0, none⟩ = some (.slice A0_0 l0_0.length c0_0) := (blk_cell BK876.out 0).trans rfl; have hfz23_0 := blk_frozen BK876.out 0) | ((with_reducible refine gate_callee (f := 31) rfl ?_); refine goesL_ (some 19) rfl rfl Try.func31 (by kernel_rfl) rfl #[.agg #[.slice A0_0 l0_0.length c0_0]] rfl (by (try simp only [List.map_toArray, List.map_cons, List.map_nil]); first | done | rfl | (simp only [List.length_drop, List.length_take]; rfl)) ?_; (with_reducible refine (laws_toTree.calls k _ _ l0_0 t882 _ ?side1 ?side2 A10.out).mono ?_); (case side1 => repeat (first | exact (Kd.C_below HR0_0.out HB.out) | (with_reducible refine Kd.C_alloc ?_ _) | (with_reducible refine Kd.C_drewN ?_ _) | (with_reducible refine Kd.C_drew ?_))); (case side2 => exact HC0_0.out); rintro e w24 ⟨v883, rfl, ho0, hb⟩; refine ⟨_, rfl, ?_⟩; have n0_ := Aside0.mk (Kd.S_elder' (by (with_reducible repeat (first | apply Kd.S_alloc | apply Kd.S_drewN | apply Kd.S_drew)); exact HO880.out) (Kd.S_base ho0) hb); have n1_ := Aside0.mk (Kd.S_lower (Kd.S_new' ho0 (Kd.S_lt (by (with_reducible repeat (first | apply Kd.S_alloc | apply Kd.S_drewN | apply Kd.S_drew)); exact HO880.out))) (below_size (by repeat (first | (with_reducible first | exact HB.out | apply below_alloc | apply pw_below_drewN | apply below_drew1 | refine below_set ?_ GE876.out) | exact HB.out)))); have n2_ := Aside0.mk (blk_below (g := gb876) (o := .cells #[.slice A0_0 l0_0.length c0_0] 24 (0, 0)) (by (with_reducible repeat (first | refine blk_drewN ?_ _ | refine blk_drew ?_ | refine blk_alloc ?_ _)); exact BK876.out) hb); have n3_ := Aside0.mk (below_step (by repeat (first | (with_reducible first | exact HB.out | apply below_alloc | apply pw_below_drewN | apply below_drew1 | refine below_set ?_ GE876.out) | exact HB.out)) hb); clear HO880; clear BK876; clear HB; have HO880 := n0_; have HO884 := n1_; have BK876 := n2_; have HB := n3_; clear n0_ n1_ n2_ n3_; (try clear hb); (try clear hb2); (try clear hk); (try clear hi); (try clear ho0)) | ((with_reducible refine gate_dst (N := 7) rfl ?_); refine box_event ?hg (N := 7) ?hd (cs := #[.slice none 0 0]) (t := 30) ?hr ?_; (case hd => rfl); (case hg => rfl); (case hr => first | (go_simp; done) | (go_simp; rfl)); intro gb885 hg w25 hbox hb; have n0_ := Aside0.mk (Kd.S_below (by (with_reducible repeat (first | apply Kd.S_alloc | apply Kd.S_drewN | apply Kd.S_drew)); exact HO880.out) hb); have n1_ := Aside0.mk (Kd.S_below (by (with_reducible repeat (first | apply Kd.S_alloc | apply Kd.S_drewN | apply Kd.S_drew)); exact HO884.out) hb); have n2_ := Aside0.mk (blk_below (g := gb876) (o := .cells #[.slice A0_0 l0_0.length c0_0] 24 (0, 0)) (by (with_reducible repeat (first | refine blk_drewN ?_ _ | refine blk_drew ?_ | refine blk_alloc ?_ _)); exact BK876.out) hb); have n3_ := Aside0.mk (below_step (by repeat (first | (with_reducible first | exact HB.out | apply below_alloc | apply pw_below_drewN | apply below_drew1 | refine below_set ?_ GE876.out) | exact HB.out)) hb); have n4_ := Aside0.mk (hbox); have n5_ := Aside0.mk ((by rw [hg]; exact (below_size (by repeat (first | (with_reducible first | exact HB.out | apply below_alloc | apply pw_below_drewN | apply below_drew1 | refine below_set ?_ GE876.out) | exact HB.out))) : w.heap.size ≤ gb885)); have n6_ := Aside0.mk ((by rw [hg]; exact (below_size (by repeat (first | (with_reducible first | exact HB.out | apply below_alloc | apply pw_below_drewN | apply below_drew1 | refine below_set ?_ GE876.out) | exact HB.out))) : w.heap.size ≤ gb885)); have n7_ := Aside0.mk ((by rw [hg]; exact Nat.ne_of_lt (blk_lt (g := gb876) (o := .cells #[.slice A0_0 l0_0.length c0_0] 24 (0, 0)) (by (with_reducible repeat (first | refine blk_drewN ?_ _ | refine blk_drew ?_ | refine blk_alloc ?_ _)); exact BK876.out)) : gb876 ≠ gb885)); have n8_ := Aside0.mk ((by rw [hg]; exact Nat.ne_of_gt (blk_lt (g := gb876) (o := .cells #[.slice A0_0 l0_0.length c0_0] 24 (0, 0)) (by (with_reducible repeat (first | refine blk_drewN ?_ _ | refine blk_drew ?_ | refine blk_alloc ?_ _)); exact BK876.out)) : gb885 ≠ gb876)); clear HO880; clear HO884; clear BK876; clear HB; have HO880 := n0_; have HO884 := n1_; have BK876 := n2_; have HB := n3_; have BK885 := n4_; have GW885 := n5_; have GE885 := n6_; have NB876_885 := n7_; have NB885_876 := n8_; clear n0_ n1_ n2_ n3_ n4_ n5_ n6_ n7_ n8_; clear hb hbox hg; obtain ⟨Ao26, co26, eo26⟩ := Kd.S_slice HO884.out; subst eo26; have hnb27 := NB885_876.out; have hnc27 := NB876_885.out; have hcz28_0 : w25.cell? ⟨gb885, 0, none⟩ = some (.slice none 0 0) := (blk_cell BK885.out 0).trans rfl; have hfz28_0 := blk_frozen BK885.out 0) | ((with_reducible refine gate_callee (f := 60) rfl ?_); refine goesL_ (some 22) rfl rfl Try.func60 (by kernel_rfl) rfl #[.agg #[.slice Ao26 t882.length co26], .int .i64 a1] rfl (by (try simp only [List.map_toArray, List.map_cons, List.map_nil]); first | done | rfl | (simp only [List.length_drop, List.length_take]; rfl)) ?_; (with_reducible refine (impl_TreePath.calls k _ _ t882 a1 t886 _ ?side1 ?side2 A11.out).mono ?_); (case side1 => refine (Kd.S_reads' (e := 69) (base := w.heap.size) (ok := fun k_ => (True ∧ some k_ ≠ (.slice Ao21 t878.length co21 : Value).ownBlock)) (n := t882.length) (c := co26) ?_).2.2; exact (by (with_reducible repeat (first | apply Kd.S_alloc | apply Kd.S_drewN | apply Kd.S_drew)); exact (Kd.S_mono (Kd.S_far (p := ⟨gb885, 0, none⟩) (Kd.S_types HO884.out BK885.out (by decide)) (fun _ hk => hk.2) (.slice Ao26 t882.length co26)) (fun _ h_ => h_.1)))); (case side2 => exact (Kd.S_reads' HO884.out).2.1); rintro e w29 ⟨rfl, hb⟩; refine ⟨_, rfl, ?_⟩; have n0_ := Aside0.mk (Kd.S_below (by (with_reducible repeat (first | apply Kd.S_alloc | apply Kd.S_drewN | apply Kd.S_drew)); exact (Kd.S_mono (Kd.S_far (p := ⟨gb885, 0, none⟩) (Kd.S_types HO880.out BK885.out (by decide)) (fun _ hk => hk.2) (.slice Ao26 t882.length co26)) (fun _ h_ => h_.1))) hb); have n1_ := Aside0.mk (Kd.S_below (by (with_reducible repeat (first | apply Kd.S_alloc | apply Kd.S_drewN | apply Kd.S_drew)); exact (Kd.S_mono (Kd.S_far (p := ⟨gb885, 0, none⟩) (Kd.S_types HO884.out BK885.out (by decide)) (fun _ hk => hk.2) (.slice Ao26 t882.length co26)) (fun _ h_ => h_.1))) hb); have n2_ := Aside0.mk (blk_below (g := gb876) (o := .cells #[.slice A0_0 l0_0.length c0_0] 24 (0, 0)) (by (with_reducible repeat (first | refine blk_drewN ?_ _ | refine blk_drew ?_ | refine blk_alloc ?_ _)); refine blk_far ?_ NB876_885.out _; (with_reducible repeat (first | refine blk_drewN ?_ _ | refine blk_drew ?_ | refine blk_alloc ?_ _)); exact BK876.out) hb); have n3_ := Aside0.mk (blk_below (g := gb885) (o := .cells #[.slice Ao26 t882.length co26] 30 (0, 0)) (by (with_reducible repeat (first | refine blk_drewN ?_ _ | refine blk_drew ?_ | refine blk_alloc ?_ _)); refine blk_put (cs := #[.slice none 0 0]) ?_ 0 _ rfl; (with_reducible repeat (first | refine blk_drewN ?_ _ | refine blk_drew ?_ | refine blk_alloc ?_ _)); exact BK885.out) hb); have n4_ := Aside0.mk (below_step (by repeat (first | (with_reducible first | exact HB.out | apply below_alloc | apply pw_below_drewN | apply below_drew1 | refine below_set ?_ GE876.out | refine below_set ?_ GE885.out) | exact HB.out)) hb); clear HO880; clear HO884; clear BK876; clear BK885; clear HB; have HO880 := n0_; have HO884 := n1_; have BK876 := n2_; have BK885 := n3_; have HB := n4_; clear n0_ n1_ n2_ n3_ n4_; (try clear hb); (try clear hb2); (try clear hk); (try clear hi)))
        have n0_ := Aside0.mk (Kd.S_drew HO880.out)
        have n1_ := Aside0.mk (Kd.S_drew HO884.out)
        have n2_ := Aside0.mk (blk_drew BK876.out)
        have n3_ := Aside0.mk (blk_drew BK885.out)
        have n4_ := Aside0.mk (below_drew1 HB.out)
        clear HO880
        clear HO884
        clear BK876
        clear BK885
        clear HB
        have HO880 := n0_
        have HO884 := n1_
        have BK876 := n2_
        have BK885 := n3_
        have HB := n4_
        clear n0_ n1_ n2_ n3_ n4_
        refine start_ (n := 5) (S := fun w' => w'.cell? ⟨gb885, 0, none⟩ = some (.slice Ao26 t882.length co26) ∧ w'.cell? ⟨gb876, 0, none⟩ = some (.slice A0_0 l0_0.length c0_0)) (ds := []) #[false, false, false, false, false] (by kernel_rfl) rfl rfl ⟨(blk_cell BK885.out 0).trans rfl, (blk_cell BK876.out 0).trans rfl⟩ (fun hHeld => ?_)
        generalize w29.drew = w30 at HO880 HO884 BK876 BK885 HB hHeld ⊢
        refine take_ (i := 0) (N := some 26) (v := ?_) (a' := ?_) #[true, false, false, false, false] rfl rfl (by kernel_rfl) (fun _ _ _ h => h) (Or.inl ⟨by rfl, ?_⟩) hHeld ?_ ?_
        rotate_left
        · rintro w' ⟨s0, s1⟩
          go_simp
          with_reducible rfl
        rotate_left
        · simp only [Act.put, List.setIfInBounds_toArray, List.set_cons_zero, List.set_cons_succ, i64_w, i32_w]
          rfl
        refine take_ (i := 1) (N := some 27) (v := ?_) (a' := ?_) #[true, true, false, false, false] rfl rfl (by kernel_rfl) (fun _ _ _ h => h) (Or.inl ⟨by rfl, ?_⟩) hHeld ?_ ?_
        rotate_left
        · rintro w' ⟨s0, s1⟩
          go_simp
          with_reducible rfl
        rotate_left
        · simp only [Act.put, List.setIfInBounds_toArray, List.set_cons_zero, List.set_cons_succ, i64_w, i32_w]
          rfl
        refine one_ (i := 2) (N := some 28) #[true, true, true, false, false] rfl rfl (by kernel_rfl) (by decide) (fun K hK => ?_)
        refine goes_ Try.func31 (by kernel_rfl) rfl #[.agg #[.slice A0_0 l0_0.length c0_0]] (by rfl) rfl rfl (by (try simp only [List.map_toArray, List.map_cons, List.map_nil]); first | done | rfl | (simp only [List.length_drop, List.length_take]; rfl)) ?_
        with_reducible refine (laws_toTree.calls k _ _ l0_0 t887 _ ?side1 ?side2 A13.out).mono ?_
        (case side1 => repeat (first | exact (Kd.C_below HR0_0.out HB.out) | (with_reducible refine Kd.C_alloc ?_ _) | (with_reducible refine Kd.C_drewN ?_ _) | (with_reducible refine Kd.C_drew ?_)))
        (case side2 => exact HC0_0.out)
        rintro e w31 ⟨v888, rfl, ho0, hb⟩
        refine ⟨_, rfl, ?_⟩
        have n0_ := Aside0.mk (Kd.S_elder' (by (with_reducible repeat (first | apply Kd.S_alloc | apply Kd.S_drewN | apply Kd.S_drew)); exact HO880.out) (Kd.S_base ho0) hb)
        have n1_ := Aside0.mk (Kd.S_elder' (by (with_reducible repeat (first | apply Kd.S_alloc | apply Kd.S_drewN | apply Kd.S_drew)); exact HO884.out) (Kd.S_base ho0) hb)
        have n2_ := Aside0.mk (Kd.S_lower (Kd.S_new' (Kd.S_new' ho0 (Kd.S_lt (by (with_reducible repeat (first | apply Kd.S_alloc | apply Kd.S_drewN | apply Kd.S_drew)); exact HO880.out))) (Kd.S_lt (by (with_reducible repeat (first | apply Kd.S_alloc | apply Kd.S_drewN | apply Kd.S_drew)); exact HO884.out))) (below_size (by repeat (first | (with_reducible first | exact HB.out | apply below_alloc | apply pw_below_drewN | apply below_drew1 | refine below_set ?_ GE876.out | refine below_set ?_ GE885.out) | exact HB.out))))
        have n3_ := Aside0.mk (blk_below (g := gb876) (o := .cells #[.slice A0_0 l0_0.length c0_0] 24 (0, 0)) (by (with_reducible repeat (first | refine blk_drewN ?_ _ | refine blk_drew ?_ | refine blk_alloc ?_ _)); exact BK876.out) hb)
        have n4_ := Aside0.mk (blk_below (g := gb885) (o := .cells #[.slice Ao26 t882.length co26] 30 (0, 0)) (by (with_reducible repeat (first | refine blk_drewN ?_ _ | refine blk_drew ?_ | refine blk_alloc ?_ _)); exact BK885.out) hb)
        have n5_ := Aside0.mk (below_step (by repeat (first | (with_reducible first | exact HB.out | apply below_alloc | apply pw_below_drewN | apply below_drew1 | refine below_set ?_ GE876.out | refine below_set ?_ GE885.out) | exact HB.out)) hb)
        clear HO880
        clear HO884
        clear BK876
        clear BK885
        clear HB
        have HO880 := n0_
        have HO884 := n1_
        have HO889 := n2_
        have BK876 := n3_
        have BK885 := n4_
        have HB := n5_
        clear n0_ n1_ n2_ n3_ n4_ n5_
        (try clear hb)
        (try clear hb2)
        (try clear hk)
        (try clear hi)
        (try clear ho0)
        obtain ⟨Ao32, co32, eo32⟩ := Kd.S_slice HO889.out
        (first | subst eo32 | (injection eo32 with f1_ f2_ f3_; have f4_ := f1_.symm; have f5_ := f3_.symm; clear f1_ f2_ f3_; subst f4_; subst f5_))
        refine hK.out _ _ ⟨(blk_cell BK885.out 0).trans rfl, (blk_cell BK876.out 0).trans rfl⟩ (fun hHeld => ?_)
        clear hK K
        refine norm_ (a' := ?_) ?_ ?_
        rotate_left
        · show Act.put _ (some 28) _ = _
          simp only [Act.put, List.setIfInBounds_toArray, List.set_cons_zero, List.set_cons_succ, i64_w, i32_w]
          rfl
        refine one_ (i := 3) (N := some 29) #[true, true, true, true, false] rfl rfl (by kernel_rfl) (by decide) (fun K hK => ?_)
        refine goes_ Try.func34 (by kernel_rfl) rfl #[.agg #[.slice Ao26 t882.length co26], .agg #[.slice Ao32 t887.length co32]] (by rfl) rfl rfl (by (try simp only [List.map_toArray, List.map_cons, List.map_nil]); first | done | rfl | (simp only [List.length_drop, List.length_take]; rfl)) ?_
        with_reducible refine (laws_eqTree.calls k _ _ t882 _ _ t887 true _ ?side1 ?side2 ?side3 ?side4 A14.out).mono ?_
        (case side1 => repeat (first | exact (Kd.S_reads' HO884.out).2.2 | (with_reducible refine Kd.C_alloc ?_ _) | (with_reducible refine Kd.C_drewN ?_ _) | (with_reducible refine Kd.C_drew ?_)))
        (case side2 => exact (Kd.S_reads' HO884.out).2.1)
        (case side3 => repeat (first | exact (Kd.S_reads' HO889.out).2.2 | (with_reducible refine Kd.C_alloc ?_ _) | (with_reducible refine Kd.C_drewN ?_ _) | (with_reducible refine Kd.C_drew ?_)))
        (case side4 => exact (Kd.S_reads' HO889.out).2.1)
        rintro e w33 ⟨rfl, hb⟩
        refine ⟨_, rfl, ?_⟩
        have n0_ := Aside0.mk (Kd.S_below (by (with_reducible repeat (first | apply Kd.S_alloc | apply Kd.S_drewN | apply Kd.S_drew)); exact HO880.out) hb)
        have n1_ := Aside0.mk (Kd.S_below (by (with_reducible repeat (first | apply Kd.S_alloc | apply Kd.S_drewN | apply Kd.S_drew)); exact HO884.out) hb)
        have n2_ := Aside0.mk (Kd.S_below (by (with_reducible repeat (first | apply Kd.S_alloc | apply Kd.S_drewN | apply Kd.S_drew)); exact HO889.out) hb)
        have n3_ := Aside0.mk (blk_below (g := gb876) (o := .cells #[.slice A0_0 l0_0.length c0_0] 24 (0, 0)) (by (with_reducible repeat (first | refine blk_drewN ?_ _ | refine blk_drew ?_ | refine blk_alloc ?_ _)); exact BK876.out) hb)
        have n4_ := Aside0.mk (blk_below (g := gb885) (o := .cells #[.slice Ao26 t882.length co26] 30 (0, 0)) (by (with_reducible repeat (first | refine blk_drewN ?_ _ | refine blk_drew ?_ | refine blk_alloc ?_ _)); exact BK885.out) hb)
        have n5_ := Aside0.mk (below_step (by repeat (first | (with_reducible first | exact HB.out | apply below_alloc | apply pw_below_drewN | apply below_drew1 | refine below_set ?_ GE876.out | refine below_set ?_ GE885.out) | exact HB.out)) hb)
        clear HO880
        clear HO884
        clear HO889
        clear BK876
        clear BK885
        clear HB
        have HO880 := n0_
        have HO884 := n1_
        have HO889 := n2_
        have BK876 := n3_
        have BK885 := n4_
        have HB := n5_
        clear n0_ n1_ n2_ n3_ n4_ n5_
        (try clear hb)
        (try clear hb2)
        (try clear hk)
        (try clear hi)
        refine hK.out _ _ ⟨(blk_cell BK885.out 0).trans rfl, (blk_cell BK876.out 0).trans rfl⟩ (fun hHeld => ?_)
        clear hK K
        refine norm_ (a' := ?_) ?_ ?_
        rotate_left
        · show Act.put _ (some 29) _ = _
          simp only [Act.put, List.setIfInBounds_toArray, List.set_cons_zero, List.set_cons_succ, i64_w, i32_w]
          rfl
        refine pure_ (i := 4) (N := some 30) (v := ?_) (a' := ?_) #[true, true, true, true, true] rfl rfl (by kernel_rfl) (fun _ _ _ h => h) (Or.inl ⟨by rfl, ?_⟩) ?_ ?_
        rotate_left
        · intro w'
          go_simp
          with_reducible rfl
        rotate_left
        · simp only [Act.put, List.setIfInBounds_toArray, List.set_cons_zero, List.set_cons_succ, i64_w, i32_w]
          rfl
        refine done_ (by kernel_rfl) ?_
        try go_wp2
        go_ret
        exact ⟨by first | rfl | (simp [errW_none, errW_some] <;> rfl) | (simp [*, errW_none, errW_some] <;> rfl), by repeat (first | (with_reducible first | exact HB.out | apply below_alloc | apply pw_below_drewN | apply below_drew1 | refine below_set ?_ GE876.out | refine below_set ?_ GE885.out) | exact HB.out)⟩
      · replace c15 := Bool.eq_false_iff.mpr c15
        subst c15
        have H1 : (some false) = some r := by rw [if_neg (show ¬ (false = true) by decide)] at H; exact H
        clear H
        have H := H1
        clear H1
        obtain rfl := Option.some.inj H
        go_enter Try.func12, Try.ntmps12
        try go_wp2_with (first | ((with_reducible refine gate_dst (N := 2) rfl ?_); refine box_event ?hg (N := 2) ?hd (cs := #[.slice A0_0 l0_0.length c0_0]) (t := 24) ?hr ?_; (case hd => rfl); (case hg => rfl); (case hr => first | (go_simp; done) | (go_simp; rfl)); intro gb876 hg w34 hbox hb; have n0_ := Aside0.mk (below_step (by repeat (first | (with_reducible first | exact HB.out | apply below_alloc | apply pw_below_drewN | apply below_drew1) | exact HB.out)) hb); have n1_ := Aside0.mk (hbox); have n2_ := Aside0.mk ((by rw [hg]; exact (below_size (by repeat (first | (with_reducible first | exact HB.out | apply below_alloc | apply pw_below_drewN | apply below_drew1) | exact HB.out))) : w.heap.size ≤ gb876)); have n3_ := Aside0.mk ((by rw [hg]; exact (below_size (by repeat (first | (with_reducible first | exact HB.out | apply below_alloc | apply pw_below_drewN | apply below_drew1) | exact HB.out))) : w.heap.size ≤ gb876)); clear HB; have HB := n0_; have BK876 := n1_; have GW876 := n2_; have GE876 := n3_; clear n0_ n1_ n2_ n3_; clear hb hbox hg; have hcz35_0 : w34.cell? ⟨gb876, 0, none⟩ = some (.slice A0_0 l0_0.length c0_0) := (blk_cell BK876.out 0).trans rfl; have hfz35_0 := blk_frozen BK876.out 0) | ((with_reducible refine gate_callee (f := 28) rfl ?_); refine goesL_ (some 11) rfl rfl Try.func28 (by kernel_rfl) rfl #[.agg #[.slice A0_0 l0_0.length c0_0], .int .i64 1048576] rfl (by (try simp only [List.map_toArray, List.map_cons, List.map_nil]); first | done | rfl | (simp only [List.length_drop, List.length_take]; rfl)) ?_; (with_reducible refine (laws_szTree.calls k _ _ l0_0 1048576 t877 _ ?side1 ?side2 A3.out).mono ?_); (case side1 => repeat (first | exact (Kd.C_below HR0_0.out HB.out) | (with_reducible refine Kd.C_alloc ?_ _) | (with_reducible refine Kd.C_drewN ?_ _) | (with_reducible refine Kd.C_drew ?_))); (case side2 => exact HC0_0.out); rintro e w36 ⟨rfl, hb⟩; refine ⟨_, rfl, ?_⟩; have n0_ := Aside0.mk (blk_below (g := gb876) (o := .cells #[.slice A0_0 l0_0.length c0_0] 24 (0, 0)) (by (with_reducible repeat (first | refine blk_drewN ?_ _ | refine blk_drew ?_ | refine blk_alloc ?_ _)); exact BK876.out) hb); have n1_ := Aside0.mk (below_step (by repeat (first | (with_reducible first | exact HB.out | apply below_alloc | apply pw_below_drewN | apply below_drew1 | refine below_set ?_ GE876.out) | exact HB.out)) hb); clear BK876; clear HB; have BK876 := n0_; have HB := n1_; clear n0_ n1_; (try clear hb); (try clear hb2); (try clear hk); (try clear hi); have hcz37_0 : w36.cell? ⟨gb876, 0, none⟩ = some (.slice A0_0 l0_0.length c0_0) := (blk_cell BK876.out 0).trans rfl; have hfz37_0 := blk_frozen BK876.out 0) | ((with_reducible refine gate_callee (f := 31) rfl ?_); refine goesL_ (some 15) rfl rfl Try.func31 (by kernel_rfl) rfl #[.agg #[.slice A0_0 l0_0.length c0_0]] rfl (by (try simp only [List.map_toArray, List.map_cons, List.map_nil]); first | done | rfl | (simp only [List.length_drop, List.length_take]; rfl)) ?_; (with_reducible refine (laws_toTree.calls k _ _ l0_0 t878 _ ?side1 ?side2 A8.out).mono ?_); (case side1 => repeat (first | exact (Kd.C_below HR0_0.out HB.out) | (with_reducible refine Kd.C_alloc ?_ _) | (with_reducible refine Kd.C_drewN ?_ _) | (with_reducible refine Kd.C_drew ?_))); (case side2 => exact HC0_0.out); rintro e w38 ⟨v879, rfl, ho0, hb⟩; refine ⟨_, rfl, ?_⟩; have n0_ := Aside0.mk (Kd.S_lower ho0 (below_size (by repeat (first | (with_reducible first | exact HB.out | apply below_alloc | apply pw_below_drewN | apply below_drew1 | refine below_set ?_ GE876.out) | exact HB.out)))); have n1_ := Aside0.mk (blk_below (g := gb876) (o := .cells #[.slice A0_0 l0_0.length c0_0] 24 (0, 0)) (by (with_reducible repeat (first | refine blk_drewN ?_ _ | refine blk_drew ?_ | refine blk_alloc ?_ _)); exact BK876.out) hb); have n2_ := Aside0.mk (below_step (by repeat (first | (with_reducible first | exact HB.out | apply below_alloc | apply pw_below_drewN | apply below_drew1 | refine below_set ?_ GE876.out) | exact HB.out)) hb); clear BK876; clear HB; have HO880 := n0_; have BK876 := n1_; have HB := n2_; clear n0_ n1_ n2_; (try clear hb); (try clear hb2); (try clear hk); (try clear hi); (try clear ho0); obtain ⟨Ao39, co39, eo39⟩ := Kd.S_slice HO880.out; subst eo39) | ((with_reducible refine gate_callee (f := 59) rfl ?_); refine goesL_ (some 17) rfl rfl Try.func59 (by kernel_rfl) rfl #[.agg #[.slice Ao39 t878.length co39], .int .i64 a1] rfl (by (try simp only [List.map_toArray, List.map_cons, List.map_nil]); first | done | rfl | (simp only [List.length_drop, List.length_take]; rfl)) ?_; (with_reducible refine (spec_TreePath.calls k _ _ t878 a1 t881 _ ?side1 ?side2 A9.out).mono ?_); (case side1 => repeat (first | exact (Kd.S_reads' HO880.out).2.2 | (with_reducible refine Kd.C_alloc ?_ _) | (with_reducible refine Kd.C_drewN ?_ _) | (with_reducible refine Kd.C_drew ?_))); (case side2 => exact (Kd.S_reads' HO880.out).2.1); rintro e w40 ⟨rfl, hb⟩; refine ⟨_, rfl, ?_⟩; have n0_ := Aside0.mk (Kd.S_below (by (with_reducible repeat (first | apply Kd.S_alloc | apply Kd.S_drewN | apply Kd.S_drew)); exact HO880.out) hb); have n1_ := Aside0.mk (blk_below (g := gb876) (o := .cells #[.slice A0_0 l0_0.length c0_0] 24 (0, 0)) (by (with_reducible repeat (first | refine blk_drewN ?_ _ | refine blk_drew ?_ | refine blk_alloc ?_ _)); exact BK876.out) hb); have n2_ := Aside0.mk (below_step (by repeat (first | (with_reducible first | exact HB.out | apply below_alloc | apply pw_below_drewN | apply below_drew1 | refine below_set ?_ GE876.out) | exact HB.out)) hb); clear HO880; clear BK876; clear HB; have HO880 := n0_; have BK876 := n1_; have HB := n2_; clear n0_ n1_ n2_; (try clear hb); (try clear hb2); (try clear hk); (try clear hi); have hcz41_0 : w40.cell? ⟨gb876, 0, none⟩ = some (.slice A0_0 l0_0.length c0_0) := (blk_cell BK876.out 0).trans rfl; have hfz41_0 := blk_frozen BK876.out 0) | ((with_reducible refine gate_callee (f := 31) rfl ?_); refine goesL_ (some 19) rfl rfl Try.func31 (by kernel_rfl) rfl #[.agg #[.slice A0_0 l0_0.length c0_0]] rfl (by (try simp only [List.map_toArray, List.map_cons, List.map_nil]); first | done | rfl | (simp only [List.length_drop, List.length_take]; rfl)) ?_; (with_reducible refine (laws_toTree.calls k _ _ l0_0 t882 _ ?side1 ?side2 A10.out).mono ?_); (case side1 => repeat (first | exact (Kd.C_below HR0_0.out HB.out) | (with_reducible refine Kd.C_alloc ?_ _) | (with_reducible refine Kd.C_drewN ?_ _) | (with_reducible refine Kd.C_drew ?_))); (case side2 => exact HC0_0.out); rintro e w42 ⟨v883, rfl, ho0, hb⟩; refine ⟨_, rfl, ?_⟩; have n0_ := Aside0.mk (Kd.S_elder' (by (with_reducible repeat (first | apply Kd.S_alloc | apply Kd.S_drewN | apply Kd.S_drew)); exact HO880.out) (Kd.S_base ho0) hb); have n1_ := Aside0.mk (Kd.S_lower (Kd.S_new' ho0 (Kd.S_lt (by (with_reducible repeat (first | apply Kd.S_alloc | apply Kd.S_drewN | apply Kd.S_drew)); exact HO880.out))) (below_size (by repeat (first | (with_reducible first | exact HB.out | apply below_alloc | apply pw_below_drewN | apply below_drew1 | refine below_set ?_ GE876.out) | exact HB.out)))); have n2_ := Aside0.mk (blk_below (g := gb876) (o := .cells #[.slice A0_0 l0_0.length c0_0] 24 (0, 0)) (by (with_reducible repeat (first | refine blk_drewN ?_ _ | refine blk_drew ?_ | refine blk_alloc ?_ _)); exact BK876.out) hb); have n3_ := Aside0.mk (below_step (by repeat (first | (with_reducible first | exact HB.out | apply below_alloc | apply pw_below_drewN | apply below_drew1 | refine below_set ?_ GE876.out) | exact HB.out)) hb); clear HO880; clear BK876; clear HB; have HO880 := n0_; have HO884 := n1_; have BK876 := n2_; have HB := n3_; clear n0_ n1_ n2_ n3_; (try clear hb); (try clear hb2); (try clear hk); (try clear hi); (try clear ho0)) | ((with_reducible refine gate_dst (N := 7) rfl ?_); refine box_event ?hg (N := 7) ?hd (cs := #[.slice none 0 0]) (t := 30) ?hr ?_; (case hd => rfl); (case hg => rfl); (case hr => first | (go_simp; done) | (go_simp; rfl)); intro gb885 hg w43 hbox hb; have n0_ := Aside0.mk (Kd.S_below (by (with_reducible repeat (first | apply Kd.S_alloc | apply Kd.S_drewN | apply Kd.S_drew)); exact HO880.out) hb); have n1_ := Aside0.mk (Kd.S_below (by (with_reducible repeat (first | apply Kd.S_alloc | apply Kd.S_drewN | apply Kd.S_drew)); exact HO884.out) hb); have n2_ := Aside0.mk (blk_below (g := gb876) (o := .cells #[.slice A0_0 l0_0.length c0_0] 24 (0, 0)) (by (with_reducible repeat (first | refine blk_drewN ?_ _ | refine blk_drew ?_ | refine blk_alloc ?_ _)); exact BK876.out) hb); have n3_ := Aside0.mk (below_step (by repeat (first | (with_reducible first | exact HB.out | apply below_alloc | apply pw_below_drewN | apply below_drew1 | refine below_set ?_ GE876.out) | exact HB.out)) hb); have n4_ := Aside0.mk (hbox); have n5_ := Aside0.mk ((by rw [hg]; exact (below_size (by repeat (first | (with_reducible first | exact HB.out | apply below_alloc | apply pw_below_drewN | apply below_drew1 | refine below_set ?_ GE876.out) | exact HB.out))) : w.heap.size ≤ gb885)); have n6_ := Aside0.mk ((by rw [hg]; exact (below_size (by repeat (first | (with_reducible first | exact HB.out | apply below_alloc | apply pw_below_drewN | apply below_drew1 | refine below_set ?_ GE876.out) | exact HB.out))) : w.heap.size ≤ gb885)); have n7_ := Aside0.mk ((by rw [hg]; exact Nat.ne_of_lt (blk_lt (g := gb876) (o := .cells #[.slice A0_0 l0_0.length c0_0] 24 (0, 0)) (by (with_reducible repeat (first | refine blk_drewN ?_ _ | refine blk_drew ?_ | refine blk_alloc ?_ _)); exact BK876.out)) : gb876 ≠ gb885)); have n8_ := Aside0.mk ((by rw [hg]; exact Nat.ne_of_gt (blk_lt (g := gb876) (o := .cells #[.slice A0_0 l0_0.length c0_0] 24 (0, 0)) (by (with_reducible repeat (first | refine blk_drewN ?_ _ | refine blk_drew ?_ | refine blk_alloc ?_ _)); exact BK876.out)) : gb885 ≠ gb876)); clear HO880; clear HO884; clear BK876; clear HB; have HO880 := n0_; have HO884 := n1_; have BK876 := n2_; have HB := n3_; have BK885 := n4_; have GW885 := n5_; have GE885 := n6_; have NB876_885 := n7_; have NB885_876 := n8_; clear n0_ n1_ n2_ n3_ n4_ n5_ n6_ n7_ n8_; clear hb hbox hg; obtain ⟨Ao44, co44, eo44⟩ := Kd.S_slice HO884.out; subst eo44; have hnb45 := NB885_876.out; have hnc45 := NB876_885.out; have hcz46_0 : w43.cell? ⟨gb885, 0, none⟩ = some (.slice none 0 0) := (blk_cell BK885.out 0).trans rfl; have hfz46_0 := blk_frozen BK885.out 0) | ((with_reducible refine gate_callee (f := 60) rfl ?_); refine goesL_ (some 22) rfl rfl Try.func60 (by kernel_rfl) rfl #[.agg #[.slice Ao44 t882.length co44], .int .i64 a1] rfl (by (try simp only [List.map_toArray, List.map_cons, List.map_nil]); first | done | rfl | (simp only [List.length_drop, List.length_take]; rfl)) ?_; (with_reducible refine (impl_TreePath.calls k _ _ t882 a1 t886 _ ?side1 ?side2 A11.out).mono ?_); (case side1 => refine (Kd.S_reads' (e := 69) (base := w.heap.size) (ok := fun k_ => (True ∧ some k_ ≠ (.slice Ao39 t878.length co39 : Value).ownBlock)) (n := t882.length) (c := co44) ?_).2.2; exact (by (with_reducible repeat (first | apply Kd.S_alloc | apply Kd.S_drewN | apply Kd.S_drew)); exact (Kd.S_mono (Kd.S_far (p := ⟨gb885, 0, none⟩) (Kd.S_types HO884.out BK885.out (by decide)) (fun _ hk => hk.2) (.slice Ao44 t882.length co44)) (fun _ h_ => h_.1)))); (case side2 => exact (Kd.S_reads' HO884.out).2.1); rintro e w47 ⟨rfl, hb⟩; refine ⟨_, rfl, ?_⟩; have n0_ := Aside0.mk (Kd.S_below (by (with_reducible repeat (first | apply Kd.S_alloc | apply Kd.S_drewN | apply Kd.S_drew)); exact (Kd.S_mono (Kd.S_far (p := ⟨gb885, 0, none⟩) (Kd.S_types HO880.out BK885.out (by decide)) (fun _ hk => hk.2) (.slice Ao44 t882.length co44)) (fun _ h_ => h_.1))) hb); have n1_ := Aside0.mk (Kd.S_below (by (with_reducible repeat (first | apply Kd.S_alloc | apply Kd.S_drewN | apply Kd.S_drew)); exact (Kd.S_mono (Kd.S_far (p := ⟨gb885, 0, none⟩) (Kd.S_types HO884.out BK885.out (by decide)) (fun _ hk => hk.2) (.slice Ao44 t882.length co44)) (fun _ h_ => h_.1))) hb); have n2_ := Aside0.mk (blk_below (g := gb876) (o := .cells #[.slice A0_0 l0_0.length c0_0] 24 (0, 0)) (by (with_reducible repeat (first | refine blk_drewN ?_ _ | refine blk_drew ?_ | refine blk_alloc ?_ _)); refine blk_far ?_ NB876_885.out _; (with_reducible repeat (first | refine blk_drewN ?_ _ | refine blk_drew ?_ | refine blk_alloc ?_ _)); exact BK876.out) hb); have n3_ := Aside0.mk (blk_below (g := gb885) (o := .cells #[.slice Ao44 t882.length co44] 30 (0, 0)) (by (with_reducible repeat (first | refine blk_drewN ?_ _ | refine blk_drew ?_ | refine blk_alloc ?_ _)); refine blk_put (cs := #[.slice none 0 0]) ?_ 0 _ rfl; (with_reducible repeat (first | refine blk_drewN ?_ _ | refine blk_drew ?_ | refine blk_alloc ?_ _)); exact BK885.out) hb); have n4_ := Aside0.mk (below_step (by repeat (first | (with_reducible first | exact HB.out | apply below_alloc | apply pw_below_drewN | apply below_drew1 | refine below_set ?_ GE876.out | refine below_set ?_ GE885.out) | exact HB.out)) hb); clear HO880; clear HO884; clear BK876; clear BK885; clear HB; have HO880 := n0_; have HO884 := n1_; have BK876 := n2_; have BK885 := n3_; have HB := n4_; clear n0_ n1_ n2_ n3_ n4_; (try clear hb); (try clear hb2); (try clear hk); (try clear hi)))
        have n0_ := Aside0.mk (Kd.S_drew HO880.out)
        have n1_ := Aside0.mk (Kd.S_drew HO884.out)
        have n2_ := Aside0.mk (blk_drew BK876.out)
        have n3_ := Aside0.mk (blk_drew BK885.out)
        have n4_ := Aside0.mk (below_drew1 HB.out)
        clear HO880
        clear HO884
        clear BK876
        clear BK885
        clear HB
        have HO880 := n0_
        have HO884 := n1_
        have BK876 := n2_
        have BK885 := n3_
        have HB := n4_
        clear n0_ n1_ n2_ n3_ n4_
        refine start_ (n := 5) (S := fun w' => w'.cell? ⟨gb885, 0, none⟩ = some (.slice Ao44 t882.length co44) ∧ w'.cell? ⟨gb876, 0, none⟩ = some (.slice A0_0 l0_0.length c0_0)) (ds := []) #[false, false, false, false, false] (by kernel_rfl) rfl rfl ⟨(blk_cell BK885.out 0).trans rfl, (blk_cell BK876.out 0).trans rfl⟩ (fun hHeld => ?_)
        generalize w47.drew = w48 at HO880 HO884 BK876 BK885 HB hHeld ⊢
        refine take_ (i := 0) (N := some 26) (v := ?_) (a' := ?_) #[true, false, false, false, false] rfl rfl (by kernel_rfl) (fun _ _ _ h => h) (Or.inl ⟨by rfl, ?_⟩) hHeld ?_ ?_
        rotate_left
        · rintro w' ⟨s0, s1⟩
          go_simp
          with_reducible rfl
        rotate_left
        · simp only [Act.put, List.setIfInBounds_toArray, List.set_cons_zero, List.set_cons_succ, i64_w, i32_w]
          rfl
        refine take_ (i := 1) (N := some 27) (v := ?_) (a' := ?_) #[true, true, false, false, false] rfl rfl (by kernel_rfl) (fun _ _ _ h => h) (Or.inl ⟨by rfl, ?_⟩) hHeld ?_ ?_
        rotate_left
        · rintro w' ⟨s0, s1⟩
          go_simp
          with_reducible rfl
        rotate_left
        · simp only [Act.put, List.setIfInBounds_toArray, List.set_cons_zero, List.set_cons_succ, i64_w, i32_w]
          rfl
        refine one_ (i := 2) (N := some 28) #[true, true, true, false, false] rfl rfl (by kernel_rfl) (by decide) (fun K hK => ?_)
        refine goes_ Try.func31 (by kernel_rfl) rfl #[.agg #[.slice A0_0 l0_0.length c0_0]] (by rfl) rfl rfl (by (try simp only [List.map_toArray, List.map_cons, List.map_nil]); first | done | rfl | (simp only [List.length_drop, List.length_take]; rfl)) ?_
        with_reducible refine (laws_toTree.calls k _ _ l0_0 t887 _ ?side1 ?side2 A13.out).mono ?_
        (case side1 => repeat (first | exact (Kd.C_below HR0_0.out HB.out) | (with_reducible refine Kd.C_alloc ?_ _) | (with_reducible refine Kd.C_drewN ?_ _) | (with_reducible refine Kd.C_drew ?_)))
        (case side2 => exact HC0_0.out)
        rintro e w49 ⟨v888, rfl, ho0, hb⟩
        refine ⟨_, rfl, ?_⟩
        have n0_ := Aside0.mk (Kd.S_elder' (by (with_reducible repeat (first | apply Kd.S_alloc | apply Kd.S_drewN | apply Kd.S_drew)); exact HO880.out) (Kd.S_base ho0) hb)
        have n1_ := Aside0.mk (Kd.S_elder' (by (with_reducible repeat (first | apply Kd.S_alloc | apply Kd.S_drewN | apply Kd.S_drew)); exact HO884.out) (Kd.S_base ho0) hb)
        have n2_ := Aside0.mk (Kd.S_lower (Kd.S_new' (Kd.S_new' ho0 (Kd.S_lt (by (with_reducible repeat (first | apply Kd.S_alloc | apply Kd.S_drewN | apply Kd.S_drew)); exact HO880.out))) (Kd.S_lt (by (with_reducible repeat (first | apply Kd.S_alloc | apply Kd.S_drewN | apply Kd.S_drew)); exact HO884.out))) (below_size (by repeat (first | (with_reducible first | exact HB.out | apply below_alloc | apply pw_below_drewN | apply below_drew1 | refine below_set ?_ GE876.out | refine below_set ?_ GE885.out) | exact HB.out))))
        have n3_ := Aside0.mk (blk_below (g := gb876) (o := .cells #[.slice A0_0 l0_0.length c0_0] 24 (0, 0)) (by (with_reducible repeat (first | refine blk_drewN ?_ _ | refine blk_drew ?_ | refine blk_alloc ?_ _)); exact BK876.out) hb)
        have n4_ := Aside0.mk (blk_below (g := gb885) (o := .cells #[.slice Ao44 t882.length co44] 30 (0, 0)) (by (with_reducible repeat (first | refine blk_drewN ?_ _ | refine blk_drew ?_ | refine blk_alloc ?_ _)); exact BK885.out) hb)
        have n5_ := Aside0.mk (below_step (by repeat (first | (with_reducible first | exact HB.out | apply below_alloc | apply pw_below_drewN | apply below_drew1 | refine below_set ?_ GE876.out | refine below_set ?_ GE885.out) | exact HB.out)) hb)
        clear HO880
        clear HO884
        clear BK876
        clear BK885
        clear HB
        have HO880 := n0_
        have HO884 := n1_
        have HO889 := n2_
        have BK876 := n3_
        have BK885 := n4_
        have HB := n5_
        clear n0_ n1_ n2_ n3_ n4_ n5_
        (try clear hb)
        (try clear hb2)
        (try clear hk)
        (try clear hi)
        (try clear ho0)
        obtain ⟨Ao50, co50, eo50⟩ := Kd.S_slice HO889.out
        (first | subst eo50 | (injection eo50 with f1_ f2_ f3_; have f4_ := f1_.symm; have f5_ := f3_.symm; clear f1_ f2_ f3_; subst f4_; subst f5_))
        refine hK.out _ _ ⟨(blk_cell BK885.out 0).trans rfl, (blk_cell BK876.out 0).trans rfl⟩ (fun hHeld => ?_)
        clear hK K
        refine norm_ (a' := ?_) ?_ ?_
        rotate_left
        · show Act.put _ (some 28) _ = _
          simp only [Act.put, List.setIfInBounds_toArray, List.set_cons_zero, List.set_cons_succ, i64_w, i32_w]
          rfl
        refine one_ (i := 3) (N := some 29) #[true, true, true, true, false] rfl rfl (by kernel_rfl) (by decide) (fun K hK => ?_)
        refine goes_ Try.func34 (by kernel_rfl) rfl #[.agg #[.slice Ao44 t882.length co44], .agg #[.slice Ao50 t887.length co50]] (by rfl) rfl rfl (by (try simp only [List.map_toArray, List.map_cons, List.map_nil]); first | done | rfl | (simp only [List.length_drop, List.length_take]; rfl)) ?_
        with_reducible refine (laws_eqTree.calls k _ _ t882 _ _ t887 false _ ?side1 ?side2 ?side3 ?side4 A14.out).mono ?_
        (case side1 => repeat (first | exact (Kd.S_reads' HO884.out).2.2 | (with_reducible refine Kd.C_alloc ?_ _) | (with_reducible refine Kd.C_drewN ?_ _) | (with_reducible refine Kd.C_drew ?_)))
        (case side2 => exact (Kd.S_reads' HO884.out).2.1)
        (case side3 => repeat (first | exact (Kd.S_reads' HO889.out).2.2 | (with_reducible refine Kd.C_alloc ?_ _) | (with_reducible refine Kd.C_drewN ?_ _) | (with_reducible refine Kd.C_drew ?_)))
        (case side4 => exact (Kd.S_reads' HO889.out).2.1)
        rintro e w51 ⟨rfl, hb⟩
        refine ⟨_, rfl, ?_⟩
        have n0_ := Aside0.mk (Kd.S_below (by (with_reducible repeat (first | apply Kd.S_alloc | apply Kd.S_drewN | apply Kd.S_drew)); exact HO880.out) hb)
        have n1_ := Aside0.mk (Kd.S_below (by (with_reducible repeat (first | apply Kd.S_alloc | apply Kd.S_drewN | apply Kd.S_drew)); exact HO884.out) hb)
        have n2_ := Aside0.mk (Kd.S_below (by (with_reducible repeat (first | apply Kd.S_alloc | apply Kd.S_drewN | apply Kd.S_drew)); exact HO889.out) hb)
        have n3_ := Aside0.mk (blk_below (g := gb876) (o := .cells #[.slice A0_0 l0_0.length c0_0] 24 (0, 0)) (by (with_reducible repeat (first | refine blk_drewN ?_ _ | refine blk_drew ?_ | refine blk_alloc ?_ _)); exact BK876.out) hb)
        have n4_ := Aside0.mk (blk_below (g := gb885) (o := .cells #[.slice Ao44 t882.length co44] 30 (0, 0)) (by (with_reducible repeat (first | refine blk_drewN ?_ _ | refine blk_drew ?_ | refine blk_alloc ?_ _)); exact BK885.out) hb)
        have n5_ := Aside0.mk (below_step (by repeat (first | (with_reducible first | exact HB.out | apply below_alloc | apply pw_below_drewN | apply below_drew1 | refine below_set ?_ GE876.out | refine below_set ?_ GE885.out) | exact HB.out)) hb)
        clear HO880
        clear HO884
        clear HO889
        clear BK876
        clear BK885
        clear HB
        have HO880 := n0_
        have HO884 := n1_
        have HO889 := n2_
        have BK876 := n3_
        have BK885 := n4_
        have HB := n5_
        clear n0_ n1_ n2_ n3_ n4_ n5_
        (try clear hb)
        (try clear hb2)
        (try clear hk)
        (try clear hi)
        refine hK.out _ _ ⟨(blk_cell BK885.out 0).trans rfl, (blk_cell BK876.out 0).trans rfl⟩ (fun hHeld => ?_)
        clear hK K
        refine norm_ (a' := ?_) ?_ ?_
        rotate_left
        · show Act.put _ (some 29) _ = _
          simp only [Act.put, List.setIfInBounds_toArray, List.set_cons_zero, List.set_cons_succ, i64_w, i32_w]
          rfl
        refine pure_ (i := 4) (N := some 30) (v := ?_) (a' := ?_) #[true, true, true, true, true] rfl rfl (by kernel_rfl) (fun _ _ _ h => h) (Or.inl ⟨by rfl, ?_⟩) ?_ ?_
        rotate_left
        · intro w'
          go_simp
          with_reducible rfl
        rotate_left
        · simp only [Act.put, List.setIfInBounds_toArray, List.set_cons_zero, List.set_cons_succ, i64_w, i32_w]
          rfl
        refine done_ (by kernel_rfl) ?_
        try go_wp2
        go_ret
        exact ⟨by first | rfl | (simp [errW_none, errW_some] <;> rfl) | (simp [*, errW_none, errW_some] <;> rfl), by repeat (first | (with_reducible first | exact HB.out | apply below_alloc | apply pw_below_drewN | apply below_drew1 | refine below_set ?_ GE876.out | refine below_set ?_ GE885.out) | exact HB.out)⟩
    · rw [if_neg c12] at H
      have c12b0 : (t886.toList == t881.toList) = false := beq_eq_false_iff_ne.mpr c12
      have c12b1 : (t886.toList != t881.toList) = true := bne_iff_ne.mpr c12
      obtain rfl := Option.some.inj H
      go_enter Try.func12, Try.ntmps12
      go_wp2_with (first | ((with_reducible refine gate_dst (N := 2) rfl ?_); refine box_event ?hg (N := 2) ?hd (cs := #[.slice A0_0 l0_0.length c0_0]) (t := 24) ?hr ?_; (case hd => rfl); (case hg => rfl); (case hr => first | (go_simp; done) | (go_simp; rfl)); intro gb876 hg w52 hbox hb; have n0_ := Aside0.mk (below_step (by repeat (first | (with_reducible first | exact HB.out | apply below_alloc | apply pw_below_drewN | apply below_drew1) | exact HB.out)) hb); have n1_ := Aside0.mk (hbox); have n2_ := Aside0.mk ((by rw [hg]; exact (below_size (by repeat (first | (with_reducible first | exact HB.out | apply below_alloc | apply pw_below_drewN | apply below_drew1) | exact HB.out))) : w.heap.size ≤ gb876)); have n3_ := Aside0.mk ((by rw [hg]; exact (below_size (by repeat (first | (with_reducible first | exact HB.out | apply below_alloc | apply pw_below_drewN | apply below_drew1) | exact HB.out))) : w.heap.size ≤ gb876)); clear HB; have HB := n0_; have BK876 := n1_; have GW876 := n2_; have GE876 := n3_; clear n0_ n1_ n2_ n3_; clear hb hbox hg; have hcz53_0 : w52.cell? ⟨gb876, 0, none⟩ = some (.slice A0_0 l0_0.length c0_0) := (blk_cell BK876.out 0).trans rfl; have hfz53_0 := blk_frozen BK876.out 0) | ((with_reducible refine gate_callee (f := 28) rfl ?_); refine goesL_ (some 11) rfl rfl Try.func28 (by kernel_rfl) rfl #[.agg #[.slice A0_0 l0_0.length c0_0], .int .i64 1048576] rfl (by (try simp only [List.map_toArray, List.map_cons, List.map_nil]); first | done | rfl | (simp only [List.length_drop, List.length_take]; rfl)) ?_; (with_reducible refine (laws_szTree.calls k _ _ l0_0 1048576 t877 _ ?side1 ?side2 A3.out).mono ?_); (case side1 => repeat (first | exact (Kd.C_below HR0_0.out HB.out) | (with_reducible refine Kd.C_alloc ?_ _) | (with_reducible refine Kd.C_drewN ?_ _) | (with_reducible refine Kd.C_drew ?_))); (case side2 => exact HC0_0.out); rintro e w54 ⟨rfl, hb⟩; refine ⟨_, rfl, ?_⟩; have n0_ := Aside0.mk (blk_below (g := gb876) (o := .cells #[.slice A0_0 l0_0.length c0_0] 24 (0, 0)) (by (with_reducible repeat (first | refine blk_drewN ?_ _ | refine blk_drew ?_ | refine blk_alloc ?_ _)); exact BK876.out) hb); have n1_ := Aside0.mk (below_step (by repeat (first | (with_reducible first | exact HB.out | apply below_alloc | apply pw_below_drewN | apply below_drew1 | refine below_set ?_ GE876.out) | exact HB.out)) hb); clear BK876; clear HB; have BK876 := n0_; have HB := n1_; clear n0_ n1_; (try clear hb); (try clear hb2); (try clear hk); (try clear hi); have hcz55_0 : w54.cell? ⟨gb876, 0, none⟩ = some (.slice A0_0 l0_0.length c0_0) := (blk_cell BK876.out 0).trans rfl; have hfz55_0 := blk_frozen BK876.out 0) | ((with_reducible refine gate_callee (f := 31) rfl ?_); refine goesL_ (some 15) rfl rfl Try.func31 (by kernel_rfl) rfl #[.agg #[.slice A0_0 l0_0.length c0_0]] rfl (by (try simp only [List.map_toArray, List.map_cons, List.map_nil]); first | done | rfl | (simp only [List.length_drop, List.length_take]; rfl)) ?_; (with_reducible refine (laws_toTree.calls k _ _ l0_0 t878 _ ?side1 ?side2 A8.out).mono ?_); (case side1 => repeat (first | exact (Kd.C_below HR0_0.out HB.out) | (with_reducible refine Kd.C_alloc ?_ _) | (with_reducible refine Kd.C_drewN ?_ _) | (with_reducible refine Kd.C_drew ?_))); (case side2 => exact HC0_0.out); rintro e w56 ⟨v879, rfl, ho0, hb⟩; refine ⟨_, rfl, ?_⟩; have n0_ := Aside0.mk (Kd.S_lower ho0 (below_size (by repeat (first | (with_reducible first | exact HB.out | apply below_alloc | apply pw_below_drewN | apply below_drew1 | refine below_set ?_ GE876.out) | exact HB.out)))); have n1_ := Aside0.mk (blk_below (g := gb876) (o := .cells #[.slice A0_0 l0_0.length c0_0] 24 (0, 0)) (by (with_reducible repeat (first | refine blk_drewN ?_ _ | refine blk_drew ?_ | refine blk_alloc ?_ _)); exact BK876.out) hb); have n2_ := Aside0.mk (below_step (by repeat (first | (with_reducible first | exact HB.out | apply below_alloc | apply pw_below_drewN | apply below_drew1 | refine below_set ?_ GE876.out) | exact HB.out)) hb); clear BK876; clear HB; have HO880 := n0_; have BK876 := n1_; have HB := n2_; clear n0_ n1_ n2_; (try clear hb); (try clear hb2); (try clear hk); (try clear hi); (try clear ho0); obtain ⟨Ao57, co57, eo57⟩ := Kd.S_slice HO880.out; subst eo57) | ((with_reducible refine gate_callee (f := 59) rfl ?_); refine goesL_ (some 17) rfl rfl Try.func59 (by kernel_rfl) rfl #[.agg #[.slice Ao57 t878.length co57], .int .i64 a1] rfl (by (try simp only [List.map_toArray, List.map_cons, List.map_nil]); first | done | rfl | (simp only [List.length_drop, List.length_take]; rfl)) ?_; (with_reducible refine (spec_TreePath.calls k _ _ t878 a1 t881 _ ?side1 ?side2 A9.out).mono ?_); (case side1 => repeat (first | exact (Kd.S_reads' HO880.out).2.2 | (with_reducible refine Kd.C_alloc ?_ _) | (with_reducible refine Kd.C_drewN ?_ _) | (with_reducible refine Kd.C_drew ?_))); (case side2 => exact (Kd.S_reads' HO880.out).2.1); rintro e w58 ⟨rfl, hb⟩; refine ⟨_, rfl, ?_⟩; have n0_ := Aside0.mk (Kd.S_below (by (with_reducible repeat (first | apply Kd.S_alloc | apply Kd.S_drewN | apply Kd.S_drew)); exact HO880.out) hb); have n1_ := Aside0.mk (blk_below (g := gb876) (o := .cells #[.slice A0_0 l0_0.length c0_0] 24 (0, 0)) (by (with_reducible repeat (first | refine blk_drewN ?_ _ | refine blk_drew ?_ | refine blk_alloc ?_ _)); exact BK876.out) hb); have n2_ := Aside0.mk (below_step (by repeat (first | (with_reducible first | exact HB.out | apply below_alloc | apply pw_below_drewN | apply below_drew1 | refine below_set ?_ GE876.out) | exact HB.out)) hb); clear HO880; clear BK876; clear HB; have HO880 := n0_; have BK876 := n1_; have HB := n2_; clear n0_ n1_ n2_; (try clear hb); (try clear hb2); (try clear hk); (try clear hi); have hcz59_0 : w58.cell? ⟨gb876, 0, none⟩ = some (.slice A0_0 l0_0.length c0_0) := (blk_cell BK876.out 0).trans rfl; have hfz59_0 := blk_frozen BK876.out 0) | ((with_reducible refine gate_callee (f := 31) rfl ?_); refine goesL_ (some 19) rfl rfl Try.func31 (by kernel_rfl) rfl #[.agg #[.slice A0_0 l0_0.length c0_0]] rfl (by (try simp only [List.map_toArray, List.map_cons, List.map_nil]); first | done | rfl | (simp only [List.length_drop, List.length_take]; rfl)) ?_; (with_reducible refine (laws_toTree.calls k _ _ l0_0 t882 _ ?side1 ?side2 A10.out).mono ?_); (case side1 => repeat (first | exact (Kd.C_below HR0_0.out HB.out) | (with_reducible refine Kd.C_alloc ?_ _) | (with_reducible refine Kd.C_drewN ?_ _) | (with_reducible refine Kd.C_drew ?_))); (case side2 => exact HC0_0.out); rintro e w60 ⟨v883, rfl, ho0, hb⟩; refine ⟨_, rfl, ?_⟩; have n0_ := Aside0.mk (Kd.S_elder' (by (with_reducible repeat (first | apply Kd.S_alloc | apply Kd.S_drewN | apply Kd.S_drew)); exact HO880.out) (Kd.S_base ho0) hb); have n1_ := Aside0.mk (Kd.S_lower (Kd.S_new' ho0 (Kd.S_lt (by (with_reducible repeat (first | apply Kd.S_alloc | apply Kd.S_drewN | apply Kd.S_drew)); exact HO880.out))) (below_size (by repeat (first | (with_reducible first | exact HB.out | apply below_alloc | apply pw_below_drewN | apply below_drew1 | refine below_set ?_ GE876.out) | exact HB.out)))); have n2_ := Aside0.mk (blk_below (g := gb876) (o := .cells #[.slice A0_0 l0_0.length c0_0] 24 (0, 0)) (by (with_reducible repeat (first | refine blk_drewN ?_ _ | refine blk_drew ?_ | refine blk_alloc ?_ _)); exact BK876.out) hb); have n3_ := Aside0.mk (below_step (by repeat (first | (with_reducible first | exact HB.out | apply below_alloc | apply pw_below_drewN | apply below_drew1 | refine below_set ?_ GE876.out) | exact HB.out)) hb); clear HO880; clear BK876; clear HB; have HO880 := n0_; have HO884 := n1_; have BK876 := n2_; have HB := n3_; clear n0_ n1_ n2_ n3_; (try clear hb); (try clear hb2); (try clear hk); (try clear hi); (try clear ho0)) | ((with_reducible refine gate_dst (N := 7) rfl ?_); refine box_event ?hg (N := 7) ?hd (cs := #[.slice none 0 0]) (t := 30) ?hr ?_; (case hd => rfl); (case hg => rfl); (case hr => first | (go_simp; done) | (go_simp; rfl)); intro gb885 hg w61 hbox hb; have n0_ := Aside0.mk (Kd.S_below (by (with_reducible repeat (first | apply Kd.S_alloc | apply Kd.S_drewN | apply Kd.S_drew)); exact HO880.out) hb); have n1_ := Aside0.mk (Kd.S_below (by (with_reducible repeat (first | apply Kd.S_alloc | apply Kd.S_drewN | apply Kd.S_drew)); exact HO884.out) hb); have n2_ := Aside0.mk (blk_below (g := gb876) (o := .cells #[.slice A0_0 l0_0.length c0_0] 24 (0, 0)) (by (with_reducible repeat (first | refine blk_drewN ?_ _ | refine blk_drew ?_ | refine blk_alloc ?_ _)); exact BK876.out) hb); have n3_ := Aside0.mk (below_step (by repeat (first | (with_reducible first | exact HB.out | apply below_alloc | apply pw_below_drewN | apply below_drew1 | refine below_set ?_ GE876.out) | exact HB.out)) hb); have n4_ := Aside0.mk (hbox); have n5_ := Aside0.mk ((by rw [hg]; exact (below_size (by repeat (first | (with_reducible first | exact HB.out | apply below_alloc | apply pw_below_drewN | apply below_drew1 | refine below_set ?_ GE876.out) | exact HB.out))) : w.heap.size ≤ gb885)); have n6_ := Aside0.mk ((by rw [hg]; exact (below_size (by repeat (first | (with_reducible first | exact HB.out | apply below_alloc | apply pw_below_drewN | apply below_drew1 | refine below_set ?_ GE876.out) | exact HB.out))) : w.heap.size ≤ gb885)); have n7_ := Aside0.mk ((by rw [hg]; exact Nat.ne_of_lt (blk_lt (g := gb876) (o := .cells #[.slice A0_0 l0_0.length c0_0] 24 (0, 0)) (by (with_reducible repeat (first | refine blk_drewN ?_ _ | refine blk_drew ?_ | refine blk_alloc ?_ _)); exact BK876.out)) : gb876 ≠ gb885)); have n8_ := Aside0.mk ((by rw [hg]; exact Nat.ne_of_gt (blk_lt (g := gb876) (o := .cells #[.slice A0_0 l0_0.length c0_0] 24 (0, 0)) (by (with_reducible repeat (first | refine blk_drewN ?_ _ | refine blk_drew ?_ | refine blk_alloc ?_ _)); exact BK876.out)) : gb885 ≠ gb876)); clear HO880; clear HO884; clear BK876; clear HB; have HO880 := n0_; have HO884 := n1_; have BK876 := n2_; have HB := n3_; have BK885 := n4_; have GW885 := n5_; have GE885 := n6_; have NB876_885 := n7_; have NB885_876 := n8_; clear n0_ n1_ n2_ n3_ n4_ n5_ n6_ n7_ n8_; clear hb hbox hg; obtain ⟨Ao62, co62, eo62⟩ := Kd.S_slice HO884.out; subst eo62; have hnb63 := NB885_876.out; have hnc63 := NB876_885.out; have hcz64_0 : w61.cell? ⟨gb885, 0, none⟩ = some (.slice none 0 0) := (blk_cell BK885.out 0).trans rfl; have hfz64_0 := blk_frozen BK885.out 0) | ((with_reducible refine gate_callee (f := 60) rfl ?_); refine goesL_ (some 22) rfl rfl Try.func60 (by kernel_rfl) rfl #[.agg #[.slice Ao62 t882.length co62], .int .i64 a1] rfl (by (try simp only [List.map_toArray, List.map_cons, List.map_nil]); first | done | rfl | (simp only [List.length_drop, List.length_take]; rfl)) ?_; (with_reducible refine (impl_TreePath.calls k _ _ t882 a1 t886 _ ?side1 ?side2 A11.out).mono ?_); (case side1 => refine (Kd.S_reads' (e := 69) (base := w.heap.size) (ok := fun k_ => (True ∧ some k_ ≠ (.slice Ao57 t878.length co57 : Value).ownBlock)) (n := t882.length) (c := co62) ?_).2.2; exact (by (with_reducible repeat (first | apply Kd.S_alloc | apply Kd.S_drewN | apply Kd.S_drew)); exact (Kd.S_mono (Kd.S_far (p := ⟨gb885, 0, none⟩) (Kd.S_types HO884.out BK885.out (by decide)) (fun _ hk => hk.2) (.slice Ao62 t882.length co62)) (fun _ h_ => h_.1)))); (case side2 => exact (Kd.S_reads' HO884.out).2.1); rintro e w65 ⟨rfl, hb⟩; refine ⟨_, rfl, ?_⟩; have n0_ := Aside0.mk (Kd.S_below (by (with_reducible repeat (first | apply Kd.S_alloc | apply Kd.S_drewN | apply Kd.S_drew)); exact (Kd.S_mono (Kd.S_far (p := ⟨gb885, 0, none⟩) (Kd.S_types HO880.out BK885.out (by decide)) (fun _ hk => hk.2) (.slice Ao62 t882.length co62)) (fun _ h_ => h_.1))) hb); have n1_ := Aside0.mk (Kd.S_below (by (with_reducible repeat (first | apply Kd.S_alloc | apply Kd.S_drewN | apply Kd.S_drew)); exact (Kd.S_mono (Kd.S_far (p := ⟨gb885, 0, none⟩) (Kd.S_types HO884.out BK885.out (by decide)) (fun _ hk => hk.2) (.slice Ao62 t882.length co62)) (fun _ h_ => h_.1))) hb); have n2_ := Aside0.mk (blk_below (g := gb876) (o := .cells #[.slice A0_0 l0_0.length c0_0] 24 (0, 0)) (by (with_reducible repeat (first | refine blk_drewN ?_ _ | refine blk_drew ?_ | refine blk_alloc ?_ _)); refine blk_far ?_ NB876_885.out _; (with_reducible repeat (first | refine blk_drewN ?_ _ | refine blk_drew ?_ | refine blk_alloc ?_ _)); exact BK876.out) hb); have n3_ := Aside0.mk (blk_below (g := gb885) (o := .cells #[.slice Ao62 t882.length co62] 30 (0, 0)) (by (with_reducible repeat (first | refine blk_drewN ?_ _ | refine blk_drew ?_ | refine blk_alloc ?_ _)); refine blk_put (cs := #[.slice none 0 0]) ?_ 0 _ rfl; (with_reducible repeat (first | refine blk_drewN ?_ _ | refine blk_drew ?_ | refine blk_alloc ?_ _)); exact BK885.out) hb); have n4_ := Aside0.mk (below_step (by repeat (first | (with_reducible first | exact HB.out | apply below_alloc | apply pw_below_drewN | apply below_drew1 | refine below_set ?_ GE876.out | refine below_set ?_ GE885.out) | exact HB.out)) hb); clear HO880; clear HO884; clear BK876; clear BK885; clear HB; have HO880 := n0_; have HO884 := n1_; have BK876 := n2_; have BK885 := n3_; have HB := n4_; clear n0_ n1_ n2_ n3_ n4_; (try clear hb); (try clear hb2); (try clear hk); (try clear hi)))
      go_ret
      exact ⟨by first | rfl | (simp [errW_none, errW_some] <;> rfl) | (simp [*, errW_none, errW_some] <;> rfl), by repeat (first | (with_reducible first | exact HB.out | apply below_alloc | apply pw_below_drewN | apply below_drew1 | refine below_set ?_ GE876.out | refine below_set ?_ GE885.out) | exact HB.out)⟩
end Go.Proofs.Ytlaichooanflaaa.Q
namespace Go.Proofs.Ytlaichooanflaaa.Opened
open Go.ChangeShapes Go.WideShapes Go.Deep Go.RowKit Go.Proofs.YtlaichooanflaaaW.PrintWords
/-- Cells of type t that can be read as data are of kind d; and what is good of what they say. -/
def Opens (P : Program) (t : TypeId) {α : Type} (d : Kd α) (good : α → Prop) : Prop :=
  P.cellsOf t = d.sz ∧ ∀ (H : Type) (enc : TypeId × Value → H) (w : World) (base : Nat) (spare : Nat → Bool) (held : Bool) (fuel : Nat) (cs : List Value) (x : DataW H × List MemPlace),
    DataW.trod enc P w base spare held fuel t cs = some x → ∃ a, d.K w a cs ∧ good a
section
variable {P : Program} {t e : TypeId}
theorem opens_int {k : IntKind} (hu : P.underlying t = some (.int k)) (hc : P.cellsOf t = 1) : Opens P t (Kd.int k) (fun n => (Lit.int k n).wf = true) := by
  refine ⟨hc, fun H enc w base spare held fuel cs x h => ?_⟩
  cases fuel with
  | zero => simp [DataW.trod] at h
  | succ fuel =>
    unfold DataW.trod at h
    rw [hu] at h
    split at h
    all_goals first | (cases h; done) | skip
    all_goals try simp_all
    obtain ⟨⟨rfl, h1⟩, _⟩ := h
    exact ⟨_, rfl, h1⟩
theorem opens_string (hu : P.underlying t = some .string) (hc : P.cellsOf t = 1) : Opens P t Kd.string (fun s => s.size ≤ 9223372036854775807) := by
  refine ⟨hc, fun H enc w base spare held fuel cs x h => ?_⟩
  cases fuel with
  | zero => simp [DataW.trod] at h
  | succ fuel =>
    unfold DataW.trod at h
    rw [hu] at h
    split at h
    all_goals first | (cases h; done) | skip
    all_goals try simp_all
    obtain ⟨h1, _⟩ := h
    simp only [maxLen] at h1
    exact ⟨_, rfl, h1⟩
theorem opens_slice {α : Type} {d : Kd α} {good : α → Prop} {e' : Nat} (hu : P.underlying t = some (.slice e)) (hc : P.cellsOf t = 1) (he : Opens P e d good) : Opens P t (Kd.slice e' d) (fun l => l.length ≤ 9223372036854775807 ∧ ∀ a ∈ l, good a) := by
  refine ⟨hc, fun H enc w base spare held fuel cs x h => ?_⟩
  rcases open_slice hu h with ⟨rfl, _⟩ | ⟨a, len, cap, m, n, D, Pl, rfl, hb, hl, hm, hmm, _, hi⟩
  · exact ⟨[], ⟨none, 0, rfl, Nat.le_refl _, rfl, by simp, fun h0 => absurd h0 (by simp)⟩, by simp, by simp⟩
  · have hlm : len ≤ m := by
      rw [hmm]
      split <;> omega
    have key : ∀ i, i < len → ∃ y cs', w.cells? base (a.add (i * d.sz)) d.sz = some cs' ∧ d.K w y cs' ∧ good y := by
      intro i hil
      obtain ⟨cs', h1, h2⟩ := hi i (by omega)
      rw [he.1] at h1
      obtain ⟨y, hy, hg⟩ := he.2 _ _ _ _ _ _ _ _ _ h2
      exact ⟨y, cs', h1, hy, hg⟩
    clear hi
    have build : ∀ k, k ≤ len → ∃ l : List α, l.length = k ∧ (∀ y ∈ l, good y) ∧ ∀ j p, l[j]? = some p → ∃ c, c.length = d.sz ∧ d.K w p c ∧ ∀ i u, c[i]? = some u → w.cell? (a.add (j * d.sz + i)) = some u := by
      intro k
      induction k with
      | zero => intro _; exact ⟨[], rfl, by simp, fun j p hj => by simp at hj⟩
      | succ k ih =>
        intro hk
        obtain ⟨l, hlen, hgood, hcell⟩ := ih (by omega)
        obtain ⟨y, cs', h1, hy, hg⟩ := key k (by omega)
        refine ⟨l ++ [y], by simp [hlen], ?_, ?_⟩
        · intro z hz
          rcases List.mem_append.1 hz with hz | hz
          · exact hgood z hz
          · rw [List.mem_singleton.1 hz]; exact hg
        · intro j p hj
          by_cases hjk : j < k
          · rw [List.getElem?_append_left (by omega)] at hj
            exact hcell j p hj
          · have hjl : j = k := by
              have := (List.getElem?_eq_some_iff.1 hj).1
              simp [hlen] at this
              omega
            subst hjl
            rw [List.getElem?_append_right (by omega), hlen, Nat.sub_self] at hj
            obtain rfl : y = p := by simpa using hj
            obtain ⟨_, hcl, hat⟩ := World.cells?_some h1
            refine ⟨cs', hcl, hy, fun i u hu => ?_⟩
            have hil : i < d.sz := by rw [← hcl]; exact (List.getElem?_eq_some_iff.1 hu).1
            have := hat i hil
            rw [← Go.Deep.add_add, this, hu]
    obtain ⟨l, hlen, hgood, hcell⟩ := build len (Nat.le_refl _)
    have hmx : maxLen = 9223372036854775807 := rfl
    exact ⟨l, ⟨some a, cap, by rw [hlen], by omega, rfl, by omega, fun _ => ⟨a, rfl, hcell⟩⟩, by omega, hgood⟩
/-- Fields in line from an offset on. -/
def OpensF (P : Program) (fs : List Field) (off : Nat) {α : Type} (d : Kd α) (good : α → Prop) : Prop :=
  ∀ (H : Type) (enc : TypeId × Value → H) (w : World) (base : Nat) (spare : Nat → Bool) (held : Bool) (fuel : Nat) (cs : List Value),
    off + d.sz ≤ cs.length → (∀ f ∈ fs, ∃ x, DataW.trod enc P w base spare held fuel f.type ((cs.drop f.offset).take (P.cellsOf f.type)) = some x) → ∃ a, d.K w a ((cs.drop off).take d.sz) ∧ good a
theorem opensF_one {α : Type} {d : Kd α} {good : α → Prop} {f : Field} {off : Nat} (h : Opens P f.type d good) (ho : f.offset = off) : OpensF P [f] off d good := by
  intro H enc w base spare held fuel cs hl hf
  obtain ⟨x, hx⟩ := hf f List.mem_cons_self
  rw [ho, h.1] at hx
  exact h.2 _ _ _ _ _ _ _ _ _ hx
theorem opensF_cons {α β : Type} {d : Kd α} {d2 : Kd β} {good : α → Prop} {good2 : β → Prop} {f : Field} {fs : List Field} {off : Nat} (h : Opens P f.type d good) (ho : f.offset = off) (h2 : OpensF P fs (off + d.sz) d2 good2) :
    OpensF P (f :: fs) off (Kd.pair d d2) (fun x => good x.1 ∧ good2 x.2) := by
  intro H enc w base spare held fuel cs hl hf
  have hsz : (Kd.pair d d2).sz = d.sz + d2.sz := rfl
  rw [hsz] at hl ⊢
  obtain ⟨x, hx⟩ := hf f List.mem_cons_self
  rw [ho, h.1] at hx
  obtain ⟨a, ha, hg⟩ := h.2 _ _ _ _ _ _ _ _ _ hx
  obtain ⟨b, hb, hg2⟩ := h2 H enc w base spare held fuel cs (by omega) (fun f hf' => hf f (List.mem_cons_of_mem _ hf'))
  refine ⟨(a, b), ⟨_, _, ?_, ha, hb⟩, hg, hg2⟩
  rw [← List.drop_drop, List.take_add]
theorem opens_struct {α β : Type} {d : Kd α} {good : α → Prop} {fs : Array Field} (f : β → α) (g : α → β) (hfg : ∀ a, f (g a) = a) (hu : P.underlying t = some (.struct fs)) (hc : P.cellsOf t = d.sz) (h : OpensF P fs.toList 0 d good) : Opens P t (Kd.iso d f) (fun x => good (f x)) := by
  refine ⟨hc, fun H enc w base spare held fuel cs x hx => ?_⟩
  obtain ⟨xs, n, _, _, hl, hlen, hf⟩ := DataW.trod_struct hu hx
  have hall : ∀ f ∈ fs.toList, ∃ x, DataW.trod enc P w base spare held n f.type ((cs.drop f.offset).take (P.cellsOf f.type)) = some x := by
    intro f hm
    obtain ⟨j, hj, rfl⟩ := List.mem_iff_getElem.1 hm
    have hj' : j < fs.size := by simpa using hj
    have h1 := hf j (fs[j]) (Array.getElem?_eq_getElem hj')
    have hjx : j < xs.length := by omega
    rw [List.getElem?_eq_getElem hjx] at h1
    refine ⟨xs[j], ?_⟩
    have h2 : fs.toList[j] = fs[j] := by simp
    rw [h2]
    exact h1
  obtain ⟨a, ha, hg⟩ := h H enc w base spare held n cs (by omega) hall
  rw [List.drop_zero, List.take_of_length_le (by omega)] at ha
  exact ⟨g a, by show d.K w (f (g a)) cs; rw [hfg]; exact ha, by show good (f (g a)); rw [hfg]; exact hg⟩
end
/-- A whole argument. -/
theorem open_arg {H : Type} {enc : TypeId × Value → H} {P : Program} {t : TypeId} {α : Type} {d : Kd α} {good : α → Prop} (h : Opens P t d good) {w : World} {base : Nat} {spare : Nat → Bool} {held : Bool} {v : Value} {x : DataW H} {ps : List MemPlace}
    (hx : DataW.Trod enc P w base spare held t v x ps) : ∃ a, d.K w a v.cells.toList ∧ good a := by
  obtain ⟨fuel, hf⟩ := hx
  exact h.2 _ _ _ _ _ _ _ _ _ hf
end Go.Proofs.Ytlaichooanflaaa.Opened
namespace Go.Proofs.Ytlaichooanflaaa.Root
/-- A list without twofold elements that lies in another one is no longer. -/
theorem sub_len : ∀ (A B : List Nat), A.Nodup → (∀ x ∈ A, x ∈ B) → A.length ≤ B.length
  | [], _, _, _ => Nat.zero_le _
  | a :: A, B, h, hs => by
    have ha : a ∈ B := hs a List.mem_cons_self
    have hn := List.nodup_cons.1 h
    have h1 := sub_len A (B.erase a) hn.2 (fun x hx => (List.mem_erase_of_ne (fun e => by rw [e] at hx; exact hn.1 hx)).2 (hs x (List.mem_cons_of_mem _ hx)))
    rw [List.length_erase_of_mem ha] at h1
    have h2 : 0 < B.length := List.length_pos_of_mem ha
    simp only [List.length_cons]
    omega
theorem sub_eq {A B : List Nat} (hA : A.Nodup) (hs : ∀ x ∈ A, x ∈ B) (hl : B.length ≤ A.length) : ∀ x ∈ B, x ∈ A := by
  intro y hy
  by_cases h : y ∈ A
  · exact h
  · have h1 := sub_len (y :: A) B (List.nodup_cons.2 ⟨h, hA⟩) (by
      intro x hx
      rcases List.mem_cons.1 hx with rfl | hx
      · exact hy
      · exact hs x hx)
    simp only [List.length_cons] at h1
    omega
section
variable (K : Nat → List Nat)
/-- All that is walked over, from a node on, at most n deeper. -/
def W : Nat → Nat → List Nat
  | 0, i => [i]
  | n + 1, i => i :: (K i).flatMap (fun j => W n j)
/-- .. level by level. -/
def V : Nat → List Nat → List Nat
  | 0, l => l
  | n + 1, l => l ++ V n (l.flatMap K)
theorem len_W (n i : Nat) : (W K (n + 1) i).length = 1 + ((K i).map fun j => (W K n j).length).sum := by
  rw [W, List.length_cons, List.length_flatMap]
  omega
theorem sum_flat (f : Nat → Nat) : ∀ l : List Nat, ((l.flatMap K).map f).sum = (l.map fun i => ((K i).map f).sum).sum
  | [] => rfl
  | a :: l => by
    rw [List.flatMap_cons, List.map_append, List.sum_append, sum_flat f l, List.map_cons, List.sum_cons]
theorem sum_one (f : Nat → Nat) : ∀ l : List Nat, (l.map fun i => 1 + f i).sum = l.length + (l.map f).sum
  | [] => rfl
  | a :: l => by
    have := sum_one f l
    simp only [List.map_cons, List.sum_cons, List.length_cons]
    omega
theorem sum_W : ∀ (n : Nat) (l : List Nat), (l.map fun i => (W K n i).length).sum = (V K n l).length
  | 0, l => by
    rw [V]
    induction l with
    | nil => rfl
    | cons a l ih => rw [List.map_cons, List.sum_cons, ih, List.length_cons, W]; simp; omega
  | n + 1, l => by
    have h : (fun i => (W K (n + 1) i).length) = fun i => 1 + ((K i).map fun j => (W K n j).length).sum := by
      funext i
      exact len_W K n i
    rw [h, sum_one, V, List.length_append, ← sum_W n (l.flatMap K), sum_flat]
/-- From x one comes to i in k steps up. -/
def Up : Nat → Nat → Nat → Prop
  | 0, x, i => x = i
  | k + 1, x, i => ∃ y, x ∈ K y ∧ Up k y i
def L : Nat → List Nat
  | 0 => [0]
  | k + 1 => (L k).flatMap K
theorem mem_L : ∀ (k x : Nat), x ∈ L K k ↔ Up K k x 0
  | 0, x => by simp [L, Up]
  | k + 1, x => by
    rw [L, List.mem_flatMap, Up]
    constructor
    · rintro ⟨y, hy, hx⟩
      exact ⟨y, hx, (mem_L k y).1 hy⟩
    · rintro ⟨y, hx, hy⟩
      exact ⟨y, (mem_L k y).2 hy, hx⟩
theorem mem_V : ∀ (n j x : Nat), x ∈ V K n (L K j) ↔ ∃ k, j ≤ k ∧ k ≤ j + n ∧ Up K k x 0
  | 0, j, x => by
    rw [V, mem_L]
    constructor
    · intro h
      exact ⟨j, Nat.le_refl _, Nat.le_refl _, h⟩
    · rintro ⟨k, h1, h2, h⟩
      obtain rfl : k = j := by omega
      exact h
  | n + 1, j, x => by
    rw [V, List.mem_append, mem_L, show (L K j).flatMap K = L K (j + 1) from rfl, mem_V n (j + 1) x]
    constructor
    · rintro (h | ⟨k, h1, h2, h⟩)
      · exact ⟨j, Nat.le_refl _, by omega, h⟩
      · exact ⟨k, by omega, by omega, h⟩
    · rintro ⟨k, h1, h2, h⟩
      by_cases e : k = j
      · subst e; exact .inl h
      · exact .inr ⟨k, by omega, by omega, h⟩
theorem L_some : ∀ (k j : Nat), j ≤ k → L K k ≠ [] → L K j ≠ []
  | 0, j, hj, h => by obtain rfl : j = 0 := by omega
                      exact h
  | k + 1, j, hj, h => by
    by_cases e : j = k + 1
    · subst e; exact h
    · refine L_some k j (by omega) (fun h0 => h ?_)
      rw [L, h0]
      rfl
theorem len_V : ∀ (n j : Nat), L K (j + n) ≠ [] → n + 1 ≤ (V K n (L K j)).length
  | 0, j, h => by
    rw [V]
    exact List.length_pos_iff.2 h
  | n + 1, j, h => by
    rw [V, List.length_append, show (L K j).flatMap K = L K (j + 1) from rfl]
    have h1 := len_V n (j + 1) (by rw [show j + 1 + n = j + (n + 1) by omega]; exact h)
    have h2 : 0 < (L K j).length := List.length_pos_iff.2 (L_some K _ j (by omega) h)
    omega
end
/-- Each node is named once, and the top not at all. -/
structure Once (K : Nat → List Nat) (N : Nat) : Prop where
  one : ∀ x y y', x ∈ K y → x ∈ K y' → y = y'
  nodup : ∀ y, (K y).Nodup
  top : ∀ y, 0 ∉ K y
  low : ∀ y x, x ∈ K y → x < N
  pos : 0 < N
section
variable {K : Nat → List Nat} {N : Nat}
theorem up_same (h : Once K N) : ∀ (k j x : Nat), Up K k x 0 → Up K j x 0 → k = j
  | 0, 0, _, _, _ => rfl
  | 0, j + 1, x, h1, ⟨y, hy, _⟩ => by rw [show x = 0 from h1] at hy; exact absurd hy (h.top y)
  | k + 1, 0, x, ⟨y, hy, _⟩, h2 => by rw [show x = 0 from h2] at hy; exact absurd hy (h.top y)
  | k + 1, j + 1, x, ⟨y, hy, h1⟩, ⟨y', hy', h2⟩ => by
    obtain rfl := h.one x y y' hy hy'
    rw [up_same h k j y h1 h2]
theorem nodup_L (h : Once K N) : ∀ k, (L K k).Nodup
  | 0 => by simp [L]
  | k + 1 => by
    rw [L, List.Nodup, List.pairwise_flatMap]
    refine ⟨fun a _ => h.nodup a, (nodup_L h k).imp ?_⟩
    intro a b hab x hx y hy e
    subst e
    exact hab (h.one x a b hx hy)
theorem nodup_V (h : Once K N) : ∀ n j, (V K n (L K j)).Nodup
  | 0, j => nodup_L h j
  | n + 1, j => by
    rw [V, show (L K j).flatMap K = L K (j + 1) from rfl, List.nodup_append]
    refine ⟨nodup_L h j, nodup_V h n (j + 1), ?_⟩
    intro a ha b hb e
    subst e
    obtain ⟨k, h1, _, h3⟩ := (mem_V K n (j + 1) a).1 hb
    have := up_same h _ _ a ((mem_L K j a).1 ha) h3
    omega
theorem up_lt (h : Once K N) {k x : Nat} (hx : Up K k x 0) : x < N := by
  cases k with
  | zero => rw [show x = 0 from hx]; exact h.pos
  | succ k => obtain ⟨y, hy, _⟩ := hx; exact h.low y x hy
/-- The way up is short. -/
theorem up_le (h : Once K N) {k x : Nat} (hx : Up K k x 0) : k < N := by
  have h1 : L K (0 + k) ≠ [] := by
    intro e
    have := (mem_L K k x).2 hx
    rw [Nat.zero_add] at e
    rw [e] at this
    cases this
  have h2 := len_V K k 0 h1
  have h3 := sub_len _ (List.range N) (nodup_V h k 0) (by
    intro y hy
    obtain ⟨_, _, _, hu⟩ := (mem_V K k 0 y).1 hy
    exact List.mem_range.2 (up_lt h hu))
  rw [List.length_range] at h3
  omega
/-- The walk from the top is as long as there are live nodes, just if all these come to the top. -/
theorem walk_all (h : Once K N) (live : Nat → Bool) (h0 : live 0 = true) (hl : ∀ y x, x ∈ K y → live x = true) (n : Nat) :
    (W K n 0).length = ((List.range N).filter live).length ↔ ∀ x, x < N → live x = true → ∃ k, k ≤ n ∧ Up K k x 0 := by
  have e : (W K n 0).length = (V K n (L K 0)).length := by
    have := sum_W K n [0]
    simpa [L] using this
  have hA := nodup_V h n 0
  have hB : ((List.range N).filter live).Nodup := List.Pairwise.filter _ List.nodup_range
  have hs : ∀ x ∈ V K n (L K 0), x ∈ (List.range N).filter live := by
    intro x hx
    obtain ⟨k, _, _, hu⟩ := (mem_V K n 0 x).1 hx
    rw [List.mem_filter, List.mem_range]
    refine ⟨up_lt h hu, ?_⟩
    cases k with
    | zero => rw [show x = 0 from hu]; exact h0
    | succ k => obtain ⟨y, hy, _⟩ := hu; exact hl y x hy
  rw [e]
  constructor
  · intro hlen x hx hlv
    obtain ⟨k, _, h2, hu⟩ := (mem_V K n 0 x).1 (sub_eq hA hs (by omega) x (List.mem_filter.2 ⟨List.mem_range.2 hx, hlv⟩))
    exact ⟨k, by omega, hu⟩
  · intro hall
    have h1 := sub_len _ _ hA hs
    have h2 := sub_len _ (V K n (L K 0)) hB (by
      intro x hx
      rw [List.mem_filter, List.mem_range] at hx
      obtain ⟨k, hk, hu⟩ := hall x hx.1 hx.2
      exact (mem_V K n 0 x).2 ⟨k, Nat.zero_le _, by omega, hu⟩)
    omega
end
def Reach (K : Nat → List Nat) (x : Nat) : Prop := ∃ k, Up K k x 0
theorem reach_top (K : Nat → List Nat) : Reach K 0 := ⟨0, rfl⟩
theorem count_le {l : List Nat} : l.Nodup ↔ ∀ x, l.count x ≤ 1 := by
  constructor
  · intro h x
    by_cases hx : x ∈ l
    · rw [List.Nodup.count h, if_pos hx]; exact Nat.le_refl _
    · rw [List.count_eq_zero.2 hx]; omega
  · intro h
    induction l with
    | nil => exact List.nodup_nil
    | cons a l ih =>
      rw [List.nodup_cons]
      refine ⟨fun ha => ?_, ih (fun x => Nat.le_trans (List.count_le_count_cons) (h x))⟩
      have h1 := h a
      rw [List.count_cons_self] at h1
      have := List.count_pos_iff.2 ha
      omega
section
variable {K : Nat → List Nat} {N : Nat}
theorem mem_all (hout : ∀ y, N ≤ y → K y = []) (x : Nat) : x ∈ (List.range N).flatMap K ↔ ∃ y, x ∈ K y := by
  rw [List.mem_flatMap]
  constructor
  · rintro ⟨y, _, h⟩; exact ⟨y, h⟩
  · rintro ⟨y, h⟩
    refine ⟨y, List.mem_range.2 ?_, h⟩
    by_cases e : y < N
    · exact e
    · rw [hout y (by omega)] at h; cases h
theorem once_of_nodup (hpos : 0 < N) (hlow : ∀ y x, x ∈ K y → 1 ≤ x ∧ x < N) (hout : ∀ y, N ≤ y → K y = []) (h : ((List.range N).flatMap K).Nodup) : Once K N := by
  rw [List.Nodup, List.pairwise_flatMap] at h
  obtain ⟨h1, h2⟩ := h
  have small : ∀ x y, x ∈ K y → y < N := by
    intro x y hx
    by_cases e : y < N
    · exact e
    · rw [hout y (by omega)] at hx; cases hx
  have apart : ∀ x y y', x ∈ K y → x ∈ K y' → ¬ y < y' := by
    intro x y y' hx hx' hlt
    have h3 := List.pairwise_iff_getElem.1 h2 y y' (by rw [List.length_range]; exact small x y hx) (by rw [List.length_range]; exact small x y' hx') hlt
    rw [List.getElem_range, List.getElem_range] at h3
    exact h3 x hx x hx' rfl
  refine ⟨fun x y y' hx hx' => ?_, fun y => ?_, fun y hy => ?_, fun y x hx => (hlow y x hx).2, hpos⟩
  · have a1 := apart x y y' hx hx'
    have a2 := apart x y' y hx' hx
    omega
  · by_cases e : y < N
    · exact h1 y (List.mem_range.2 e)
    · rw [hout y (by omega)]; exact List.nodup_nil
  · have := (hlow y 0 hy).1
    omega
theorem nodup_of_once (h : Once K N) : ((List.range N).flatMap K).Nodup := by
  rw [List.Nodup, List.pairwise_flatMap]
  refine ⟨fun y _ => h.nodup y, List.nodup_range.imp ?_⟩
  intro a b hab x hx y hy e
  subst e
  exact hab (h.one x a b hx hy)
end
end Go.Proofs.Ytlaichooanflaaa.Root
namespace Go.Proofs.Ytlaichooanflaaa.Base
open Go.RowKit Go.Proofs.YtlaichooanflaaaW.PrintWords
theorem w64 {n : Int} (h0 : -9223372036854775808 ≤ n) (h1 : n ≤ 9223372036854775807) : wrap64 n = n := by unfold wrap64; omega
theorem w64s {n : Int} {b : Nat} (h0 : 0 ≤ n) (h1 : n < b) (hb : b ≤ 4611686018427387904) : wrap64 (n + 1) = n + 1 := w64 (by omega) (by omega)
section
variable {α β : Type} {g f : Nat → Option α} {r : α}
theorem Ev.of_eq {g f : Nat → Option α} (k : Ev f r) (h : ∀ k, g k = f k) : Ev g r := Ev.congr h k
theorem Ev.pos {c : Prop} [Decidable c] (h : c) (k : Ev g r) : Ev (fun n => if c then g n else f n) r := by simpa only [if_pos h] using k
theorem Ev.neg {c : Prop} [Decidable c] (h : ¬ c) (k : Ev f r) : Ev (fun n => if c then g n else f n) r := by simpa only [if_neg h] using k
theorem Ev.ite {c : Prop} [Decidable c] (h : c → Ev g r) (k : ¬ c → Ev f r) : Ev (fun n => if c then g n else f n) r := by
  by_cases hc : c
  · exact Ev.pos hc (h hc)
  · exact Ev.neg hc (k hc)
end
/-- p holds at i, i + 1, .., n - 1. -/
def allOf (p : Nat → Bool) (i n : Nat) : Bool := (List.range' i (n - i)).all p
theorem allOf_end (p : Nat → Bool) (n : Nat) : allOf p n n = true := by simp [allOf]
theorem allOf_step (p : Nat → Bool) {i n : Nat} (h : i < n) : allOf p i n = (p i && allOf p (i + 1) n) := by
  unfold allOf
  rw [show n - i = (n - (i + 1)) + 1 by omega, List.range'_succ, List.all_cons]
theorem allOf_iff (p : Nat → Bool) (i n : Nat) : allOf p i n = true ↔ ∀ j, i ≤ j → j < n → p j = true := by
  unfold allOf
  rw [List.all_eq_true]
  constructor
  · intro h j h1 h2
    exact h j (by rw [List.mem_range'_1]; omega)
  · intro h j hj
    rw [List.mem_range'_1] at hj
    exact h j hj.1 (by omega)
/-- A loop that asks a test of each index, and ends with 'no' at the first that fails. -/
theorem scan {β : Type} (g : Nat → Int → Option β) (n : Nat) (p : Nat → Bool) (yes no : β)
    (hend : Ev (fun k => g k (n : Int)) yes)
    (hgo : ∀ i : Nat, i < n → p i = true → ∀ r, Ev (fun k => g k ((i : Int) + 1)) r → Ev (fun k => g k (i : Int)) r)
    (hno : ∀ i : Nat, i < n → p i = false → Ev (fun k => g k (i : Int)) no) :
    ∀ d i : Nat, n - i = d → i ≤ n → Ev (fun k => g k (i : Int)) (if allOf p i n = true then yes else no) := by
  intro d
  induction d with
  | zero =>
    intro i hd hi
    have : i = n := by omega
    subst this
    rw [allOf_end, if_pos rfl]
    exact hend
  | succ d ih =>
    intro i hd hi
    rw [allOf_step p (by omega)]
    cases hp : p i with
    | true =>
      rw [Bool.true_and]
      exact hgo i (by omega) hp _ (ih (i + 1) (by omega) (by omega))
    | false =>
      rw [Bool.false_and, if_neg (by decide)]
      exact hno i (by omega) hp
theorem scan0 {β : Type} (g : Nat → Int → Option β) (n : Nat) (p : Nat → Bool) (yes no : β)
    (hend : Ev (fun k => g k (n : Int)) yes)
    (hgo : ∀ i : Nat, i < n → p i = true → ∀ r, Ev (fun k => g k ((i : Int) + 1)) r → Ev (fun k => g k (i : Int)) r)
    (hno : ∀ i : Nat, i < n → p i = false → Ev (fun k => g k (i : Int)) no) :
    Ev (fun k => g k 0) (if allOf p 0 n = true then yes else no) := scan g n p yes no hend hgo hno n 0 rfl (Nat.zero_le _)
theorem Ev.cast {α : Type} {g : Nat → Option α} {r r' : α} (h : Ev g r) (e : r = r') : Ev g r' := e ▸ h
theorem Ev.iteR {α : Type} {g f : Nat → Option α} {r s : α} {c : Prop} [Decidable c] (h : Ev g r) (k : Ev f s) : Ev (fun n => if c then g n else f n) (if c then r else s) := by
  split
  · exact h
  · exact k
theorem bytes_inj {s t : ByteArray} : s.toList = t.toList ↔ s = t := by
  constructor
  · intro h
    rw [ByteArray.toList_eq, ByteArray.toList_eq] at h
    exact ByteArray.ext (by rw [← Array.toList_inj]; exact h)
  · intro h; rw [h]
/-- A proposition as a Bool. -/
noncomputable def tr (p : Prop) : Bool := @decide p (Classical.propDecidable p)
theorem tr_iff {p : Prop} : tr p = true ↔ p := by unfold tr; exact @decide_eq_true_iff p (Classical.propDecidable p)
theorem tr_t {p : Prop} (h : p) : tr p = true := tr_iff.2 h
theorem tr_f {p : Prop} (h : ¬ p) : tr p = false := by
  cases e : tr p with
  | true => exact absurd (tr_iff.1 e) h
  | false => rfl
theorem of_tr_f {p : Prop} (h : tr p = false) : ¬ p := fun k => by rw [tr_t k] at h; cases h
/-- A loop that compares two lists of one length, element by element. -/
theorem eqLoop {α : Type} (g : Nat → Int → Option Bool) (a b : List α) (z : α) (hl : a.length = b.length)
    (hend : Ev (fun k => g k (a.length : Int)) true)
    (hgo : ∀ i : Nat, i < a.length → a.getD i z = b.getD i z → ∀ r, Ev (fun k => g k ((i : Int) + 1)) r → Ev (fun k => g k (i : Int)) r)
    (hno : ∀ i : Nat, i < a.length → a.getD i z ≠ b.getD i z → Ev (fun k => g k (i : Int)) false) :
    Ev (fun k => g k 0) (tr (a = b)) := by
  refine Ev.cast (scan0 g a.length (fun i => tr (a.getD i z = b.getD i z)) true false hend (fun i hi hp => hgo i hi (tr_iff.1 hp)) (fun i hi hp => hno i hi (of_tr_f hp))) ?_
  rw [Bool.eq_iff_iff, tr_iff]
  have : (∀ j, 0 ≤ j → j < a.length → tr (a.getD j z = b.getD j z) = true) ↔ a = b := by
    constructor
    · intro h
      apply List.ext_getElem hl
      intro i h1 h2
      have := tr_iff.1 (h i (Nat.zero_le _) h1)
      rwa [List.getD_eq_getElem?_getD, List.getD_eq_getElem?_getD, List.getElem?_eq_getElem h1, List.getElem?_eq_getElem h2] at this
    · rintro rfl j _ _
      exact tr_t rfl
  rw [← this, ← allOf_iff]
  split <;> simp_all
/-- A loop that fills a list made ahead of it. -/
theorem fillLoop {β : Type} (g : Nat → List β → Int → Option (List β)) (n : Nat) (F : Nat → β)
    (hend : ∀ out : List β, out.length = n → Ev (fun k => g k out (n : Int)) out)
    (hgo : ∀ (i : Nat) (out : List β), i < n → out.length = n → ∀ r, Ev (fun k => g k (out.set i (F i)) ((i : Int) + 1)) r → Ev (fun k => g k out (i : Int)) r) :
    ∀ d i : Nat, n - i = d → i ≤ n → ∀ out : List β, out.length = n → Ev (fun k => g k out (i : Int)) (out.take i ++ (List.range' i (n - i)).map F) := by
  intro d
  induction d with
  | zero =>
    intro i hd hi out ho
    have : i = n := by omega
    subst this
    rw [hd, List.take_of_length_le (by omega)]
    simpa using hend out ho
  | succ d ih =>
    intro i hd hi out ho
    have h := ih (i + 1) (by omega) (by omega) (out.set i (F i)) (by simpa using ho)
    refine Ev.cast (hgo i out (by omega) ho _ h) ?_
    rw [show n - i = (n - (i + 1)) + 1 by omega, List.range'_succ, List.map_cons, List.take_succ_eq_append_getElem (by rw [List.length_set]; omega)]
    simp [List.take_set_of_le]
theorem fill0 {β : Type} (g : Nat → List β → Int → Option (List β)) (n : Nat) (F : Nat → β) (out : List β) (ho : out.length = n)
    (hend : ∀ out : List β, out.length = n → Ev (fun k => g k out (n : Int)) out)
    (hgo : ∀ (i : Nat) (out : List β), i < n → out.length = n → ∀ r, Ev (fun k => g k (out.set i (F i)) ((i : Int) + 1)) r → Ev (fun k => g k out (i : Int)) r) :
    Ev (fun k => g k out 0) ((List.range n).map F) := by
  refine Ev.cast (fillLoop g n F hend hgo n 0 rfl (Nat.zero_le _) out ho) ?_
  simp [List.range_eq_range']
theorem map_range_get {α β : Type} (l : List α) (z : α) (f : α → β) : (List.range l.length).map (fun j => f (l.getD j z)) = l.map f := by
  apply List.ext_getElem (by simp)
  intro i h1 h2
  simp only [List.length_map, List.length_range] at h1
  simp [List.getD_eq_getElem?_getD, List.getElem?_eq_getElem h1]
/-- A loop that counts sizes down: it tells a negative number, or all it saw was small. -/
theorem sizeLoop (g : Nat → Int → Int → Option Int) (n : Nat) (P : Nat → Prop)
    (hend : ∀ a : Int, Ev (fun k => g k a (n : Int)) a)
    (step : ∀ (i : Nat) (a : Int), i < n → 0 ≤ a → a ≤ 1048576 → (Ev (fun k => g k a (i : Int)) (-1)) ∨ ∃ b, 0 ≤ b ∧ b ≤ a ∧ P i ∧ ∀ r, Ev (fun k => g k b ((i : Int) + 1)) r → Ev (fun k => g k a (i : Int)) r) :
    ∀ d i : Nat, n - i = d → i ≤ n → ∀ a : Int, 0 ≤ a → a ≤ 1048576 → ∃ r, Ev (fun k => g k a (i : Int)) r ∧ (0 ≤ r → r ≤ a ∧ ∀ j, i ≤ j → j < n → P j) := by
  intro d
  induction d with
  | zero =>
    intro i hd hi a h0 h1
    have : i = n := by omega
    subst this
    exact ⟨a, hend a, fun _ => ⟨Int.le_refl _, fun j h2 h3 => absurd h3 (by omega)⟩⟩
  | succ d ih =>
    intro i hd hi a h0 h1
    rcases step i a (by omega) h0 h1 with h | ⟨b, hb0, hb1, hP, hk⟩
    · exact ⟨-1, h, fun h => absurd h (by omega)⟩
    · obtain ⟨r, hr, hp⟩ := ih (i + 1) (by omega) (by omega) b hb0 (by omega)
      refine ⟨r, hk r hr, fun h => ⟨by have := (hp h).1; omega, fun j h2 h3 => ?_⟩⟩
      by_cases he : j = i
      · subst he; exact hP
      · exact (hp h).2 j (by omega) h3
end Go.Proofs.Ytlaichooanflaaa.Base
namespace Go.Proofs.Ytlaichooanflaaa.WordLaw
open Go.RowKit Go.Proofs.YtlaichooanflaaaW.PrintWords Go.Proofs.Ytlaichooanflaaa.Base Go.Proofs.Ytlaichooanflaaa.Q
def lowC (c : Int) : Bool := decide (97 ≤ c) && decide (c ≤ 122)
def bodyC (c : Int) : Bool := lowC c || (decide (48 ≤ c) && decide (c ≤ 57))
def bodyB (s : ByteArray) : Bool := if allOf (fun j => bodyC (bt s j)) 0 s.size = true then decide ((s.size : Int) ≤ 12) else false
def wordB (s : ByteArray) : Bool := if allOf (fun j => lowC (bt s j)) 0 s.size = true then decide (1 ≤ (s.size : Int)) && decide ((s.size : Int) ≤ 4) else false
theorem lowC_t {c : Int} (h : lowC c = true) : 97 ≤ c ∧ c ≤ 122 := by simpa [lowC] using h
theorem lowC_f {c : Int} (h : lowC c = false) : c < 97 ∨ 122 < c := by
  simp [lowC] at h
  omega
theorem in_is (a b c : Int) : impl_in.f a b c = some (decide (b ≤ a) && decide (a ≤ c)) := by
  unfold impl_in.f
  split
  · rename_i h
    have : b ≤ a := h
    simp [this]
  · rename_i h
    have : ¬ b ≤ a := h
    simp [this]
theorem wbt (s : ByteArray) (i : Int) : wrap64 (bt s i) = bt s i := by
  have := bt_range s i
  exact w64 (by omega) (by omega)
theorem impl_body (s : ByteArray) (h : s.size ≤ 4611686018427387903) : Ev (fun k => impl_TreeBody.f k s) (bodyB s) := by
  unfold impl_TreeBody.f bodyB
  refine scan0 (fun k i => impl_TreeBody.l0 k s i) s.size _ _ _ ?_ ?_ ?_
  · exact Ev.step (fun k => by rw [impl_TreeBody.l0, if_neg (by omega)]) (Ev.now _)
  · intro i hi hp r hr
    refine Ev.step (f := fun k => impl_TreeBody.l0 k s ((i : Int) + 1)) (fun k => ?_) hr
    rw [impl_TreeBody.l0, if_pos (by omega), if_pos (by omega), wbt, in_is, w64s (b := s.size) (by omega) (by omega) (by omega)]
    simp only [Option.bind_some, in_is]
    cases hl : lowC (bt s i) with
    | true => rw [lowC] at hl; rw [hl, if_pos rfl]
    | false =>
      have hb : (decide (48 ≤ bt s i) && decide (bt s i ≤ 57)) = true := by simpa [bodyC, hl] using hp
      rw [lowC] at hl
      rw [hl, hb, if_neg (by decide), if_pos rfl]
  · intro i hi hp
    refine Ev.step (f := fun _ => some false) (fun k => ?_) (Ev.now _)
    rw [impl_TreeBody.l0, if_pos (by omega), if_pos (by omega), wbt, in_is]
    have hp' : bodyC (bt s i) = false := hp
    unfold bodyC lowC at hp'
    rw [Bool.or_eq_false_iff] at hp'
    simp only [Option.bind_some, in_is, hp'.1, hp'.2, Bool.false_eq_true, if_false]
theorem impl_word (s : ByteArray) (h : s.size ≤ 4611686018427387903) : Ev (fun k => impl_TreeWord.f k s) (wordB s) := by
  unfold impl_TreeWord.f wordB
  refine scan0 (fun k i => impl_TreeWord.l0 k s i) s.size _ _ _ ?_ ?_ ?_
  · exact Ev.step (fun k => by rw [impl_TreeWord.l0, if_neg (by omega), in_is, Option.bind_some]) (Ev.now _)
  · intro i hi hp r hr
    refine Ev.step (f := fun k => impl_TreeWord.l0 k s ((i : Int) + 1)) (fun k => ?_) hr
    have hp' : lowC (bt s i) = true := hp
    rw [lowC] at hp'
    rw [impl_TreeWord.l0, if_pos (by omega), if_pos (by omega), wbt, in_is, w64s (b := s.size) (by omega) (by omega) (by omega)]
    simp only [Option.bind_some, hp', if_true]
  · intro i hi hp
    refine Ev.step (f := fun _ => some false) (fun k => ?_) (Ev.now _)
    have hp' : lowC (bt s i) = false := hp
    rw [lowC] at hp'
    rw [impl_TreeWord.l0, if_pos (by omega), if_pos (by omega), wbt, in_is]
    simp only [Option.bind_some, hp', Bool.false_eq_true, if_false]
theorem spec_body (s : ByteArray) (h : s.size ≤ 4611686018427387903) : Ev (fun k => spec_TreeBody.f k s) (bodyB s) := by
  unfold spec_TreeBody.f bodyB
  refine scan0 (fun k i => spec_TreeBody.l0 k s i) s.size _ _ _ ?_ ?_ ?_
  · exact Ev.step (fun k => by rw [spec_TreeBody.l0, if_neg (by omega)]) (Ev.now _)
  · intro i hi hp r hr
    refine Ev.step (f := fun k => spec_TreeBody.l0 k s ((i : Int) + 1)) (fun k => ?_) hr
    rw [spec_TreeBody.l0, if_pos (by omega), if_pos (by omega), w64s (b := s.size) (by omega) (by omega) (by omega)]
    simp only [bodyC, lowC, Bool.or_eq_true, Bool.and_eq_true, decide_eq_true_eq] at hp
    repeat' split
    all_goals first | rfl | omega
  · intro i hi hp
    refine Ev.step (f := fun _ => some false) (fun k => ?_) (Ev.now _)
    rw [spec_TreeBody.l0, if_pos (by omega), if_pos (by omega)]
    simp only [bodyC, lowC, Bool.or_eq_false_iff, Bool.and_eq_false_iff, decide_eq_false_iff_not] at hp
    repeat' split
    all_goals first | rfl | omega
theorem spec_word (s : ByteArray) (h : s.size ≤ 4611686018427387903) : Ev (fun k => spec_TreeWord.f k s) (wordB s) := by
  unfold spec_TreeWord.f wordB
  refine scan0 (fun k i => spec_TreeWord.l0 k s i) s.size _ _ _ ?_ ?_ ?_
  · refine Ev.step (f := fun _ => some (decide (1 ≤ (s.size : Int)) && decide ((s.size : Int) ≤ 4))) (fun k => ?_) (Ev.now _)
    rw [spec_TreeWord.l0, if_neg (by omega)]
    split
    · rename_i h1
      have : 1 ≤ (s.size : Int) := h1
      simp [this]
    · rename_i h1
      have : ¬ 1 ≤ (s.size : Int) := h1
      simp only [this, decide_false, Bool.false_and]
  · intro i hi hp r hr
    refine Ev.step (f := fun k => spec_TreeWord.l0 k s ((i : Int) + 1)) (fun k => ?_) hr
    have := lowC_t hp
    rw [spec_TreeWord.l0, if_pos (by omega), if_pos (by omega), if_neg (by omega), if_neg (by omega), w64s (b := s.size) (by omega) (by omega) (by omega)]
  · intro i hi hp
    refine Ev.step (f := fun _ => some false) (fun k => ?_) (Ev.now _)
    have := lowC_f hp
    rw [spec_TreeWord.l0, if_pos (by omega), if_pos (by omega)]
    repeat' split
    all_goals first | rfl | omega
end Go.Proofs.Ytlaichooanflaaa.WordLaw
namespace Go.Proofs.Ytlaichooanflaaa.OpOk
open Go.RowKit Go.Proofs.YtlaichooanflaaaW.PrintWords Go.Proofs.Ytlaichooanflaaa.Base Go.Proofs.Ytlaichooanflaaa.Q Go.Proofs.Ytlaichooanflaaa.WordLaw
def inB (a lo hi : Int) : Bool := decide (lo ≤ a) && decide (a ≤ hi)
def noB (s : ByteArray) : Bool := s.toList == ([] : List UInt8)
theorem l1Id (a : Int) : spec_l1Id.f a = some (inB a 0 31) := by
  unfold spec_l1Id.f inB
  have e : decide (a < 32) = decide (a ≤ 31) := by rw [Bool.eq_iff_iff]; simp; omega
  split
  · rename_i h
    have : 0 ≤ a := h
    simp [this, e]
  · rename_i h
    have : ¬ 0 ≤ a := h
    simp [this]
end Go.Proofs.Ytlaichooanflaaa.OpOk
namespace Go.Proofs.Ytlaichooanflaaa.TreeM
open Go.RowKit Go.Proofs.YtlaichooanflaaaW.PrintWords Go.Proofs.Ytlaichooanflaaa.Base Go.Proofs.Ytlaichooanflaaa.Q Go.Proofs.Ytlaichooanflaaa.WordLaw Go.Proofs.Ytlaichooanflaaa.OpOk Go.Proofs.Ytlaichooanflaaa.Root
/-- A loop that looks for the first element of a kind. -/
theorem findLoop {α β : Type} (g : Nat → Int → Option β) (l : List α) (p : α → Bool) (z : α) (yes : α → β) (no : β)
    (hend : Ev (fun k => g k (l.length : Int)) no)
    (hgo : ∀ i : Nat, i < l.length → p (l.getD i z) = false → ∀ r, Ev (fun k => g k ((i : Int) + 1)) r → Ev (fun k => g k (i : Int)) r)
    (hyes : ∀ i : Nat, i < l.length → p (l.getD i z) = true → Ev (fun k => g k (i : Int)) (yes (l.getD i z))) :
    Ev (fun k => g k 0) (match l.find? p with | some x => yes x | none => no) := by
  have key : ∀ d i : Nat, l.length - i = d → i ≤ l.length → Ev (fun k => g k (i : Int)) (match (l.drop i).find? p with | some x => yes x | none => no) := by
    intro d
    induction d with
    | zero =>
      intro i hd hi
      obtain rfl : i = l.length := by omega
      rw [List.drop_length]
      exact hend
    | succ d ih =>
      intro i hd hi
      have hlt : i < l.length := by omega
      have e : l.getD i z = l[i] := by simp [List.getD_eq_getElem?_getD, List.getElem?_eq_getElem hlt]
      rw [List.drop_eq_getElem_cons hlt, List.find?_cons]
      cases hp : p l[i] with
      | true => exact Ev.cast (hyes i hlt (by rw [e]; exact hp)) (by rw [e])
      | false => exact hgo i hlt (by rw [e]; exact hp) _ (ih (i + 1) (by omega) (by omega))
  exact key l.length 0 rfl (Nat.zero_le _)
abbrev En := S77
abbrev Ob := S69
def bl (a b : ByteArray) : Bool := Op.bytesLess a.toList b.toList
/-- Everything is short enough for counters. -/
def WideK (l : List En) : Prop := l.length ≤ 1073741824 ∧ ∀ e ∈ l, e.f0.size ≤ 1073741824
def WideX (x : Ob) : Prop := x.f2.size ≤ 1073741824 ∧ WideK x.f3
def Wide (l : List Ob) : Prop := l.length ≤ 1073741824 ∧ ∀ x ∈ l, WideX x
theorem rdE {l : List En} {i : Nat} (h : i < l.length) : rd_T77 l (i : Int) = l[i] := by simp [rd_T77, List.getD_eq_getElem?_getD, List.getElem?_eq_getElem h]
theorem rdO {l : List Ob} {i : Nat} (h : i < l.length) : rd_T69 l (i : Int) = l[i] := by simp [rd_T69, List.getD_eq_getElem?_getD, List.getElem?_eq_getElem h]
theorem w30 {i n : Nat} (h : i < n) (hn : n ≤ 1073741824) : wrap64 ((i : Int) + 1) = (i : Int) + 1 := w64 (by omega) (by omega)
def kidB (l : List En) (j : Nat) : Bool := wordB (rd_T77 l (j : Int)).f0 && (inB (rd_T77 l (j : Int)).f1 1 31 && (decide (j = 0) || bl (rd_T77 l ((j : Int) - 1)).f0 (rd_T77 l (j : Int)).f0))
def kidsB (l : List En) : Bool := allOf (kidB l) 0 l.length
def objB (x : Ob) : Bool := inB x.f1 0 1000000 && (if x.f0 = 0 then noB x.f2 && decide (x.f3 = []) else if x.f0 = 1 then decide (x.f1 > 0) && (bodyB x.f2 && decide (x.f3 = [])) else if x.f0 = 2 then kidsB x.f3 && (decide (x.f1 > 0) && noB x.f2) else false)
theorem nil_beq (l : List En) : ((l.length : Int) == 0) = decide (l = []) := by
  rw [Bool.eq_iff_iff, beq_iff_eq, decide_eq_true_iff]
  constructor
  · intro h; exact List.eq_nil_of_length_eq_zero (by omega)
  · rintro rfl; rfl
theorem wk {l : List En} (h : WideK l) {j : Nat} (hj : j < l.length) : (rd_T77 l (j : Int)).f0.size ≤ 4611686018427387903 := by
  rw [rdE hj]
  have := h.2 _ (List.getElem_mem hj)
  omega
theorem dec1 {j : Nat} (_ : ¬ j = 0) (hj : j < 1073741824) : wrap64 ((j : Int) - 1) = (j : Int) - 1 := w64 (by omega) (by omega)
theorem impl_kids (l : List En) (h : WideK l) (a0 a1 : Int) (a2 : ByteArray) : Ev (fun k => impl_objOk.l0 k l (l.length : Int) 0 a0 a1 a2 l) (if kidsB l = true then (if a1 > 0 then noB a2 else false) else false) := by
  have hl := h.1
  unfold kidsB
  refine scan0 (fun k i => impl_objOk.l0 k l (l.length : Int) i a0 a1 a2 l) l.length (kidB l) _ _ ?_ ?_ ?_
  · refine Ev.step (f := fun _ => if a1 > 0 then some (noB a2) else some false) (fun k => by rw [impl_objOk.l0, if_neg (by omega)]; rfl) ?_
    exact Ev.iteR (Ev.now _) (Ev.now _)
  · intro i hi hp r hr
    have hw := impl_word _ (wk h hi)
    unfold kidB at hp
    rw [Bool.and_eq_true, Bool.and_eq_true, Bool.or_eq_true, decide_eq_true_iff] at hp
    obtain ⟨p1, p2, p3⟩ := hp
    refine Ev.step (fun k => by rw [impl_objOk.l0, if_pos (by omega), if_pos (by omega), if_pos (by omega), w30 hi hl]) (Ev.bind hw (Ev.pos p1 ?_))
    by_cases c : i = 0
    · refine Ev.neg (by omega) (Ev.of_eq (f := fun k => if inB (rd_T77 l (i : Int)).f1 1 31 = true then _ else _) (Ev.pos p2 hr) (fun k => by rw [in_is]; rfl))
    · refine Ev.pos (by omega) ?_
      rw [dec1 c (by omega)]
      refine Ev.pos (by omega) (Ev.pos (by omega) (Ev.pos (p3.resolve_left c) (Ev.of_eq (f := fun k => if inB (rd_T77 l (i : Int)).f1 1 31 = true then _ else _) (Ev.pos p2 hr) (fun k => by rw [in_is]; rfl))))
  · intro i hi hp
    have hw := impl_word _ (wk h hi)
    unfold kidB at hp
    refine Ev.step (fun k => by rw [impl_objOk.l0, if_pos (by omega), if_pos (by omega), if_pos (by omega), w30 hi hl]) (Ev.bind hw (Ev.ite (fun p1 => ?_) (fun _ => Ev.now _)))
    rw [p1, Bool.true_and] at hp
    by_cases c : i = 0
    · rw [decide_eq_true c, Bool.true_or, Bool.and_true] at hp
      exact Ev.neg (by omega) (Ev.of_eq (f := fun k => if inB (rd_T77 l (i : Int)).f1 1 31 = true then _ else some false) (Ev.neg (by rw [hp]; decide) (Ev.now _)) (fun k => by rw [in_is]; rfl))
    · rw [decide_eq_false c, Bool.false_or] at hp
      refine Ev.pos (by omega) ?_
      rw [dec1 c (by omega)]
      refine Ev.pos (by omega) (Ev.pos (by omega) (Ev.ite (fun p3 => ?_) (fun _ => Ev.now _)))
      rw [show bl (rd_T77 l ((i : Int) - 1)).f0 (rd_T77 l (i : Int)).f0 = true from p3, Bool.and_true] at hp
      exact Ev.of_eq (f := fun k => if inB (rd_T77 l (i : Int)).f1 1 31 = true then _ else some false) (Ev.neg (by rw [hp]; decide) (Ev.now _)) (fun k => by rw [in_is]; rfl)
theorem impl_obj (x : Ob) (h : WideX x) : Ev (fun k => impl_objOk.f k x.f0 x.f1 x.f2 x.f3) (objB x) := by
  have hb := impl_body x.f2 (by have := h.1; omega)
  refine Ev.of_eq (f := fun k => if inB x.f1 0 1000000 = true then (if x.f0 = 0 then (if x.f2.toList = ([] : List UInt8) then (some ((x.f3.length : Int) == 0)) else (some false)) else (if x.f0 = 1 then (if x.f1 > 0 then ((impl_TreeBody.f k x.f2).bind fun t398 => (if t398 = true then (some ((x.f3.length : Int) == 0)) else (some false))) else (some false)) else (if x.f0 = 2 then (impl_objOk.l0 k x.f3 (x.f3.length : Int) 0 x.f0 x.f1 x.f2 x.f3) else (some false)))) else some false) ?_ (fun k => by unfold impl_objOk.f; rw [in_is]; rfl)
  refine Ev.cast (Ev.iteR (Ev.iteR (Ev.iteR (Ev.now _) (Ev.now _)) (Ev.iteR (Ev.iteR (Ev.bind hb (Ev.iteR (Ev.now _) (Ev.now _))) (Ev.now _)) (Ev.iteR (impl_kids x.f3 h.2 x.f0 x.f1 x.f2) (Ev.now _)))) (Ev.now _)) ?_
  unfold objB
  rw [nil_beq]
  cases inB x.f1 0 1000000 <;> by_cases h0 : x.f0 = 0 <;> by_cases h1 : x.f0 = 1 <;> by_cases h2 : x.f0 = 2 <;> by_cases h3 : x.f1 > 0 <;> by_cases h5 : x.f2.toList = [] <;> cases bodyB x.f2 <;> cases kidsB x.f3 <;> simp [h0, h1, h2, h3, h5, noB]
theorem spec_kidsB (l : List En) (h : WideK l) : Ev (fun k => spec_l1Kids.f k l) (kidsB l) := by
  have hl := h.1
  unfold spec_l1Kids.f kidsB
  have up : ∀ i : Nat, i < l.length → kidB l i = (wordB (rd_T77 l (i : Int)).f0 && (decide (1 ≤ (rd_T77 l (i : Int)).f1) && (inB (rd_T77 l (i : Int)).f1 0 31 && (decide (i = 0) || bl (rd_T77 l ((i : Int) - 1)).f0 (rd_T77 l (i : Int)).f0)))) := by
    intro i _
    unfold kidB
    congr 1
    rw [← Bool.and_assoc]
    congr 1
    unfold inB
    rw [Bool.eq_iff_iff]
    simp
    omega
  refine Ev.cast (scan0 (fun k i => spec_l1Kids.l0 k l i) l.length (kidB l) true false ?_ ?_ ?_) (by cases allOf (kidB l) 0 l.length <;> rfl)
  · exact Ev.step (f := fun _ => some true) (fun k => by rw [spec_l1Kids.l0, if_neg (by omega)]) (Ev.now _)
  · intro i hi hp r hr
    have hw := spec_word _ (wk h hi)
    rw [up i hi, Bool.and_eq_true, Bool.and_eq_true, Bool.and_eq_true, Bool.or_eq_true, decide_eq_true_iff, decide_eq_true_iff] at hp
    obtain ⟨p1, p2, p3, p4⟩ := hp
    refine Ev.step (fun k => by rw [spec_l1Kids.l0, if_pos (by omega), if_pos (by omega), w30 hi hl]) (Ev.bind hw (Ev.pos p1 ?_))
    refine Ev.neg (by omega) ?_
    refine Ev.of_eq (f := fun k => if inB (rd_T77 l (i : Int)).f1 0 31 = true then _ else _) (Ev.pos p3 ?_) (fun k => by rw [l1Id]; rfl)
    by_cases c : i = 0
    · exact Ev.neg (by omega) hr
    · refine Ev.pos (by omega) ?_
      rw [dec1 c (by omega)]
      exact Ev.pos (by omega) (Ev.pos (by omega) (Ev.pos (p4.resolve_left c) hr))
  · intro i hi hp
    have hw := spec_word _ (wk h hi)
    rw [up i hi] at hp
    refine Ev.step (fun k => by rw [spec_l1Kids.l0, if_pos (by omega), if_pos (by omega), w30 hi hl]) (Ev.bind hw (Ev.ite (fun p1 => Ev.ite (fun _ => Ev.now _) (fun p2 => ?_)) (fun _ => Ev.now _)))
    rw [p1, decide_eq_true (show 1 ≤ (rd_T77 l (i : Int)).f1 by omega), Bool.true_and, Bool.true_and] at hp
    refine Ev.of_eq (f := fun k => if inB (rd_T77 l (i : Int)).f1 0 31 = true then _ else some false) (Ev.ite (fun p3 => ?_) (fun _ => Ev.now _)) (fun k => by rw [l1Id]; rfl)
    rw [p3, Bool.true_and] at hp
    by_cases c : i = 0
    · rw [decide_eq_true c] at hp; cases hp
    · rw [decide_eq_false c, Bool.false_or] at hp
      refine Ev.pos (by omega) ?_
      rw [dec1 c (by omega)]
      exact Ev.pos (by omega) (Ev.pos (by omega) (Ev.neg (by unfold bl at hp; rw [hp]; decide) (Ev.now _)))
theorem spec_obj (x : Ob) (h : WideX x) : Ev (fun k => spec_l1Obj.f k x.f0 x.f1 x.f2 x.f3) (objB x) := by
  have hb := spec_body x.f2 (by have := h.1; omega)
  have main : ∀ b, Ev (fun k => spec_l1Obj.j0 k b x.f0 x.f1 x.f2 x.f3) (if b = true then false else (if x.f0 = 0 then noB x.f2 && decide (x.f3 = []) else if x.f0 = 1 then decide (x.f1 > 0) && (bodyB x.f2 && decide (x.f3 = [])) else if x.f0 = 2 then kidsB x.f3 && (decide (x.f1 > 0) && noB x.f2) else false)) := by
    intro b
    refine Ev.step (fun k => by rw [spec_l1Obj.j0]) ?_
    refine Ev.cast (Ev.iteR (Ev.now _) (Ev.iteR (Ev.iteR (Ev.now _) (Ev.now _)) (Ev.iteR (Ev.bind hb (Ev.iteR (Ev.iteR (Ev.now _) (Ev.now _)) (Ev.now _))) (Ev.iteR (Ev.iteR (Ev.bind (spec_kidsB x.f3 h.2) (Ev.iteR (Ev.now _) (Ev.now _))) (Ev.now _)) (Ev.now _))))) ?_
    have e : (x.f3.length : Int) = 0 ↔ x.f3 = [] := by
      constructor
      · intro h; exact List.eq_nil_of_length_eq_zero (by omega)
      · intro h; rw [h]; rfl
    rw [nil_beq]
    cases b <;> by_cases h0 : x.f0 = 0 <;> by_cases h1 : x.f0 = 1 <;> by_cases h2 : x.f0 = 2 <;> by_cases h3 : x.f1 > 0 <;> by_cases h4 : x.f3 = [] <;> by_cases h5 : x.f2.toList = [] <;> cases bodyB x.f2 <;> cases kidsB x.f3 <;> simp [h0, h1, h2, h3, h4, h5, noB]
  unfold spec_l1Obj.f
  refine Ev.cast (Ev.iteR (main true) (main _)) ?_
  unfold objB
  have e : inB x.f1 0 1000000 = !(decide (x.f1 < 0) || decide (x.f1 > 1000000)) := by
    unfold inB
    rw [Bool.eq_iff_iff]
    simp
  rw [e]
  by_cases h0 : x.f1 < 0
  · simp [h0]
  · by_cases h1 : x.f1 > 1000000 <;> simp [h0, h1]
end Go.Proofs.Ytlaichooanflaaa.TreeM
namespace Go.Proofs.Ytlaichooanflaaa.TreeM
open Go.RowKit Go.Proofs.YtlaichooanflaaaW.PrintWords Go.Proofs.Ytlaichooanflaaa.Base Go.Proofs.Ytlaichooanflaaa.Q Go.Proofs.Ytlaichooanflaaa.WordLaw Go.Proofs.Ytlaichooanflaaa.OpOk Go.Proofs.Ytlaichooanflaaa.Root
/-- How often each number below 32 stands in a list. -/
def cnts (p : List Int) : List Int := (List.range 32).map (fun (i : Nat) => ((p.count (i : Int) : Nat) : Int))
theorem cnts_nil : cnts [] = List.replicate 32 0 := by decide
theorem cnts_length (p : List Int) : (cnts p).length = 32 := by simp [cnts]
theorem rd_cnts (p : List Int) (i : Int) (h0 : 0 ≤ i) (h1 : i < 32) : rd (cnts p) i = (p.count i : Int) := by
  unfold rd cnts
  rw [List.getD_eq_getElem?_getD, List.getElem?_map, List.getElem?_range (by omega)]
  simp only [Option.map_some, Option.getD_some]
  rw [Int.toNat_of_nonneg h0]
theorem cnts_snoc (p : List Int) (i : Int) (h0 : 0 ≤ i) (h1 : i < 32) (hp : p.length ≤ 4611686018427387903) : (cnts p).set i.toNat (wrap64 (rd (cnts p) i + 1)) = cnts (p ++ [i]) := by
  rw [rd_cnts p i h0 h1]
  have hc := List.count_le_length (a := i) (l := p)
  rw [w64 (by omega) (by omega)]
  apply List.ext_getElem (by simp [cnts])
  intro j j1 j2
  rw [cnts_length] at j2
  rw [List.getElem_set]
  unfold cnts
  simp only [List.getElem_map, List.getElem_range, List.count_append]
  by_cases e : i.toNat = j
  · have e2 : i = (j : Int) := by omega
    rw [if_pos e, e2]
    simp
  · have e2 : i ≠ (j : Int) := by omega
    rw [if_neg e, List.count_cons_of_ne e2]
    simp
def idsE (l : List En) : List Int := l.map (·.f1)
def allIds (l : List Ob) : List Int := l.flatMap (fun x => idsE x.f3)
theorem kids_range {l : List En} (h : kidsB l = true) : ∀ e ∈ l, 1 ≤ e.f1 ∧ e.f1 ≤ 31 := by
  intro e he
  obtain ⟨j, hj, rfl⟩ := List.mem_iff_getElem.1 he
  have h1 := (allOf_iff _ _ _).1 h j (Nat.zero_le _) hj
  unfold kidB inB at h1
  rw [rdE hj] at h1
  simp only [Bool.and_eq_true, decide_eq_true_eq] at h1
  exact h1.2.1
theorem obj_kids {x : Ob} (h : objB x = true) : x.f3 = [] ∨ (x.f0 = 2 ∧ kidsB x.f3 = true) := by
  unfold objB at h
  rw [Bool.and_eq_true] at h
  have h := h.2
  by_cases h0 : x.f0 = 0
  · rw [if_pos h0, Bool.and_eq_true, decide_eq_true_iff] at h; exact .inl h.2
  · rw [if_neg h0] at h
    by_cases h1 : x.f0 = 1
    · rw [if_pos h1, Bool.and_eq_true, Bool.and_eq_true, decide_eq_true_iff, decide_eq_true_iff] at h; exact .inl h.2.2
    · rw [if_neg h1] at h
      by_cases h2 : x.f0 = 2
      · rw [if_pos h2, Bool.and_eq_true] at h; exact .inr ⟨h2, h.1⟩
      · rw [if_neg h2] at h; cases h
theorem obj_range {x : Ob} (h : objB x = true) : ∀ e ∈ x.f3, 1 ≤ e.f1 ∧ e.f1 ≤ 31 := by
  rcases obj_kids h with h | ⟨_, h⟩
  · rw [h]; intro e he; cases he
  · exact kids_range h
theorem cnt_ents (l : List En) (h : ∀ e ∈ l, 1 ≤ e.f1 ∧ e.f1 ≤ 31) (p : List Int) (hp : p.length + l.length ≤ 4611686018427387903) : okCnt l (cnts p) = some (cnts (p ++ idsE l)) := by
  induction l generalizing p with
  | nil => simp [okCnt, idsE]
  | cons x l ih =>
    have hx := h x List.mem_cons_self
    simp only [List.length_cons] at hp
    rw [okCnt, if_pos ⟨by omega, by omega⟩, cnts_snoc p x.f1 (by omega) (by omega) (by omega), ih (fun e he => h e (List.mem_cons_of_mem _ he)) _ (by simp; omega)]
    simp [idsE, List.append_assoc]
theorem all_objs (l : List Ob) (hw : ∀ x ∈ l, WideX x) (p : List Int) (hp : p.length + l.length * 1073741824 ≤ 4611686018427387903) : Ev (fun k => okAll k l (cnts p)) (if l.all objB = true then some (cnts (p ++ allIds l)) else none) := by
  induction l generalizing p with
  | nil => simpa [allIds, okAll] using Ev.now (some (cnts p))
  | cons x l ih =>
    have hx := hw x List.mem_cons_self
    refine Ev.bind (f := fun k b => if b = true then (okCnt x.f3 (cnts p)).bind fun m' => okAll k l m' else some none) (impl_obj x hx) ?_
    rw [List.all_cons]
    cases ho : objB x with
    | false => simpa using Ev.now (none : Option (List Int))
    | true =>
      have hl := hx.2.1
      simp only [List.length_cons] at hp
      rw [Bool.true_and]
      refine Ev.pos rfl ?_
      rw [cnt_ents x.f3 (obj_range ho) p (by omega)]
      refine Ev.cast (ih (fun y hy => hw y (List.mem_cons_of_mem _ hy)) (p ++ idsE x.f3) (by simp [idsE]; omega)) ?_
      simp [allIds, List.append_assoc]
theorem spec_homes (l : List Ob) (hw : Wide l) (ho : ∀ x ∈ l, objB x = true) (hl : l.length = 32) : Ev (fun k => spec_l1Homes.f k l) (cnts (allIds l)) := by
  unfold spec_l1Homes.f
  refine Ev.pos (by decide) ?_
  rw [← cnts_nil]
  have inner : ∀ (i : Nat) (hi : i < l.length) (r : List Int) (p : List Int), p.length + 1073741824 ≤ 4611686018427387903 → Ev (fun k => spec_l1Homes.l0 k (cnts (p ++ idsE l[i].f3)) ((i : Int) + 1) l) r → Ev (fun k => spec_l1Homes.l1 k (cnts p) (i : Int) 0 l) r := by
    intro i hi r p hp hr
    have hx := hw.2 _ (List.getElem_mem hi)
    have hr3 := obj_range (ho _ (List.getElem_mem hi))
    have hk := hx.2.1
    have key : ∀ d j : Nat, l[i].f3.length - j = d → j ≤ l[i].f3.length → Ev (fun k => spec_l1Homes.l1 k (cnts (p ++ (idsE l[i].f3).take j)) (i : Int) (j : Int) l) r := by
      intro d
      induction d with
      | zero =>
        intro j hd hj
        obtain rfl : j = l[i].f3.length := by omega
        rw [List.take_of_length_le (by simp [idsE])]
        exact Ev.step (fun k => by rw [spec_l1Homes.l1, if_pos (by omega), if_pos (by omega), rdO hi, if_neg (by omega), w30 hi hw.1]) hr
      | succ d ih =>
        intro j hd hj
        have hlt : j < l[i].f3.length := by omega
        have hid := hr3 _ (List.getElem_mem hlt)
        have e : (idsE l[i].f3).take (j + 1) = (idsE l[i].f3).take j ++ [l[i].f3[j].f1] := by
          rw [List.take_succ_eq_append_getElem (by simpa [idsE] using hlt)]
          simp [idsE]
        have h2 := ih (j + 1) (by omega) (by omega)
        rw [e, ← List.append_assoc, ← cnts_snoc (p ++ (idsE l[i].f3).take j) _ (by omega) (by omega) (by rw [List.length_append, List.length_take]; simp [idsE]; omega)] at h2
        refine Ev.step (fun k => by rw [spec_l1Homes.l1, if_pos (by omega), if_pos (by omega), rdO hi, if_pos (by omega), if_pos (by omega), rdE hlt, if_pos (by omega), if_pos (by rw [cnts_length]; omega), w30 hlt hk] <;> rfl) h2
    have := key _ 0 rfl (Nat.zero_le _)
    simpa using this
  have outer : ∀ d i : Nat, l.length - i = d → i ≤ l.length → Ev (fun k => spec_l1Homes.l0 k (cnts (allIds (l.take i))) (i : Int) l) (cnts (allIds l)) := by
    intro d
    induction d with
    | zero =>
      intro i hd hi
      obtain rfl : i = l.length := by omega
      rw [List.take_length]
      exact Ev.step (f := fun _ => some (cnts (allIds l))) (fun k => by rw [spec_l1Homes.l0, if_neg (by omega)]) (Ev.now _)
    | succ d ih =>
      intro i hd hi
      have hlt : i < l.length := by omega
      have h2 := ih (i + 1) (by omega) (by omega)
      have e : allIds (l.take (i + 1)) = allIds (l.take i) ++ idsE l[i].f3 := by
        unfold allIds
        rw [List.take_succ_eq_append_getElem hlt, List.flatMap_append, List.flatMap_cons, List.flatMap_nil, List.append_nil]
      rw [e] at h2
      have hlen : (allIds (l.take i)).length ≤ i * 1073741824 := by
        clear h2 e ih hd
        induction i with
        | zero => simp [allIds]
        | succ i ih =>
          have hl2 : i < l.length := by omega
          have := ih (by omega) hl2
          have hk := (hw.2 _ (List.getElem_mem hl2)).2.1
          rw [List.take_succ_eq_append_getElem hl2]
          simp only [allIds, List.flatMap_append, List.length_append, List.flatMap_cons, List.flatMap_nil, List.append_nil] at this ⊢
          simp only [idsE, List.length_map] at this ⊢
          omega
      exact Ev.step (fun k => by rw [spec_l1Homes.l0, if_pos (by omega)]) (inner i hlt _ _ (by omega) h2)
  have := outer _ 0 rfl (Nat.zero_le _)
  simpa [allIds] using this
/-- The first directory that names a number, and how. -/
def homeFrom : List Ob → Nat → Int → Int × ByteArray
  | [], _, _ => (-1, ⟨#[]⟩)
  | x :: xs, i, id => match x.f3.find? (fun e => decide (e.f1 = id)) with
    | some e => ((i : Int), e.f0)
    | none => homeFrom xs (i + 1) id
def homeOf (l : List Ob) (id : Int) : Int := (homeFrom l 0 id).1
theorem impl_home_is (l : List Ob) (hw : Wide l) (id : Int) : Ev (fun k => impl_home.f k l id) (homeFrom l 0 id) := by
  unfold impl_home.f
  have outer : ∀ d i : Nat, l.length - i = d → i ≤ l.length → Ev (fun k => impl_home.l0 k id l (l.length : Int) (i : Int)) (homeFrom (l.drop i) i id) := by
    intro d
    induction d with
    | zero =>
      intro i hd hi
      obtain rfl : i = l.length := by omega
      rw [List.drop_length]
      exact Ev.step (f := fun _ => some _) (fun k => by rw [impl_home.l0, if_neg (by omega), homeFrom]) (Ev.now _)
    | succ d ih =>
      intro i hd hi
      have hlt : i < l.length := by omega
      have hk := (hw.2 _ (List.getElem_mem hlt)).2.1
      have h2 := ih (i + 1) (by omega) (by omega)
      rw [List.drop_eq_getElem_cons hlt, homeFrom]
      refine Ev.step (fun k => by rw [impl_home.l0, if_pos (by omega), if_pos (by omega), if_pos (by omega), rdO hlt]) ?_
      refine Ev.cast (findLoop (fun k j => impl_home.l1 k id (i : Int) l (l.length : Int) (i : Int) l[i].f3 (l[i].f3.length : Int) j) l[i].f3 (fun e => decide (e.f1 = id)) z77 (fun e => ((i : Int), e.f0)) (homeFrom (l.drop (i + 1)) (i + 1) id) ?_ ?_ ?_) (by cases List.find? (fun e : En => decide (e.f1 = id)) l[i].f3 <;> rfl)
      · exact Ev.step (fun k => by rw [impl_home.l1, if_neg (by omega), w30 hlt hw.1] <;> rfl) h2
      · intro j hj hp r hr
        rw [decide_eq_false_iff_not] at hp
        have e : rd_T77 l[i].f3 (j : Int) = l[i].f3.getD j z77 := rfl
        exact Ev.step (fun k => by rw [impl_home.l1, if_pos (by omega), if_pos (by omega), if_pos (by omega), e, if_neg hp, w30 hj hk]) hr
      · intro j hj hp
        rw [decide_eq_true_iff] at hp
        have e : rd_T77 l[i].f3 (j : Int) = l[i].f3.getD j z77 := rfl
        exact Ev.step (f := fun _ => some _) (fun k => by rw [impl_home.l1, if_pos (by omega), if_pos (by omega), if_pos (by omega), e, if_pos hp]) (Ev.now _)
  have := outer _ 0 rfl (Nat.zero_le _)
  simpa using this
theorem spec_home_is (l : List Ob) (hw : Wide l) (id : Int) : Ev (fun k => spec_l1Home.f k l id) (homeOf l id) := by
  unfold spec_l1Home.f homeOf
  have outer : ∀ d i : Nat, l.length - i = d → i ≤ l.length → Ev (fun k => spec_l1Home.l0 k id (i : Int) l) (homeFrom (l.drop i) i id).1 := by
    intro d
    induction d with
    | zero =>
      intro i hd hi
      obtain rfl : i = l.length := by omega
      rw [List.drop_length]
      exact Ev.step (f := fun _ => some _) (fun k => by rw [spec_l1Home.l0, if_neg (by omega), homeFrom]) (Ev.now _)
    | succ d ih =>
      intro i hd hi
      have hlt : i < l.length := by omega
      have hk := (hw.2 _ (List.getElem_mem hlt)).2.1
      have h2 := ih (i + 1) (by omega) (by omega)
      rw [List.drop_eq_getElem_cons hlt, homeFrom]
      refine Ev.step (fun k => by rw [spec_l1Home.l0, if_pos (by omega)]) ?_
      refine Ev.cast (findLoop (fun k j => spec_l1Home.l1 k id (i : Int) j l) l[i].f3 (fun e => decide (e.f1 = id)) z77 (fun _ => (i : Int)) ((homeFrom (l.drop (i + 1)) (i + 1) id).1) ?_ ?_ ?_) (by cases List.find? (fun e : En => decide (e.f1 = id)) l[i].f3 <;> rfl)
      · exact Ev.step (fun k => by rw [spec_l1Home.l1, if_pos (by omega), if_pos (by omega), rdO hlt, if_neg (by omega), w30 hlt hw.1] <;> rfl) h2
      · intro j hj hp r hr
        rw [decide_eq_false_iff_not] at hp
        have e : rd_T77 l[i].f3 (j : Int) = l[i].f3.getD j z77 := rfl
        exact Ev.step (fun k => by rw [spec_l1Home.l1, if_pos (by omega), if_pos (by omega), rdO hlt, if_pos (by omega), if_pos (by omega), e, if_neg hp, w30 hj hk]) hr
      · intro j hj hp
        rw [decide_eq_true_iff] at hp
        have e : rd_T77 l[i].f3 (j : Int) = l[i].f3.getD j z77 := rfl
        exact Ev.step (f := fun _ => some _) (fun k => by rw [spec_l1Home.l1, if_pos (by omega), if_pos (by omega), rdO hlt, if_pos (by omega), if_pos (by omega), e, if_pos hp]) (Ev.now _)
  have := outer _ 0 rfl (Nat.zero_le _)
  simpa using this
/-- Up, at most n times: does one come to the top? -/
def topN (l : List Ob) : Nat → Int → Bool
  | 0, id => id == 0
  | n + 1, id => if id > 0 then topN l n (homeOf l id) else id == 0
theorem spec_top (l : List Ob) (hw : Wide l) (id : Int) : Ev (fun k => spec_l1Top.f k l id) (topN l 32 id) := by
  unfold spec_l1Top.f
  have key : ∀ d n : Nat, 32 - n = d → n ≤ 32 → ∀ id, Ev (fun k => spec_l1Top.l0 k id (n : Int) l) (topN l (32 - n) id) := by
    intro d
    induction d with
    | zero =>
      intro n hd hn id
      obtain rfl : n = 32 := by omega
      exact Ev.step (f := fun _ => some _) (fun k => by rw [spec_l1Top.l0, if_neg (by omega)] <;> rfl) (Ev.now _)
    | succ d ih =>
      intro n hd hn id
      have h2 := ih (n + 1) (by omega) (by omega)
      rw [show 32 - n = (32 - (n + 1)) + 1 by omega, topN]
      refine Ev.step (fun k => by rw [spec_l1Top.l0, if_pos (by omega), w30 (n := 32) (by omega) (by omega)]) ?_
      exact Ev.iteR (Ev.bind (spec_home_is l hw id) (h2 _)) (Ev.now _)
  exact key 32 0 rfl (Nat.zero_le _) id
end Go.Proofs.Ytlaichooanflaaa.TreeM
namespace Go.Proofs.Ytlaichooanflaaa.TreeM
open Go.RowKit Go.Proofs.YtlaichooanflaaaW.PrintWords Go.Proofs.Ytlaichooanflaaa.Base Go.Proofs.Ytlaichooanflaaa.Q Go.Proofs.Ytlaichooanflaaa.WordLaw Go.Proofs.Ytlaichooanflaaa.OpOk Go.Proofs.Ytlaichooanflaaa.Root
/-- What a directory names. -/
def KK (l : List Ob) (y : Nat) : List Nat := (idsE (l.getD y z69).f3).map Int.toNat
def live (l : List Ob) (y : Nat) : Bool := decide ((l.getD y z69).f0 ≠ 0)
/-- A tree that is right. -/
structure Ok (l : List Ob) : Prop where
  len : l.length = 32
  root : (l.getD 0 z69).f0 = 2
  objs : ∀ x ∈ l, objB x = true
  once : Once (KK l) 32
  lv : ∀ y x, x ∈ KK l y → live l x = true
  reach : ∀ x, x < 32 → live l x = true → Root.Reach (KK l) x
section
variable {l : List Ob}
theorem getD_mem {y : Nat} (hy : y < l.length) : l.getD y z69 ∈ l := by
  rw [List.getD_eq_getElem?_getD, List.getElem?_eq_getElem hy]
  exact List.getElem_mem hy
theorem getD_out {y : Nat} (hy : l.length ≤ y) : l.getD y z69 = z69 := by
  rw [List.getD_eq_getElem?_getD, List.getElem?_eq_none hy]
  rfl
theorem mem_KK {x y : Nat} : x ∈ KK l y ↔ ∃ e ∈ (l.getD y z69).f3, e.f1.toNat = x := by
  unfold KK idsE
  simp only [List.mem_map, List.map_map, Function.comp]
theorem kk_out {y : Nat} (hy : l.length ≤ y) : KK l y = [] := by
  unfold KK
  rw [getD_out hy]
  rfl
theorem kk_low (ho : ∀ x ∈ l, objB x = true) (y x : Nat) (hx : x ∈ KK l y) : 1 ≤ x ∧ x < 32 := by
  by_cases hy : y < l.length
  · obtain ⟨e, he, rfl⟩ := mem_KK.1 hx
    have := obj_range (ho _ (getD_mem hy)) e he
    omega
  · rw [kk_out (by omega)] at hx; cases hx
theorem all_eq : (allIds l).map Int.toNat = (List.range l.length).flatMap (KK l) := by
  unfold allIds
  rw [List.map_flatMap, List.flatMap_def, List.flatMap_def]
  congr 1
  exact (map_range_get l z69 (fun x => (idsE x.f3).map Int.toNat)).symm
theorem count_toNat (A : List Int) (hA : ∀ x ∈ A, 0 ≤ x) (i : Nat) : A.count (i : Int) = (A.map Int.toNat).count i := by
  induction A with
  | nil => rfl
  | cons a A ih =>
    have ha := hA a List.mem_cons_self
    rw [List.map_cons, List.count_cons, List.count_cons, ih (fun x hx => hA x (List.mem_cons_of_mem _ hx))]
    have e : (a == (i : Int)) = (a.toNat == i) := by
      rw [Bool.eq_iff_iff, beq_iff_eq, beq_iff_eq]
      omega
    rw [e]
theorem all_nonneg (ho : ∀ x ∈ l, objB x = true) : ∀ x ∈ allIds l, 0 ≤ x := by
  intro x hx
  obtain ⟨o, h1, h2⟩ := List.mem_flatMap.1 hx
  obtain ⟨e, he, rfl⟩ := List.mem_map.1 h2
  have := obj_range (ho o h1) e he
  omega
/-- The counts are right. -/
def CntOk (l : List Ob) : Prop := ∀ i : Nat, 1 ≤ i → i < 32 → (live l i = true → (allIds l).count (i : Int) = 1) ∧ (live l i = false → (allIds l).count (i : Int) = 0)
theorem cnt_iff (hl : l.length = 32) (ho : ∀ x ∈ l, objB x = true) : CntOk l ↔ Once (KK l) 32 ∧ (∀ y x, x ∈ KK l y → live l x = true) ∧ ∀ x, 1 ≤ x → x < 32 → live l x = true → ∃ y, x ∈ KK l y := by
  have hc : ∀ i : Nat, (allIds l).count (i : Int) = ((List.range 32).flatMap (KK l)).count i := by
    intro i
    rw [count_toNat _ (all_nonneg ho), all_eq, hl]
  have hout : ∀ y, 32 ≤ y → KK l y = [] := fun y hy => kk_out (by omega)
  constructor
  · intro h
    have hn : ((List.range 32).flatMap (KK l)).Nodup := by
      rw [count_le]
      intro x
      by_cases hx : x ∈ (List.range 32).flatMap (KK l)
      · obtain ⟨y, hy⟩ := (mem_all hout x).1 hx
        have hr := kk_low ho y x hy
        have := h x hr.1 hr.2
        rw [hc] at this
        cases hv : live l x with
        | true => rw [this.1 hv]; exact Nat.le_refl _
        | false => rw [this.2 hv]; omega
      · rw [List.count_eq_zero.2 hx]; omega
    refine ⟨once_of_nodup (by omega) (kk_low ho) hout hn, fun y x hx => ?_, fun x h1 h2 hv => ?_⟩
    · have hr := kk_low ho y x hx
      have := (h x hr.1 hr.2).2
      rw [hc] at this
      cases hv : live l x with
      | true => rfl
      | false =>
        have h0 := this hv
        rw [List.count_eq_zero] at h0
        exact absurd ((mem_all hout x).2 ⟨y, hx⟩) h0
    · have := (h x h1 h2).1 hv
      rw [hc] at this
      exact (mem_all hout x).1 (List.count_pos_iff.1 (by omega))
  · rintro ⟨ho1, h2, h3⟩ i i1 i2
    have hn := nodup_of_once ho1
    rw [hc, List.Nodup.count hn]
    constructor
    · intro hv
      rw [if_pos ((mem_all hout i).2 (h3 i i1 i2 hv))]
    · intro hv
      rw [if_neg]
      intro hm
      obtain ⟨y, hy⟩ := (mem_all hout i).1 hm
      rw [h2 y i hy] at hv
      cases hv
/-- Where something is at home. -/
theorem homeFrom_is : ∀ (l : List Ob) (i : Nat) (id : Int), (∃ (j : Nat) (hj : j < l.length) (e : En), e ∈ l[j].f3 ∧ e.f1 = id ∧ homeFrom l i id = (((i + j : Nat) : Int), e.f0)) ∨ (homeFrom l i id = (-1, ⟨#[]⟩) ∧ ∀ x ∈ l, ∀ e ∈ x.f3, e.f1 ≠ id)
  | [], i, id => .inr ⟨rfl, by simp⟩
  | x :: xs, i, id => by
    rw [homeFrom]
    cases hf : x.f3.find? (fun e => decide (e.f1 = id)) with
    | some e =>
      have h1 := List.find?_some hf
      rw [decide_eq_true_iff] at h1
      exact .inl ⟨0, by simp, e, List.mem_of_find?_eq_some hf, h1, rfl⟩
    | none =>
      have h1 := List.find?_eq_none.1 hf
      simp only [decide_eq_true_eq] at h1
      rcases homeFrom_is xs (i + 1) id with ⟨j, hj, e, h2, h3, h4⟩ | ⟨h2, h3⟩
      · refine .inl ⟨j + 1, by simpa using hj, e, by simpa using h2, h3, ?_⟩
        rw [show i + (j + 1) = i + 1 + j by omega]
        exact h4
      · refine .inr ⟨h2, fun y hy => ?_⟩
        rcases List.mem_cons.1 hy with rfl | hy
        · exact h1
        · exact h3 y hy
theorem home_some (h : Once (KK l) 32) (ho : ∀ x ∈ l, objB x = true) {x y : Nat} (hx : x ∈ KK l y) : homeOf l (x : Int) = (y : Int) := by
  have hy : y < l.length := by
    by_cases e : y < l.length
    · exact e
    · rw [kk_out (by omega)] at hx; cases hx
  unfold homeOf
  rcases homeFrom_is l 0 (x : Int) with ⟨j, hj, e, h2, h3, h4⟩ | ⟨_, h3⟩
  · rw [h4]
    have hxj : x ∈ KK l j := mem_KK.2 ⟨e, by rw [List.getD_eq_getElem?_getD, List.getElem?_eq_getElem hj]; exact h2, by omega⟩
    rw [h.one x j y hxj hx, Nat.zero_add]
  · obtain ⟨e, he, h5⟩ := mem_KK.1 hx
    have hr := obj_range (ho _ (getD_mem hy)) e he
    exact absurd (by omega : e.f1 = (x : Int)) (h3 _ (getD_mem hy) e he)
theorem home_none {x : Nat} (hn : ∀ y, x ∉ KK l y) : homeOf l (x : Int) = -1 := by
  unfold homeOf
  rcases homeFrom_is l 0 (x : Int) with ⟨j, hj, e, h2, h3, h4⟩ | ⟨h2, _⟩
  · exact absurd (mem_KK.2 ⟨e, by rw [List.getD_eq_getElem?_getD, List.getElem?_eq_getElem hj]; exact h2, by omega⟩) (hn j)
  · rw [h2]
theorem top_neg (n : Nat) : topN l n (-1) = false := by
  cases n with
  | zero => rfl
  | succ n => rw [topN, if_neg (by decide)]; rfl
theorem top_is (h : Once (KK l) 32) (ho : ∀ x ∈ l, objB x = true) : ∀ (n x : Nat), topN l n (x : Int) = true ↔ ∃ k, k ≤ n ∧ Up (KK l) k x 0
  | 0, x => by
    rw [topN, beq_iff_eq]
    constructor
    · intro e; exact ⟨0, Nat.le_refl _, by show x = 0; omega⟩
    · rintro ⟨k, hk, hu⟩
      obtain rfl : k = 0 := by omega
      have : x = 0 := hu
      omega
  | n + 1, x => by
    rw [topN]
    by_cases hx : (x : Int) > 0
    · rw [if_pos hx]
      by_cases hy : ∃ y, x ∈ KK l y
      · obtain ⟨y, hy⟩ := hy
        rw [home_some h ho hy, top_is h ho n y]
        constructor
        · rintro ⟨k, hk, hu⟩
          exact ⟨k + 1, by omega, y, hy, hu⟩
        · rintro ⟨k, hk, hu⟩
          cases k with
          | zero => have : x = 0 := hu; omega
          | succ k =>
            obtain ⟨y', hy', hu⟩ := hu
            obtain rfl := h.one x y y' hy hy'
            exact ⟨k, by omega, hu⟩
      · rw [home_none (fun y hk => hy ⟨y, hk⟩), top_neg]
        constructor
        · intro e; cases e
        · rintro ⟨k, hk, hu⟩
          cases k with
          | zero => have : x = 0 := hu; omega
          | succ k => obtain ⟨y', hy', _⟩ := hu; exact absurd ⟨y', hy'⟩ hy
    · rw [if_neg hx, beq_iff_eq]
      have h0 : x = 0 := by omega
      constructor
      · intro _; exact ⟨0, by omega, h0⟩
      · intro _; omega
theorem ok_iff (hl : l.length = 32) (hr : (l.getD 0 z69).f0 = 2) (ho : ∀ x ∈ l, objB x = true) : Ok l ↔ CntOk l ∧ ∀ x : Nat, 1 ≤ x → x < 32 → live l x = true → topN l 32 (x : Int) = true := by
  constructor
  · intro h
    refine ⟨(cnt_iff hl ho).2 ⟨h.once, h.lv, fun x h1 h2 h3 => ?_⟩, fun x h1 h2 h3 => ?_⟩
    · obtain ⟨k, hk⟩ := h.reach x h2 h3
      cases k with
      | zero => have : x = 0 := hk; omega
      | succ k => obtain ⟨y, hy, _⟩ := hk; exact ⟨y, hy⟩
    · obtain ⟨k, hk⟩ := h.reach x h2 h3
      exact (top_is h.once ho 32 x).2 ⟨k, by have := up_le h.once hk; omega, hk⟩
  · rintro ⟨h1, h2⟩
    obtain ⟨c1, c2, c3⟩ := (cnt_iff hl ho).1 h1
    refine ⟨hl, hr, ho, c1, c2, fun x hx hv => ?_⟩
    by_cases h0 : x = 0
    · subst h0; exact reach_top _
    · obtain ⟨k, _, hk⟩ := (top_is c1 ho 32 x).1 (h2 x (by omega) hx hv)
      exact ⟨k, hk⟩
end
end Go.Proofs.Ytlaichooanflaaa.TreeM
namespace Go.Proofs.Ytlaichooanflaaa.TreeM
open Go.RowKit Go.Proofs.YtlaichooanflaaaW.PrintWords Go.Proofs.Ytlaichooanflaaa.Base Go.Proofs.Ytlaichooanflaaa.Q Go.Proofs.Ytlaichooanflaaa.WordLaw Go.Proofs.Ytlaichooanflaaa.OpOk Go.Proofs.Ytlaichooanflaaa.Root
/-- A loop that ends at the first that fails. -/
theorem scanNo {β : Type} (g : Nat → Int → Option β) (n : Nat) (p : Nat → Bool) (no : β)
    (hgo : ∀ i : Nat, i < n → p i = true → ∀ r, Ev (fun k => g k ((i : Int) + 1)) r → Ev (fun k => g k (i : Int)) r)
    (hno : ∀ i : Nat, i < n → p i = false → Ev (fun k => g k (i : Int)) no) :
    ∀ d i : Nat, n - i = d → (∃ j, i ≤ j ∧ j < n ∧ p j = false) → Ev (fun k => g k (i : Int)) no := by
  intro d
  induction d with
  | zero => rintro i hd ⟨j, h1, h2, _⟩; omega
  | succ d ih =>
    rintro i hd ⟨j, h1, h2, h3⟩
    cases hp : p i with
    | false => exact hno i (by omega) hp
    | true =>
      refine hgo i (by omega) hp _ (ih (i + 1) (by omega) ⟨j, ?_, h2, h3⟩)
      by_cases e : i = j
      · subst e; rw [hp] at h3; cases h3
      · omega
theorem okSame_is (m : List Int) : ∀ (l : List Ob) (i : Nat), okSame m i l = true ↔ ∀ (j : Nat) (hj : j < l.length), rd m ((i + j : Nat) : Int) = (if i + j = 0 ∨ l[j].f0 = 0 then 0 else 1)
  | [], i => by simp [okSame]
  | x :: xs, i => by
    rw [okSame]
    have ih := okSame_is m xs (i + 1)
    constructor
    · intro h j hj
      by_cases h0 : rd m (i : Int) = (if i = 0 ∨ x.f0 = 0 then 0 else 1)
      · rw [if_pos h0] at h
        cases j with
        | zero => simpa using h0
        | succ j =>
          have := ih.1 h j (by simpa using hj)
          rw [show i + (j + 1) = i + 1 + j by omega]
          simpa using this
      · rw [if_neg h0] at h; cases h
    · intro h
      have h0 := h 0 (by simp)
      rw [if_pos (by simpa using h0)]
      refine ih.2 (fun j hj => ?_)
      have := h (j + 1) (by simpa using hj)
      rw [show i + (j + 1) = i + 1 + j by omega] at this
      simpa using this
section
variable {l : List Ob}
theorem getD_get {j : Nat} (hj : j < l.length) : l.getD j z69 = l[j] := by
  rw [List.getD_eq_getElem?_getD, List.getElem?_eq_getElem hj]
  rfl
theorem same_iff (hl : l.length = 32) (ho : ∀ x ∈ l, objB x = true) : okSame (cnts (allIds l)) 0 l = true ↔ CntOk l := by
  rw [okSame_is]
  constructor
  · intro h i i1 i2
    have h1 := h i (by omega)
    rw [Nat.zero_add, rd_cnts _ _ (by omega) (by omega), ← getD_get] at h1
    unfold live
    constructor
    · intro hv
      rw [decide_eq_true_iff] at hv
      rw [if_neg (by omega)] at h1
      omega
    · intro hv
      rw [decide_eq_false_iff_not] at hv
      rw [if_pos (by omega)] at h1
      omega
  · intro h j hj
    rw [Nat.zero_add, rd_cnts _ _ (by omega) (by omega), ← getD_get hj]
    by_cases h0 : j = 0
    · subst h0
      rw [if_pos (.inl rfl)]
      have : (allIds l).count ((0 : Nat) : Int) = 0 := by
        rw [List.count_eq_zero]
        intro hm
        obtain ⟨o, h1, h2⟩ := List.mem_flatMap.1 hm
        obtain ⟨e, he, h3⟩ := List.mem_map.1 h2
        have := obj_range (ho o h1) e he
        omega
      omega
    · have h1 := h j (by omega) (by omega)
      unfold live at h1
      by_cases hv : (l.getD j z69).f0 = 0
      · have := h1.2 (decide_eq_false (by omega))
        rw [if_pos (.inr hv)]
        omega
      · have := h1.1 (decide_eq_true hv)
        rw [if_neg (by omega)]
        omega
theorem live_count (hl : l.length = 32) : okLive l = ((List.range 32).filter (live l)).length := by
  unfold okLive
  have e : l = (List.range 32).map (fun j => l.getD j z69) := by
    have := map_range_get l z69 (fun x => x)
    rw [hl] at this
    simpa using this.symm
  conv => lhs; rw [e]
  rw [List.filter_map, List.length_map]
  rfl
/-- The walk over what lies in an object. -/
theorem walk_is (hw : Wide l) (hl : l.length = 32) (ho : ∀ x ∈ l, objB x = true) : ∀ (n i : Nat), i < 32 → n ≤ 33 → ∀ out : List Int, out.length + (W (KK l) n i).length ≤ 1048576 → Ev (fun k => impl_walk.f k l (i : Int) out (33 - (n : Int))) (out ++ (W (KK l) n i).map (fun (x : Nat) => (x : Int)))
  | 0, i, hi, _, out, hb => by
    exact Ev.step (f := fun _ => some _) (fun k => by rw [impl_walk.f, if_pos (by omega), if_pos (by omega)]; rfl) (Ev.now _)
  | n + 1, i, hi, hn, out, hb => by
    have hx := getD_mem (l := l) (y := i) (by omega)
    have hwk := (hw.2 _ hx).2
    have hr := obj_range (ho _ hx)
    have eK : KK l i = (l.getD i z69).f3.map (fun e => e.f1.toNat) := by unfold KK idsE; rw [List.map_map]; rfl
    have eR : rd_T69 l (i : Int) = l.getD i z69 := rfl
    have key : ∀ d j : Nat, (l.getD i z69).f3.length - j = d → j ≤ (l.getD i z69).f3.length → ∀ o : List Int, o.length + (((KK l i).drop j).flatMap (fun x => W (KK l) n x)).length ≤ 1048576 →
        Ev (fun k => impl_walk.l0 k l o (33 - ((n + 1 : Nat) : Int)) (l.getD i z69).f3 (j : Int)) (o ++ (((KK l i).drop j).flatMap (fun x => W (KK l) n x)).map (fun (x : Nat) => (x : Int))) := by
      intro d
      induction d with
      | zero =>
        intro j hd hj o _
        obtain rfl : j = (l.getD i z69).f3.length := by omega
        rw [List.drop_of_length_le (by rw [eK]; simp)]
        exact Ev.step (f := fun _ => some o) (fun k => by rw [impl_walk.l0, if_neg (by omega)]) (by simpa using Ev.now o)
      | succ d ih =>
        intro j hd hj o hb
        have hlt : j < (l.getD i z69).f3.length := by omega
        have hlt2 : j < (KK l i).length := by rw [eK]; simpa using hlt
        have hid := hr _ (List.getElem_mem hlt)
        have eg : (KK l i)[j] = (l.getD i z69).f3[j].f1.toNat := by simp [eK]
        have en : (((l.getD i z69).f3[j].f1.toNat : Nat) : Int) = (l.getD i z69).f3[j].f1 := by omega
        rw [List.drop_eq_getElem_cons hlt2, List.flatMap_cons, eg] at hb ⊢
        rw [List.length_append] at hb
        have h1 := walk_is hw hl ho n (l.getD i z69).f3[j].f1.toNat (by omega) (by omega) o (by omega)
        rw [en] at h1
        have h2 := ih (j + 1) (by omega) (by omega) (o ++ (W (KK l) n (l.getD i z69).f3[j].f1.toNat).map (fun (x : Nat) => (x : Int))) (by rw [List.length_append, List.length_map]; omega)
        refine Ev.step (fun k => by rw [impl_walk.l0, if_pos (by omega), if_pos (by omega), rdE hlt, w30 hlt hwk.1, w64 (n := 33 - ((n + 1 : Nat) : Int) + 1) (by omega) (by omega)]) (Ev.cast (Ev.bind (Ev.of_eq h1 (fun k => by congr 1; omega)) h2) ?_)
        rw [List.map_append, List.append_assoc]
    have hW : W (KK l) (n + 1) i = i :: (KK l i).flatMap (fun x => W (KK l) n x) := rfl
    rw [hW, List.length_cons] at hb
    have h0 := key _ 0 rfl (Nat.zero_le _) (out ++ [(i : Int)]) (by rw [List.drop_zero, List.length_append]; simp only [List.length_cons, List.length_nil]; omega)
    refine Ev.cast (Ev.step (fun k => by rw [impl_walk.f, if_pos (by omega), if_neg (by omega), if_pos (by omega), if_pos (by omega), eR] <;> rfl) h0) ?_
    rw [hW, List.drop_zero, List.map_cons, List.append_assoc]
    rfl
theorem walk_small (h : Once (KK l) 32) (n : Nat) : (W (KK l) n 0).length ≤ 32 := by
  have e : (W (KK l) n 0).length = (V (KK l) n (L (KK l) 0)).length := by
    have := sum_W (KK l) n [0]
    simpa [L] using this
  have h3 := sub_len _ (List.range 32) (nodup_V h n 0) (by
    intro y hy
    obtain ⟨_, _, _, hu⟩ := (mem_V (KK l) n 0 y).1 hy
    exact List.mem_range.2 (up_lt h hu))
  rw [List.length_range] at h3
  omega
theorem impl_treeOk (hw : Wide l) : Ev (fun k => impl_TreeOk.f k l) (tr (Ok l)) := by
  unfold impl_TreeOk.f
  by_cases hl : l.length = 32
  · refine Ev.pos hl ?_
    have eR : rd_T69 l 0 = l.getD 0 z69 := rfl
    rw [eR]
    by_cases hr : (l.getD 0 z69).f0 = 2
    · refine Ev.pos hr ?_
      have ha := all_objs l hw.2 [] (by simp only [List.length_nil]; omega)
      rw [cnts_nil, List.nil_append] at ha
      refine Ev.bind ha ?_
      by_cases ho : l.all objB = true
      · have ho' : ∀ x ∈ l, objB x = true := by simpa using ho
        rw [if_pos ho]
        show Ev (fun k => if okSame (cnts (allIds l)) 0 l = true then (impl_walk.f k l 0 [] 0).bind fun q => some (decide (q.length = okLive l)) else some false) _
        by_cases hs : okSame (cnts (allIds l)) 0 l = true
        · have hc := (same_iff hl ho').1 hs
          obtain ⟨c1, c2, c3⟩ := (cnt_iff hl ho').1 hc
          have hwk := walk_is hw hl ho' 33 0 (by omega) (Nat.le_refl _) [] (by have := walk_small c1 33; simp only [List.length_nil]; omega)
          refine Ev.pos hs (Ev.bind hwk (Ev.cast (Ev.now _) ?_))
          rw [Bool.eq_iff_iff, decide_eq_true_iff, tr_iff, List.nil_append, List.length_map, live_count hl, walk_all c1 (live l) (by unfold live; rw [decide_eq_true_iff]; omega) c2 33]
          constructor
          · intro h
            exact ⟨hl, hr, ho', c1, c2, fun x hx hv => let ⟨k, _, hk⟩ := h x hx hv; ⟨k, hk⟩⟩
          · intro h x hx hv
            obtain ⟨k, hk⟩ := h.reach x hx hv
            exact ⟨k, by have := up_le c1 hk; omega, hk⟩
        · refine Ev.neg hs (Ev.cast (Ev.now _) ?_)
          symm
          apply tr_f
          intro h
          exact hs ((same_iff hl ho').2 ((ok_iff hl hr ho').1 h).1)
      · rw [if_neg ho]
        refine Ev.cast (Ev.now false) ?_
        symm
        apply tr_f
        intro h
        exact ho (by simpa using h.objs)
    · exact Ev.neg hr (Ev.cast (Ev.now _) (tr_f (fun h => hr h.root)).symm)
  · exact Ev.neg hl (Ev.cast (Ev.now _) (tr_f (fun h => hl h.len)).symm)
theorem spec_treeOk (hw : Wide l) : Ev (fun k => spec_TreeOk.f k l) (tr (Ok l)) := by
  unfold spec_TreeOk.f
  have j0 : ∀ b r, (b = true → r = false) → (b = false → Ev (fun k => spec_TreeOk.l0 k 0 l) r) → Ev (fun k => spec_TreeOk.j0 k b l) r := by
    intro b r h1 h2
    refine Ev.step (fun k => by rw [spec_TreeOk.j0]) ?_
    cases b with
    | true => rw [h1 rfl]; exact Ev.pos rfl (Ev.now _)
    | false => exact Ev.neg (by decide) (h2 rfl)
  by_cases hl : l.length = 32
  · refine Ev.pos (by omega) (Ev.pos (by omega) ?_)
    have eR : rd_T69 l 0 = l.getD 0 z69 := rfl
    rw [eR]
    refine j0 _ _ ?_ ?_
    · intro h
      apply tr_f
      intro k
      rw [k.root] at h
      cases h
    · intro h
      have hr : (l.getD 0 z69).f0 = 2 := by simpa using h
      have hw2 := hw.2
      have go : ∀ i : Nat, i < l.length → objB (rd_T69 l (i : Int)) = true → ∀ r, Ev (fun k => spec_TreeOk.l0 k ((i : Int) + 1) l) r → Ev (fun k => spec_TreeOk.l0 k (i : Int) l) r := by
        intro i hi hp r hr2
        have hx := spec_obj _ (hw2 _ (List.getElem_mem hi))
        rw [rdO hi] at hp
        exact Ev.step (fun k => by rw [spec_TreeOk.l0, if_pos (by omega), if_pos (by omega), rdO hi, w30 hi hw.1]) (Ev.bind hx (Ev.pos hp hr2))
      have no : ∀ i : Nat, i < l.length → objB (rd_T69 l (i : Int)) = false → Ev (fun k => spec_TreeOk.l0 k (i : Int) l) false := by
        intro i hi hp
        have hx := spec_obj _ (hw2 _ (List.getElem_mem hi))
        rw [rdO hi] at hp
        refine Ev.step (fun k => by rw [spec_TreeOk.l0, if_pos (by omega), if_pos (by omega), rdO hi]) (Ev.bind hx ?_)
        rw [hp]
        exact Ev.neg (by decide) (Ev.now _)
      by_cases ho : l.all objB = true
      · have ho' : ∀ x ∈ l, objB x = true := by simpa using ho
        refine Ev.cast (scan0 (fun k i => spec_TreeOk.l0 k i l) l.length (fun j => objB (rd_T69 l (j : Int))) (tr (Ok l)) false ?_ go no) (if_pos ((allOf_iff _ _ _).2 (fun j _ hj => by rw [rdO hj]; exact ho' _ (List.getElem_mem hj))))
        · skip
          refine Ev.step (fun k => by rw [spec_TreeOk.l0, if_neg (by omega)]) (Ev.bind (spec_homes l hw ho' hl) ?_)
          -- the counts, and the way up
          let P : Nat → Bool := fun i => decide (rd (cnts (allIds l)) (i : Int) = (if (l.getD i z69).f0 = 0 then 0 else 1)) && (!(live l i) || topN l 32 (i : Int))
          have main : ∀ d i : Nat, 32 - i = d → 1 ≤ i → i ≤ 32 → Ev (fun k => spec_TreeOk.l1 k (cnts (allIds l)) (i : Int) l) (allOf P i 32) := by
            intro d
            induction d with
            | zero =>
              intro i hd _ hi
              obtain rfl : i = 32 := by omega
              rw [allOf_end]
              exact Ev.step (f := fun _ => some true) (fun k => by rw [spec_TreeOk.l1, if_neg (by omega)]) (Ev.now _)
            | succ d ih =>
              intro i hd h1 hi
              have hlt : i < 32 := by omega
              have h2 := ih (i + 1) (by omega) (by omega) (by omega)
              rw [allOf_step P hlt]
              have eI : rd_T69 l (i : Int) = l.getD i z69 := rfl
              have ht := spec_top l hw (i : Int)
              have hj : ∀ b : Bool, b = !(decide (rd (cnts (allIds l)) (i : Int) = (if (l.getD i z69).f0 = 0 then 0 else 1))) → Ev (fun k => spec_TreeOk.j3 k (cnts (allIds l)) (i : Int) ((l.getD i z69).f0 != 0) b l) (P i && allOf P (i + 1) 32) := by
                intro b hb
                refine Ev.step (fun k => by rw [spec_TreeOk.j3, w30 (n := 32) hlt (by omega)]) ?_
                cases hb0 : b with
                | true =>
                  rw [hb0] at hb
                  have : P i = false := by
                    show (decide _ && _) = false
                    rw [Bool.and_eq_false_iff]; left
                    rw [← Bool.not_eq_true']; exact hb.symm
                  rw [this, Bool.false_and]
                  exact Ev.pos rfl (Ev.now _)
                | false =>
                  rw [hb0] at hb
                  have hd1 : decide (rd (cnts (allIds l)) (i : Int) = (if (l.getD i z69).f0 = 0 then 0 else 1)) = true := by
                    rw [← Bool.not_eq_false']; exact hb.symm
                  refine Ev.neg (by decide) ?_
                  by_cases hv : (l.getD i z69).f0 = 0
                  · have hP : P i = true := by
                      show (decide _ && (!(live l i) || _)) = true
                      rw [hd1, show live l i = false from decide_eq_false (by simpa using hv)]
                      rfl
                    rw [hP, Bool.true_and]
                    exact Ev.neg (by simpa using hv) h2
                  · have hP : P i = topN l 32 (i : Int) := by
                      show (decide _ && (!(live l i) || _)) = _
                      rw [hd1, show live l i = true from decide_eq_true hv]
                      simp
                    rw [hP]
                    refine Ev.pos (by simpa using hv) (Ev.bind ht ?_)
                    cases topN l 32 (i : Int) with
                    | true => rw [Bool.true_and]; exact Ev.pos rfl h2
                    | false => rw [Bool.false_and]; exact Ev.neg (by decide) (Ev.now _)
              refine Ev.step (fun k => by rw [spec_TreeOk.l1, if_pos (by omega), if_pos (by omega), eI]) ?_
              have hcl : (i : Int) < ((cnts (allIds l)).length : Int) := by rw [cnts_length]; omega
              by_cases hv : (l.getD i z69).f0 = 0
              · refine Ev.pos hv (Ev.neg (fun h => h hv) (Ev.pos hcl (hj _ ?_)))
                rw [if_pos hv]
                cases h : decide (rd (cnts (allIds l)) (i : Int) = 0) with
                | true => rw [decide_eq_true_iff] at h; simp [h]
                | false => rw [decide_eq_false_iff_not] at h; simp [h]
              · refine Ev.neg hv (Ev.pos hcl ?_)
                by_cases hc : rd (cnts (allIds l)) (i : Int) = 1
                · refine Ev.pos hc (Ev.pos hv (hj _ ?_))
                  rw [if_neg hv, decide_eq_true hc]; rfl
                · refine Ev.neg hc (hj _ ?_)
                  rw [if_neg hv, decide_eq_false hc]; rfl
          refine Ev.cast (main 31 1 rfl (Nat.le_refl _) (by omega)) ?_
          rw [Bool.eq_iff_iff, tr_iff, allOf_iff, ok_iff hl hr ho']
          constructor
          · intro h
            refine ⟨fun i i1 i2 => ?_, fun i i1 i2 hv => ?_⟩
            · have h1 := h i i1 i2
              rw [Bool.and_eq_true, decide_eq_true_iff, rd_cnts _ _ (by omega) (by omega)] at h1
              unfold live
              constructor
              · intro hv
                rw [decide_eq_true_iff] at hv
                have := h1.1
                rw [if_neg hv] at this
                omega
              · intro hv
                rw [decide_eq_false_iff_not] at hv
                have := h1.1
                rw [if_pos (by omega)] at this
                omega
            · have h1 := h i i1 i2
              rw [Bool.and_eq_true, hv] at h1
              simpa using h1.2
          · rintro ⟨h1, h2⟩ i i1 i2
            have hc := h1 i i1 i2
            rw [Bool.and_eq_true, decide_eq_true_iff, rd_cnts _ _ (by omega) (by omega)]
            cases hv : live l i with
            | true =>
              refine ⟨?_, by rw [h2 i i1 i2 hv]; rfl⟩
              have := hc.1 hv
              unfold live at hv
              rw [decide_eq_true_iff] at hv
              rw [if_neg hv]
              omega
            | false =>
              refine ⟨?_, rfl⟩
              have := hc.2 hv
              unfold live at hv
              rw [decide_eq_false_iff_not] at hv
              rw [if_pos (by omega)]
              omega
      · have hx : ∃ j, 0 ≤ j ∧ j < l.length ∧ objB (rd_T69 l (j : Int)) = false := by
          have : ¬ ∀ x ∈ l, objB x = true := by simpa using ho
          have : ∃ x ∈ l, objB x = false := by
            apply Classical.byContradiction
            intro hn
            exact this (fun x hx => by
              cases h : objB x with
              | true => rfl
              | false => exact absurd ⟨x, hx, h⟩ hn)
          obtain ⟨x, hx, h⟩ := this
          obtain ⟨j, hj, rfl⟩ := List.mem_iff_getElem.1 hx
          exact ⟨j, Nat.zero_le _, hj, by rw [rdO hj]; exact h⟩
        refine Ev.cast (scanNo (fun k i => spec_TreeOk.l0 k i l) l.length (fun j => objB (rd_T69 l (j : Int))) false go no l.length 0 rfl hx) ?_
        symm
        apply tr_f
        intro h
        exact ho (by simpa using h.objs)
  · exact Ev.neg (by omega) (j0 _ _ (fun _ => tr_f (fun h => hl h.len)) (fun h => by cases h))
end
end Go.Proofs.Ytlaichooanflaaa.TreeM
namespace Go.Proofs.Ytlaichooanflaaa.Trees
open Go.RowKit Go.Proofs.YtlaichooanflaaaW.PrintWords Go.Proofs.Ytlaichooanflaaa.Base Go.Proofs.Ytlaichooanflaaa.Q
theorem size_step {a : Int} {s : Nat} (h0 : 0 ≤ a) (h1 : a ≤ 1048576) (hs : s ≤ 9223372036854775807) : wrap64 (a - (s : Int)) = a - s := w64 (by omega) (by omega)
def smallEnt (x : S170) : Prop := x.f0.size ≤ 1048576
def smallObj (x : S138) : Prop := x.f2.size ≤ 1048576 ∧ x.f3.length ≤ 1048576 ∧ ∀ y ∈ x.f3, smallEnt y
def smallTree (l : List S138) : Prop := l.length ≤ 1048576 ∧ ∀ x ∈ l, smallObj x
def wideEnts (l : List S170) : Prop := l.length ≤ 9223372036854775807 ∧ ∀ y ∈ l, (Lit.int .i64 y.f1).wf = true ∧ y.f0.size ≤ 9223372036854775807
def wideObj (x : S138) : Prop := (Lit.int .i64 x.f0).wf = true ∧ (Lit.int .i64 x.f1).wf = true ∧ x.f2.size ≤ 9223372036854775807 ∧ wideEnts x.f3
def wideTree (l : List S138) : Prop := l.length ≤ 9223372036854775807 ∧ ∀ x ∈ l, wideObj x
theorem wide_of {l : List S138} (h : l.length ≤ 9223372036854775807 ∧ ∀ y0 ∈ l, (Lit.int .i64 y0.f0).wf = true ∧ (Lit.int .i64 y0.f1).wf = true ∧ y0.f2.size ≤ 9223372036854775807 ∧ (y0.f3.length ≤ 9223372036854775807 ∧ ∀ y1 ∈ y0.f3, y1.f0.size ≤ 9223372036854775807 ∧ (Lit.int .i64 y1.f1).wf = true)) : wideTree l :=
  ⟨h.1, fun x hx => by
    obtain ⟨a, b, c, d, e⟩ := h.2 x hx
    exact ⟨a, b, c, d, fun y hy => ⟨(e y hy).2, (e y hy).1⟩⟩⟩
def cvEnt (x : S170) : S77 := ⟨x.f0, x.f1⟩
def cvObj (x : S138) : S69 := ⟨x.f0, x.f1, x.f2, x.f3.map cvEnt⟩
theorem szEntS (l : List S170) (hl : wideEnts l) (a : Int) (h0 : 0 ≤ a) (h1 : a ≤ 1048576) :
    ∃ r, Ev (fun k => laws_szEntS.f k l a) r ∧ (r = -1 ∨ (0 ≤ r ∧ r ≤ a ∧ l.length ≤ 1048576 ∧ ∀ x ∈ l, smallEnt x)) := by
  unfold laws_szEntS.f
  rw [size_step h0 h1 hl.1]
  by_cases c : a - (l.length : Int) < 0
  · exact ⟨-1, Ev.pos c (Ev.now _), .inl rfl⟩
  · obtain ⟨r, hr, hp⟩ := sizeLoop (fun k a i => laws_szEntS.l0 k l a i) l.length (fun j => ∀ x, l[j]? = some x → smallEnt x)
      (fun a => Ev.step (fun k => by rw [laws_szEntS.l0, if_neg (by omega)]) (Ev.now _))
      (fun i a hi h0 h1 => by
        have hx : l[i] ∈ l := List.getElem_mem hi
        have e : rd_T170 l (i : Int) = l[i] := by simp [rd_T170, List.getD_eq_getElem?_getD, List.getElem?_eq_getElem hi]
        have z := (hl.2 _ hx).2
        have hstep : ∀ k, laws_szEntS.l0 (k + 1) l a (i : Int) = if a - (l[i].f0.size : Int) < 0 then some (-1) else laws_szEntS.l0 k l (a - (l[i].f0.size : Int)) ((i : Int) + 1) := by
          intro k
          rw [laws_szEntS.l0, if_pos (by omega), if_pos (by omega), e, w64s (b := 4611686018427387904) (by omega) (by omega) (by omega)]
          unfold laws_szEnt.f
          rw [size_step h0 h1 z]
          by_cases c : a - (l[i].f0.size : Int) < 0
          · simp only [if_pos c, Option.bind_some]; rfl
          · simp only [if_neg c, Option.bind_some]
        by_cases c : a - (l[i].f0.size : Int) < 0
        · left
          exact Ev.step (f := fun _ => some (-1)) (fun k => by rw [hstep, if_pos c]) (Ev.now _)
        · right
          refine ⟨a - (l[i].f0.size : Int), by omega, by omega, ?_, fun q hq => Ev.step (fun k => by rw [hstep, if_neg c]) hq⟩
          intro x hx'
          rw [List.getElem?_eq_getElem hi] at hx'
          injection hx' with hx'
          rw [← hx']
          show _ ≤ _
          omega)
      l.length 0 rfl (Nat.zero_le _) (a - (l.length : Int)) (by omega) (by omega)
    by_cases hr0 : 0 ≤ r
    · refine ⟨r, Ev.neg c hr, .inr ⟨hr0, by have := (hp hr0).1; omega, by omega, fun x hx => ?_⟩⟩
      obtain ⟨j, hj, rfl⟩ := List.mem_iff_getElem.1 hx
      exact (hp hr0).2 j (Nat.zero_le _) hj _ (List.getElem?_eq_getElem hj)
    · exact ⟨r, Ev.neg c hr, .inl (by
        obtain ⟨K, hK⟩ := hr
        have : ∀ (k : Nat) (b i : Int) (q : Int), laws_szEntS.l0 k l b i = some q → 0 ≤ b → -1 ≤ q := by
          intro k
          induction k with
          | zero => intro b i q h _; simp [laws_szEntS.l0] at h
          | succ k ih =>
            intro b i q h hb
            rw [laws_szEntS.l0] at h
            split at h
            · split at h
              · obtain ⟨t, _, h⟩ := Option.bind_eq_some_iff.1 h
                split at h
                · injection h with h; omega
                · exact ih _ _ _ h (by omega)
              · cases h
            · injection h with h; omega
        have := this K _ _ r (hK K (Nat.le_refl _)) (by omega)
        omega)⟩
theorem szObj (x : S138) (hx : wideObj x) (a : Int) (h0 : 0 ≤ a) (h1 : a ≤ 1048576) : ∃ r, Ev (fun k => laws_szObj.f k x.f0 x.f1 x.f2 x.f3 a) r ∧ (r = -1 ∨ (0 ≤ r ∧ r ≤ a ∧ smallObj x)) := by
  unfold laws_szObj.f
  rw [size_step h0 h1 hx.2.2.1]
  by_cases c : a - (x.f2.size : Int) < 0
  · exact ⟨-1, Ev.pos c (Ev.now _), .inl rfl⟩
  · obtain ⟨r, hr, hp⟩ := szEntS x.f3 hx.2.2.2 (a - (x.f2.size : Int)) (by omega) (by omega)
    rcases hp with rfl | ⟨p0, p1, p2, p3⟩
    · exact ⟨-1, Ev.neg c (Ev.bind hr (Ev.pos (by decide) (Ev.now _))), .inl rfl⟩
    · exact ⟨r, Ev.neg c (Ev.bind hr (Ev.neg (by omega) (Ev.now _))), .inr ⟨p0, by omega, by omega, p2, p3⟩⟩
theorem szTree (l : List S138) (hl : wideTree l) (a : Int) (h0 : 0 ≤ a) (h1 : a ≤ 1048576) :
    ∃ r, Ev (fun k => laws_szTree.f k l a) r ∧ (0 ≤ r → r ≤ a ∧ smallTree l) := by
  have main : ∃ r, Ev (fun k => laws_szObjS.f k l a) r ∧ (0 ≤ r → r ≤ a ∧ smallTree l) := by
    unfold laws_szObjS.f
    rw [size_step h0 h1 hl.1]
    by_cases c : a - (l.length : Int) < 0
    · exact ⟨-1, Ev.pos c (Ev.now _), fun h => absurd h (by decide)⟩
    · obtain ⟨r, hr, hp⟩ := sizeLoop (fun k a i => laws_szObjS.l0 k l a i) l.length (fun j => ∀ x, l[j]? = some x → smallObj x)
        (fun a => Ev.step (fun k => by rw [laws_szObjS.l0, if_neg (by omega)]) (Ev.now _))
        (fun i a hi h0 h1 => by
          have hx : l[i] ∈ l := List.getElem_mem hi
          have e : rd_T138 l (i : Int) = l[i] := by simp [rd_T138, List.getD_eq_getElem?_getD, List.getElem?_eq_getElem hi]
          obtain ⟨r, hr, hp⟩ := szObj _ (hl.2 _ hx) a h0 h1
          have hstep : ∀ k, laws_szObjS.l0 (k + 1) l a (i : Int) = (laws_szObj.f k l[i].f0 l[i].f1 l[i].f2 l[i].f3 a).bind fun t => if t < 0 then some (-1) else laws_szObjS.l0 k l t ((i : Int) + 1) := by
            intro k
            rw [laws_szObjS.l0, if_pos (by omega), if_pos (by omega), e, w64s (b := 4611686018427387904) (by omega) (by omega) (by omega)]
          rcases hp with rfl | ⟨p0, p1, p2⟩
          · left
            exact Ev.step hstep (Ev.bind hr (Ev.pos (by decide) (Ev.now _)))
          · right
            refine ⟨r, p0, p1, ?_, fun q hq => Ev.step hstep (Ev.bind hr (Ev.neg (by omega) hq))⟩
            intro x hx'
            rw [List.getElem?_eq_getElem hi] at hx'
            injection hx' with hx'
            rw [← hx']
            exact p2)
        l.length 0 rfl (Nat.zero_le _) (a - (l.length : Int)) (by omega) (by omega)
      refine ⟨r, Ev.neg c hr, fun h => ⟨by have := (hp h).1; omega, by omega, fun x hx => ?_⟩⟩
      obtain ⟨j, hj, rfl⟩ := List.mem_iff_getElem.1 hx
      exact (hp h).2 j (Nat.zero_le _) hj _ (List.getElem?_eq_getElem hj)
  obtain ⟨r, hr, hp⟩ := main
  unfold laws_szTree.f
  by_cases h : r < 0
  · exact ⟨-1, Ev.bind hr (Ev.pos h (Ev.now _)), fun h => absurd h (by decide)⟩
  · exact ⟨r, Ev.bind hr (Ev.neg h (Ev.now _)), hp⟩
theorem toEntS (l : List S170) (hl : l.length ≤ 1048576) : Ev (fun k => laws_toEntS.f k l) (l.map cvEnt) := by
  unfold laws_toEntS.f
  refine Ev.pos (by omega) (Ev.pos (by omega) ?_)
  refine Ev.cast (fill0 (fun k out i => laws_toEntS.l0 k l out i) l.length (fun j => cvEnt (l.getD j z170)) _ (by simp) ?_ ?_) (map_range_get l _ _)
  · intro out _
    exact Ev.step (fun k => by rw [laws_toEntS.l0, if_neg (by omega)]) (Ev.now _)
  · intro i out hi ho r hr
    refine Ev.step (fun k => ?_) hr
    rw [laws_toEntS.l0, if_pos (by omega), if_pos (by omega), w64s (b := l.length) (by omega) (by omega) (by omega)]
    unfold laws_toEnt.f
    simp only [Option.bind_some]
    rw [if_pos (by omega)]
    rfl
theorem toTree (l : List S138) (hl : smallTree l) : Ev (fun k => laws_toTree.f k l) (l.map cvObj) := by
  unfold laws_toTree.f
  refine Ev.bind (a := l.map cvObj) ?_ (Ev.now _)
  unfold laws_toObjS.f
  have hl1 := hl.1
  refine Ev.pos (by omega) (Ev.pos (by omega) ?_)
  refine Ev.cast (fill0 (fun k out i => laws_toObjS.l0 k l out i) l.length (fun j => cvObj (l.getD j z138)) _ (by simp) ?_ ?_) (map_range_get l _ _)
  · intro out _
    exact Ev.step (fun k => by rw [laws_toObjS.l0, if_neg (by omega)]) (Ev.now _)
  · intro i out hi ho r hr
    have e : rd_T138 l (i : Int) = l[i] := by simp [rd_T138, List.getD_eq_getElem?_getD, List.getElem?_eq_getElem hi]
    have e2 : l.getD i z138 = l[i] := by simp [List.getD_eq_getElem?_getD, List.getElem?_eq_getElem hi]
    have hs := hl.2 _ (List.getElem_mem hi)
    refine Ev.step (f := fun k => (laws_toObj.f k l[i].f0 l[i].f1 l[i].f2 l[i].f3).bind fun bt => if (i : Int) < (out.length : Int) then laws_toObjS.l0 k l (out.set i ⟨bt.1, bt.2.1, bt.2.2.1, bt.2.2.2⟩) ((i : Int) + 1) else none) (fun k => ?_) ?_
    · rw [laws_toObjS.l0, if_pos (by omega), if_pos (by omega), w64s (b := l.length) (by omega) (by omega) (by omega), e]
      rfl
    · rw [e2] at hr
      have ho' : Ev (fun k => laws_toObj.f k l[i].f0 l[i].f1 l[i].f2 l[i].f3) (l[i].f0, l[i].f1, l[i].f2, l[i].f3.map cvEnt) := by
        unfold laws_toObj.f
        exact Ev.bind (toEntS _ hs.2.1) (Ev.now _)
      exact Ev.bind ho' (Ev.pos (by omega) hr)
theorem ent_ext (x y : S77) : (x.f0.toList = y.f0.toList ∧ x.f1 = y.f1) ↔ x = y := by
  rw [bytes_inj]
  constructor
  · rintro ⟨h0, h1⟩
    cases x; cases y
    simp_all
  · rintro rfl
    simp
theorem eqEnt_is (x y : S77) : laws_eqEnt.f x.f0 x.f1 y.f0 y.f1 = some (tr (x = y)) := by
  have h := ent_ext x y
  unfold laws_eqEnt.f
  repeat' split
  all_goals (congr 1; symm)
  all_goals first | (rw [tr_iff, ← h]; grind) | (apply tr_f; rw [← h]; grind)
theorem neq_false {α : Type} {a b : List α} (c : ¬ (a.length : Int) = (b.length : Int)) : false = tr (a = b) := by
  symm
  apply tr_f
  rintro rfl
  exact c rfl
theorem eqEntS (a b : List S77) (hl : a.length ≤ 4611686018427387903) : Ev (fun k => laws_eqEntS.f k a b) (tr (a = b)) := by
  unfold laws_eqEntS.f
  by_cases c : (a.length : Int) = (b.length : Int)
  · refine Ev.pos c (eqLoop (fun k i => laws_eqEntS.l0 k a b i) a b z77 (by omega) ?_ ?_ ?_)
    · exact Ev.step (fun k => by rw [laws_eqEntS.l0, if_neg (by omega)]) (Ev.now _)
    · intro i hi he r hr
      refine Ev.step (fun k => ?_) hr
      have he' : rd_T77 a i = rd_T77 b i := by simpa [rd_T77] using he
      rw [laws_eqEntS.l0, if_pos (by omega), if_pos (by omega), if_pos (by omega), eqEnt_is, Option.bind_some, if_pos (tr_t he'), w64s (b := a.length) (by omega) (by omega) (by omega)]
    · intro i hi he
      refine Ev.step (f := fun _ => some false) (fun k => ?_) (Ev.now _)
      have he' : rd_T77 a i ≠ rd_T77 b i := by simpa [rd_T77] using he
      rw [laws_eqEntS.l0, if_pos (by omega), if_pos (by omega), if_pos (by omega), eqEnt_is, Option.bind_some, if_neg (fun h => he' (tr_iff.1 h))]
  · exact Ev.neg c (Ev.cast (Ev.now false) (neq_false c))
/-- Lists are short enough for a loop's counter. -/
def wideO (l : List S69) : Prop := l.length ≤ 4611686018427387903 ∧ ∀ x ∈ l, x.f3.length ≤ 4611686018427387903
theorem wideO_map {l : List S138} (h : smallTree l) : wideO (l.map cvObj) := by
  refine ⟨by rw [List.length_map]; have := h.1; omega, fun x hx => ?_⟩
  obtain ⟨y, hy, rfl⟩ := List.mem_map.1 hx
  have := (h.2 y hy).2.1
  show (y.f3.map cvEnt).length ≤ _
  rw [List.length_map]
  omega
theorem rdO {l : List S69} {i : Nat} (hi : i < l.length) : rd_T69 l (i : Int) = l[i] := by simp [rd_T69, List.getD_eq_getElem?_getD, List.getElem?_eq_getElem hi]
theorem eqObj (x y : S69) (hx : x.f3.length ≤ 4611686018427387903) : Ev (fun k => laws_eqObj.f k x.f0 x.f1 x.f2 x.f3 y.f0 y.f1 y.f2 y.f3) (tr (x = y)) := by
  unfold laws_eqObj.f
  refine Ev.cast (Ev.iteR (Ev.iteR (Ev.iteR (Ev.bind (eqEntS x.f3 y.f3 hx) (Ev.iteR (Ev.now true) (Ev.now false))) (Ev.now false)) (Ev.now false)) (Ev.now false)) ?_
  have e : x = y ↔ x.f0 = y.f0 ∧ x.f1 = y.f1 ∧ x.f2.toList = y.f2.toList ∧ x.f3 = y.f3 := by
    rw [bytes_inj]
    constructor
    · rintro rfl; simp
    · rintro ⟨h0, h1, h2, h3⟩
      cases x; cases y
      simp_all
  rw [Bool.eq_iff_iff, @tr_iff (x = y), e]
  have h3 : tr (x.f3 = y.f3) = true ↔ x.f3 = y.f3 := tr_iff
  generalize tr (x.f3 = y.f3) = t at *
  cases t <;> by_cases h0 : x.f0 = y.f0 <;> by_cases h1 : x.f1 = y.f1 <;> by_cases h2 : x.f2.toList = y.f2.toList <;> simp_all
theorem eqTree (a b : List S69) (hl : wideO a) : Ev (fun k => laws_eqTree.f k a b) (tr (a = b)) := by
  have hl1 := hl.1
  unfold laws_eqTree.f
  refine Ev.bind (a := tr (a = b)) ?_ (Ev.cast (Ev.iteR (Ev.now true) (Ev.now false)) (by cases tr (a = b) <;> rfl))
  unfold laws_eqObjS.f
  by_cases c : (a.length : Int) = (b.length : Int)
  · refine Ev.pos c (eqLoop (fun k i => laws_eqObjS.l0 k a b i) a b z69 (by omega) ?_ ?_ ?_)
    · exact Ev.step (fun k => by rw [laws_eqObjS.l0, if_neg (by omega)]) (Ev.now _)
    · intro i hi he r hr
      have he' : rd_T69 a i = rd_T69 b i := by simpa [rd_T69] using he
      have hx := eqObj (rd_T69 a i) (rd_T69 b i) (by rw [rdO hi]; exact hl.2 _ (List.getElem_mem hi))
      refine Ev.step (fun k => by rw [laws_eqObjS.l0, if_pos (by omega), if_pos (by omega), if_pos (by omega), w64s (b := a.length) (by omega) (by omega) (by omega)]) (Ev.bind hx ?_)
      exact Ev.pos (tr_t he') hr
    · intro i hi he
      have he' : rd_T69 a i ≠ rd_T69 b i := by simpa [rd_T69] using he
      have hx := eqObj (rd_T69 a i) (rd_T69 b i) (by rw [rdO hi]; exact hl.2 _ (List.getElem_mem hi))
      refine Ev.step (fun k => by rw [laws_eqObjS.l0, if_pos (by omega), if_pos (by omega), if_pos (by omega)]) (Ev.bind hx ?_)
      exact Ev.neg (fun h => he' (tr_iff.1 h)) (Ev.now _)
  · exact Ev.neg c (Ev.cast (Ev.now false) (neq_false c))
end Go.Proofs.Ytlaichooanflaaa.Trees
namespace Go.Proofs.Ytlaichooanflaaa.TreeM
open Go.RowKit Go.Proofs.YtlaichooanflaaaW.PrintWords Go.Proofs.Ytlaichooanflaaa.Base Go.Proofs.Ytlaichooanflaaa.Q Go.Proofs.Ytlaichooanflaaa.WordLaw Go.Proofs.Ytlaichooanflaaa.OpOk Go.Proofs.Ytlaichooanflaaa.Root
theorem wide_small {l : List S138} (h : Trees.smallTree l) : Wide (l.map Trees.cvObj) := by
  refine ⟨by rw [List.length_map]; have := h.1; omega, fun x hx => ?_⟩
  obtain ⟨y, hy, rfl⟩ := List.mem_map.1 hx
  obtain ⟨h1, h2, h3⟩ := h.2 y hy
  refine ⟨by show y.f2.size ≤ _; omega, by show (y.f3.map Trees.cvEnt).length ≤ _; rw [List.length_map]; omega, fun e he => ?_⟩
  obtain ⟨z, hz, rfl⟩ := List.mem_map.1 he
  have := h3 z hz
  show z.f0.size ≤ _
  unfold Trees.smallEnt at this
  omega
section
variable {l : List Ob}
theorem ok_range (h : Ok l) {i : Int} (hi : inB i 0 31 = true) : 0 ≤ i ∧ i < (l.length : Int) := by
  unfold inB at hi
  simp only [Bool.and_eq_true, decide_eq_true_eq] at hi
  have := h.len
  omega
def thereB (l : List Ob) (i : Int) : Bool := inB i 0 31 && ((rd_T69 l i).f0 != 0)
theorem impl_there_is (h : Ok l) (i : Int) : impl_there.f l i = some (thereB l i) := by
  unfold impl_there.f thereB
  rw [in_is]
  simp only [Option.bind_some]
  have hl := h.len
  cases hi : (decide (0 ≤ i) && decide (i ≤ 31)) with
  | false =>
    rw [if_neg (by decide), show inB i 0 31 = false from hi]
    rfl
  | true =>
    rw [show inB i 0 31 = true from hi]
    simp only [Bool.and_eq_true, decide_eq_true_eq] at hi
    rw [if_pos rfl, if_pos (by omega), if_pos (by omega)]
    rfl
theorem there_live (h : Ok l) {i : Int} (ht : thereB l i = true) : ∃ (x k : Nat), i = (x : Int) ∧ x < 32 ∧ live l x = true ∧ Up (KK l) k x 0 ∧ k < 32 := by
  unfold thereB inB at ht
  simp only [Bool.and_eq_true, decide_eq_true_eq, bne_iff_ne] at ht
  obtain ⟨⟨h0, h1⟩, h2⟩ := ht
  obtain ⟨x, rfl⟩ := Int.eq_ofNat_of_zero_le h0
  have hv : live l x = true := decide_eq_true h2
  obtain ⟨k, hk⟩ := h.reach x (by omega) hv
  exact ⟨x, k, rfl, by omega, hv, hk, up_le h.once hk⟩
end
end Go.Proofs.Ytlaichooanflaaa.TreeM
namespace Go.Proofs.Ytlaichooanflaaa.TreeM
open Go.RowKit Go.Proofs.YtlaichooanflaaaW.PrintWords Go.Proofs.Ytlaichooanflaaa.Base Go.Proofs.Ytlaichooanflaaa.Q Go.Proofs.Ytlaichooanflaaa.WordLaw Go.Proofs.Ytlaichooanflaaa.OpOk Go.Proofs.Ytlaichooanflaaa.Root
section
variable {l : List Ob}
def slash : ByteArray := ⟨#[47]⟩
theorem slash_size : slash.size = 1 := rfl
/-- The way down to an object, ahead of what is there already. -/
def pathN (l : List Ob) : Nat → Int → ByteArray → ByteArray
  | 0, _, out => out
  | n + 1, id, out => if id > 0 then pathN l n (homeOf l id) ((slash ++ (homeFrom l 0 id).2) ++ out) else out
theorem homeFrom_size : ∀ (l : List Ob), (∀ x ∈ l, WideX x) → ∀ (i : Nat) (id : Int), (homeFrom l i id).2.size ≤ 1073741824
  | [], _, i, id => by show 0 ≤ _; omega
  | x :: xs, hw, i, id => by
    rw [homeFrom]
    cases hf : x.f3.find? (fun e => decide (e.f1 = id)) with
    | some e => exact (hw x List.mem_cons_self).2.2 e (List.mem_of_find?_eq_some hf)
    | none => exact homeFrom_size xs (fun y hy => hw y (List.mem_cons_of_mem _ hy)) (i + 1) id
/-- What something is called in a directory. -/
def nameIn (es : List En) (id : Int) : ByteArray := match es.find? (fun e => decide (e.f1 = id)) with | some e => e.f0 | none => ⟨#[]⟩
theorem called_is (es : List En) (hw : es.length ≤ 1073741824) (id : Int) : Ev (fun k => spec_l1Called.f k es id) (nameIn es id) := by
  unfold spec_l1Called.f nameIn
  refine Ev.cast (findLoop (fun k j => spec_l1Called.l0 k es id j) es (fun e => decide (e.f1 = id)) z77 (fun e => e.f0) (⟨#[]⟩ : ByteArray) ?_ ?_ ?_) (by cases List.find? (fun e : En => decide (e.f1 = id)) es <;> rfl)
  · exact Ev.step (f := fun _ => some _) (fun k => by rw [spec_l1Called.l0, if_neg (by omega)]) (Ev.now _)
  · intro j hj hp r hr
    rw [decide_eq_false_iff_not] at hp
    have e : rd_T77 es (j : Int) = es.getD j z77 := rfl
    exact Ev.step (fun k => by rw [spec_l1Called.l0, if_pos (by omega), if_pos (by omega), e, if_neg hp, w30 hj hw]) hr
  · intro j hj hp
    rw [decide_eq_true_iff] at hp
    have e : rd_T77 es (j : Int) = es.getD j z77 := rfl
    exact Ev.step (f := fun _ => some _) (fun k => by rw [spec_l1Called.l0, if_pos (by omega), if_pos (by omega), e, if_pos hp]) (Ev.now _)
theorem homeFrom_name : ∀ (l : List Ob) (i : Nat) (id : Int) (y : Nat), (homeFrom l i id).1 = ((i + y : Nat) : Int) → nameIn (l.getD y z69).f3 id = (homeFrom l i id).2
  | [], i, id, y, h => by
    have h' : (-1 : Int) = ((i + y : Nat) : Int) := h
    omega
  | x :: xs, i, id, y, h => by
    rw [homeFrom] at h ⊢
    cases hf : x.f3.find? (fun e => decide (e.f1 = id)) with
    | some e =>
      rw [hf] at h
      have h' : (i : Int) = ((i + y : Nat) : Int) := h
      obtain rfl : y = 0 := by omega
      show nameIn x.f3 id = _
      unfold nameIn
      rw [hf]
    | none =>
      rw [hf] at h
      have h' : (homeFrom xs (i + 1) id).1 = ((i + y : Nat) : Int) := h
      have hpos : ∀ (m : List Ob) (a : Nat), (homeFrom m a id).1 = -1 ∨ (a : Int) ≤ (homeFrom m a id).1 := by
        intro m
        induction m with
        | nil => intro a; exact .inl rfl
        | cons z m ih =>
          intro a
          rw [homeFrom]
          cases z.f3.find? (fun e => decide (e.f1 = id)) with
          | some e => exact .inr (Int.le_refl _)
          | none => rcases ih (a + 1) with h | h
                    · exact .inl h
                    · exact .inr (by show _ ≤ (homeFrom m (a + 1) id).1; omega)
      have hy : 0 < y := by
        rcases hpos xs (i + 1) with h2 | h2 <;> omega
      obtain ⟨y, rfl⟩ : ∃ q, y = q + 1 := ⟨y - 1, by omega⟩
      exact homeFrom_name xs (i + 1) id y (by rw [h']; congr 1; omega)
theorem impl_path_l (h : Ok l) (hw : Wide l) : ∀ (k x : Nat), Up (KK l) k x 0 → ∀ (n : Nat) (out : ByteArray), k ≤ n → out.size + k * 1073741825 ≤ 4611686018427387903 → Ev (fun q => impl_path.l0 q out (x : Int) l) (pathN l (n + 1) (x : Int) out)
  | 0, x, hu, n, out, _, _ => by
    obtain rfl : x = 0 := hu
    rw [pathN, if_neg (by omega)]
    exact Ev.step (f := fun _ => some out) (fun q => by rw [impl_path.l0, if_neg (by omega)]) (Ev.now _)
  | k + 1, x, ⟨y, hy, hu⟩, n, out, hn, hs => by
    obtain ⟨n, rfl⟩ : ∃ m, n = m + 1 := ⟨n - 1, by omega⟩
    have hz := homeFrom_size l hw.2 0 (x : Int)
    have e := home_some h.once h.objs hy
    have hx := (kk_low h.objs y x hy).1
    have hsz : (slash ++ (homeFrom l 0 (x : Int)).2).size ≤ 1073741825 := by rw [ByteArray.size_append, slash_size]; omega
    have ih := impl_path_l h hw k y hu n ((slash ++ (homeFrom l 0 (x : Int)).2) ++ out) (by omega) (by rw [ByteArray.size_append]; omega)
    rw [pathN, if_pos (by omega), e]
    refine Ev.step (fun q => by rw [impl_path.l0, if_pos (by omega)]) (Ev.bind (impl_home_is l hw (x : Int)) ?_)
    refine Ev.pos (by omega) ?_
    refine Ev.pos ?_ ?_
    · show (slash ++ (homeFrom l 0 (x : Int)).2).size + out.size ≤ _
      omega
    · rw [show (homeFrom l 0 (x : Int)).1 = (y : Int) from e]
      exact ih
theorem spec_path_l (h : Ok l) (hw : Wide l) : ∀ (k x : Nat), Up (KK l) k x 0 → ∀ (n : Nat) (out : ByteArray), k ≤ n → out.size + k * 1073741825 ≤ 4611686018427387903 → Ev (fun q => spec_TreePath.l0 q (x : Int) out l) (if (pathN l (n + 1) (x : Int) out).toList = ([] : List UInt8) then slash else pathN l (n + 1) (x : Int) out)
  | 0, x, hu, n, out, _, _ => by
    obtain rfl : x = 0 := hu
    have e0 : pathN l (n + 1) ((0 : Nat) : Int) out = out := by rw [pathN, if_neg (by omega)]
    rw [e0]
    refine Ev.step (f := fun _ => if out.toList = ([] : List UInt8) then some slash else some out) (fun q => by rw [spec_TreePath.l0, if_neg (by omega)] <;> rfl) (Ev.iteR (Ev.now _) (Ev.now _))
  | k + 1, x, ⟨y, hy, hu⟩, n, out, hn, hs => by
    obtain ⟨n, rfl⟩ : ∃ m, n = m + 1 := ⟨n - 1, by omega⟩
    have hz := homeFrom_size l hw.2 0 (x : Int)
    have e := home_some h.once h.objs hy
    have hx := (kk_low h.objs y x hy).1
    have hyl : y < l.length := by
      by_cases e : y < l.length
      · exact e
      · rw [kk_out (by omega)] at hy; cases hy
    have hsz : (slash ++ (homeFrom l 0 (x : Int)).2).size ≤ 1073741825 := by rw [ByteArray.size_append, slash_size]; omega
    have ih := spec_path_l h hw k y hu n ((slash ++ (homeFrom l 0 (x : Int)).2) ++ out) (by omega) (by rw [ByteArray.size_append]; omega)
    have hc := called_is (rd_T69 l (y : Int)).f3 (by rw [rdO hyl]; exact (hw.2 _ (List.getElem_mem hyl)).2.1) (x : Int)
    have hnm := homeFrom_name l 0 (x : Int) y (by rw [Nat.zero_add]; exact e)
    rw [show rd_T69 l (y : Int) = l.getD y z69 from rfl, hnm] at hc
    have eP : pathN l (n + 1 + 1) (x : Int) out = pathN l (n + 1) (y : Int) ((slash ++ (homeFrom l 0 (x : Int)).2) ++ out) := by rw [pathN, if_pos (by omega), e]
    rw [eP]
    refine Ev.step (fun q => by rw [spec_TreePath.l0, if_pos (by omega)]) (Ev.bind (spec_home_is l hw (x : Int)) ?_)
    rw [e]
    refine Ev.pos (by omega) (Ev.pos (by omega) (Ev.bind hc ?_))
    refine Ev.pos (by omega) ?_
    refine Ev.pos ?_ ih
    show (slash ++ (homeFrom l 0 (x : Int)).2).size + out.size ≤ _
    omega
theorem pathN_ne (h : Ok l) : ∀ (k x : Nat), Up (KK l) k x 0 → ∀ (n : Nat) (out : ByteArray), k ≤ n → (0 < k ∨ 0 < out.size) → 0 < (pathN l (n + 1) (x : Int) out).size
  | 0, x, hu, n, out, _, hp => by
    obtain rfl : x = 0 := hu
    rw [pathN, if_neg (by omega)]
    omega
  | k + 1, x, ⟨y, hy, hu⟩, n, out, hn, _ => by
    obtain ⟨n, rfl⟩ : ∃ m, n = m + 1 := ⟨n - 1, by omega⟩
    have e := home_some h.once h.objs hy
    have hx := (kk_low h.objs y x hy).1
    rw [pathN, if_pos (by omega), e]
    exact pathN_ne h k y hu n _ (by omega) (.inr (by rw [ByteArray.size_append, ByteArray.size_append, slash_size]; omega))
noncomputable def pathR (l : List Ob) (i : Int) : ByteArray := if tr (Ok l) = true then (if thereB l i = true then (if i = 0 then slash else pathN l 33 i ⟨#[]⟩) else ⟨#[]⟩) else ⟨#[]⟩
theorem impl_treePath (hw : Wide l) (i : Int) : Ev (fun k => impl_TreePath.f k l i) (pathR l i) := by
  unfold impl_TreePath.f pathR
  refine Ev.bind (impl_treeOk hw) ?_
  by_cases h : Ok l
  · rw [tr_t h, if_pos rfl]
    refine Ev.pos rfl (Ev.bind (a := if thereB l i = true then (if i = 0 then slash else pathN l 33 i ⟨#[]⟩) else ⟨#[]⟩) ?_ (Ev.now _))
    unfold impl_path.f
    refine Ev.of_eq (f := fun k => if thereB l i = true then (if i = 0 then some slash else impl_path.l0 k ⟨#[]⟩ i l) else some ⟨#[]⟩) ?_ (fun k => by rw [impl_there_is h]; rfl)
    by_cases ht : thereB l i = true
    · obtain ⟨x, k, rfl, _, _, hu, hk⟩ := there_live h ht
      rw [if_pos ht]
      exact Ev.pos ht (Ev.iteR (Ev.now _) (impl_path_l h hw k x hu 32 ⟨#[]⟩ (by omega) (by show 0 + _ ≤ _; omega)))
    · rw [if_neg ht]
      exact Ev.neg ht (Ev.now _)
  · rw [tr_f h]
    exact Ev.neg (by decide) (Ev.now _)
theorem spec_treePath (hw : Wide l) (i : Int) : Ev (fun k => spec_TreePath.f k l i) (pathR l i) := by
  unfold spec_TreePath.f pathR
  refine Ev.bind (spec_treeOk hw) ?_
  have j1 : Ev (fun k => spec_TreePath.j0 k i true l) (⟨#[]⟩ : ByteArray) := Ev.step (fun k => by rw [spec_TreePath.j0]) (Ev.pos rfl (Ev.now _))
  by_cases h : Ok l
  · rw [tr_t h, if_pos rfl]
    refine Ev.pos rfl (Ev.of_eq (f := fun k => if inB i 0 31 = true then _ else _) ?_ (fun k => by rw [l1Id]; rfl))
    by_cases h2 : inB i 0 31 = true
    · have hr := ok_range h h2
      refine Ev.pos h2 (Ev.pos hr.1 (Ev.pos hr.2 ?_))
      by_cases h3 : (rd_T69 l i).f0 = 0
      · have ht : thereB l i = false := by unfold thereB; simp [h3]
        rw [ht, if_neg (by decide)]
        rw [show ((rd_T69 l i).f0 == 0) = true by simp [h3]]
        exact j1
      · have ht : thereB l i = true := by unfold thereB; simp [h2, h3]
        obtain ⟨x, k, rfl, _, _, hu, hk⟩ := there_live h ht
        rw [ht, if_pos rfl, show ((rd_T69 l (x : Int)).f0 == 0) = false by simp [h3]]
        refine Ev.step (fun k => by rw [spec_TreePath.j0]) (Ev.neg (by decide) (Ev.cast (spec_path_l h hw k x hu 32 ⟨#[]⟩ (by omega) (by show 0 + _ ≤ _; omega)) ?_))
        by_cases hx : x = 0
        · subst hx
          have e0 : pathN l 33 ((0 : Nat) : Int) ⟨#[]⟩ = ⟨#[]⟩ := by rw [pathN, if_neg (by omega)]
          have e1 : (⟨#[]⟩ : ByteArray).toList = [] := by rw [ByteArray.toList_eq]
          rw [show (32 + 1 : Nat) = 33 from rfl, e0, e1]
          simp
        · rw [if_neg (show ¬ (x : Int) = 0 by omega), if_neg]
          have hp := pathN_ne h k x hu 32 ⟨#[]⟩ (by omega) (.inl (by
            cases k with
            | zero => exact absurd hu hx
            | succ k => omega))
          intro e
          have : (pathN l (32 + 1) (x : Int) ⟨#[]⟩).size = 0 := by
            rw [ByteArray.toList_eq] at e
            rw [← data_length]
            exact congrArg List.length e
          omega
    · refine Ev.neg h2 (Ev.cast j1 ?_)
      rw [Bool.not_eq_true] at h2
      rw [if_neg]
      unfold thereB
      rw [h2, Bool.false_and]
      decide
  · rw [tr_f h]
    exact Ev.neg (by decide) j1
end
end Go.Proofs.Ytlaichooanflaaa.TreeM
namespace Go.Proofs.Ytlaichooanflaaa.Pure
open Go.RowKit Go.Proofs.YtlaichooanflaaaW.PrintWords Go.Proofs.Ytlaichooanflaaa.Base Go.Proofs.Ytlaichooanflaaa.Q Go.Proofs.Ytlaichooanflaaa.Trees
theorem FnExactTreePath (l0_0 : List S138) (a1 : Int) (hg0 : l0_0.length ≤ 9223372036854775807 ∧ ∀ y0 ∈ l0_0, (Lit.int .i64 y0.f0).wf = true ∧ (Lit.int .i64 y0.f1).wf = true ∧ y0.f2.size ≤ 9223372036854775807 ∧ (y0.f3.length ≤ 9223372036854775807 ∧ ∀ y1 ∈ y0.f3, y1.f0.size ≤ 9223372036854775807 ∧ (Lit.int .i64 y1.f1).wf = true)) (_hg1 : (Lit.int .i64 a1).wf = true) :
    ∃ k, laws_FnExactTreePath.f k l0_0 a1 = some true := by
  refine Ev.rounds (?_ : Ev (fun k => laws_FnExactTreePath.f k l0_0 a1) true)
  unfold laws_FnExactTreePath.f
  obtain ⟨r0, h0, p0⟩ := szTree l0_0 (wide_of hg0) 1048576 (by omega) (by omega)
  refine Ev.bind h0 (Ev.ite (fun _ => Ev.now _) (fun c0 => ?_))
  obtain ⟨_, z0⟩ := p0 (by omega)
  have t0 := toTree _ z0
  have hw := TreeM.wide_small z0
  refine Ev.bind t0 (Ev.bind (TreeM.spec_treePath hw a1) (Ev.bind t0 (Ev.bind (TreeM.impl_treePath hw a1) (Ev.pos rfl ?_))))
  exact Ev.bind t0 (Ev.bind (eqTree _ _ (wideO_map z0)) (Ev.pos (tr_t rfl) (Ev.now _)))
end Go.Proofs.Ytlaichooanflaaa.Pure
