/- Part 1 of what the proof of FnExactTreeOpen uses: plain functions with the answers of the Go functions, the proofs that the calls come to them, and plain lemmas. -/
import Derived.Deep.Slices
import Derived.Deep.Fields
import Derived.ChangeSame
import Derived.OpenShut
import Derived.ShutString
import Derived.SizedLaws
import Derived.Carry
import Derived.Lib.Strings
import Derived.Test.YtlaichooanflaaaVFnExactTreeOpen0
namespace Go.Proofs.Ytlaichooanflaaa.Q
open Go.RowKit Go.Proofs.YtlaichooanflaaaW.PrintWords Go.Proofs.YtlaichooanflaaaW.PrintLast Go.Proofs.YtlaichooanflaaaW.PrintMore
attribute [local go_sem] Go.Proofs.Ytlaichooanflaaa.Mem.str_leq Go.Proofs.Ytlaichooanflaaa.Mem.str_gtr Go.Proofs.Ytlaichooanflaaa.Mem.str_geq max2_int min2_int max_two min_two max_three min_three max_four min_four   -- for this text's walks alone
set_option linter.unusedVariables false
set_option linter.unusedSimpArgs false
def impl_TreeOpen.f  : Option ((List (S69))) := if 32 ≤ 5026338869833 then ((some (List.replicate 32 z69 : List (S69))).bind fun y525 => (if 0 < (y525.length : Int) then (some (y525.set (0 : Int).toNat (⟨2, 1, (⟨#[]⟩ : ByteArray), ([] : List (S77))⟩ : S69))) else (none))) else (none)
set_option maxHeartbeats 8000000 in
set_option maxRecDepth 100000 in
theorem impl_TreeOpen.calls  (r : List (S69)) (w : World) (h : impl_TreeOpen.f  = some r) :
    Calls Try.prog 40 #[] w fun e w' => ∃ v0_ : Value, e = .returned (.agg #[v0_]) ∧ Kd.S k69 69 w' w.heap.size (fun _ => True) v0_ r ∧ Below w.heap.size w w' := by
  have hu30 := Try.underlying30
  have hu69 := Try.underlying69
  have HB := Aside0.mk (Below.refl w.heap.size w)
  have H : (if 32 ≤ 5026338869833 then ((some (List.replicate 32 z69 : List (S69))).bind fun y525 => (if 0 < (y525.length : Int) then (some (y525.set (0 : Int).toNat (⟨2, 1, (⟨#[]⟩ : ByteArray), ([] : List (S77))⟩ : S69))) else (none))) else (none)) = some r := h
  clear h
  by_cases c1 : 32 ≤ 5026338869833
  · rw [if_pos c1] at H
    have c1b0 := eq_true c1
    have c1b1 : decide (32 ≤ 5026338869833) = true := decide_eq_true c1
    clear c1
    obtain ⟨y525, hy525⟩ : ∃ y_ : List (S69), y_ = (List.replicate 32 z69) := ⟨_, rfl⟩
    replace H : (if 0 < (y525.length : Int) then (some (y525.set (0 : Int).toNat (⟨2, 1, (⟨#[]⟩ : ByteArray), ([] : List (S77))⟩ : S69))) else (none)) = some r := by first | (rw [hy525]; with_reducible exact H) | (have H2_ := (Option.bind_some _ _).symm.trans H; rw [hy525]; with_reducible exact H2_) | (have H2_ := (Option.bind_some _ _).symm.trans H; with_reducible exact H2_) | with_reducible exact H | (rw [hy525]; exact H) | exact H
    have Ny525 := Aside0.mk hy525
    clear hy525
    by_cases c2 : 0 < (y525.length : Int)
    · rw [if_pos c2] at H
      have c2b0 : decide (0 < (y525.length : Int)) = true := decide_eq_true c2
      have c2b1 : decide (0 < y525.length) = true := decide_eq_true (by omega)
      clear c2
      obtain ⟨y529, hy529⟩ : ∃ y_ : List (S69), y_ = (y525.set (0 : Int).toNat (⟨2, 1, (⟨#[]⟩ : ByteArray), ([] : List (S77))⟩ : S69)) := ⟨_, rfl⟩
      replace H : (some y529) = some r := by first | (rw [hy529]; with_reducible exact H) | (have H2_ := (Option.bind_some _ _).symm.trans H; rw [hy529]; with_reducible exact H2_) | (have H2_ := (Option.bind_some _ _).symm.trans H; with_reducible exact H2_) | with_reducible exact H | (rw [hy529]; exact H) | exact H
      have Ny529 := Aside0.mk hy529
      clear hy529
      obtain rfl := Option.some.inj H
      go_enter Try.func40, Try.ntmps40
      go_wp2_with (first | ((with_reducible refine gate_dst (N := 0) rfl ?_); refine box_event ?hg (N := 0) ?hd (cs := #[.slice none 0 0]) (t := 30) ?hr ?_; (case hd => rfl); (case hg => rfl); (case hr => first | (go_simp; done) | (go_simp; rfl)); intro gb524 hg w4 hbox hb; have n0_ := Aside0.mk (below_step (by repeat (first | (with_reducible first | exact HB.out | apply below_alloc | apply pw_below_drewN | apply below_drew1) | exact HB.out)) hb); have n1_ := Aside0.mk (hbox); have n2_ := Aside0.mk ((by rw [hg]; exact (below_size (by repeat (first | (with_reducible first | exact HB.out | apply below_alloc | apply pw_below_drewN | apply below_drew1) | exact HB.out))) : w.heap.size ≤ gb524)); have n3_ := Aside0.mk ((by rw [hg]; exact (below_size (by repeat (first | (with_reducible first | exact HB.out | apply below_alloc | apply pw_below_drewN | apply below_drew1) | exact HB.out))) : w.heap.size ≤ gb524)); clear HB; have HB := n0_; have BK524 := n1_; have GW524 := n2_; have GE524 := n3_; clear n0_ n1_ n2_ n3_; clear hb hbox hg) | ((with_reducible refine gate_dst (N := 2) rfl ?_); refine Kd.S_make k69 _ 69 rfl (N := 2) rfl 28 _ _ rfl 32 rfl rfl Try.underlying28 (.agg #[(.int .i64 0), (.int .i64 0), (.string ⟨#[]⟩), (.slice none 0 0)]) 56 info69 rfl (by decide) (by omega) z69 (ok := fun _ => True) (okp := fun _ => True) (k69_mkM _ _ _ z69 (Kd.R_nil _ _ _ _ _)) (fun _ hk => hk) trivial (by omega) (by omega) (Below.refl _ _) (Nat.le_refl _) ?_; intro v526 w5 ho6 hb hg_ hnew_; clear hg_ hnew_; (first | rw [← Ny525.out] at ho6 | (simp only [Int.reduceToNat] at ho6; rw [← Ny525.out] at ho6)); have n0_ := Aside0.mk (Kd.S_lower ho6 (below_size (by repeat (first | (with_reducible first | exact HB.out | apply below_alloc | apply pw_below_drewN | apply below_drew1 | refine below_set ?_ GE524.out) | exact HB.out)))); have n1_ := Aside0.mk (blk_below (g := gb524) (o := .cells #[.slice none 0 0] 30 (0, 0)) (by (with_reducible repeat (first | refine blk_drewN ?_ _ | refine blk_drew ?_ | refine blk_alloc ?_ _)); exact BK524.out) hb); have n2_ := Aside0.mk (below_step (by repeat (first | (with_reducible first | exact HB.out | apply below_alloc | apply pw_below_drewN | apply below_drew1 | refine below_set ?_ GE524.out) | exact HB.out)) hb); clear BK524; clear HB; have HO527 := n0_; have BK524 := n1_; have HB := n2_; clear n0_ n1_ n2_; clear hb ho6; obtain ⟨Ao7, co7, eo7⟩ := Kd.S_slice HO527.out; subst eo7) | ((with_reducible refine gate_dst (N := 1) rfl ?_); refine box_event ?hg (N := 1) ?hd (cs := #[.slice none 0 0]) (t := 30) ?hr ?_; (case hd => rfl); (case hg => rfl); (case hr => first | (go_simp; done) | (go_simp; rfl)); intro gb528 hg w8 hbox hb; have n0_ := Aside0.mk (Kd.S_below (by (with_reducible repeat (first | apply Kd.S_alloc | apply Kd.S_drewN | apply Kd.S_drew)); exact HO527.out) hb); have n1_ := Aside0.mk (blk_below (g := gb524) (o := .cells #[.slice none 0 0] 30 (0, 0)) (by (with_reducible repeat (first | refine blk_drewN ?_ _ | refine blk_drew ?_ | refine blk_alloc ?_ _)); exact BK524.out) hb); have n2_ := Aside0.mk (below_step (by repeat (first | (with_reducible first | exact HB.out | apply below_alloc | apply pw_below_drewN | apply below_drew1 | refine below_set ?_ GE524.out) | exact HB.out)) hb); have n3_ := Aside0.mk (hbox); have n4_ := Aside0.mk ((by rw [hg]; exact (below_size (by repeat (first | (with_reducible first | exact HB.out | apply below_alloc | apply pw_below_drewN | apply below_drew1 | refine below_set ?_ GE524.out) | exact HB.out))) : w.heap.size ≤ gb528)); have n5_ := Aside0.mk ((by rw [hg]; exact (below_size (by repeat (first | (with_reducible first | exact HB.out | apply below_alloc | apply pw_below_drewN | apply below_drew1 | refine below_set ?_ GE524.out) | exact HB.out))) : w.heap.size ≤ gb528)); have n6_ := Aside0.mk ((by rw [hg]; exact Nat.ne_of_lt (blk_lt (g := gb524) (o := .cells #[.slice none 0 0] 30 (0, 0)) (by (with_reducible repeat (first | refine blk_drewN ?_ _ | refine blk_drew ?_ | refine blk_alloc ?_ _)); exact BK524.out)) : gb524 ≠ gb528)); have n7_ := Aside0.mk ((by rw [hg]; exact Nat.ne_of_gt (blk_lt (g := gb524) (o := .cells #[.slice none 0 0] 30 (0, 0)) (by (with_reducible repeat (first | refine blk_drewN ?_ _ | refine blk_drew ?_ | refine blk_alloc ?_ _)); exact BK524.out)) : gb528 ≠ gb524)); clear HO527; clear BK524; clear HB; have HO527 := n0_; have BK524 := n1_; have HB := n2_; have BK528 := n3_; have GW528 := n4_; have GE528 := n5_; have NB524_528 := n6_; have NB528_524 := n7_; clear n0_ n1_ n2_ n3_ n4_ n5_ n6_ n7_; clear hb hbox hg; have hnb9 := NB528_524.out; have hnc9 := NB524_528.out; have hcz10_0 : w8.cell? ⟨gb528, 0, none⟩ = some (.slice none 0 0) := (blk_cell BK528.out 0).trans rfl; have hfz10_0 := blk_frozen BK528.out 0) | ((with_reducible refine gate_store (t := 30) (p := 1) rfl ?_); refine store_event (t := 30) (p := 1) (v := ?vo_w11) (w1 := (w8.setCell ⟨gb528, 0, none⟩ (.slice Ao7 y525.length co7))) ?hg ?ho ?hn ?hr ?_; (case ho => rfl); (case hg => rfl); (case hn => rfl); (case hr => first | (go_simp; done) | (go_simp; rfl)); intro w11 hw; have n0_ : Aside0 (Kd.S k69 69 w11 w.heap.size (fun _ => True) (.slice Ao7 y525.length co7) y525) := ⟨(by rw [hw]; exact (by (with_reducible repeat (first | apply Kd.S_alloc | apply Kd.S_drewN | apply Kd.S_drew)); exact Kd.S_mono (Kd.S_far (p := ⟨gb528, 0, none⟩) (Kd.S_types HO527.out BK528.out (by decide)) (fun _ hk => hk.2) (.slice Ao7 y525.length co7)) (fun _ hk => trivial)))⟩; have n1_ : Aside0 (w11.heap[gb524]? = some (.cells #[.slice none 0 0] 30 (0, 0))) := ⟨(by rw [hw]; exact (by (with_reducible repeat (first | refine blk_drewN ?_ _ | refine blk_drew ?_ | refine blk_alloc ?_ _)); refine blk_far ?_ NB524_528.out _; (with_reducible repeat (first | refine blk_drewN ?_ _ | refine blk_drew ?_ | refine blk_alloc ?_ _)); exact BK524.out))⟩; have n2_ : Aside0 (w11.heap[gb528]? = some (.cells #[.slice Ao7 y525.length co7] 30 (0, 0))) := ⟨(by rw [hw]; exact (by (with_reducible repeat (first | refine blk_drewN ?_ _ | refine blk_drew ?_ | refine blk_alloc ?_ _)); refine blk_put (cs := #[.slice none 0 0]) ?_ 0 _ rfl; (with_reducible repeat (first | refine blk_drewN ?_ _ | refine blk_drew ?_ | refine blk_alloc ?_ _)); exact BK528.out))⟩; have n3_ : Aside0 (Below w.heap.size w w11) := ⟨(by rw [hw]; exact (by repeat (first | (with_reducible first | exact HB.out | apply below_alloc | apply pw_below_drewN | apply below_drew1 | refine below_set ?_ GE524.out | refine below_set ?_ GE528.out) | exact HB.out)))⟩; clear hw; clear HO527; clear BK524; clear BK528; clear HB; have HO527 := n0_; have BK524 := n1_; have BK528 := n2_; have HB := n3_; clear n0_ n1_ n2_ n3_; have hcz12_0 : w11.cell? ⟨gb528, 0, none⟩ = some (.slice Ao7 y525.length co7) := (blk_cell BK528.out 0).trans rfl; have hfz12_0 := blk_frozen BK528.out 0; have p3 : 0 ≤ (0 : Int) := (by omega); have q3 : (0 : Int) < ((y525.length : Int) : Int) := of_decide_eq_true (by first | (with_reducible assumption) | assumption); have qi3 : (0 < y525.length) = True := eq_true (by omega); obtain ⟨go3, co3, eo3, gb3, gl3, cl3, HG3⟩ := Kd.S_form HO527.out (by omega); (first | cases eo3 | (injection eo3 with ea_ en_ ec_; (first | subst ea_ | (injection ea_ with ea_; subst ea_)); subst ec_; clear en_)); have GB3 := Aside0.mk gb3; have GG3 := Aside0.mk HG3; clear gb3 gl3 HG3; obtain ⟨_, ce3, hcl3, hM3, hcc3, hfr3, _, _⟩ := Kd.S_elem HO527.out z69 (0 : Int) p3 q3; obtain ⟨ve3_3, rfl, ge3_3⟩ := k69_openM hM3; have hx3_0 : w11.cell? ⟨go3, (0 : Int).toNat * 4, none⟩ = some (.int .i64 ((rd_T69 y525 0).f0)) := hcc3 0 _ rfl; have hx3_1 : w11.cell? ⟨go3, (0 : Int).toNat * 4 + 1, none⟩ = some (.int .i64 ((rd_T69 y525 0).f1)) := hcc3 1 _ rfl; have hx3_2 : w11.cell? ⟨go3, (0 : Int).toNat * 4 + 2, none⟩ = some (.string ((rd_T69 y525 0).f2)) := hcc3 2 _ rfl; have hx3_3 : w11.cell? ⟨go3, (0 : Int).toNat * 4 + 3, none⟩ = some (ve3_3) := hcc3 3 _ rfl; have hf3_0 : w11.frozen? ⟨go3, (0 : Int).toNat * 4, none⟩ = false := hfr3 0; have hf3_1 : w11.frozen? ⟨go3, (0 : Int).toNat * 4 + 1, none⟩ = false := hfr3 1; have hf3_2 : w11.frozen? ⟨go3, (0 : Int).toNat * 4 + 2, none⟩ = false := hfr3 2; have hf3_3 : w11.frozen? ⟨go3, (0 : Int).toNat * 4 + 3, none⟩ = false := hfr3 3; clear hcl3 hcc3 hfr3 hM3; (try rw [show ((0 : Int)).toNat = 0 from rfl] at hx3_0); (try simp only [Nat.reduceMul, Nat.zero_mul, Nat.zero_add, Nat.reduceAdd] at hx3_0); (try rw [show ((0 : Int)).toNat = 0 from rfl] at hf3_0); (try simp only [Nat.reduceMul, Nat.zero_mul, Nat.zero_add, Nat.reduceAdd] at hf3_0); (try rw [show ((0 : Int)).toNat = 0 from rfl] at hx3_1); (try simp only [Nat.reduceMul, Nat.zero_mul, Nat.zero_add, Nat.reduceAdd] at hx3_1); (try rw [show ((0 : Int)).toNat = 0 from rfl] at hf3_1); (try simp only [Nat.reduceMul, Nat.zero_mul, Nat.zero_add, Nat.reduceAdd] at hf3_1); (try rw [show ((0 : Int)).toNat = 0 from rfl] at hx3_2); (try simp only [Nat.reduceMul, Nat.zero_mul, Nat.zero_add, Nat.reduceAdd] at hx3_2); (try rw [show ((0 : Int)).toNat = 0 from rfl] at hf3_2); (try simp only [Nat.reduceMul, Nat.zero_mul, Nat.zero_add, Nat.reduceAdd] at hf3_2); (try rw [show ((0 : Int)).toNat = 0 from rfl] at hx3_3); (try simp only [Nat.reduceMul, Nat.zero_mul, Nat.zero_add, Nat.reduceAdd] at hx3_3); (try rw [show ((0 : Int)).toNat = 0 from rfl] at hf3_3); (try simp only [Nat.reduceMul, Nat.zero_mul, Nat.zero_add, Nat.reduceAdd] at hf3_3); replace p3 := eq_true p3; replace q3 := eq_true q3; have HX13 := Aside0.mk (show Kd.S k69 69 w11 w.heap.size (fun k_ => ((fun _ => True)) k_ ∧ ¬ ((fun _ => False)) k_) (.slice (some ⟨go3, 0, none⟩) y525.length co7) y525 from (by (with_reducible repeat (first | apply Kd.S_alloc | apply Kd.S_drewN | apply Kd.S_drew)); exact Kd.S_mono HO527.out (fun k_ hk => ⟨trivial, fun e_ => e_⟩))); obtain ⟨oki13, ce13, hcl13, hM13, hcc13, hfr13, hoki13, hH13⟩ := Kd.S_elem HX13.out z69 (0 : Int) (by omega) (by have h_ : (0 : Int) < ((y525.length : Int) : Int) := of_decide_eq_true (by first | (with_reducible assumption) | assumption); first | exact h_ | (have e_ := (Kd.S_reads' HO527.out).1; omega) | simpa using h_); obtain ⟨ve13_3, rfl, ge13_3⟩ := k69_openM hM13; have HP13 := Kd.S_seg hH13 (by omega) (by have h_ : (0 : Int) < ((y525.length : Int) : Int) := of_decide_eq_true (by first | (with_reducible assumption) | assumption); first | exact h_ | (have e_ := (Kd.S_reads' HO527.out).1; omega) | simpa using h_) (seg := [.int .i64 2, .int .i64 1, .string (⟨#[]⟩ : ByteArray), .slice none 0 0]) (j := 0) (show 4 ≤ 4 from by decide) (x' := (⟨2, 1, (⟨#[]⟩ : ByteArray), ([] : List (S77))⟩ : S69)) (k69_mkM _ _ _ (⟨2, 1, (⟨#[]⟩ : ByteArray), ([] : List (S77))⟩ : S69) (Kd.R_nil _ _ _ _ _)) (fun _ hk => hk) (fun k_ hk_ => hk_.elim); have hx13_0 := hcc13 0 _ rfl; (try simp only [show (k69).sz = 4 from rfl, Nat.mul_one, Nat.add_zero] at hx13_0); (try rw [show ((0 : Int)).toNat = 0 from rfl] at hx13_0); (try simp only [Nat.reduceMul, Nat.zero_mul, Nat.zero_add, Nat.reduceAdd] at hx13_0); have hf13_0 := hfr13 0; (try simp only [show (k69).sz = 4 from rfl, Nat.mul_one, Nat.add_zero] at hf13_0); (try rw [show ((0 : Int)).toNat = 0 from rfl] at hf13_0); (try simp only [Nat.reduceMul, Nat.zero_mul, Nat.zero_add, Nat.reduceAdd] at hf13_0); have hx13_1 := hcc13 1 _ rfl; (try simp only [show (k69).sz = 4 from rfl, Nat.mul_one, Nat.add_zero] at hx13_1); (try rw [show ((0 : Int)).toNat = 0 from rfl] at hx13_1); (try simp only [Nat.reduceMul, Nat.zero_mul, Nat.zero_add, Nat.reduceAdd] at hx13_1); have hf13_1 := hfr13 1; (try simp only [show (k69).sz = 4 from rfl, Nat.mul_one, Nat.add_zero] at hf13_1); (try rw [show ((0 : Int)).toNat = 0 from rfl] at hf13_1); (try simp only [Nat.reduceMul, Nat.zero_mul, Nat.zero_add, Nat.reduceAdd] at hf13_1); have hx13_2 := hcc13 2 _ rfl; (try simp only [show (k69).sz = 4 from rfl, Nat.mul_one, Nat.add_zero] at hx13_2); (try rw [show ((0 : Int)).toNat = 0 from rfl] at hx13_2); (try simp only [Nat.reduceMul, Nat.zero_mul, Nat.zero_add, Nat.reduceAdd] at hx13_2); have hf13_2 := hfr13 2; (try simp only [show (k69).sz = 4 from rfl, Nat.mul_one, Nat.add_zero] at hf13_2); (try rw [show ((0 : Int)).toNat = 0 from rfl] at hf13_2); (try simp only [Nat.reduceMul, Nat.zero_mul, Nat.zero_add, Nat.reduceAdd] at hf13_2); have hx13_3 := hcc13 3 _ rfl; (try simp only [show (k69).sz = 4 from rfl, Nat.mul_one, Nat.add_zero] at hx13_3); (try rw [show ((0 : Int)).toNat = 0 from rfl] at hx13_3); (try simp only [Nat.reduceMul, Nat.zero_mul, Nat.zero_add, Nat.reduceAdd] at hx13_3); have hf13_3 := hfr13 3; (try simp only [show (k69).sz = 4 from rfl, Nat.mul_one, Nat.add_zero] at hf13_3); (try rw [show ((0 : Int)).toNat = 0 from rfl] at hf13_3); (try simp only [Nat.reduceMul, Nat.zero_mul, Nat.zero_add, Nat.reduceAdd] at hf13_3); clear hcl13 hcc13 hfr13 hM13 hoki13 hH13) | ((with_reducible refine gate_store (t := 69) (p := 7) rfl ?_); refine store_event (t := 69) (p := 7) (v := ?vo_w14) (w1 := ((((w11.setCell ⟨go3, 0, none⟩ (.int .i64 2)).setCell ⟨go3, 1, none⟩ (.int .i64 1)).setCell ⟨go3, 2, none⟩ (.string (⟨#[]⟩ : ByteArray))).setCell ⟨go3, 3, none⟩ (.slice none 0 0))) ?hg ?ho ?hn ?hr ?_; (case ho => rfl); (case hg => rfl); (case hn => rfl); (case hr => first | (go_simp; done) | (go_simp; rfl)); intro w14 hw; have hg : w11.grownBy w14 (some go3) := (by rw [hw]; exact HP13.2); have hp_ : Kd.S k69 69 w14 w.heap.size (fun _ => True) (.slice (some ⟨go3, 0, none⟩) y525.length co7) y529 := (by rw [hw, Ny529.out]; exact HP13.1); clear HP13; have n0_ := Aside0.mk (blk_grown (g := gb524) (o := .cells #[.slice none 0 0] 30 (0, 0)) (by (with_reducible repeat (first | refine blk_drewN ?_ _ | refine blk_drew ?_ | refine blk_alloc ?_ _)); exact BK524.out) hg (Kd.S_ne HO527.out BK524.out (by decide))); have n1_ := Aside0.mk (hp_); have n2_ := Aside0.mk (blk_grown (g := gb528) (o := .cells #[.slice (some ⟨go3, 0, none⟩) y525.length co7] 30 (0, 0)) (by (with_reducible repeat (first | refine blk_drewN ?_ _ | refine blk_drew ?_ | refine blk_alloc ?_ _)); exact BK528.out) hg (Kd.S_ne HO527.out BK528.out (by decide))); have n3_ := Aside0.mk ((by rw [hw]; exact below_set (below_set (below_set (below_set (HB.out) GB3.out) GB3.out) GB3.out) GB3.out : Below w.heap.size w w14)); clear BK524; clear HO527; clear BK528; clear HB; have BK524 := n0_; have HO527 := n1_; have BK528 := n2_; have HB := n3_; clear n0_ n1_ n2_ n3_; clear hg hw hp_; have hcz15_0 : w14.cell? ⟨gb528, 0, none⟩ = some (.slice (some ⟨go3, 0, none⟩) y525.length co7) := (blk_cell BK528.out 0).trans rfl; have hfz15_0 := blk_frozen BK528.out 0; have hcz16_0 : w14.cell? ⟨gb524, 0, none⟩ = some (.slice none 0 0) := (blk_cell BK524.out 0).trans rfl; have hfz16_0 := blk_frozen BK524.out 0))
      refine bodyPost_ret (results_cell_row rfl _ _ gb524 30 #[.slice (some ⟨go3, 0, none⟩) y525.length co7] (0, 0) _ rfl (by (with_reducible repeat (first | refine blk_drewN ?_ _ | refine blk_drew ?_ | refine blk_alloc ?_ _)); refine blk_put (cs := #[.slice none 0 0]) ?_ 0 _ rfl; (with_reducible repeat (first | refine blk_drewN ?_ _ | refine blk_drew ?_ | refine blk_alloc ?_ _)); exact BK524.out) Try.underlying30 rfl (by kernel_rfl)) rfl ?_
      exact ⟨_, by first | rfl | (simp [errW_none, errW_some] <;> rfl) | (simp [*, errW_none, errW_some] <;> rfl), by (with_reducible repeat (first | apply Kd.S_alloc | apply Kd.S_drewN | apply Kd.S_drew)); exact Kd.S_mono (Kd.S_far (p := ⟨gb524, 0, none⟩) (Kd.S_types HO527.out BK524.out (by decide)) (fun _ hk => hk.2) (.slice (some ⟨go3, 0, none⟩) y525.length co7)) (fun _ hk => trivial), by repeat (first | (with_reducible first | exact HB.out | apply below_alloc | apply pw_below_drewN | apply below_drew1 | refine below_set ?_ GE524.out | refine below_set ?_ GE528.out) | exact HB.out)⟩
    · rw [if_neg c2] at H
      exact absurd H (by simp)
  · rw [if_neg c1] at H
    exact absurd H (by simp)
end Go.Proofs.Ytlaichooanflaaa.Q
namespace Go.Proofs.Ytlaichooanflaaa.Q
open Go.RowKit Go.Proofs.YtlaichooanflaaaW.PrintWords Go.Proofs.YtlaichooanflaaaW.PrintLast Go.Proofs.YtlaichooanflaaaW.PrintMore
attribute [local go_sem] Go.Proofs.Ytlaichooanflaaa.Mem.str_leq Go.Proofs.Ytlaichooanflaaa.Mem.str_gtr Go.Proofs.Ytlaichooanflaaa.Mem.str_geq max2_int min2_int max_two min_two max_three min_three max_four min_four   -- for this text's walks alone
set_option linter.unusedVariables false
set_option linter.unusedSimpArgs false
/-- The true path alone: every other answer is left out. -/
def laws_FnExactTreeOpen.f (k : Nat) : Option Bool :=
  spec_TreeOpen.f.bind fun a => impl_TreeOpen.f.bind fun b => (laws_eqTree.f k b a).bind fun e => if e = true then ((laws_markTree.f k b 1).bind fun m => (laws_heldTree.f k m.2 1).bind fun h => if h < 0 then none else if h = m.1 then some true else none) else none
set_option maxHeartbeats 8000000 in
set_option maxRecDepth 100000 in
theorem laws_FnExactTreeOpen.calls (k : Nat) (r : Bool) (w : World) (h : laws_FnExactTreeOpen.f k = some r) :
    Calls Try.prog 4 #[] w fun e w' => e = .returned (.bool r) ∧ Below w.heap.size w w' := by
  have hu30 := Try.underlying30
  unfold laws_FnExactTreeOpen.f at h
  obtain ⟨a, h1, h⟩ := Option.bind_eq_some_iff.1 h
  obtain ⟨b, h2, h⟩ := Option.bind_eq_some_iff.1 h
  obtain ⟨e, h3, h⟩ := Option.bind_eq_some_iff.1 h
  cases e with
  | false => cases h
  | true =>
  rw [if_pos rfl] at h
  obtain ⟨⟨m, t⟩, h4, h⟩ := Option.bind_eq_some_iff.1 h
  obtain ⟨h', h5, h⟩ := Option.bind_eq_some_iff.1 h
  by_cases c1 : h' < 0
  · rw [if_pos c1] at h; cases h
  rw [if_neg c1] at h
  by_cases c2 : h' = m
  case neg => rw [if_neg c2] at h; cases h
  rw [if_pos c2] at h
  obtain rfl := Option.some.inj h
  subst c2
  have H1 := Aside0.mk h1
  have H2 := Aside0.mk h2
  have H3 := Aside0.mk h3
  have H4 := Aside0.mk h4
  have H5 := Aside0.mk h5
  have d1 : decide (h' < 0) = false := decide_eq_false c1
  have d2 : (h' != h') = false := by simp
  clear h h1 h2 h3 h4 h5 c1
  go_enter Try.func4, Try.ntmps4
  go_wp2_with (first | (go_at_call 39; refine (spec_TreeOpen.calls a _ H1.out).mono ?_; rintro e w1 ⟨v1, rfl, hs1, hb1⟩; obtain ⟨A1, c1, hu1⟩ := Kd.S_slice hs1; subst hu1; have S1 := Aside0.mk (Kd.S_alloc (Kd.S_mono (Kd.S_bound hs1) (fun k_ hk => (hk.2.2.1 : k_ < w1.heap.size))) (.cells #[.slice A1 a.length c1] 30 (0, 0))); have B1 := Aside0.mk (hb1.alloc hb1.size (.cells #[.slice A1 a.length c1] 30 (0, 0))); have K1 := Aside0.mk (blk_new w1 (.cells #[.slice A1 a.length c1] 30 (0, 0))); clear hs1 hb1) | (go_at_call 40; refine (impl_TreeOpen.calls b _ H2.out).mono ?_; rintro e w2 ⟨v2, rfl, hs2, hb2⟩; have S3 := Aside0.mk (Kd.S_below S1.out hb2); obtain ⟨A2, c2, hu2⟩ := Kd.S_slice hs2; subst hu2; have l1 : w1.heap.size < w2.heap.size := (by have h_ := hb2.size; simp only [World.size_alloc] at h_; omega); have S4 := Aside0.mk (Kd.S_alloc (Kd.S_mono (Kd.S_bound hs2) (fun k_ hk => (hk.2.2.1 : k_ < w2.heap.size))) (.cells #[.slice A2 b.length c2] 30 (0, 0))); have S5 := Aside0.mk (Kd.S_alloc S3.out (.cells #[.slice A2 b.length c2] 30 (0, 0))); have Ba := Aside0.mk (hb2.alloc hb2.size (.cells #[.slice A2 b.length c2] 30 (0, 0))); have B2 := Aside0.mk ((below_step B1.out hb2).alloc (below_step B1.out hb2).size (.cells #[.slice A2 b.length c2] 30 (0, 0))); have K2 := Aside0.mk (blk_new w2 (.cells #[.slice A2 b.length c2] 30 (0, 0))); have K3 := Aside0.mk (blk_alloc (blk_below K1.out hb2) (.cells #[.slice A2 b.length c2] 30 (0, 0))); have x1_ : w2.cell? ⟨w1.heap.size, 0, none⟩ = some (.slice A1 a.length c1) := (blk_cell (blk_below K1.out hb2) 0).trans rfl; have x2_ : (w2.alloc (.cells #[.slice A2 b.length c2] 30 (0, 0))).cell? ⟨w1.heap.size, 0, none⟩ = some (.slice A1 a.length c1) := (blk_cell K3.out 0).trans rfl; have x3_ : w1.heap.size ≠ w2.heap.size := Nat.ne_of_lt l1; clear S1 S3 K1 hs2 hb2) | (go_at_call 34; refine (laws_eqTree.calls k _ _ b _ _ a true _ (Kd.S_reads' S4.out).2.2 (Kd.S_reads' S4.out).2.1 (Kd.S_reads' S5.out).2.2 (Kd.S_reads' S5.out).2.1 H3.out).mono ?_; rintro e w3 ⟨rfl, hb3⟩; have S6 := Aside0.mk (Kd.S_below S4.out hb3); have S7 := Aside0.mk (Kd.S_below S5.out hb3); have Ba3 := Aside0.mk (below_step Ba.out hb3); have B3 := Aside0.mk (below_step B2.out hb3); have K4 := Aside0.mk (blk_below K2.out hb3); have K5 := Aside0.mk (blk_below K3.out hb3); have l3 : w2.heap.size < w3.heap.size := (by have h_ := hb3.size; simp only [World.size_alloc] at h_; omega); have x4_ : w3.cell? ⟨w2.heap.size, 0, none⟩ = some (.slice A2 b.length c2) := (blk_cell K4.out 0).trans rfl; clear S4 S5 K2 K3 Ba hb3 x1_ x2_ x3_) | (go_at_call 36; refine (laws_markTree.calls k (fun k_ => k_ < w2.heap.size) _ b 1 h' t _ w3 Ba3.out S6.out H4.out).mono ?_; rintro e w4 ⟨rfl, hs4, hb4, hk4⟩; have HL := Aside0.mk (show b.length = t.length from (Kd.S_reads' hs4).1); have S8 := Aside0.mk hs4; have S9 := Aside0.mk (Kd.S_step (w1 := w4) S7.out (fun k_ ok_ _ => (hb4.block k_ (by simp only [World.size_alloc]; omega)).trans (Ba3.out.block k_ (by simp only [World.size_alloc]; omega)).symm)); have B4 := Aside0.mk (below_step B1.out hb4); have K6 := Aside0.mk ((hk4.2 _ l3 (Nat.lt_irrefl _)).trans K4.out); have K7 := Aside0.mk (((hb4.block w1.heap.size (by simp only [World.size_alloc]; omega)).trans (Ba3.out.block w1.heap.size (by simp only [World.size_alloc]; omega)).symm).trans K5.out); have x5_ : w4.cell? ⟨w2.heap.size, 0, none⟩ = some (.slice A2 b.length c2) := (blk_cell K6.out 0).trans rfl; clear S6 S7 Ba3 B3 K4 K5 x4_ hs4 hb4 hk4 B1 B2) | (go_at_call 38; have hc_ := laws_heldTree.calls k A2 c2 t 1 h' w4 (Kd.S_reads' S8.out).2.2 (by rw [← HL.out]; exact (Kd.S_reads' S8.out).2.1) H5.out; rw [← HL.out] at hc_; refine hc_.mono ?_; rintro e w5 ⟨rfl, hb5⟩; clear hc_; have S10 := Aside0.mk (Kd.S_below S8.out hb5); have S11 := Aside0.mk (Kd.S_below S9.out hb5); have B5 := Aside0.mk (below_step B4.out hb5); have K8 := Aside0.mk (blk_below K6.out hb5); have K9 := Aside0.mk (blk_below K7.out hb5); have l5 := hb5.size; have l4 : w2.heap.size < w4.heap.size := blk_lt K6.out; have l6 : w1.heap.size < w4.heap.size := blk_lt K7.out; clear S8 S9 B4 K6 K7 x5_ hb5) | (go_at_call 40; refine (impl_TreeOpen.calls b _ H2.out).mono ?_; rintro e w6 ⟨v3, rfl, hs6, hb6⟩; obtain ⟨A3, c3, hu3⟩ := Kd.S_slice hs6; subst hu3; have S12 := Aside0.mk (Kd.S_alloc (Kd.S_below S10.out hb6) (.cells #[.slice A3 b.length c3] 30 (0, 0))); have S13 := Aside0.mk (Kd.S_alloc (Kd.S_below S11.out hb6) (.cells #[.slice A3 b.length c3] 30 (0, 0))); have S14 := Aside0.mk (Kd.S_alloc hs6 (.cells #[.slice A3 b.length c3] 30 (0, 0))); have B6 := Aside0.mk ((below_step B5.out hb6).alloc (below_step B5.out hb6).size (.cells #[.slice A3 b.length c3] 30 (0, 0))); have K10 := Aside0.mk (blk_below K8.out hb6); have K11 := Aside0.mk (blk_below K9.out hb6); have l7 := hb6.size; have x6_ : w6.cell? ⟨w1.heap.size, 0, none⟩ = some (.slice A1 a.length c1) := (blk_cell K11.out 0).trans rfl; have x7_ : w6.cell? ⟨w2.heap.size, 0, none⟩ = some (.slice A2 b.length c2) := (blk_cell K10.out 0).trans rfl; have x8_ : w1.heap.size ≠ w6.heap.size := (by omega); have x9_ : w2.heap.size ≠ w6.heap.size := (by omega); have K12 := Aside0.mk (blk_alloc K10.out (.cells #[.slice A3 b.length c3] 30 (0, 0))); have x11_ : (w6.alloc (.cells #[.slice A3 b.length c3] 30 (0, 0))).cell? ⟨w1.heap.size, 0, none⟩ = some (.slice A1 a.length c1) := (blk_cell (blk_alloc K11.out (.cells #[.slice A3 b.length c3] 30 (0, 0))) 0).trans rfl; clear S10 S11 B5 K8 K9 K11 hs6 hb6) | (go_at_call 34; refine (laws_eqTree.calls k _ _ b _ _ a true _ (Kd.S_reads' S14.out).2.2 (Kd.S_reads' S14.out).2.1 (Kd.S_reads' S13.out).2.2 (Kd.S_reads' S13.out).2.1 H3.out).mono ?_; rintro e w7 ⟨rfl, hb7⟩; have S15 := Aside0.mk (Kd.S_below S12.out hb7); have B7 := Aside0.mk (below_step B6.out hb7); have x10_ : w7.cell? ⟨w2.heap.size, 0, none⟩ = some (.slice A2 b.length c2) := (blk_cell (blk_below K12.out hb7) 0).trans rfl; clear S12 S13 S14 B6 K10 K12 hb7 x6_ x7_ x8_ x9_ x11_) | (go_at_call 38; have hc_ := laws_heldTree.calls k A2 c2 t 1 h' w7 (Kd.S_reads' S15.out).2.2 (by rw [← HL.out]; exact (Kd.S_reads' S15.out).2.1) H5.out; rw [← HL.out] at hc_; refine hc_.mono ?_; rintro e w8 ⟨rfl, hb8⟩; clear hc_; have B8 := Aside0.mk (below_step B7.out hb8); clear S15 B7 hb8))
  go_ret
  exact ⟨rfl, B8.out⟩
end Go.Proofs.Ytlaichooanflaaa.Q
namespace Go.Proofs.Ytlaichooanflaaa.Base
open Go.RowKit Go.Proofs.YtlaichooanflaaaW.PrintWords
theorem w64 {n : Int} (h0 : -9223372036854775808 ≤ n) (h1 : n ≤ 9223372036854775807) : wrap64 n = n := by unfold wrap64; omega
theorem w64s {n : Int} {b : Nat} (h0 : 0 ≤ n) (h1 : n < b) (hb : b ≤ 4611686018427387904) : wrap64 (n + 1) = n + 1 := w64 (by omega) (by omega)
section
variable {α β : Type} {g f : Nat → Option α} {r : α}
theorem Ev.pos {c : Prop} [Decidable c] (h : c) (k : Ev g r) : Ev (fun n => if c then g n else f n) r := by simpa only [if_pos h] using k
theorem Ev.neg {c : Prop} [Decidable c] (h : ¬ c) (k : Ev f r) : Ev (fun n => if c then g n else f n) r := by simpa only [if_neg h] using k
theorem Ev.sbind {a : β} {f : Nat → β → Option α} (k : Ev (fun n => f n a) r) : Ev (fun n => (some a).bind (f n)) r := by simpa only [Option.bind_some] using k
end
/-- p holds at i, i + 1, .., n - 1. -/
def allOf (p : Nat → Bool) (i n : Nat) : Bool := (List.range' i (n - i)).all p
theorem allOf_end (p : Nat → Bool) (n : Nat) : allOf p n n = true := by simp [allOf]
theorem allOf_step (p : Nat → Bool) {i n : Nat} (h : i < n) : allOf p i n = (p i && allOf p (i + 1) n) := by
  unfold allOf
  rw [show n - i = (n - (i + 1)) + 1 by omega, List.range'_succ, List.all_cons]
theorem allOf_iff (p : Nat → Bool) (i n : Nat) : allOf p i n = true ↔ ∀ j, i ≤ j → j < n → p j = true := by
  unfold allOf
  rw [List.all_eq_true]
  constructor
  · intro h j h1 h2
    exact h j (by rw [List.mem_range'_1]; omega)
  · intro h j hj
    rw [List.mem_range'_1] at hj
    exact h j hj.1 (by omega)
/-- A loop that asks a test of each index, and ends with 'no' at the first that fails. -/
theorem scan {β : Type} (g : Nat → Int → Option β) (n : Nat) (p : Nat → Bool) (yes no : β)
    (hend : Ev (fun k => g k (n : Int)) yes)
    (hgo : ∀ i : Nat, i < n → p i = true → ∀ r, Ev (fun k => g k ((i : Int) + 1)) r → Ev (fun k => g k (i : Int)) r)
    (hno : ∀ i : Nat, i < n → p i = false → Ev (fun k => g k (i : Int)) no) :
    ∀ d i : Nat, n - i = d → i ≤ n → Ev (fun k => g k (i : Int)) (if allOf p i n = true then yes else no) := by
  intro d
  induction d with
  | zero =>
    intro i hd hi
    have : i = n := by omega
    subst this
    rw [allOf_end, if_pos rfl]
    exact hend
  | succ d ih =>
    intro i hd hi
    rw [allOf_step p (by omega)]
    cases hp : p i with
    | true =>
      rw [Bool.true_and]
      exact hgo i (by omega) hp _ (ih (i + 1) (by omega) (by omega))
    | false =>
      rw [Bool.false_and, if_neg (by decide)]
      exact hno i (by omega) hp
theorem scan0 {β : Type} (g : Nat → Int → Option β) (n : Nat) (p : Nat → Bool) (yes no : β)
    (hend : Ev (fun k => g k (n : Int)) yes)
    (hgo : ∀ i : Nat, i < n → p i = true → ∀ r, Ev (fun k => g k ((i : Int) + 1)) r → Ev (fun k => g k (i : Int)) r)
    (hno : ∀ i : Nat, i < n → p i = false → Ev (fun k => g k (i : Int)) no) :
    Ev (fun k => g k 0) (if allOf p 0 n = true then yes else no) := scan g n p yes no hend hgo hno n 0 rfl (Nat.zero_le _)
theorem Ev.cast {α : Type} {g : Nat → Option α} {r r' : α} (h : Ev g r) (e : r = r') : Ev g r' := e ▸ h
theorem Ev.iteR {α : Type} {g f : Nat → Option α} {r s : α} {c : Prop} [Decidable c] (h : Ev g r) (k : Ev f s) : Ev (fun n => if c then g n else f n) (if c then r else s) := by
  split
  · exact h
  · exact k
theorem bytes_inj {s t : ByteArray} : s.toList = t.toList ↔ s = t := by
  constructor
  · intro h
    rw [ByteArray.toList_eq, ByteArray.toList_eq] at h
    exact ByteArray.ext (by rw [← Array.toList_inj]; exact h)
  · intro h; rw [h]
/-- A proposition as a Bool. -/
noncomputable def tr (p : Prop) : Bool := @decide p (Classical.propDecidable p)
theorem tr_iff {p : Prop} : tr p = true ↔ p := by unfold tr; exact @decide_eq_true_iff p (Classical.propDecidable p)
theorem tr_t {p : Prop} (h : p) : tr p = true := tr_iff.2 h
theorem tr_f {p : Prop} (h : ¬ p) : tr p = false := by
  cases e : tr p with
  | true => exact absurd (tr_iff.1 e) h
  | false => rfl
theorem of_tr_f {p : Prop} (h : tr p = false) : ¬ p := fun k => by rw [tr_t k] at h; cases h
/-- A loop that compares two lists of one length, element by element. -/
theorem eqLoop {α : Type} (g : Nat → Int → Option Bool) (a b : List α) (z : α) (hl : a.length = b.length)
    (hend : Ev (fun k => g k (a.length : Int)) true)
    (hgo : ∀ i : Nat, i < a.length → a.getD i z = b.getD i z → ∀ r, Ev (fun k => g k ((i : Int) + 1)) r → Ev (fun k => g k (i : Int)) r)
    (hno : ∀ i : Nat, i < a.length → a.getD i z ≠ b.getD i z → Ev (fun k => g k (i : Int)) false) :
    Ev (fun k => g k 0) (tr (a = b)) := by
  refine Ev.cast (scan0 g a.length (fun i => tr (a.getD i z = b.getD i z)) true false hend (fun i hi hp => hgo i hi (tr_iff.1 hp)) (fun i hi hp => hno i hi (of_tr_f hp))) ?_
  rw [Bool.eq_iff_iff, tr_iff]
  have : (∀ j, 0 ≤ j → j < a.length → tr (a.getD j z = b.getD j z) = true) ↔ a = b := by
    constructor
    · intro h
      apply List.ext_getElem hl
      intro i h1 h2
      have := tr_iff.1 (h i (Nat.zero_le _) h1)
      rwa [List.getD_eq_getElem?_getD, List.getD_eq_getElem?_getD, List.getElem?_eq_getElem h1, List.getElem?_eq_getElem h2] at this
    · rintro rfl j _ _
      exact tr_t rfl
  rw [← this, ← allOf_iff]
  split <;> simp_all
end Go.Proofs.Ytlaichooanflaaa.Base
namespace Go.Proofs.Ytlaichooanflaaa.Trees
open Go.RowKit Go.Proofs.YtlaichooanflaaaW.PrintWords Go.Proofs.Ytlaichooanflaaa.Base Go.Proofs.Ytlaichooanflaaa.Q
theorem ent_ext (x y : S77) : (x.f0.toList = y.f0.toList ∧ x.f1 = y.f1) ↔ x = y := by
  rw [bytes_inj]
  constructor
  · rintro ⟨h0, h1⟩
    cases x; cases y
    simp_all
  · rintro rfl
    simp
theorem eqEnt_is (x y : S77) : laws_eqEnt.f x.f0 x.f1 y.f0 y.f1 = some (tr (x = y)) := by
  have h := ent_ext x y
  unfold laws_eqEnt.f
  repeat' split
  all_goals (congr 1; symm)
  all_goals first | (rw [tr_iff, ← h]; grind) | (apply tr_f; rw [← h]; grind)
theorem neq_false {α : Type} {a b : List α} (c : ¬ (a.length : Int) = (b.length : Int)) : false = tr (a = b) := by
  symm
  apply tr_f
  rintro rfl
  exact c rfl
theorem eqEntS (a b : List S77) (hl : a.length ≤ 4611686018427387903) : Ev (fun k => laws_eqEntS.f k a b) (tr (a = b)) := by
  unfold laws_eqEntS.f
  by_cases c : (a.length : Int) = (b.length : Int)
  · refine Ev.pos c (eqLoop (fun k i => laws_eqEntS.l0 k a b i) a b z77 (by omega) ?_ ?_ ?_)
    · exact Ev.step (fun k => by rw [laws_eqEntS.l0, if_neg (by omega)]) (Ev.now _)
    · intro i hi he r hr
      refine Ev.step (fun k => ?_) hr
      have he' : rd_T77 a i = rd_T77 b i := by simpa [rd_T77] using he
      rw [laws_eqEntS.l0, if_pos (by omega), if_pos (by omega), if_pos (by omega), eqEnt_is, Option.bind_some, if_pos (tr_t he'), w64s (b := a.length) (by omega) (by omega) (by omega)]
    · intro i hi he
      refine Ev.step (f := fun _ => some false) (fun k => ?_) (Ev.now _)
      have he' : rd_T77 a i ≠ rd_T77 b i := by simpa [rd_T77] using he
      rw [laws_eqEntS.l0, if_pos (by omega), if_pos (by omega), if_pos (by omega), eqEnt_is, Option.bind_some, if_neg (fun h => he' (tr_iff.1 h))]
  · exact Ev.neg c (Ev.cast (Ev.now false) (neq_false c))
/-- Lists are short enough for a loop's counter. -/
def wideO (l : List S69) : Prop := l.length ≤ 4611686018427387903 ∧ ∀ x ∈ l, x.f3.length ≤ 4611686018427387903
theorem rdO {l : List S69} {i : Nat} (hi : i < l.length) : rd_T69 l (i : Int) = l[i] := by simp [rd_T69, List.getD_eq_getElem?_getD, List.getElem?_eq_getElem hi]
theorem eqObj (x y : S69) (hx : x.f3.length ≤ 4611686018427387903) : Ev (fun k => laws_eqObj.f k x.f0 x.f1 x.f2 x.f3 y.f0 y.f1 y.f2 y.f3) (tr (x = y)) := by
  unfold laws_eqObj.f
  refine Ev.cast (Ev.iteR (Ev.iteR (Ev.iteR (Ev.bind (eqEntS x.f3 y.f3 hx) (Ev.iteR (Ev.now true) (Ev.now false))) (Ev.now false)) (Ev.now false)) (Ev.now false)) ?_
  have e : x = y ↔ x.f0 = y.f0 ∧ x.f1 = y.f1 ∧ x.f2.toList = y.f2.toList ∧ x.f3 = y.f3 := by
    rw [bytes_inj]
    constructor
    · rintro rfl; simp
    · rintro ⟨h0, h1, h2, h3⟩
      cases x; cases y
      simp_all
  rw [Bool.eq_iff_iff, @tr_iff (x = y), e]
  have h3 : tr (x.f3 = y.f3) = true ↔ x.f3 = y.f3 := tr_iff
  generalize tr (x.f3 = y.f3) = t at *
  cases t <;> by_cases h0 : x.f0 = y.f0 <;> by_cases h1 : x.f1 = y.f1 <;> by_cases h2 : x.f2.toList = y.f2.toList <;> simp_all
theorem eqTree (a b : List S69) (hl : wideO a) : Ev (fun k => laws_eqTree.f k a b) (tr (a = b)) := by
  have hl1 := hl.1
  unfold laws_eqTree.f
  refine Ev.bind (a := tr (a = b)) ?_ (Ev.cast (Ev.iteR (Ev.now true) (Ev.now false)) (by cases tr (a = b) <;> rfl))
  unfold laws_eqObjS.f
  by_cases c : (a.length : Int) = (b.length : Int)
  · refine Ev.pos c (eqLoop (fun k i => laws_eqObjS.l0 k a b i) a b z69 (by omega) ?_ ?_ ?_)
    · exact Ev.step (fun k => by rw [laws_eqObjS.l0, if_neg (by omega)]) (Ev.now _)
    · intro i hi he r hr
      have he' : rd_T69 a i = rd_T69 b i := by simpa [rd_T69] using he
      have hx := eqObj (rd_T69 a i) (rd_T69 b i) (by rw [rdO hi]; exact hl.2 _ (List.getElem_mem hi))
      refine Ev.step (fun k => by rw [laws_eqObjS.l0, if_pos (by omega), if_pos (by omega), if_pos (by omega), w64s (b := a.length) (by omega) (by omega) (by omega)]) (Ev.bind hx ?_)
      exact Ev.pos (tr_t he') hr
    · intro i hi he
      have he' : rd_T69 a i ≠ rd_T69 b i := by simpa [rd_T69] using he
      have hx := eqObj (rd_T69 a i) (rd_T69 b i) (by rw [rdO hi]; exact hl.2 _ (List.getElem_mem hi))
      refine Ev.step (fun k => by rw [laws_eqObjS.l0, if_pos (by omega), if_pos (by omega), if_pos (by omega)]) (Ev.bind hx ?_)
      exact Ev.neg (fun h => he' (tr_iff.1 h)) (Ev.now _)
  · exact Ev.neg c (Ev.cast (Ev.now false) (neq_false c))
end Go.Proofs.Ytlaichooanflaaa.Trees
namespace Go.Proofs.Ytlaichooanflaaa.MarkT
open Go.RowKit Go.Proofs.YtlaichooanflaaaW.PrintWords Go.Proofs.Ytlaichooanflaaa.Base Go.Proofs.Ytlaichooanflaaa.Q
theorem strOf_size (x : Int) : (strOfNums [x]).size = 1 := by simp [strOfNums]; rfl
theorem markText_ex (a : Int) (h0 : 0 ≤ a) (h1 : a ≤ 1000000000000) : ∃ s, Ev (fun k => laws_markText.f k a) s := by
  unfold laws_markText.f
  by_cases hz : a ≤ 0
  · exact ⟨_, Ev.pos hz (Ev.now _)⟩
  · have key : ∀ n : Nat, ∀ (x : Int) (s : ByteArray), x.toNat = n → 0 ≤ x → x ≤ 1000000000000 → s.size + n ≤ 1000000000001 → ∃ r, Ev (fun k => laws_markText.l0 k x s) r := by
      intro n
      induction n using Nat.strongRecOn with
      | _ n ih =>
        intro x s hx hx0 hx1 hs
        by_cases hp : x > 0
        · have hd := Int.tdiv_eq_ediv_of_nonneg (a := x) (b := 10) hx0
          have hlt : x / 10 < x := by omega
          have hw : wrap64 (Int.tdiv x 10) = x / 10 := by rw [hd]; exact w64 (by omega) (by omega)
          obtain ⟨r, hr⟩ := ih (x / 10).toNat (by omega) (x / 10) (strOfNums [(wrap64 (48 + (Int.tmod x 10))) % 256] ++ s) rfl (by omega) (by omega) (by rw [ByteArray.size_append, strOf_size]; omega)
          refine ⟨r, Ev.step (fun k => ?_) hr⟩
          rw [laws_markText.l0, if_pos hp]
          simp only [Option.bind_some]
          rw [if_pos (by rw [strOf_size]; omega), hw]
        · refine ⟨_, Ev.step (f := fun _ => some ((⟨#[109]⟩ : ByteArray) ++ s)) (fun k => ?_) (Ev.now _)⟩
          rw [laws_markText.l0, if_neg hp, if_pos (by omega)]
    obtain ⟨r, hr⟩ := key a.toNat a ⟨#[]⟩ rfl h0 h1 (by show 0 + _ ≤ _; omega)
    exact ⟨r, Ev.neg hz hr⟩
open Classical in
/-- The text of a mark. -/
noncomputable def mt (a : Int) : ByteArray := if h : ∃ s, Ev (fun k => laws_markText.f k a) s then Classical.choose h else ByteArray.empty
theorem markText_is (a : Int) (h0 : 0 ≤ a) (h1 : a ≤ 1000000000000) : Ev (fun k => laws_markText.f k a) (mt a) := by
  have h := markText_ex a h0 h1
  unfold mt
  rw [dif_pos h]
  exact Classical.choose_spec h
end Go.Proofs.Ytlaichooanflaaa.MarkT
namespace Go.Proofs.Ytlaichooanflaaa.Pure
open Go.RowKit Go.Proofs.YtlaichooanflaaaW.PrintWords Go.Proofs.Ytlaichooanflaaa.Base Go.Proofs.Ytlaichooanflaaa.Q Go.Proofs.Ytlaichooanflaaa.Trees Go.Proofs.Ytlaichooanflaaa.MarkT
theorem mark_none (a : Int) : Ev (fun k => laws_markEntS.f k [] a) (a, []) :=
  Ev.step (f := fun _ => some (a, [])) (fun k => by rw [laws_markEntS.f, laws_markEntS.l0, if_neg (by decide)]) (Ev.now _)
theorem held_none (a : Int) : Ev (fun k => laws_heldEntS.f k [] a) a :=
  Ev.step (f := fun _ => some a) (fun k => by rw [laws_heldEntS.f, laws_heldEntS.l0, if_neg (by decide)]) (Ev.now _)
/-- A tree without names, marked, holds its marks. -/
theorem marks_hold : ∀ (n i : Nat) (a : Int) (l : List S69), l.length = i + n → l.length ≤ 4611686018427387903 → (∀ x ∈ l, x.f3 = []) → 0 ≤ a → a + 3 * (n : Int) ≤ 1000000000 →
    ∃ l' : List S69, Ev (fun k => laws_markObjS.l0 k l a (i : Int)) (a + 3 * (n : Int), l') ∧ l'.length = l.length ∧ (∀ j, j < i → l'[j]? = l[j]?) ∧ Ev (fun k => laws_heldObjS.l0 k l' a (i : Int)) (a + 3 * (n : Int))
  | 0, i, a, l, hn, hl, hx, h0, h1 => by
    refine ⟨l, Ev.step (f := fun _ => some (a + 3 * ((0 : Nat) : Int), l)) (fun k => ?_) (Ev.now _), rfl, fun _ _ => rfl, Ev.step (f := fun _ => some (a + 3 * ((0 : Nat) : Int))) (fun k => ?_) (Ev.now _)⟩
    · rw [laws_markObjS.l0, if_neg (by omega)]; simp
    · rw [laws_heldObjS.l0, if_neg (by omega)]; simp
  | n + 1, i, a, l, hn, hl, hx, h0, h1 => by
    have hi : i < l.length := by omega
    have e1 : wrap64 (a + 1) = a + 1 := w64 (by omega) (by omega)
    have e2 : wrap64 (a + 1 + 1) = a + 2 := by rw [w64 (by omega) (by omega)]; omega
    have e3 : wrap64 (a + 2 + 1) = a + 3 := by rw [w64 (by omega) (by omega)]; omega
    have e4 : wrap64 ((i : Int) + 1) = ((i + 1 : Nat) : Int) := by rw [w64 (by omega) (by omega)]; omega
    obtain ⟨l', h, hlen, hk, hh⟩ := marks_hold n (i + 1) (a + 3) (l.set i ⟨a, a + 1, mt (a + 2), []⟩) (by rw [List.length_set]; omega) (by rw [List.length_set]; exact hl)
      (fun x hx' => by rcases List.mem_or_eq_of_mem_set hx' with h | h; exact hx x h; rw [h]) (by omega) (by omega)
    rw [List.length_set] at hlen
    have ea : a + 3 + 3 * (n : Int) = a + 3 * ((n + 1 : Nat) : Int) := by omega
    rw [ea] at h hh
    have hr : rd_T69 l' (i : Int) = ⟨a, a + 1, mt (a + 2), []⟩ := by
      have hk' := hk i (by omega)
      rw [List.getElem?_set_self hi] at hk'
      unfold rd_T69
      rw [Int.toNat_natCast, List.getD_eq_getElem?_getD, hk']
      rfl
    have h3 : (rd_T69 l (i : Int)).f3 = [] := by rw [rdO hi]; exact hx _ (List.getElem_mem hi)
    refine ⟨l', Ev.step (fun k => by rw [laws_markObjS.l0, if_pos (by omega), if_pos (by omega), e1, e2, e3, e4, h3, Int.toNat_natCast]) (Ev.bind (markText_is _ (by omega) (by omega)) (Ev.bind (mark_none _) h)), hlen, fun j hj => ?_, ?_⟩
    · rw [hk j (by omega), List.getElem?_set_ne (by omega)]
    · refine Ev.step (fun k => by rw [laws_heldObjS.l0, if_pos (by omega), if_pos (by omega), hr, e1, e2, e3, e4]) ?_
      simp only [if_true]
      refine Ev.bind (markText_is _ (by omega) (by omega)) ?_
      simp only [if_true]
      refine Ev.bind (held_none _) ?_
      exact Ev.neg (by omega) hh
def openT : List S69 := (List.replicate 32 z69).set 0 ⟨2, 1, (⟨#[]⟩ : ByteArray), []⟩
theorem spec_open : spec_TreeOpen.f = some openT := by
  unfold spec_TreeOpen.f
  rw [if_pos (by decide), Option.bind_some, if_pos (by decide)]
  rfl
theorem impl_open : impl_TreeOpen.f = some openT := by
  unfold impl_TreeOpen.f
  rw [if_pos (by decide), Option.bind_some, if_pos (by decide)]
  rfl
theorem open_bare : ∀ x ∈ openT, x.f3 = [] := by
  intro x hx
  rcases List.mem_or_eq_of_mem_set hx with h | h
  · rw [List.eq_of_mem_replicate h]; rfl
  · rw [h]
theorem FnExactTreeOpen : ∃ k, laws_FnExactTreeOpen.f k = some true := by
  refine Ev.rounds (?_ : Ev (fun k => laws_FnExactTreeOpen.f k) true)
  unfold laws_FnExactTreeOpen.f
  rw [spec_open, impl_open]
  refine Ev.sbind (Ev.sbind ?_)
  have hlen : openT.length = 32 := by simp [openT]
  have he := eqTree openT openT ⟨by rw [hlen]; decide, fun x hx => by rw [open_bare x hx]; decide⟩
  rw [tr_t rfl] at he
  refine Ev.bind he ?_
  simp only [if_true]
  obtain ⟨t, h, _, _, hh⟩ := marks_hold 32 0 1 openT hlen (by rw [hlen]; decide) open_bare (by decide) (by decide)
  refine Ev.bind (a := (1 + 3 * ((32 : Nat) : Int), t)) ?_ ?_
  · unfold laws_markTree.f laws_markObjS.f; exact h
  · refine Ev.bind (a := 1 + 3 * ((32 : Nat) : Int)) ?_ ?_
    · unfold laws_heldTree.f laws_heldObjS.f; exact Ev.bind hh (Ev.neg (by decide) (Ev.now _))
    · exact Ev.neg (by decide) (Ev.pos rfl (Ev.now _))
end Go.Proofs.Ytlaichooanflaaa.Pure
