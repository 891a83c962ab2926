/- Part 3 of what the proof of FnExactSlimMoves uses: plain functions with the answers of the Go functions, the proofs that the calls come to them, and plain lemmas. -/
import Derived.Test.YtlaichooanflaaaVFnExactSlimMoves0
import Derived.Test.YtlaichooanflaaaVFnExactSlimMoves1
import Derived.Test.YtlaichooanflaaaVFnExactSlimMoves2
namespace Go.Proofs.Ytlaichooanflaaa.Q
open Go.RowKit Go.Proofs.YtlaichooanflaaaW.PrintWords Go.Proofs.YtlaichooanflaaaW.PrintLast Go.Proofs.YtlaichooanflaaaW.PrintMore
attribute [local go_sem] Go.Proofs.Ytlaichooanflaaa.Mem.str_leq Go.Proofs.Ytlaichooanflaaa.Mem.str_gtr Go.Proofs.Ytlaichooanflaaa.Mem.str_geq max2_int min2_int max_two min_two max_three min_three max_four min_four   -- for this text's walks alone
set_option linter.unusedVariables false
set_option linter.unusedSimpArgs false
mutual
def impl_combined.j0 : Nat → Bool → Int → Int → ByteArray → Int → ByteArray → Int → ByteArray → Int → Int → ByteArray → Int → ByteArray → Int → ByteArray → Option (Int × Int × ByteArray × Int × ByteArray × Int × ByteArray × Bool × Bool)
  | 0, _, _, _, _, _, _, _, _, _, _, _, _, _, _, _ => none
  | k + 1, x18, x729000, x729001, x729002, x729003, x729004, x729005, x729006, x730000, x730001, x730002, x730003, x730004, x730005, x730006 => if x18 = true then (some (0, 0, (⟨#[]⟩ : ByteArray), 0, (⟨#[]⟩ : ByteArray), 0, (⟨#[]⟩ : ByteArray), false, false)) else (if x729000 = 1 then (impl_combined.j1 k x729000 (x729000 == 1) x729000 x729001 x729002 x729003 x729004 x729005 x729006 x730000 x730001 x730002 x730003 x730004 x730005 x730006) else (impl_combined.j1 k x729000 (x729000 == 2) x729000 x729001 x729002 x729003 x729004 x729005 x729006 x730000 x730001 x730002 x730003 x730004 x730005 x730006))
def impl_combined.j1 : Nat → Int → Bool → Int → Int → ByteArray → Int → ByteArray → Int → ByteArray → Int → Int → ByteArray → Int → ByteArray → Int → ByteArray → Option (Int × Int × ByteArray × Int × ByteArray × Int × ByteArray × Bool × Bool)
  | 0, _, _, _, _, _, _, _, _, _, _, _, _, _, _, _, _ => none
  | k + 1, x21, x22, x729000, x729001, x729002, x729003, x729004, x729005, x729006, x730000, x730001, x730002, x730003, x730004, x730005, x730006 => if x22 = true then (if x729001 = x730001 then (some (x729000, x730003, x730004, x729003, x729004, x729005, x729006, (x729002.toList == x730002.toList), false)) else (some (x729000, x730003, x730004, x729003, x729004, x729005, x729006, false, false))) else (if x21 = 4 then (if x729003 = x730001 then (if x729001 = x730003 then (some (x729000, x729001, x729002, x730003, x730004, x729005, x729006, (x729004.toList == x730002.toList), (x729002.toList == x730004.toList))) else (some (x729000, x729001, x729002, x730003, x730004, x729005, x729006, (x729004.toList == x730002.toList), false))) else (if x729001 = x730003 then (some (x729000, x729001, x729002, x730003, x730004, x729005, x729006, false, (x729002.toList == x730004.toList))) else (some (x729000, x729001, x729002, x730003, x730004, x729005, x729006, false, false)))) else (some (0, 0, (⟨#[]⟩ : ByteArray), 0, (⟨#[]⟩ : ByteArray), 0, (⟨#[]⟩ : ByteArray), false, false)))
end
def impl_combined.f (k : Nat) (a0_0 : Int) (a0_1 : Int) (a0_2 : ByteArray) (a0_3 : Int) (a0_4 : ByteArray) (a0_5 : Int) (a0_6 : ByteArray) (a1_0 : Int) (a1_1 : Int) (a1_2 : ByteArray) (a1_3 : Int) (a1_4 : ByteArray) (a1_5 : Int) (a1_6 : ByteArray) : Option (Int × Int × ByteArray × Int × ByteArray × Int × ByteArray × Bool × Bool) := if a0_5 = a1_5 then (impl_combined.j0 k (a1_0 != 4) a0_0 a0_1 a0_2 a0_3 a0_4 a0_5 a0_6 a1_0 a1_1 a1_2 a1_3 a1_4 a1_5 a1_6) else (impl_combined.j0 k true a0_0 a0_1 a0_2 a0_3 a0_4 a0_5 a0_6 a1_0 a1_1 a1_2 a1_3 a1_4 a1_5 a1_6)
def impl_combined.T7 : Bool × List (List Nat × List Nat) := (true, [([], []), ([0], [0]), ([], []), ([2], [2]), ([0, 1], []), ([4, 1, 0, 1], [1, 4]), ([0, 1, 2, 3, 4, 5], []), ([6, 3, 5, 0, 1, 2, 3, 4, 5], [3, 6])])
def impl_combined.B7 : List Nat := [0, 1, 0, 4, 3, 19, 63, 127]
theorem impl_combined.tab7 : rtab .any (opsOf Try.f161 7) = impl_combined.T7 := by kernel_rfl
theorem impl_combined.bits7 : waitsOk impl_combined.T7.2 impl_combined.B7 = true := by kernel_rfl
def impl_combined.T11 : Bool × List (List Nat × List Nat) := (true, [([], []), ([0], [0]), ([], []), ([2], [2]), ([0, 1], []), ([4, 1, 0, 1], [1, 4]), ([0, 1, 2, 3, 4, 5], []), ([6, 3, 5, 0, 1, 2, 3, 4, 5], [3, 6])])
def impl_combined.B11 : List Nat := [0, 1, 0, 4, 3, 19, 63, 127]
theorem impl_combined.tab11 : rtab .any (opsOf Try.f161 11) = impl_combined.T11 := by kernel_rfl
theorem impl_combined.bits11 : waitsOk impl_combined.T11.2 impl_combined.B11 = true := by kernel_rfl
def impl_combined.T12 : Bool × List (List Nat × List Nat) := (true, [([], []), ([], []), ([], []), ([2], [2]), ([], []), ([4], [4]), ([3, 5], [3, 5]), ([6], [6]), ([7], [7]), ([8, 7], [7, 8]), ([7], [7]), ([10, 7], [7, 10]), ([9, 11, 7], [7, 9, 11]), ([7, 12], [7, 12]), ([0, 7, 0], [0]), ([1, 14, 0, 1, 14], [1]), ([13, 15, 0, 1, 2, 3, 4, 5, 6, 7, 8, 9, 10, 11, 12, 13, 14, 15], [13])])
def impl_combined.B12 : List Nat := [0, 0, 0, 4, 0, 16, 60, 124, 252, 508, 252, 1276, 4092, 8188, 253, 16639, 65535]
theorem impl_combined.tab12 : rtab .any (opsOf Try.f161 12) = impl_combined.T12 := by kernel_rfl
theorem impl_combined.bits12 : waitsOk impl_combined.T12.2 impl_combined.B12 = true := by kernel_rfl
set_option maxHeartbeats 8000000 in
set_option maxRecDepth 100000 in
theorem impl_combined.calls (k : Nat) (a0_0 : Int) (a0_1 : Int) (a0_2 : ByteArray) (a0_3 : Int) (a0_4 : ByteArray) (a0_5 : Int) (a0_6 : ByteArray) (a1_0 : Int) (a1_1 : Int) (a1_2 : ByteArray) (a1_3 : Int) (a1_4 : ByteArray) (a1_5 : Int) (a1_6 : ByteArray) (r1 : Int) (r2 : Int) (r3 : ByteArray) (r4 : Int) (r5 : ByteArray) (r6 : Int) (r7 : ByteArray) (r8 : Bool) (r9 : Bool) (w : World) (h : impl_combined.f k a0_0 a0_1 a0_2 a0_3 a0_4 a0_5 a0_6 a1_0 a1_1 a1_2 a1_3 a1_4 a1_5 a1_6 = some (r1, r2, r3, r4, r5, r6, r7, r8, r9)) :
    Calls Try.prog 161 #[.agg #[.int .i64 a0_0, .int .i64 a0_1, .string a0_2, .int .i64 a0_3, .string a0_4, .int .i64 a0_5, .string a0_6], .agg #[.int .i64 a1_0, .int .i64 a1_1, .string a1_2, .int .i64 a1_3, .string a1_4, .int .i64 a1_5, .string a1_6]] w fun e w' => e = .returned (.tuple #[.agg #[.int .i64 r1, .int .i64 r2, .string r3, .int .i64 r4, .string r5, .int .i64 r6, .string r7], .bool r8, .bool r9]) ∧ Below w.heap.size w w' := by
  have hu73 := Try.underlying73
  have HB := Aside0.mk (Below.refl w.heap.size w)
  have H : (if a0_5 = a1_5 then (impl_combined.j0 k (a1_0 != 4) a0_0 a0_1 a0_2 a0_3 a0_4 a0_5 a0_6 a1_0 a1_1 a1_2 a1_3 a1_4 a1_5 a1_6) else (impl_combined.j0 k true a0_0 a0_1 a0_2 a0_3 a0_4 a0_5 a0_6 a1_0 a1_1 a1_2 a1_3 a1_4 a1_5 a1_6)) = some (r1, r2, r3, r4, r5, r6, r7, r8, r9) := h
  clear h
  have HC3 := Aside0.mk H
  clear H
  go_enter Try.func161, Try.ntmps161
  go_upto_region 1 with (first | ((with_reducible refine gate_dst (N := 2) rfl ?_); refine box_event ?hg (N := 2) ?hd (cs := #[.int .i64 a0_0, .int .i64 a0_1, .string a0_2, .int .i64 a0_3, .string a0_4, .int .i64 a0_5, .string a0_6]) (t := 73) ?hr ?_; (case hd => rfl); (case hg => rfl); (case hr => first | (go_simp; done) | (go_simp; rfl)); intro gb728 hg w4 hbox hb; have n0_ := Aside0.mk (below_step (by repeat (first | (with_reducible first | exact HB.out | apply below_alloc | apply pw_below_drewN | apply below_drew1) | exact HB.out)) hb); have n1_ := Aside0.mk (hbox); have n2_ := Aside0.mk ((by rw [hg]; exact (below_size (by repeat (first | (with_reducible first | exact HB.out | apply below_alloc | apply pw_below_drewN | apply below_drew1) | exact HB.out))) : w.heap.size ≤ gb728)); have n3_ := Aside0.mk ((by rw [hg]; exact (below_size (by repeat (first | (with_reducible first | exact HB.out | apply below_alloc | apply pw_below_drewN | apply below_drew1) | exact HB.out))) : w.heap.size ≤ gb728)); clear HB; have HB := n0_; have BK728 := n1_; have GW728 := n2_; have GE728 := n3_; clear n0_ n1_ n2_ n3_; clear hb hbox hg) | ((with_reducible refine gate_dst (N := 3) rfl ?_); refine box_event ?hg (N := 3) ?hd (cs := #[.int .i64 a1_0, .int .i64 a1_1, .string a1_2, .int .i64 a1_3, .string a1_4, .int .i64 a1_5, .string a1_6]) (t := 73) ?hr ?_; (case hd => rfl); (case hg => rfl); (case hr => first | (go_simp; done) | (go_simp; rfl)); intro gb729 hg w5 hbox hb; have n0_ := Aside0.mk (blk_below (g := gb728) (o := .cells #[.int .i64 a0_0, .int .i64 a0_1, .string a0_2, .int .i64 a0_3, .string a0_4, .int .i64 a0_5, .string a0_6] 73 (0, 0)) (by (with_reducible repeat (first | refine blk_drewN ?_ _ | refine blk_drew ?_ | refine blk_alloc ?_ _)); exact BK728.out) hb); have n1_ := Aside0.mk (below_step (by repeat (first | (with_reducible first | exact HB.out | apply below_alloc | apply pw_below_drewN | apply below_drew1 | refine below_set ?_ GE728.out) | exact HB.out)) hb); have n2_ := Aside0.mk (hbox); have n3_ := Aside0.mk ((by rw [hg]; exact (below_size (by repeat (first | (with_reducible first | exact HB.out | apply below_alloc | apply pw_below_drewN | apply below_drew1 | refine below_set ?_ GE728.out) | exact HB.out))) : w.heap.size ≤ gb729)); have n4_ := Aside0.mk ((by rw [hg]; exact (below_size (by repeat (first | (with_reducible first | exact HB.out | apply below_alloc | apply pw_below_drewN | apply below_drew1 | refine below_set ?_ GE728.out) | exact HB.out))) : w.heap.size ≤ gb729)); have n5_ := Aside0.mk ((by rw [hg]; exact Nat.ne_of_lt (blk_lt (g := gb728) (o := .cells #[.int .i64 a0_0, .int .i64 a0_1, .string a0_2, .int .i64 a0_3, .string a0_4, .int .i64 a0_5, .string a0_6] 73 (0, 0)) (by (with_reducible repeat (first | refine blk_drewN ?_ _ | refine blk_drew ?_ | refine blk_alloc ?_ _)); exact BK728.out)) : gb728 ≠ gb729)); have n6_ := Aside0.mk ((by rw [hg]; exact Nat.ne_of_gt (blk_lt (g := gb728) (o := .cells #[.int .i64 a0_0, .int .i64 a0_1, .string a0_2, .int .i64 a0_3, .string a0_4, .int .i64 a0_5, .string a0_6] 73 (0, 0)) (by (with_reducible repeat (first | refine blk_drewN ?_ _ | refine blk_drew ?_ | refine blk_alloc ?_ _)); exact BK728.out)) : gb729 ≠ gb728)); clear BK728; clear HB; have BK728 := n0_; have HB := n1_; have BK729 := n2_; have GW729 := n3_; have GE729 := n4_; have NB728_729 := n5_; have NB729_728 := n6_; clear n0_ n1_ n2_ n3_ n4_ n5_ n6_; clear hb hbox hg) | ((with_reducible refine gate_dst (N := 4) rfl ?_); refine box_event ?hg (N := 4) ?hd (cs := #[.int .i64 0, .int .i64 0, .string (⟨#[]⟩ : ByteArray), .int .i64 0, .string (⟨#[]⟩ : ByteArray), .int .i64 0, .string (⟨#[]⟩ : ByteArray)]) (t := 73) ?hr ?_; (case hd => rfl); (case hg => rfl); (case hr => first | (go_simp; done) | (go_simp; rfl)); intro gb730 hg w6 hbox hb; have n0_ := Aside0.mk (blk_below (g := gb728) (o := .cells #[.int .i64 a0_0, .int .i64 a0_1, .string a0_2, .int .i64 a0_3, .string a0_4, .int .i64 a0_5, .string a0_6] 73 (0, 0)) (by (with_reducible repeat (first | refine blk_drewN ?_ _ | refine blk_drew ?_ | refine blk_alloc ?_ _)); exact BK728.out) hb); have n1_ := Aside0.mk (blk_below (g := gb729) (o := .cells #[.int .i64 a1_0, .int .i64 a1_1, .string a1_2, .int .i64 a1_3, .string a1_4, .int .i64 a1_5, .string a1_6] 73 (0, 0)) (by (with_reducible repeat (first | refine blk_drewN ?_ _ | refine blk_drew ?_ | refine blk_alloc ?_ _)); exact BK729.out) hb); have n2_ := Aside0.mk (below_step (by repeat (first | (with_reducible first | exact HB.out | apply below_alloc | apply pw_below_drewN | apply below_drew1 | refine below_set ?_ GE728.out | refine below_set ?_ GE729.out) | exact HB.out)) hb); have n3_ := Aside0.mk (hbox); have n4_ := Aside0.mk ((by rw [hg]; exact (below_size (by repeat (first | (with_reducible first | exact HB.out | apply below_alloc | apply pw_below_drewN | apply below_drew1 | refine below_set ?_ GE728.out | refine below_set ?_ GE729.out) | exact HB.out))) : w.heap.size ≤ gb730)); have n5_ := Aside0.mk ((by rw [hg]; exact (below_size (by repeat (first | (with_reducible first | exact HB.out | apply below_alloc | apply pw_below_drewN | apply below_drew1 | refine below_set ?_ GE728.out | refine below_set ?_ GE729.out) | exact HB.out))) : w.heap.size ≤ gb730)); have n6_ := Aside0.mk ((by rw [hg]; exact Nat.ne_of_lt (blk_lt (g := gb728) (o := .cells #[.int .i64 a0_0, .int .i64 a0_1, .string a0_2, .int .i64 a0_3, .string a0_4, .int .i64 a0_5, .string a0_6] 73 (0, 0)) (by (with_reducible repeat (first | refine blk_drewN ?_ _ | refine blk_drew ?_ | refine blk_alloc ?_ _)); exact BK728.out)) : gb728 ≠ gb730)); have n7_ := Aside0.mk ((by rw [hg]; exact Nat.ne_of_gt (blk_lt (g := gb728) (o := .cells #[.int .i64 a0_0, .int .i64 a0_1, .string a0_2, .int .i64 a0_3, .string a0_4, .int .i64 a0_5, .string a0_6] 73 (0, 0)) (by (with_reducible repeat (first | refine blk_drewN ?_ _ | refine blk_drew ?_ | refine blk_alloc ?_ _)); exact BK728.out)) : gb730 ≠ gb728)); have n8_ := Aside0.mk ((by rw [hg]; exact Nat.ne_of_lt (blk_lt (g := gb729) (o := .cells #[.int .i64 a1_0, .int .i64 a1_1, .string a1_2, .int .i64 a1_3, .string a1_4, .int .i64 a1_5, .string a1_6] 73 (0, 0)) (by (with_reducible repeat (first | refine blk_drewN ?_ _ | refine blk_drew ?_ | refine blk_alloc ?_ _)); exact BK729.out)) : gb729 ≠ gb730)); have n9_ := Aside0.mk ((by rw [hg]; exact Nat.ne_of_gt (blk_lt (g := gb729) (o := .cells #[.int .i64 a1_0, .int .i64 a1_1, .string a1_2, .int .i64 a1_3, .string a1_4, .int .i64 a1_5, .string a1_6] 73 (0, 0)) (by (with_reducible repeat (first | refine blk_drewN ?_ _ | refine blk_drew ?_ | refine blk_alloc ?_ _)); exact BK729.out)) : gb730 ≠ gb729)); clear BK728; clear BK729; clear HB; have BK728 := n0_; have BK729 := n1_; have HB := n2_; have BK730 := n3_; have GW730 := n4_; have GE730 := n5_; have NB728_730 := n6_; have NB730_728 := n7_; have NB729_730 := n8_; have NB730_729 := n9_; clear n0_ n1_ n2_ n3_ n4_ n5_ n6_ n7_ n8_ n9_; clear hb hbox hg))
  (try simp only [Act.put, List.setIfInBounds_toArray, List.set_cons_zero, List.set_cons_succ])
  go_cut [18] (fun v18 wc => ∃ (kq : Nat) (x18_2 : Bool), v18 = .bool x18_2 ∧ Aside0 (impl_combined.j0 kq x18_2 a0_0 a0_1 a0_2 a0_3 a0_4 a0_5 a0_6 a1_0 a1_1 a1_2 a1_3 a1_4 a1_5 a1_6 = some (r1, r2, r3, r4, r5, r6, r7, r8, r9)) ∧ Aside0 (kq ≤ k) ∧ Aside0 (wc.heap[gb728]? = some (.cells #[.int .i64 a0_0, .int .i64 a0_1, .string a0_2, .int .i64 a0_3, .string a0_4, .int .i64 a0_5, .string a0_6] 73 (0, 0))) ∧ Aside0 (wc.heap[gb729]? = some (.cells #[.int .i64 a1_0, .int .i64 a1_1, .string a1_2, .int .i64 a1_3, .string a1_4, .int .i64 a1_5, .string a1_6] 73 (0, 0))) ∧ Aside0 (wc.heap[gb730]? = some (.cells #[.int .i64 0, .int .i64 0, .string (⟨#[]⟩ : ByteArray), .int .i64 0, .string (⟨#[]⟩ : ByteArray), .int .i64 0, .string (⟨#[]⟩ : ByteArray)] 73 (0, 0))) ∧ Aside0 (Below w.heap.size w wc))
  case first =>
    have H := HC3.out
    clear HC3
    by_cases c7 : a0_5 = a1_5
    · rw [if_pos c7] at H
      have c7b0 : (a0_5 == a1_5) = true := beq_iff_eq.mpr c7
      have c7b1 : (a0_5 != a1_5) = false := bne_eq_false_iff_eq.mpr c7
      clear c7
      (first | rw [c7b0] | (simp only [i64_w, i32_w]; rw [c7b0]) | skip)
      have H' := Aside0.mk H
      clear H
      have hnb8 := NB728_729.out
      have hnc8 := NB729_728.out
      have hnb9 := NB728_730.out
      have hnc9 := NB730_728.out
      have hcz10_0 : w6.cell? ⟨gb728, 0, none⟩ = some (.int .i64 a0_0) := (blk_cell BK728.out 0).trans rfl
      have hcz10_1 : w6.cell? ⟨gb728, 1, none⟩ = some (.int .i64 a0_1) := (blk_cell BK728.out 1).trans rfl
      have hcz10_2 : w6.cell? ⟨gb728, 2, none⟩ = some (.string a0_2) := (blk_cell BK728.out 2).trans rfl
      have hcz10_3 : w6.cell? ⟨gb728, 3, none⟩ = some (.int .i64 a0_3) := (blk_cell BK728.out 3).trans rfl
      have hcz10_4 : w6.cell? ⟨gb728, 4, none⟩ = some (.string a0_4) := (blk_cell BK728.out 4).trans rfl
      have hcz10_5 : w6.cell? ⟨gb728, 5, none⟩ = some (.int .i64 a0_5) := (blk_cell BK728.out 5).trans rfl
      have hcz10_6 : w6.cell? ⟨gb728, 6, none⟩ = some (.string a0_6) := (blk_cell BK728.out 6).trans rfl
      have hfz10_0 := blk_frozen BK728.out 0
      have hfz10_1 := blk_frozen BK728.out 1
      have hfz10_2 := blk_frozen BK728.out 2
      have hfz10_3 := blk_frozen BK728.out 3
      have hfz10_4 := blk_frozen BK728.out 4
      have hfz10_5 := blk_frozen BK728.out 5
      have hfz10_6 := blk_frozen BK728.out 6
      have hnb11 := NB729_730.out
      have hnc11 := NB730_729.out
      have hcz12_0 : w6.cell? ⟨gb729, 0, none⟩ = some (.int .i64 a1_0) := (blk_cell BK729.out 0).trans rfl
      have hcz12_1 : w6.cell? ⟨gb729, 1, none⟩ = some (.int .i64 a1_1) := (blk_cell BK729.out 1).trans rfl
      have hcz12_2 : w6.cell? ⟨gb729, 2, none⟩ = some (.string a1_2) := (blk_cell BK729.out 2).trans rfl
      have hcz12_3 : w6.cell? ⟨gb729, 3, none⟩ = some (.int .i64 a1_3) := (blk_cell BK729.out 3).trans rfl
      have hcz12_4 : w6.cell? ⟨gb729, 4, none⟩ = some (.string a1_4) := (blk_cell BK729.out 4).trans rfl
      have hcz12_5 : w6.cell? ⟨gb729, 5, none⟩ = some (.int .i64 a1_5) := (blk_cell BK729.out 5).trans rfl
      have hcz12_6 : w6.cell? ⟨gb729, 6, none⟩ = some (.string a1_6) := (blk_cell BK729.out 6).trans rfl
      have hfz12_0 := blk_frozen BK729.out 0
      have hfz12_1 := blk_frozen BK729.out 1
      have hfz12_2 := blk_frozen BK729.out 2
      have hfz12_3 := blk_frozen BK729.out 3
      have hfz12_4 := blk_frozen BK729.out 4
      have hfz12_5 := blk_frozen BK729.out 5
      have hfz12_6 := blk_frozen BK729.out 6
      go_wp2
      go_meet
      case rel => exact ⟨_, ((a1_0 != 4)), (by first | rfl | (simp; done) | (simp [*]; done)), H', ⟨by first | omega | exact Nat.le_refl _⟩, ⟨by (with_reducible repeat (first | refine blk_drewN ?_ _ | refine blk_drew ?_ | refine blk_alloc ?_ _)); exact BK728.out⟩, ⟨by (with_reducible repeat (first | refine blk_drewN ?_ _ | refine blk_drew ?_ | refine blk_alloc ?_ _)); exact BK729.out⟩, ⟨by (with_reducible repeat (first | refine blk_drewN ?_ _ | refine blk_drew ?_ | refine blk_alloc ?_ _)); exact BK730.out⟩, ⟨by repeat (first | (with_reducible first | exact HB.out | apply below_alloc | apply pw_below_drewN | apply below_drew1 | refine below_set ?_ GE728.out | refine below_set ?_ GE729.out | refine below_set ?_ GE730.out) | exact HB.out)⟩⟩
    · rw [if_neg c7] at H
      have c7b0 : (a0_5 == a1_5) = false := beq_eq_false_iff_ne.mpr c7
      have c7b1 : (a0_5 != a1_5) = true := bne_iff_ne.mpr c7
      (first | rw [c7b0] | (simp only [i64_w, i32_w]; rw [c7b0]) | skip)
      have H' := Aside0.mk H
      clear H
      have hnb13 := NB728_729.out
      have hnc13 := NB729_728.out
      have hnb14 := NB728_730.out
      have hnc14 := NB730_728.out
      have hcz15_0 : w6.cell? ⟨gb728, 0, none⟩ = some (.int .i64 a0_0) := (blk_cell BK728.out 0).trans rfl
      have hcz15_1 : w6.cell? ⟨gb728, 1, none⟩ = some (.int .i64 a0_1) := (blk_cell BK728.out 1).trans rfl
      have hcz15_2 : w6.cell? ⟨gb728, 2, none⟩ = some (.string a0_2) := (blk_cell BK728.out 2).trans rfl
      have hcz15_3 : w6.cell? ⟨gb728, 3, none⟩ = some (.int .i64 a0_3) := (blk_cell BK728.out 3).trans rfl
      have hcz15_4 : w6.cell? ⟨gb728, 4, none⟩ = some (.string a0_4) := (blk_cell BK728.out 4).trans rfl
      have hcz15_5 : w6.cell? ⟨gb728, 5, none⟩ = some (.int .i64 a0_5) := (blk_cell BK728.out 5).trans rfl
      have hcz15_6 : w6.cell? ⟨gb728, 6, none⟩ = some (.string a0_6) := (blk_cell BK728.out 6).trans rfl
      have hfz15_0 := blk_frozen BK728.out 0
      have hfz15_1 := blk_frozen BK728.out 1
      have hfz15_2 := blk_frozen BK728.out 2
      have hfz15_3 := blk_frozen BK728.out 3
      have hfz15_4 := blk_frozen BK728.out 4
      have hfz15_5 := blk_frozen BK728.out 5
      have hfz15_6 := blk_frozen BK728.out 6
      have hnb16 := NB729_730.out
      have hnc16 := NB730_729.out
      have hcz17_0 : w6.cell? ⟨gb729, 0, none⟩ = some (.int .i64 a1_0) := (blk_cell BK729.out 0).trans rfl
      have hcz17_1 : w6.cell? ⟨gb729, 1, none⟩ = some (.int .i64 a1_1) := (blk_cell BK729.out 1).trans rfl
      have hcz17_2 : w6.cell? ⟨gb729, 2, none⟩ = some (.string a1_2) := (blk_cell BK729.out 2).trans rfl
      have hcz17_3 : w6.cell? ⟨gb729, 3, none⟩ = some (.int .i64 a1_3) := (blk_cell BK729.out 3).trans rfl
      have hcz17_4 : w6.cell? ⟨gb729, 4, none⟩ = some (.string a1_4) := (blk_cell BK729.out 4).trans rfl
      have hcz17_5 : w6.cell? ⟨gb729, 5, none⟩ = some (.int .i64 a1_5) := (blk_cell BK729.out 5).trans rfl
      have hcz17_6 : w6.cell? ⟨gb729, 6, none⟩ = some (.string a1_6) := (blk_cell BK729.out 6).trans rfl
      have hfz17_0 := blk_frozen BK729.out 0
      have hfz17_1 := blk_frozen BK729.out 1
      have hfz17_2 := blk_frozen BK729.out 2
      have hfz17_3 := blk_frozen BK729.out 3
      have hfz17_4 := blk_frozen BK729.out 4
      have hfz17_5 := blk_frozen BK729.out 5
      have hfz17_6 := blk_frozen BK729.out 6
      go_wp2
      go_meet
      case rel => exact ⟨_, (true), (by first | rfl | (simp; done) | (simp [*]; done)), H', ⟨by first | omega | exact Nat.le_refl _⟩, ⟨by (with_reducible repeat (first | refine blk_drewN ?_ _ | refine blk_drew ?_ | refine blk_alloc ?_ _)); exact BK728.out⟩, ⟨by (with_reducible repeat (first | refine blk_drewN ?_ _ | refine blk_drew ?_ | refine blk_alloc ?_ _)); exact BK729.out⟩, ⟨by (with_reducible repeat (first | refine blk_drewN ?_ _ | refine blk_drew ?_ | refine blk_alloc ?_ _)); exact BK730.out⟩, ⟨by repeat (first | (with_reducible first | exact HB.out | apply below_alloc | apply pw_below_drewN | apply below_drew1 | refine below_set ?_ GE728.out | refine below_set ?_ GE729.out | refine below_set ?_ GE730.out) | exact HB.out)⟩⟩
  case rest =>
    clear HC3; (try clear c1); (try clear p2); (try clear c7); (try clear c7b0); (try clear c7b1); (try clear c8); (try clear c9); (try clear c11); (try clear c13); (try clear c14); (try clear c16); (try clear hcz10_0); (try clear hcz10_1); (try clear hcz10_2); (try clear hcz10_3); (try clear hcz10_4); (try clear hcz10_5); (try clear hcz10_6); (try clear hcz12_0); (try clear hcz12_1); (try clear hcz12_2); (try clear hcz12_3); (try clear hcz12_4); (try clear hcz12_5); (try clear hcz12_6); (try clear hcz15_0); (try clear hcz15_1); (try clear hcz15_2); (try clear hcz15_3); (try clear hcz15_4); (try clear hcz15_5); (try clear hcz15_6); (try clear hcz17_0); (try clear hcz17_1); (try clear hcz17_2); (try clear hcz17_3); (try clear hcz17_4); (try clear hcz17_5); (try clear hcz17_6); (try clear hfz10_0); (try clear hfz10_1); (try clear hfz10_2); (try clear hfz10_3); (try clear hfz10_4); (try clear hfz10_5); (try clear hfz10_6); (try clear hfz12_0); (try clear hfz12_1); (try clear hfz12_2); (try clear hfz12_3); (try clear hfz12_4); (try clear hfz12_5); (try clear hfz12_6); (try clear hfz15_0); (try clear hfz15_1); (try clear hfz15_2); (try clear hfz15_3); (try clear hfz15_4); (try clear hfz15_5); (try clear hfz15_6); (try clear hfz17_0); (try clear hfz17_1); (try clear hfz17_2); (try clear hfz17_3); (try clear hfz17_4); (try clear hfz17_5); (try clear hfz17_6)
    obtain ⟨kq, x18_2, rfl, HA, HJ2, BK728, BK729, BK730, HB⟩ := hcut
    cases kq with
    | zero => exact absurd HA.out (by simp [impl_combined.j0])
    | succ kj2 =>
      have H := HA.out
      clear HA
      simp only [impl_combined.j0] at H
      by_cases c18 : x18_2 = true
      · subst c18
        have H1 : (some (0, 0, (⟨#[]⟩ : ByteArray), 0, (⟨#[]⟩ : ByteArray), 0, (⟨#[]⟩ : ByteArray), false, false)) = some (r1, r2, r3, r4, r5, r6, r7, r8, r9) := by rw [if_pos rfl] at H; exact H
        clear H
        have H := H1
        clear H1
        simp only [Option.some.injEq, Prod.mk.injEq] at H
        obtain ⟨rfl, rfl, rfl, rfl, rfl, rfl, rfl, rfl, rfl⟩ := H
        have hnb19 := NB730_728.out
        have hnc19 := NB728_730.out
        have hnb20 := NB730_729.out
        have hnc20 := NB729_730.out
        have hcz21_0 : wc.cell? ⟨gb730, 0, none⟩ = some (.int .i64 0) := (blk_cell BK730.out 0).trans rfl
        have hcz21_1 : wc.cell? ⟨gb730, 1, none⟩ = some (.int .i64 0) := (blk_cell BK730.out 1).trans rfl
        have hcz21_2 : wc.cell? ⟨gb730, 2, none⟩ = some (.string (⟨#[]⟩ : ByteArray)) := (blk_cell BK730.out 2).trans rfl
        have hcz21_3 : wc.cell? ⟨gb730, 3, none⟩ = some (.int .i64 0) := (blk_cell BK730.out 3).trans rfl
        have hcz21_4 : wc.cell? ⟨gb730, 4, none⟩ = some (.string (⟨#[]⟩ : ByteArray)) := (blk_cell BK730.out 4).trans rfl
        have hcz21_5 : wc.cell? ⟨gb730, 5, none⟩ = some (.int .i64 0) := (blk_cell BK730.out 5).trans rfl
        have hcz21_6 : wc.cell? ⟨gb730, 6, none⟩ = some (.string (⟨#[]⟩ : ByteArray)) := (blk_cell BK730.out 6).trans rfl
        have hfz21_0 := blk_frozen BK730.out 0
        have hfz21_1 := blk_frozen BK730.out 1
        have hfz21_2 := blk_frozen BK730.out 2
        have hfz21_3 := blk_frozen BK730.out 3
        have hfz21_4 := blk_frozen BK730.out 4
        have hfz21_5 := blk_frozen BK730.out 5
        have hfz21_6 := blk_frozen BK730.out 6
        go_wp2
        refine bodyPost_ret (results_ctt rfl _ _ gb730 73 #[.int .i64 0, .int .i64 0, .string (⟨#[]⟩ : ByteArray), .int .i64 0, .string (⟨#[]⟩ : ByteArray), .int .i64 0, .string (⟨#[]⟩ : ByteArray)] (0, 0) _ rfl (by (with_reducible repeat (first | refine blk_drewN ?_ _ | refine blk_drew ?_ | refine blk_alloc ?_ _)); refine blk_put (cs := #[.int .i64 0, .int .i64 0, .string (⟨#[]⟩ : ByteArray), .int .i64 0, .string (⟨#[]⟩ : ByteArray), .int .i64 0, .string (⟨#[]⟩ : ByteArray)]) ?_ 6 _ rfl; (with_reducible repeat (first | refine blk_drewN ?_ _ | refine blk_drew ?_ | refine blk_alloc ?_ _)); refine blk_put (cs := #[.int .i64 0, .int .i64 0, .string (⟨#[]⟩ : ByteArray), .int .i64 0, .string (⟨#[]⟩ : ByteArray), .int .i64 0, .string (⟨#[]⟩ : ByteArray)]) ?_ 5 _ rfl; (with_reducible repeat (first | refine blk_drewN ?_ _ | refine blk_drew ?_ | refine blk_alloc ?_ _)); refine blk_put (cs := #[.int .i64 0, .int .i64 0, .string (⟨#[]⟩ : ByteArray), .int .i64 0, .string (⟨#[]⟩ : ByteArray), .int .i64 0, .string (⟨#[]⟩ : ByteArray)]) ?_ 4 _ rfl; (with_reducible repeat (first | refine blk_drewN ?_ _ | refine blk_drew ?_ | refine blk_alloc ?_ _)); refine blk_put (cs := #[.int .i64 0, .int .i64 0, .string (⟨#[]⟩ : ByteArray), .int .i64 0, .string (⟨#[]⟩ : ByteArray), .int .i64 0, .string (⟨#[]⟩ : ByteArray)]) ?_ 3 _ rfl; (with_reducible repeat (first | refine blk_drewN ?_ _ | refine blk_drew ?_ | refine blk_alloc ?_ _)); refine blk_put (cs := #[.int .i64 0, .int .i64 0, .string (⟨#[]⟩ : ByteArray), .int .i64 0, .string (⟨#[]⟩ : ByteArray), .int .i64 0, .string (⟨#[]⟩ : ByteArray)]) ?_ 2 _ rfl; (with_reducible repeat (first | refine blk_drewN ?_ _ | refine blk_drew ?_ | refine blk_alloc ?_ _)); refine blk_put (cs := #[.int .i64 0, .int .i64 0, .string (⟨#[]⟩ : ByteArray), .int .i64 0, .string (⟨#[]⟩ : ByteArray), .int .i64 0, .string (⟨#[]⟩ : ByteArray)]) ?_ 1 _ rfl; (with_reducible repeat (first | refine blk_drewN ?_ _ | refine blk_drew ?_ | refine blk_alloc ?_ _)); refine blk_put (cs := #[.int .i64 0, .int .i64 0, .string (⟨#[]⟩ : ByteArray), .int .i64 0, .string (⟨#[]⟩ : ByteArray), .int .i64 0, .string (⟨#[]⟩ : ByteArray)]) ?_ 0 _ rfl; (with_reducible repeat (first | refine blk_drewN ?_ _ | refine blk_drew ?_ | refine blk_alloc ?_ _)); exact BK730.out) Try.underlying73 rfl (by kernel_rfl)) rfl ?_
        exact ⟨by first | rfl | (simp [errW_none, errW_some] <;> rfl) | (simp [*, errW_none, errW_some] <;> rfl), by repeat (first | (with_reducible first | exact HB.out | apply below_alloc | apply pw_below_drewN | apply below_drew1 | refine below_set ?_ GE728.out | refine below_set ?_ GE729.out | refine below_set ?_ GE730.out) | exact HB.out)⟩
      · replace c18 := Bool.eq_false_iff.mpr c18
        subst c18
        have H1 : (if a0_0 = 1 then (impl_combined.j1 kj2 a0_0 (a0_0 == 1) a0_0 a0_1 a0_2 a0_3 a0_4 a0_5 a0_6 a1_0 a1_1 a1_2 a1_3 a1_4 a1_5 a1_6) else (impl_combined.j1 kj2 a0_0 (a0_0 == 2) a0_0 a0_1 a0_2 a0_3 a0_4 a0_5 a0_6 a1_0 a1_1 a1_2 a1_3 a1_4 a1_5 a1_6)) = some (r1, r2, r3, r4, r5, r6, r7, r8, r9) := by rw [if_neg (show ¬ (false = true) by decide)] at H; exact H
        clear H
        have H := H1
        clear H1
        have HC22 := Aside0.mk H
        clear H
        have hnb23 := NB728_729.out
        have hnc23 := NB729_728.out
        have hnb24 := NB728_730.out
        have hnc24 := NB730_728.out
        have hcz25_0 : wc.cell? ⟨gb728, 0, none⟩ = some (.int .i64 a0_0) := (blk_cell BK728.out 0).trans rfl
        have hcz25_1 : wc.cell? ⟨gb728, 1, none⟩ = some (.int .i64 a0_1) := (blk_cell BK728.out 1).trans rfl
        have hcz25_2 : wc.cell? ⟨gb728, 2, none⟩ = some (.string a0_2) := (blk_cell BK728.out 2).trans rfl
        have hcz25_3 : wc.cell? ⟨gb728, 3, none⟩ = some (.int .i64 a0_3) := (blk_cell BK728.out 3).trans rfl
        have hcz25_4 : wc.cell? ⟨gb728, 4, none⟩ = some (.string a0_4) := (blk_cell BK728.out 4).trans rfl
        have hcz25_5 : wc.cell? ⟨gb728, 5, none⟩ = some (.int .i64 a0_5) := (blk_cell BK728.out 5).trans rfl
        have hcz25_6 : wc.cell? ⟨gb728, 6, none⟩ = some (.string a0_6) := (blk_cell BK728.out 6).trans rfl
        have hfz25_0 := blk_frozen BK728.out 0
        have hfz25_1 := blk_frozen BK728.out 1
        have hfz25_2 := blk_frozen BK728.out 2
        have hfz25_3 := blk_frozen BK728.out 3
        have hfz25_4 := blk_frozen BK728.out 4
        have hfz25_5 := blk_frozen BK728.out 5
        have hfz25_6 := blk_frozen BK728.out 6
        go_upto_if 22 with (fail)
        go_cut [22] (fun v22 wc => ∃ (kq : Nat) (x22_21 : Bool), v22 = .bool x22_21 ∧ Aside0 (impl_combined.j1 kq a0_0 x22_21 a0_0 a0_1 a0_2 a0_3 a0_4 a0_5 a0_6 a1_0 a1_1 a1_2 a1_3 a1_4 a1_5 a1_6 = some (r1, r2, r3, r4, r5, r6, r7, r8, r9)) ∧ Aside0 (kq ≤ kj2) ∧ Aside0 (wc.heap[gb728]? = some (.cells #[.int .i64 a0_0, .int .i64 a0_1, .string a0_2, .int .i64 a0_3, .string a0_4, .int .i64 a0_5, .string a0_6] 73 (0, 0))) ∧ Aside0 (wc.heap[gb729]? = some (.cells #[.int .i64 a1_0, .int .i64 a1_1, .string a1_2, .int .i64 a1_3, .string a1_4, .int .i64 a1_5, .string a1_6] 73 (0, 0))) ∧ Aside0 (wc.heap[gb730]? = some (.cells #[.int .i64 0, .int .i64 0, .string (⟨#[]⟩ : ByteArray), .int .i64 0, .string (⟨#[]⟩ : ByteArray), .int .i64 0, .string (⟨#[]⟩ : ByteArray)] 73 (0, 0))) ∧ Aside0 (Below w.heap.size w wc))
        case first =>
          have H := HC22.out
          clear HC22
          by_cases c26 : a0_0 = 1
          · rw [if_pos c26] at H
            have c26b0 : (a0_0 == 1) = true := beq_iff_eq.mpr c26
            have c26b1 : (a0_0 != 1) = false := bne_eq_false_iff_eq.mpr c26
            clear c26
            (first | rw [c26b0] | (simp only [i64_w, i32_w]; rw [c26b0]) | skip)
            have H' := Aside0.mk H
            clear H
            go_wp2
            go_meet
            case rel => exact ⟨_, ((a0_0 == 1)), (by first | rfl | (simp; done) | (simp [*]; done)), H', ⟨by have := HJ2.out; first | omega | exact Nat.le_refl _⟩, ⟨by (with_reducible repeat (first | refine blk_drewN ?_ _ | refine blk_drew ?_ | refine blk_alloc ?_ _)); exact BK728.out⟩, ⟨by (with_reducible repeat (first | refine blk_drewN ?_ _ | refine blk_drew ?_ | refine blk_alloc ?_ _)); exact BK729.out⟩, ⟨by (with_reducible repeat (first | refine blk_drewN ?_ _ | refine blk_drew ?_ | refine blk_alloc ?_ _)); exact BK730.out⟩, ⟨by repeat (first | (with_reducible first | exact HB.out | apply below_alloc | apply pw_below_drewN | apply below_drew1 | refine below_set ?_ GE728.out | refine below_set ?_ GE729.out | refine below_set ?_ GE730.out) | exact HB.out)⟩⟩
          · rw [if_neg c26] at H
            have c26b0 : (a0_0 == 1) = false := beq_eq_false_iff_ne.mpr c26
            have c26b1 : (a0_0 != 1) = true := bne_iff_ne.mpr c26
            (first | rw [c26b0] | (simp only [i64_w, i32_w]; rw [c26b0]) | skip)
            have H' := Aside0.mk H
            clear H
            go_wp2
            go_meet
            case rel => exact ⟨_, ((a0_0 == 2)), (by first | rfl | (simp; done) | (simp [*]; done)), H', ⟨by have := HJ2.out; first | omega | exact Nat.le_refl _⟩, ⟨by (with_reducible repeat (first | refine blk_drewN ?_ _ | refine blk_drew ?_ | refine blk_alloc ?_ _)); exact BK728.out⟩, ⟨by (with_reducible repeat (first | refine blk_drewN ?_ _ | refine blk_drew ?_ | refine blk_alloc ?_ _)); exact BK729.out⟩, ⟨by (with_reducible repeat (first | refine blk_drewN ?_ _ | refine blk_drew ?_ | refine blk_alloc ?_ _)); exact BK730.out⟩, ⟨by repeat (first | (with_reducible first | exact HB.out | apply below_alloc | apply pw_below_drewN | apply below_drew1 | refine below_set ?_ GE728.out | refine below_set ?_ GE729.out | refine below_set ?_ GE730.out) | exact HB.out)⟩⟩
        case rest =>
          clear HC22; (try clear c1); (try clear c2); (try clear p2); (try clear c7); (try clear c7b0); (try clear c7b1); (try clear c8); (try clear c9); (try clear c11); (try clear c13); (try clear c14); (try clear c16); (try clear c18); (try clear c19); (try clear c20); (try clear c23); (try clear c24); (try clear c26); (try clear c26b0); (try clear c26b1); (try clear hcz10_0); (try clear hcz10_1); (try clear hcz10_2); (try clear hcz10_3); (try clear hcz10_4); (try clear hcz10_5); (try clear hcz10_6); (try clear hcz12_0); (try clear hcz12_1); (try clear hcz12_2); (try clear hcz12_3); (try clear hcz12_4); (try clear hcz12_5); (try clear hcz12_6); (try clear hcz15_0); (try clear hcz15_1); (try clear hcz15_2); (try clear hcz15_3); (try clear hcz15_4); (try clear hcz15_5); (try clear hcz15_6); (try clear hcz17_0); (try clear hcz17_1); (try clear hcz17_2); (try clear hcz17_3); (try clear hcz17_4); (try clear hcz17_5); (try clear hcz17_6); (try clear hcz21_0); (try clear hcz21_1); (try clear hcz21_2); (try clear hcz21_3); (try clear hcz21_4); (try clear hcz21_5); (try clear hcz21_6); (try clear hcz25_0); (try clear hcz25_1); (try clear hcz25_2); (try clear hcz25_3); (try clear hcz25_4); (try clear hcz25_5); (try clear hcz25_6); (try clear hfz10_0); (try clear hfz10_1); (try clear hfz10_2); (try clear hfz10_3); (try clear hfz10_4); (try clear hfz10_5); (try clear hfz10_6); (try clear hfz12_0); (try clear hfz12_1); (try clear hfz12_2); (try clear hfz12_3); (try clear hfz12_4); (try clear hfz12_5); (try clear hfz12_6); (try clear hfz15_0); (try clear hfz15_1); (try clear hfz15_2); (try clear hfz15_3); (try clear hfz15_4); (try clear hfz15_5); (try clear hfz15_6); (try clear hfz17_0); (try clear hfz17_1); (try clear hfz17_2); (try clear hfz17_3); (try clear hfz17_4); (try clear hfz17_5); (try clear hfz17_6); (try clear hfz21_0); (try clear hfz21_1); (try clear hfz21_2); (try clear hfz21_3); (try clear hfz21_4); (try clear hfz21_5); (try clear hfz21_6); (try clear hfz25_0); (try clear hfz25_1)
          (try clear hfz25_2); (try clear hfz25_3); (try clear hfz25_4); (try clear hfz25_5); (try clear hfz25_6); (try clear p2)
          obtain ⟨kq, x22_21, rfl, HA, HJ21, BK728, BK729, BK730, HB⟩ := hcut
          cases kq with
          | zero => exact absurd HA.out (by simp [impl_combined.j1])
          | succ kj21 =>
            have H := HA.out
            clear HA
            simp only [impl_combined.j1] at H
            by_cases c27 : x22_21 = true
            · subst c27
              have H1 : (if a0_1 = a1_1 then (some (a0_0, a1_3, a1_4, a0_3, a0_4, a0_5, a0_6, (a0_2.toList == a1_2.toList), false)) else (some (a0_0, a1_3, a1_4, a0_3, a0_4, a0_5, a0_6, false, false))) = some (r1, r2, r3, r4, r5, r6, r7, r8, r9) := by rw [if_pos rfl] at H; exact H
              clear H
              have H := H1
              clear H1
              by_cases c28 : a0_1 = a1_1
              · rw [if_pos c28] at H
                have c28b0 : (a0_1 == a1_1) = true := beq_iff_eq.mpr c28
                have c28b1 : (a0_1 != a1_1) = false := bne_eq_false_iff_eq.mpr c28
                clear c28
                simp only [Option.some.injEq, Prod.mk.injEq] at H
                obtain ⟨rfl, rfl, rfl, rfl, rfl, rfl, rfl, rfl, rfl⟩ := H
                have hnb29 := NB728_729.out
                have hnc29 := NB729_728.out
                have hnb30 := NB728_730.out
                have hnc30 := NB730_728.out
                have hcz31_0 : wc.cell? ⟨gb728, 0, none⟩ = some (.int .i64 a0_0) := (blk_cell BK728.out 0).trans rfl
                have hcz31_1 : wc.cell? ⟨gb728, 1, none⟩ = some (.int .i64 a0_1) := (blk_cell BK728.out 1).trans rfl
                have hcz31_2 : wc.cell? ⟨gb728, 2, none⟩ = some (.string a0_2) := (blk_cell BK728.out 2).trans rfl
                have hcz31_3 : wc.cell? ⟨gb728, 3, none⟩ = some (.int .i64 a0_3) := (blk_cell BK728.out 3).trans rfl
                have hcz31_4 : wc.cell? ⟨gb728, 4, none⟩ = some (.string a0_4) := (blk_cell BK728.out 4).trans rfl
                have hcz31_5 : wc.cell? ⟨gb728, 5, none⟩ = some (.int .i64 a0_5) := (blk_cell BK728.out 5).trans rfl
                have hcz31_6 : wc.cell? ⟨gb728, 6, none⟩ = some (.string a0_6) := (blk_cell BK728.out 6).trans rfl
                have hfz31_0 := blk_frozen BK728.out 0
                have hfz31_1 := blk_frozen BK728.out 1
                have hfz31_2 := blk_frozen BK728.out 2
                have hfz31_3 := blk_frozen BK728.out 3
                have hfz31_4 := blk_frozen BK728.out 4
                have hfz31_5 := blk_frozen BK728.out 5
                have hfz31_6 := blk_frozen BK728.out 6
                have hnb32 := NB729_730.out
                have hnc32 := NB730_729.out
                have hcz33_0 : wc.cell? ⟨gb729, 0, none⟩ = some (.int .i64 a1_0) := (blk_cell BK729.out 0).trans rfl
                have hcz33_1 : wc.cell? ⟨gb729, 1, none⟩ = some (.int .i64 a1_1) := (blk_cell BK729.out 1).trans rfl
                have hcz33_2 : wc.cell? ⟨gb729, 2, none⟩ = some (.string a1_2) := (blk_cell BK729.out 2).trans rfl
                have hcz33_3 : wc.cell? ⟨gb729, 3, none⟩ = some (.int .i64 a1_3) := (blk_cell BK729.out 3).trans rfl
                have hcz33_4 : wc.cell? ⟨gb729, 4, none⟩ = some (.string a1_4) := (blk_cell BK729.out 4).trans rfl
                have hcz33_5 : wc.cell? ⟨gb729, 5, none⟩ = some (.int .i64 a1_5) := (blk_cell BK729.out 5).trans rfl
                have hcz33_6 : wc.cell? ⟨gb729, 6, none⟩ = some (.string a1_6) := (blk_cell BK729.out 6).trans rfl
                have hfz33_0 := blk_frozen BK729.out 0
                have hfz33_1 := blk_frozen BK729.out 1
                have hfz33_2 := blk_frozen BK729.out 2
                have hfz33_3 := blk_frozen BK729.out 3
                have hfz33_4 := blk_frozen BK729.out 4
                have hfz33_5 := blk_frozen BK729.out 5
                have hfz33_6 := blk_frozen BK729.out 6
                try go_wp2
                have n0_ := Aside0.mk (blk_drew BK728.out)
                have n1_ := Aside0.mk (blk_drew BK729.out)
                have n2_ := Aside0.mk (blk_drew BK730.out)
                have n3_ := Aside0.mk (below_drew1 HB.out)
                clear BK728 BK729 BK730 HB; have BK728 := n0_; have BK729 := n1_; have BK730 := n2_; have HB := n3_; clear n0_ n1_ n2_ n3_
                refine start_ (n := 8) (S := fun w' => w'.cell? ⟨gb729, 0, none⟩ = some (.int .i64 a1_0) ∧ w'.cell? ⟨gb729, 1, none⟩ = some (.int .i64 a1_1) ∧ w'.cell? ⟨gb729, 2, none⟩ = some (.string a1_2) ∧ w'.cell? ⟨gb729, 3, none⟩ = some (.int .i64 a1_3) ∧ w'.cell? ⟨gb729, 4, none⟩ = some (.string a1_4) ∧ w'.cell? ⟨gb729, 5, none⟩ = some (.int .i64 a1_5) ∧ w'.cell? ⟨gb729, 6, none⟩ = some (.string a1_6)) (ds := []) #[false, false, false, false, false, false, false, false] (by kernel_rfl) rfl rfl ⟨(blk_cell BK729.out 0).trans rfl, (blk_cell BK729.out 1).trans rfl, (blk_cell BK729.out 2).trans rfl, (blk_cell BK729.out 3).trans rfl, (blk_cell BK729.out 4).trans rfl, (blk_cell BK729.out 5).trans rfl, (blk_cell BK729.out 6).trans rfl⟩ (fun hHeld => ?_); refine with_tabW impl_combined.tab7 impl_combined.bits7 (fun HT_ HW_ => ?_)
                generalize wc.drew = w34 at BK728 BK729 BK730 HB hHeld ⊢
                refine pure_ (i := 0) (N := some 37) (v := ?_) (a' := ?_) #[true, false, false, false, false, false, false, false] rfl rfl (any_of HT_.out (by kernel_rfl)) (fun _ _ _ h => h) (Or.inl ⟨by rfl, ?_⟩) ?_ ?_
                rotate_left
                · intro w'
                  go_simp
                  with_reducible rfl
                rotate_left
                · simp only [Act.put, List.setIfInBounds_toArray, List.set_cons_zero, List.set_cons_succ, i64_w, i32_w]
                  rfl
                refine pure_ (i := 2) (N := some 39) (v := ?_) (a' := ?_) #[true, false, true, false, false, false, false, false] rfl rfl (any_of HT_.out (by kernel_rfl)) (fun _ _ _ h => h) (Or.inl ⟨by rfl, ?_⟩) ?_ ?_
                rotate_left
                · intro w'
                  go_simp
                  with_reducible rfl
                rotate_left
                · simp only [Act.put, List.setIfInBounds_toArray, List.set_cons_zero, List.set_cons_succ, i64_w, i32_w]
                  rfl
                refine take_ (i := 1) (N := some 38) (v := ?_) (a' := ?_) #[true, true, true, false, false, false, false, false] rfl rfl (take_ofW HT_.out HW_.out (by kernel_rfl)) (fun _ _ _ h => h) (Or.inl ⟨by rfl, ?_⟩) hHeld ?_ ?_
                rotate_left
                · rintro w' ⟨s0, s1, s2, s3, s4, s5, s6⟩
                  go_simp
                  with_reducible rfl
                rotate_left
                · simp only [Act.put, List.setIfInBounds_toArray, List.set_cons_zero, List.set_cons_succ, i64_w, i32_w]
                  rfl
                refine pure_ (i := 4) (N := some 41) (v := ?_) (a' := ?_) #[true, true, true, false, true, false, false, false] rfl rfl (any_of HT_.out (by kernel_rfl)) (fun _ _ _ h => h) (Or.inl ⟨by rfl, ?_⟩) ?_ ?_
                rotate_left
                · intro w'
                  go_simp
                  with_reducible rfl
                rotate_left
                · simp only [Act.put, List.setIfInBounds_toArray, List.set_cons_zero, List.set_cons_succ, i64_w, i32_w]
                  rfl
                refine take_ (i := 3) (N := some 40) (v := ?_) (a' := ?_) #[true, true, true, true, true, false, false, false] rfl rfl (take_ofW HT_.out HW_.out (by kernel_rfl)) (fun _ _ _ h => h) (Or.inl ⟨by rfl, ?_⟩) hHeld ?_ ?_
                rotate_left
                · rintro w' ⟨s0, s1, s2, s3, s4, s5, s6⟩
                  go_simp
                  with_reducible rfl
                rotate_left
                · simp only [Act.put, List.setIfInBounds_toArray, List.set_cons_zero, List.set_cons_succ, i64_w, i32_w]
                  rfl
                refine one_ (i := 5) (N := none) #[true, true, true, true, true, true, false, false] rfl rfl (one_of HT_.out (by kernel_rfl)) (by decide) (fun K hK => ?_)
                have hs35 : w34.cell? ⟨gb728, 1, none⟩ = some (.int .i64 a0_1) := (blk_cell BK728.out 1).trans rfl
                have hfs35 := blk_frozen BK728.out 1
                have hns35_1 := NB729_728.out
                have hns35_2 := NB730_728.out
                have hms35_1 := NB728_729.out
                have hms35_2 := NB728_730.out
                refine skip_ (w1 := ?_) (by rfl) rfl ?_ ?_
                rotate_left
                · go_simp
                  rfl
                refine hK.out _ _ ⟨((cell_far (p := ⟨gb728, _, none⟩) NB729_728.out _).trans (hHeld.1)), ((cell_far (p := ⟨gb728, _, none⟩) NB729_728.out _).trans (hHeld.2.1)), ((cell_far (p := ⟨gb728, _, none⟩) NB729_728.out _).trans (hHeld.2.2.1)), ((cell_far (p := ⟨gb728, _, none⟩) NB729_728.out _).trans (hHeld.2.2.2.1)), ((cell_far (p := ⟨gb728, _, none⟩) NB729_728.out _).trans (hHeld.2.2.2.2.1)), ((cell_far (p := ⟨gb728, _, none⟩) NB729_728.out _).trans (hHeld.2.2.2.2.2.1)), ((cell_far (p := ⟨gb728, _, none⟩) NB729_728.out _).trans (hHeld.2.2.2.2.2.2))⟩ (fun hHeld => ?_)
                clear hK K
                refine pure_ (i := 6) (N := some 42) (v := ?_) (a' := ?_) #[true, true, true, true, true, true, true, false] rfl rfl (any_of HT_.out (by kernel_rfl)) (fun _ _ _ h => h) (Or.inl ⟨by rfl, ?_⟩) ?_ ?_
                rotate_left
                · intro w'
                  go_simp
                  with_reducible rfl
                rotate_left
                · simp only [Act.put, List.setIfInBounds_toArray, List.set_cons_zero, List.set_cons_succ, i64_w, i32_w]
                  rfl
                refine one_ (i := 7) (N := none) #[true, true, true, true, true, true, true, true] rfl rfl (one_of HT_.out (by kernel_rfl)) (by decide) (fun K hK => ?_)
                have hs36 : w34.cell? ⟨gb728, 2, none⟩ = some (.string a0_2) := (blk_cell BK728.out 2).trans rfl
                have hfs36 := blk_frozen BK728.out 2
                have hns36_1 := NB729_728.out
                have hns36_2 := NB730_728.out
                have hms36_1 := NB728_729.out
                have hms36_2 := NB728_730.out
                refine skip_ (w1 := ?_) (by rfl) rfl ?_ ?_
                rotate_left
                · go_simp
                  rfl
                refine hK.out _ _ ⟨((cell_far (p := ⟨gb728, _, none⟩) NB729_728.out _).trans (hHeld.1)), ((cell_far (p := ⟨gb728, _, none⟩) NB729_728.out _).trans (hHeld.2.1)), ((cell_far (p := ⟨gb728, _, none⟩) NB729_728.out _).trans (hHeld.2.2.1)), ((cell_far (p := ⟨gb728, _, none⟩) NB729_728.out _).trans (hHeld.2.2.2.1)), ((cell_far (p := ⟨gb728, _, none⟩) NB729_728.out _).trans (hHeld.2.2.2.2.1)), ((cell_far (p := ⟨gb728, _, none⟩) NB729_728.out _).trans (hHeld.2.2.2.2.2.1)), ((cell_far (p := ⟨gb728, _, none⟩) NB729_728.out _).trans (hHeld.2.2.2.2.2.2))⟩ (fun hHeld => ?_)
                clear hK K
                refine done_ (done_of HT_.out (by kernel_rfl)) ?_
                have hcz37_0 : w34.cell? ⟨gb728, 0, none⟩ = some (.int .i64 a0_0) := (blk_cell BK728.out 0).trans rfl
                have hcz37_1 : w34.cell? ⟨gb728, 1, none⟩ = some (.int .i64 a0_1) := (blk_cell BK728.out 1).trans rfl
                have hcz37_2 : w34.cell? ⟨gb728, 2, none⟩ = some (.string a0_2) := (blk_cell BK728.out 2).trans rfl
                have hcz37_3 : w34.cell? ⟨gb728, 3, none⟩ = some (.int .i64 a0_3) := (blk_cell BK728.out 3).trans rfl
                have hcz37_4 : w34.cell? ⟨gb728, 4, none⟩ = some (.string a0_4) := (blk_cell BK728.out 4).trans rfl
                have hcz37_5 : w34.cell? ⟨gb728, 5, none⟩ = some (.int .i64 a0_5) := (blk_cell BK728.out 5).trans rfl
                have hcz37_6 : w34.cell? ⟨gb728, 6, none⟩ = some (.string a0_6) := (blk_cell BK728.out 6).trans rfl
                have hfz37_0 := blk_frozen BK728.out 0
                have hfz37_1 := blk_frozen BK728.out 1
                have hfz37_2 := blk_frozen BK728.out 2
                have hfz37_3 := blk_frozen BK728.out 3
                have hfz37_4 := blk_frozen BK728.out 4
                have hfz37_5 := blk_frozen BK728.out 5
                have hfz37_6 := blk_frozen BK728.out 6
                have hcz38_0 : w34.cell? ⟨gb730, 0, none⟩ = some (.int .i64 0) := (blk_cell BK730.out 0).trans rfl
                have hcz38_1 : w34.cell? ⟨gb730, 1, none⟩ = some (.int .i64 0) := (blk_cell BK730.out 1).trans rfl
                have hcz38_2 : w34.cell? ⟨gb730, 2, none⟩ = some (.string (⟨#[]⟩ : ByteArray)) := (blk_cell BK730.out 2).trans rfl
                have hcz38_3 : w34.cell? ⟨gb730, 3, none⟩ = some (.int .i64 0) := (blk_cell BK730.out 3).trans rfl
                have hcz38_4 : w34.cell? ⟨gb730, 4, none⟩ = some (.string (⟨#[]⟩ : ByteArray)) := (blk_cell BK730.out 4).trans rfl
                have hcz38_5 : w34.cell? ⟨gb730, 5, none⟩ = some (.int .i64 0) := (blk_cell BK730.out 5).trans rfl
                have hcz38_6 : w34.cell? ⟨gb730, 6, none⟩ = some (.string (⟨#[]⟩ : ByteArray)) := (blk_cell BK730.out 6).trans rfl
                have hfz38_0 := blk_frozen BK730.out 0
                have hfz38_1 := blk_frozen BK730.out 1
                have hfz38_2 := blk_frozen BK730.out 2
                have hfz38_3 := blk_frozen BK730.out 3
                have hfz38_4 := blk_frozen BK730.out 4
                have hfz38_5 := blk_frozen BK730.out 5
                have hfz38_6 := blk_frozen BK730.out 6
                try go_wp2
                refine bodyPost_ret (results_ctt rfl _ _ gb730 73 #[.int .i64 a0_0, .int .i64 a1_3, .string a1_4, .int .i64 a0_3, .string a0_4, .int .i64 a0_5, .string a0_6] (0, 0) _ rfl (by (with_reducible repeat (first | refine blk_drewN ?_ _ | refine blk_drew ?_ | refine blk_alloc ?_ _)); refine blk_put (cs := #[.int .i64 a0_0, .int .i64 a1_3, .string a1_4, .int .i64 a0_3, .string a0_4, .int .i64 a0_5, .string (⟨#[]⟩ : ByteArray)]) ?_ 6 _ rfl; (with_reducible repeat (first | refine blk_drewN ?_ _ | refine blk_drew ?_ | refine blk_alloc ?_ _)); refine blk_put (cs := #[.int .i64 a0_0, .int .i64 a1_3, .string a1_4, .int .i64 a0_3, .string a0_4, .int .i64 0, .string (⟨#[]⟩ : ByteArray)]) ?_ 5 _ rfl; (with_reducible repeat (first | refine blk_drewN ?_ _ | refine blk_drew ?_ | refine blk_alloc ?_ _)); refine blk_put (cs := #[.int .i64 a0_0, .int .i64 a1_3, .string a1_4, .int .i64 a0_3, .string (⟨#[]⟩ : ByteArray), .int .i64 0, .string (⟨#[]⟩ : ByteArray)]) ?_ 4 _ rfl; (with_reducible repeat (first | refine blk_drewN ?_ _ | refine blk_drew ?_ | refine blk_alloc ?_ _)); refine blk_put (cs := #[.int .i64 a0_0, .int .i64 a1_3, .string a1_4, .int .i64 0, .string (⟨#[]⟩ : ByteArray), .int .i64 0, .string (⟨#[]⟩ : ByteArray)]) ?_ 3 _ rfl; (with_reducible repeat (first | refine blk_drewN ?_ _ | refine blk_drew ?_ | refine blk_alloc ?_ _)); refine blk_put (cs := #[.int .i64 a0_0, .int .i64 a1_3, .string (⟨#[]⟩ : ByteArray), .int .i64 0, .string (⟨#[]⟩ : ByteArray), .int .i64 0, .string (⟨#[]⟩ : ByteArray)]) ?_ 2 _ rfl; (with_reducible repeat (first | refine blk_drewN ?_ _ | refine blk_drew ?_ | refine blk_alloc ?_ _)); refine blk_put (cs := #[.int .i64 a0_0, .int .i64 0, .string (⟨#[]⟩ : ByteArray), .int .i64 0, .string (⟨#[]⟩ : ByteArray), .int .i64 0, .string (⟨#[]⟩ : ByteArray)]) ?_ 1 _ rfl; (with_reducible repeat (first | refine blk_drewN ?_ _ | refine blk_drew ?_ | refine blk_alloc ?_ _)); refine blk_put (cs := #[.int .i64 0, .int .i64 0, .string (⟨#[]⟩ : ByteArray), .int .i64 0, .string (⟨#[]⟩ : ByteArray), .int .i64 0, .string (⟨#[]⟩ : ByteArray)]) ?_ 0 _ rfl; (with_reducible repeat (first | refine blk_drewN ?_ _ | refine blk_drew ?_ | refine blk_alloc ?_ _)); refine blk_far ?_ NB730_728.out _; (with_reducible repeat (first | refine blk_drewN ?_ _ | refine blk_drew ?_ | refine blk_alloc ?_ _)); refine blk_far ?_ NB730_728.out _; (with_reducible repeat (first | refine blk_drewN ?_ _ | refine blk_drew ?_ | refine blk_alloc ?_ _)); exact BK730.out) Try.underlying73 rfl (by kernel_rfl)) rfl ?_
                exact ⟨by first | rfl | (simp [errW_none, errW_some] <;> rfl) | (simp [*, errW_none, errW_some] <;> rfl), by repeat (first | (with_reducible first | exact HB.out | apply below_alloc | apply pw_below_drewN | apply below_drew1 | refine below_set ?_ GE728.out | refine below_set ?_ GE729.out | refine below_set ?_ GE730.out) | exact HB.out)⟩
              · rw [if_neg c28] at H
                have c28b0 : (a0_1 == a1_1) = false := beq_eq_false_iff_ne.mpr c28
                have c28b1 : (a0_1 != a1_1) = true := bne_iff_ne.mpr c28
                simp only [Option.some.injEq, Prod.mk.injEq] at H
                obtain ⟨rfl, rfl, rfl, rfl, rfl, rfl, rfl, rfl, rfl⟩ := H
                have hnb39 := NB728_729.out
                have hnc39 := NB729_728.out
                have hnb40 := NB728_730.out
                have hnc40 := NB730_728.out
                have hcz41_0 : wc.cell? ⟨gb728, 0, none⟩ = some (.int .i64 a0_0) := (blk_cell BK728.out 0).trans rfl
                have hcz41_1 : wc.cell? ⟨gb728, 1, none⟩ = some (.int .i64 a0_1) := (blk_cell BK728.out 1).trans rfl
                have hcz41_2 : wc.cell? ⟨gb728, 2, none⟩ = some (.string a0_2) := (blk_cell BK728.out 2).trans rfl
                have hcz41_3 : wc.cell? ⟨gb728, 3, none⟩ = some (.int .i64 a0_3) := (blk_cell BK728.out 3).trans rfl
                have hcz41_4 : wc.cell? ⟨gb728, 4, none⟩ = some (.string a0_4) := (blk_cell BK728.out 4).trans rfl
                have hcz41_5 : wc.cell? ⟨gb728, 5, none⟩ = some (.int .i64 a0_5) := (blk_cell BK728.out 5).trans rfl
                have hcz41_6 : wc.cell? ⟨gb728, 6, none⟩ = some (.string a0_6) := (blk_cell BK728.out 6).trans rfl
                have hfz41_0 := blk_frozen BK728.out 0
                have hfz41_1 := blk_frozen BK728.out 1
                have hfz41_2 := blk_frozen BK728.out 2
                have hfz41_3 := blk_frozen BK728.out 3
                have hfz41_4 := blk_frozen BK728.out 4
                have hfz41_5 := blk_frozen BK728.out 5
                have hfz41_6 := blk_frozen BK728.out 6
                have hnb42 := NB729_730.out
                have hnc42 := NB730_729.out
                have hcz43_0 : wc.cell? ⟨gb729, 0, none⟩ = some (.int .i64 a1_0) := (blk_cell BK729.out 0).trans rfl
                have hcz43_1 : wc.cell? ⟨gb729, 1, none⟩ = some (.int .i64 a1_1) := (blk_cell BK729.out 1).trans rfl
                have hcz43_2 : wc.cell? ⟨gb729, 2, none⟩ = some (.string a1_2) := (blk_cell BK729.out 2).trans rfl
                have hcz43_3 : wc.cell? ⟨gb729, 3, none⟩ = some (.int .i64 a1_3) := (blk_cell BK729.out 3).trans rfl
                have hcz43_4 : wc.cell? ⟨gb729, 4, none⟩ = some (.string a1_4) := (blk_cell BK729.out 4).trans rfl
                have hcz43_5 : wc.cell? ⟨gb729, 5, none⟩ = some (.int .i64 a1_5) := (blk_cell BK729.out 5).trans rfl
                have hcz43_6 : wc.cell? ⟨gb729, 6, none⟩ = some (.string a1_6) := (blk_cell BK729.out 6).trans rfl
                have hfz43_0 := blk_frozen BK729.out 0
                have hfz43_1 := blk_frozen BK729.out 1
                have hfz43_2 := blk_frozen BK729.out 2
                have hfz43_3 := blk_frozen BK729.out 3
                have hfz43_4 := blk_frozen BK729.out 4
                have hfz43_5 := blk_frozen BK729.out 5
                have hfz43_6 := blk_frozen BK729.out 6
                try go_wp2
                have n0_ := Aside0.mk (blk_drew BK728.out)
                have n1_ := Aside0.mk (blk_drew BK729.out)
                have n2_ := Aside0.mk (blk_drew BK730.out)
                have n3_ := Aside0.mk (below_drew1 HB.out)
                clear BK728 BK729 BK730 HB; have BK728 := n0_; have BK729 := n1_; have BK730 := n2_; have HB := n3_; clear n0_ n1_ n2_ n3_
                refine start_ (n := 8) (S := fun w' => w'.cell? ⟨gb729, 0, none⟩ = some (.int .i64 a1_0) ∧ w'.cell? ⟨gb729, 1, none⟩ = some (.int .i64 a1_1) ∧ w'.cell? ⟨gb729, 2, none⟩ = some (.string a1_2) ∧ w'.cell? ⟨gb729, 3, none⟩ = some (.int .i64 a1_3) ∧ w'.cell? ⟨gb729, 4, none⟩ = some (.string a1_4) ∧ w'.cell? ⟨gb729, 5, none⟩ = some (.int .i64 a1_5) ∧ w'.cell? ⟨gb729, 6, none⟩ = some (.string a1_6)) (ds := []) #[false, false, false, false, false, false, false, false] (by kernel_rfl) rfl rfl ⟨(blk_cell BK729.out 0).trans rfl, (blk_cell BK729.out 1).trans rfl, (blk_cell BK729.out 2).trans rfl, (blk_cell BK729.out 3).trans rfl, (blk_cell BK729.out 4).trans rfl, (blk_cell BK729.out 5).trans rfl, (blk_cell BK729.out 6).trans rfl⟩ (fun hHeld => ?_); refine with_tabW impl_combined.tab7 impl_combined.bits7 (fun HT_ HW_ => ?_)
                generalize wc.drew = w44 at BK728 BK729 BK730 HB hHeld ⊢
                refine pure_ (i := 0) (N := some 37) (v := ?_) (a' := ?_) #[true, false, false, false, false, false, false, false] rfl rfl (any_of HT_.out (by kernel_rfl)) (fun _ _ _ h => h) (Or.inl ⟨by rfl, ?_⟩) ?_ ?_
                rotate_left
                · intro w'
                  go_simp
                  with_reducible rfl
                rotate_left
                · simp only [Act.put, List.setIfInBounds_toArray, List.set_cons_zero, List.set_cons_succ, i64_w, i32_w]
                  rfl
                refine pure_ (i := 2) (N := some 39) (v := ?_) (a' := ?_) #[true, false, true, false, false, false, false, false] rfl rfl (any_of HT_.out (by kernel_rfl)) (fun _ _ _ h => h) (Or.inl ⟨by rfl, ?_⟩) ?_ ?_
                rotate_left
                · intro w'
                  go_simp
                  with_reducible rfl
                rotate_left
                · simp only [Act.put, List.setIfInBounds_toArray, List.set_cons_zero, List.set_cons_succ, i64_w, i32_w]
                  rfl
                refine take_ (i := 1) (N := some 38) (v := ?_) (a' := ?_) #[true, true, true, false, false, false, false, false] rfl rfl (take_ofW HT_.out HW_.out (by kernel_rfl)) (fun _ _ _ h => h) (Or.inl ⟨by rfl, ?_⟩) hHeld ?_ ?_
                rotate_left
                · rintro w' ⟨s0, s1, s2, s3, s4, s5, s6⟩
                  go_simp
                  with_reducible rfl
                rotate_left
                · simp only [Act.put, List.setIfInBounds_toArray, List.set_cons_zero, List.set_cons_succ, i64_w, i32_w]
                  rfl
                refine pure_ (i := 4) (N := some 41) (v := ?_) (a' := ?_) #[true, true, true, false, true, false, false, false] rfl rfl (any_of HT_.out (by kernel_rfl)) (fun _ _ _ h => h) (Or.inl ⟨by rfl, ?_⟩) ?_ ?_
                rotate_left
                · intro w'
                  go_simp
                  with_reducible rfl
                rotate_left
                · simp only [Act.put, List.setIfInBounds_toArray, List.set_cons_zero, List.set_cons_succ, i64_w, i32_w]
                  rfl
                refine take_ (i := 3) (N := some 40) (v := ?_) (a' := ?_) #[true, true, true, true, true, false, false, false] rfl rfl (take_ofW HT_.out HW_.out (by kernel_rfl)) (fun _ _ _ h => h) (Or.inl ⟨by rfl, ?_⟩) hHeld ?_ ?_
                rotate_left
                · rintro w' ⟨s0, s1, s2, s3, s4, s5, s6⟩
                  go_simp
                  with_reducible rfl
                rotate_left
                · simp only [Act.put, List.setIfInBounds_toArray, List.set_cons_zero, List.set_cons_succ, i64_w, i32_w]
                  rfl
                refine one_ (i := 5) (N := none) #[true, true, true, true, true, true, false, false] rfl rfl (one_of HT_.out (by kernel_rfl)) (by decide) (fun K hK => ?_)
                have hs45 : w44.cell? ⟨gb728, 1, none⟩ = some (.int .i64 a0_1) := (blk_cell BK728.out 1).trans rfl
                have hfs45 := blk_frozen BK728.out 1
                have hns45_1 := NB729_728.out
                have hns45_2 := NB730_728.out
                have hms45_1 := NB728_729.out
                have hms45_2 := NB728_730.out
                refine skip_ (w1 := ?_) (by rfl) rfl ?_ ?_
                rotate_left
                · go_simp
                  rfl
                refine hK.out _ _ ⟨((cell_far (p := ⟨gb728, _, none⟩) NB729_728.out _).trans (hHeld.1)), ((cell_far (p := ⟨gb728, _, none⟩) NB729_728.out _).trans (hHeld.2.1)), ((cell_far (p := ⟨gb728, _, none⟩) NB729_728.out _).trans (hHeld.2.2.1)), ((cell_far (p := ⟨gb728, _, none⟩) NB729_728.out _).trans (hHeld.2.2.2.1)), ((cell_far (p := ⟨gb728, _, none⟩) NB729_728.out _).trans (hHeld.2.2.2.2.1)), ((cell_far (p := ⟨gb728, _, none⟩) NB729_728.out _).trans (hHeld.2.2.2.2.2.1)), ((cell_far (p := ⟨gb728, _, none⟩) NB729_728.out _).trans (hHeld.2.2.2.2.2.2))⟩ (fun hHeld => ?_)
                clear hK K
                refine pure_ (i := 6) (N := some 42) (v := ?_) (a' := ?_) #[true, true, true, true, true, true, true, false] rfl rfl (any_of HT_.out (by kernel_rfl)) (fun _ _ _ h => h) (Or.inl ⟨by rfl, ?_⟩) ?_ ?_
                rotate_left
                · intro w'
                  go_simp
                  with_reducible rfl
                rotate_left
                · simp only [Act.put, List.setIfInBounds_toArray, List.set_cons_zero, List.set_cons_succ, i64_w, i32_w]
                  rfl
                refine one_ (i := 7) (N := none) #[true, true, true, true, true, true, true, true] rfl rfl (one_of HT_.out (by kernel_rfl)) (by decide) (fun K hK => ?_)
                have hs46 : w44.cell? ⟨gb728, 2, none⟩ = some (.string a0_2) := (blk_cell BK728.out 2).trans rfl
                have hfs46 := blk_frozen BK728.out 2
                have hns46_1 := NB729_728.out
                have hns46_2 := NB730_728.out
                have hms46_1 := NB728_729.out
                have hms46_2 := NB728_730.out
                refine skip_ (w1 := ?_) (by rfl) rfl ?_ ?_
                rotate_left
                · go_simp
                  rfl
                refine hK.out _ _ ⟨((cell_far (p := ⟨gb728, _, none⟩) NB729_728.out _).trans (hHeld.1)), ((cell_far (p := ⟨gb728, _, none⟩) NB729_728.out _).trans (hHeld.2.1)), ((cell_far (p := ⟨gb728, _, none⟩) NB729_728.out _).trans (hHeld.2.2.1)), ((cell_far (p := ⟨gb728, _, none⟩) NB729_728.out _).trans (hHeld.2.2.2.1)), ((cell_far (p := ⟨gb728, _, none⟩) NB729_728.out _).trans (hHeld.2.2.2.2.1)), ((cell_far (p := ⟨gb728, _, none⟩) NB729_728.out _).trans (hHeld.2.2.2.2.2.1)), ((cell_far (p := ⟨gb728, _, none⟩) NB729_728.out _).trans (hHeld.2.2.2.2.2.2))⟩ (fun hHeld => ?_)
                clear hK K
                refine done_ (done_of HT_.out (by kernel_rfl)) ?_
                have hcz47_0 : w44.cell? ⟨gb728, 0, none⟩ = some (.int .i64 a0_0) := (blk_cell BK728.out 0).trans rfl
                have hcz47_1 : w44.cell? ⟨gb728, 1, none⟩ = some (.int .i64 a0_1) := (blk_cell BK728.out 1).trans rfl
                have hcz47_2 : w44.cell? ⟨gb728, 2, none⟩ = some (.string a0_2) := (blk_cell BK728.out 2).trans rfl
                have hcz47_3 : w44.cell? ⟨gb728, 3, none⟩ = some (.int .i64 a0_3) := (blk_cell BK728.out 3).trans rfl
                have hcz47_4 : w44.cell? ⟨gb728, 4, none⟩ = some (.string a0_4) := (blk_cell BK728.out 4).trans rfl
                have hcz47_5 : w44.cell? ⟨gb728, 5, none⟩ = some (.int .i64 a0_5) := (blk_cell BK728.out 5).trans rfl
                have hcz47_6 : w44.cell? ⟨gb728, 6, none⟩ = some (.string a0_6) := (blk_cell BK728.out 6).trans rfl
                have hfz47_0 := blk_frozen BK728.out 0
                have hfz47_1 := blk_frozen BK728.out 1
                have hfz47_2 := blk_frozen BK728.out 2
                have hfz47_3 := blk_frozen BK728.out 3
                have hfz47_4 := blk_frozen BK728.out 4
                have hfz47_5 := blk_frozen BK728.out 5
                have hfz47_6 := blk_frozen BK728.out 6
                have hcz48_0 : w44.cell? ⟨gb730, 0, none⟩ = some (.int .i64 0) := (blk_cell BK730.out 0).trans rfl
                have hcz48_1 : w44.cell? ⟨gb730, 1, none⟩ = some (.int .i64 0) := (blk_cell BK730.out 1).trans rfl
                have hcz48_2 : w44.cell? ⟨gb730, 2, none⟩ = some (.string (⟨#[]⟩ : ByteArray)) := (blk_cell BK730.out 2).trans rfl
                have hcz48_3 : w44.cell? ⟨gb730, 3, none⟩ = some (.int .i64 0) := (blk_cell BK730.out 3).trans rfl
                have hcz48_4 : w44.cell? ⟨gb730, 4, none⟩ = some (.string (⟨#[]⟩ : ByteArray)) := (blk_cell BK730.out 4).trans rfl
                have hcz48_5 : w44.cell? ⟨gb730, 5, none⟩ = some (.int .i64 0) := (blk_cell BK730.out 5).trans rfl
                have hcz48_6 : w44.cell? ⟨gb730, 6, none⟩ = some (.string (⟨#[]⟩ : ByteArray)) := (blk_cell BK730.out 6).trans rfl
                have hfz48_0 := blk_frozen BK730.out 0
                have hfz48_1 := blk_frozen BK730.out 1
                have hfz48_2 := blk_frozen BK730.out 2
                have hfz48_3 := blk_frozen BK730.out 3
                have hfz48_4 := blk_frozen BK730.out 4
                have hfz48_5 := blk_frozen BK730.out 5
                have hfz48_6 := blk_frozen BK730.out 6
                try go_wp2
                refine bodyPost_ret (results_ctt rfl _ _ gb730 73 #[.int .i64 a0_0, .int .i64 a1_3, .string a1_4, .int .i64 a0_3, .string a0_4, .int .i64 a0_5, .string a0_6] (0, 0) _ rfl (by (with_reducible repeat (first | refine blk_drewN ?_ _ | refine blk_drew ?_ | refine blk_alloc ?_ _)); refine blk_put (cs := #[.int .i64 a0_0, .int .i64 a1_3, .string a1_4, .int .i64 a0_3, .string a0_4, .int .i64 a0_5, .string (⟨#[]⟩ : ByteArray)]) ?_ 6 _ rfl; (with_reducible repeat (first | refine blk_drewN ?_ _ | refine blk_drew ?_ | refine blk_alloc ?_ _)); refine blk_put (cs := #[.int .i64 a0_0, .int .i64 a1_3, .string a1_4, .int .i64 a0_3, .string a0_4, .int .i64 0, .string (⟨#[]⟩ : ByteArray)]) ?_ 5 _ rfl; (with_reducible repeat (first | refine blk_drewN ?_ _ | refine blk_drew ?_ | refine blk_alloc ?_ _)); refine blk_put (cs := #[.int .i64 a0_0, .int .i64 a1_3, .string a1_4, .int .i64 a0_3, .string (⟨#[]⟩ : ByteArray), .int .i64 0, .string (⟨#[]⟩ : ByteArray)]) ?_ 4 _ rfl; (with_reducible repeat (first | refine blk_drewN ?_ _ | refine blk_drew ?_ | refine blk_alloc ?_ _)); refine blk_put (cs := #[.int .i64 a0_0, .int .i64 a1_3, .string a1_4, .int .i64 0, .string (⟨#[]⟩ : ByteArray), .int .i64 0, .string (⟨#[]⟩ : ByteArray)]) ?_ 3 _ rfl; (with_reducible repeat (first | refine blk_drewN ?_ _ | refine blk_drew ?_ | refine blk_alloc ?_ _)); refine blk_put (cs := #[.int .i64 a0_0, .int .i64 a1_3, .string (⟨#[]⟩ : ByteArray), .int .i64 0, .string (⟨#[]⟩ : ByteArray), .int .i64 0, .string (⟨#[]⟩ : ByteArray)]) ?_ 2 _ rfl; (with_reducible repeat (first | refine blk_drewN ?_ _ | refine blk_drew ?_ | refine blk_alloc ?_ _)); refine blk_put (cs := #[.int .i64 a0_0, .int .i64 0, .string (⟨#[]⟩ : ByteArray), .int .i64 0, .string (⟨#[]⟩ : ByteArray), .int .i64 0, .string (⟨#[]⟩ : ByteArray)]) ?_ 1 _ rfl; (with_reducible repeat (first | refine blk_drewN ?_ _ | refine blk_drew ?_ | refine blk_alloc ?_ _)); refine blk_put (cs := #[.int .i64 0, .int .i64 0, .string (⟨#[]⟩ : ByteArray), .int .i64 0, .string (⟨#[]⟩ : ByteArray), .int .i64 0, .string (⟨#[]⟩ : ByteArray)]) ?_ 0 _ rfl; (with_reducible repeat (first | refine blk_drewN ?_ _ | refine blk_drew ?_ | refine blk_alloc ?_ _)); refine blk_far ?_ NB730_728.out _; (with_reducible repeat (first | refine blk_drewN ?_ _ | refine blk_drew ?_ | refine blk_alloc ?_ _)); refine blk_far ?_ NB730_728.out _; (with_reducible repeat (first | refine blk_drewN ?_ _ | refine blk_drew ?_ | refine blk_alloc ?_ _)); exact BK730.out) Try.underlying73 rfl (by kernel_rfl)) rfl ?_
                exact ⟨by first | rfl | (simp [errW_none, errW_some] <;> rfl) | (simp [*, errW_none, errW_some] <;> rfl), by repeat (first | (with_reducible first | exact HB.out | apply below_alloc | apply pw_below_drewN | apply below_drew1 | refine below_set ?_ GE728.out | refine below_set ?_ GE729.out | refine below_set ?_ GE730.out) | exact HB.out)⟩
            · replace c27 := Bool.eq_false_iff.mpr c27
              subst c27
              have H1 : (if a0_0 = 4 then (if a0_3 = a1_1 then (if a0_1 = a1_3 then (some (a0_0, a0_1, a0_2, a1_3, a1_4, a0_5, a0_6, (a0_4.toList == a1_2.toList), (a0_2.toList == a1_4.toList))) else (some (a0_0, a0_1, a0_2, a1_3, a1_4, a0_5, a0_6, (a0_4.toList == a1_2.toList), false))) else (if a0_1 = a1_3 then (some (a0_0, a0_1, a0_2, a1_3, a1_4, a0_5, a0_6, false, (a0_2.toList == a1_4.toList))) else (some (a0_0, a0_1, a0_2, a1_3, a1_4, a0_5, a0_6, false, false)))) else (some (0, 0, (⟨#[]⟩ : ByteArray), 0, (⟨#[]⟩ : ByteArray), 0, (⟨#[]⟩ : ByteArray), false, false))) = some (r1, r2, r3, r4, r5, r6, r7, r8, r9) := by rw [if_neg (show ¬ (false = true) by decide)] at H; exact H
              clear H
              have H := H1
              clear H1
              by_cases c49 : a0_0 = 4
              · rw [if_pos c49] at H
                have c49b0 : (a0_0 == 4) = true := beq_iff_eq.mpr c49
                have c49b1 : (a0_0 != 4) = false := bne_eq_false_iff_eq.mpr c49
                clear c49
                by_cases c50 : a0_3 = a1_1
                · rw [if_pos c50] at H
                  have c50b0 : (a0_3 == a1_1) = true := beq_iff_eq.mpr c50
                  have c50b1 : (a0_3 != a1_1) = false := bne_eq_false_iff_eq.mpr c50
                  clear c50
                  by_cases c51 : a0_1 = a1_3
                  · rw [if_pos c51] at H
                    have c51b0 : (a0_1 == a1_3) = true := beq_iff_eq.mpr c51
                    have c51b1 : (a0_1 != a1_3) = false := bne_eq_false_iff_eq.mpr c51
                    clear c51
                    simp only [Option.some.injEq, Prod.mk.injEq] at H
                    obtain ⟨rfl, rfl, rfl, rfl, rfl, rfl, rfl, rfl, rfl⟩ := H
                    have hnb52 := NB728_729.out
                    have hnc52 := NB729_728.out
                    have hnb53 := NB728_730.out
                    have hnc53 := NB730_728.out
                    have hcz54_0 : wc.cell? ⟨gb728, 0, none⟩ = some (.int .i64 a0_0) := (blk_cell BK728.out 0).trans rfl
                    have hcz54_1 : wc.cell? ⟨gb728, 1, none⟩ = some (.int .i64 a0_1) := (blk_cell BK728.out 1).trans rfl
                    have hcz54_2 : wc.cell? ⟨gb728, 2, none⟩ = some (.string a0_2) := (blk_cell BK728.out 2).trans rfl
                    have hcz54_3 : wc.cell? ⟨gb728, 3, none⟩ = some (.int .i64 a0_3) := (blk_cell BK728.out 3).trans rfl
                    have hcz54_4 : wc.cell? ⟨gb728, 4, none⟩ = some (.string a0_4) := (blk_cell BK728.out 4).trans rfl
                    have hcz54_5 : wc.cell? ⟨gb728, 5, none⟩ = some (.int .i64 a0_5) := (blk_cell BK728.out 5).trans rfl
                    have hcz54_6 : wc.cell? ⟨gb728, 6, none⟩ = some (.string a0_6) := (blk_cell BK728.out 6).trans rfl
                    have hfz54_0 := blk_frozen BK728.out 0
                    have hfz54_1 := blk_frozen BK728.out 1
                    have hfz54_2 := blk_frozen BK728.out 2
                    have hfz54_3 := blk_frozen BK728.out 3
                    have hfz54_4 := blk_frozen BK728.out 4
                    have hfz54_5 := blk_frozen BK728.out 5
                    have hfz54_6 := blk_frozen BK728.out 6
                    have hnb55 := NB729_730.out
                    have hnc55 := NB730_729.out
                    have hcz56_0 : wc.cell? ⟨gb729, 0, none⟩ = some (.int .i64 a1_0) := (blk_cell BK729.out 0).trans rfl
                    have hcz56_1 : wc.cell? ⟨gb729, 1, none⟩ = some (.int .i64 a1_1) := (blk_cell BK729.out 1).trans rfl
                    have hcz56_2 : wc.cell? ⟨gb729, 2, none⟩ = some (.string a1_2) := (blk_cell BK729.out 2).trans rfl
                    have hcz56_3 : wc.cell? ⟨gb729, 3, none⟩ = some (.int .i64 a1_3) := (blk_cell BK729.out 3).trans rfl
                    have hcz56_4 : wc.cell? ⟨gb729, 4, none⟩ = some (.string a1_4) := (blk_cell BK729.out 4).trans rfl
                    have hcz56_5 : wc.cell? ⟨gb729, 5, none⟩ = some (.int .i64 a1_5) := (blk_cell BK729.out 5).trans rfl
                    have hcz56_6 : wc.cell? ⟨gb729, 6, none⟩ = some (.string a1_6) := (blk_cell BK729.out 6).trans rfl
                    have hfz56_0 := blk_frozen BK729.out 0
                    have hfz56_1 := blk_frozen BK729.out 1
                    have hfz56_2 := blk_frozen BK729.out 2
                    have hfz56_3 := blk_frozen BK729.out 3
                    have hfz56_4 := blk_frozen BK729.out 4
                    have hfz56_5 := blk_frozen BK729.out 5
                    have hfz56_6 := blk_frozen BK729.out 6
                    try go_wp2
                    have n0_ := Aside0.mk (blk_drew BK728.out)
                    have n1_ := Aside0.mk (blk_drew BK729.out)
                    have n2_ := Aside0.mk (blk_drew BK730.out)
                    have n3_ := Aside0.mk (below_drew1 HB.out)
                    clear BK728 BK729 BK730 HB; have BK728 := n0_; have BK729 := n1_; have BK730 := n2_; have HB := n3_; clear n0_ n1_ n2_ n3_
                    refine start_ (n := 8) (S := fun w' => w'.cell? ⟨gb729, 0, none⟩ = some (.int .i64 a1_0) ∧ w'.cell? ⟨gb729, 1, none⟩ = some (.int .i64 a1_1) ∧ w'.cell? ⟨gb729, 2, none⟩ = some (.string a1_2) ∧ w'.cell? ⟨gb729, 3, none⟩ = some (.int .i64 a1_3) ∧ w'.cell? ⟨gb729, 4, none⟩ = some (.string a1_4) ∧ w'.cell? ⟨gb729, 5, none⟩ = some (.int .i64 a1_5) ∧ w'.cell? ⟨gb729, 6, none⟩ = some (.string a1_6)) (ds := []) #[false, false, false, false, false, false, false, false] (by kernel_rfl) rfl rfl ⟨(blk_cell BK729.out 0).trans rfl, (blk_cell BK729.out 1).trans rfl, (blk_cell BK729.out 2).trans rfl, (blk_cell BK729.out 3).trans rfl, (blk_cell BK729.out 4).trans rfl, (blk_cell BK729.out 5).trans rfl, (blk_cell BK729.out 6).trans rfl⟩ (fun hHeld => ?_); refine with_tabW impl_combined.tab11 impl_combined.bits11 (fun HT_ HW_ => ?_)
                    generalize wc.drew = w57 at BK728 BK729 BK730 HB hHeld ⊢
                    refine pure_ (i := 0) (N := some 59) (v := ?_) (a' := ?_) #[true, false, false, false, false, false, false, false] rfl rfl (any_of HT_.out (by kernel_rfl)) (fun _ _ _ h => h) (Or.inl ⟨by rfl, ?_⟩) ?_ ?_
                    rotate_left
                    · intro w'
                      go_simp
                      with_reducible rfl
                    rotate_left
                    · simp only [Act.put, List.setIfInBounds_toArray, List.set_cons_zero, List.set_cons_succ, i64_w, i32_w]
                      rfl
                    refine pure_ (i := 2) (N := some 61) (v := ?_) (a' := ?_) #[true, false, true, false, false, false, false, false] rfl rfl (any_of HT_.out (by kernel_rfl)) (fun _ _ _ h => h) (Or.inl ⟨by rfl, ?_⟩) ?_ ?_
                    rotate_left
                    · intro w'
                      go_simp
                      with_reducible rfl
                    rotate_left
                    · simp only [Act.put, List.setIfInBounds_toArray, List.set_cons_zero, List.set_cons_succ, i64_w, i32_w]
                      rfl
                    refine take_ (i := 1) (N := some 60) (v := ?_) (a' := ?_) #[true, true, true, false, false, false, false, false] rfl rfl (take_ofW HT_.out HW_.out (by kernel_rfl)) (fun _ _ _ h => h) (Or.inl ⟨by rfl, ?_⟩) hHeld ?_ ?_
                    rotate_left
                    · rintro w' ⟨s0, s1, s2, s3, s4, s5, s6⟩
                      go_simp
                      with_reducible rfl
                    rotate_left
                    · simp only [Act.put, List.setIfInBounds_toArray, List.set_cons_zero, List.set_cons_succ, i64_w, i32_w]
                      rfl
                    refine pure_ (i := 4) (N := some 63) (v := ?_) (a' := ?_) #[true, true, true, false, true, false, false, false] rfl rfl (any_of HT_.out (by kernel_rfl)) (fun _ _ _ h => h) (Or.inl ⟨by rfl, ?_⟩) ?_ ?_
                    rotate_left
                    · intro w'
                      go_simp
                      with_reducible rfl
                    rotate_left
                    · simp only [Act.put, List.setIfInBounds_toArray, List.set_cons_zero, List.set_cons_succ, i64_w, i32_w]
                      rfl
                    refine take_ (i := 3) (N := some 62) (v := ?_) (a' := ?_) #[true, true, true, true, true, false, false, false] rfl rfl (take_ofW HT_.out HW_.out (by kernel_rfl)) (fun _ _ _ h => h) (Or.inl ⟨by rfl, ?_⟩) hHeld ?_ ?_
                    rotate_left
                    · rintro w' ⟨s0, s1, s2, s3, s4, s5, s6⟩
                      go_simp
                      with_reducible rfl
                    rotate_left
                    · simp only [Act.put, List.setIfInBounds_toArray, List.set_cons_zero, List.set_cons_succ, i64_w, i32_w]
                      rfl
                    refine one_ (i := 5) (N := none) #[true, true, true, true, true, true, false, false] rfl rfl (one_of HT_.out (by kernel_rfl)) (by decide) (fun K hK => ?_)
                    have hs58 : w57.cell? ⟨gb728, 3, none⟩ = some (.int .i64 a0_3) := (blk_cell BK728.out 3).trans rfl
                    have hfs58 := blk_frozen BK728.out 3
                    have hns58_1 := NB729_728.out
                    have hns58_2 := NB730_728.out
                    have hms58_1 := NB728_729.out
                    have hms58_2 := NB728_730.out
                    refine skip_ (w1 := ?_) (by rfl) rfl ?_ ?_
                    rotate_left
                    · go_simp
                      rfl
                    refine hK.out _ _ ⟨((cell_far (p := ⟨gb728, _, none⟩) NB729_728.out _).trans (hHeld.1)), ((cell_far (p := ⟨gb728, _, none⟩) NB729_728.out _).trans (hHeld.2.1)), ((cell_far (p := ⟨gb728, _, none⟩) NB729_728.out _).trans (hHeld.2.2.1)), ((cell_far (p := ⟨gb728, _, none⟩) NB729_728.out _).trans (hHeld.2.2.2.1)), ((cell_far (p := ⟨gb728, _, none⟩) NB729_728.out _).trans (hHeld.2.2.2.2.1)), ((cell_far (p := ⟨gb728, _, none⟩) NB729_728.out _).trans (hHeld.2.2.2.2.2.1)), ((cell_far (p := ⟨gb728, _, none⟩) NB729_728.out _).trans (hHeld.2.2.2.2.2.2))⟩ (fun hHeld => ?_)
                    clear hK K
                    refine pure_ (i := 6) (N := some 64) (v := ?_) (a' := ?_) #[true, true, true, true, true, true, true, false] rfl rfl (any_of HT_.out (by kernel_rfl)) (fun _ _ _ h => h) (Or.inl ⟨by rfl, ?_⟩) ?_ ?_
                    rotate_left
                    · intro w'
                      go_simp
                      with_reducible rfl
                    rotate_left
                    · simp only [Act.put, List.setIfInBounds_toArray, List.set_cons_zero, List.set_cons_succ, i64_w, i32_w]
                      rfl
                    refine one_ (i := 7) (N := none) #[true, true, true, true, true, true, true, true] rfl rfl (one_of HT_.out (by kernel_rfl)) (by decide) (fun K hK => ?_)
                    have hs59 : w57.cell? ⟨gb728, 4, none⟩ = some (.string a0_4) := (blk_cell BK728.out 4).trans rfl
                    have hfs59 := blk_frozen BK728.out 4
                    have hns59_1 := NB729_728.out
                    have hns59_2 := NB730_728.out
                    have hms59_1 := NB728_729.out
                    have hms59_2 := NB728_730.out
                    refine skip_ (w1 := ?_) (by rfl) rfl ?_ ?_
                    rotate_left
                    · go_simp
                      rfl
                    refine hK.out _ _ ⟨((cell_far (p := ⟨gb728, _, none⟩) NB729_728.out _).trans (hHeld.1)), ((cell_far (p := ⟨gb728, _, none⟩) NB729_728.out _).trans (hHeld.2.1)), ((cell_far (p := ⟨gb728, _, none⟩) NB729_728.out _).trans (hHeld.2.2.1)), ((cell_far (p := ⟨gb728, _, none⟩) NB729_728.out _).trans (hHeld.2.2.2.1)), ((cell_far (p := ⟨gb728, _, none⟩) NB729_728.out _).trans (hHeld.2.2.2.2.1)), ((cell_far (p := ⟨gb728, _, none⟩) NB729_728.out _).trans (hHeld.2.2.2.2.2.1)), ((cell_far (p := ⟨gb728, _, none⟩) NB729_728.out _).trans (hHeld.2.2.2.2.2.2))⟩ (fun hHeld => ?_)
                    clear hK K
                    refine done_ (done_of HT_.out (by kernel_rfl)) ?_
                    try go_wp2
                    have n0_ : Aside0 (((w57.setCell ⟨gb728, 3, none⟩ (.int .i64 a1_3)).setCell ⟨gb728, 4, none⟩ (.string a1_4)).heap[gb728]? = some (.cells #[.int .i64 a0_0, .int .i64 a0_1, .string a0_2, .int .i64 a1_3, .string a1_4, .int .i64 a0_5, .string a0_6] 73 (0, 0))) := ⟨by (with_reducible repeat (first | refine blk_drewN ?_ _ | refine blk_drew ?_ | refine blk_alloc ?_ _)); refine blk_put (cs := #[.int .i64 a0_0, .int .i64 a0_1, .string a0_2, .int .i64 a1_3, .string a0_4, .int .i64 a0_5, .string a0_6]) ?_ 4 _ rfl; (with_reducible repeat (first | refine blk_drewN ?_ _ | refine blk_drew ?_ | refine blk_alloc ?_ _)); refine blk_put (cs := #[.int .i64 a0_0, .int .i64 a0_1, .string a0_2, .int .i64 a0_3, .string a0_4, .int .i64 a0_5, .string a0_6]) ?_ 3 _ rfl; (with_reducible repeat (first | refine blk_drewN ?_ _ | refine blk_drew ?_ | refine blk_alloc ?_ _)); exact BK728.out⟩
                    have n1_ : Aside0 (((w57.setCell ⟨gb728, 3, none⟩ (.int .i64 a1_3)).setCell ⟨gb728, 4, none⟩ (.string a1_4)).heap[gb729]? = some (.cells #[.int .i64 a1_0, .int .i64 a1_1, .string a1_2, .int .i64 a1_3, .string a1_4, .int .i64 a1_5, .string a1_6] 73 (0, 0))) := ⟨by (with_reducible repeat (first | refine blk_drewN ?_ _ | refine blk_drew ?_ | refine blk_alloc ?_ _)); refine blk_far ?_ NB729_728.out _; (with_reducible repeat (first | refine blk_drewN ?_ _ | refine blk_drew ?_ | refine blk_alloc ?_ _)); refine blk_far ?_ NB729_728.out _; (with_reducible repeat (first | refine blk_drewN ?_ _ | refine blk_drew ?_ | refine blk_alloc ?_ _)); exact BK729.out⟩
                    have n2_ : Aside0 (((w57.setCell ⟨gb728, 3, none⟩ (.int .i64 a1_3)).setCell ⟨gb728, 4, none⟩ (.string a1_4)).heap[gb730]? = some (.cells #[.int .i64 0, .int .i64 0, .string (⟨#[]⟩ : ByteArray), .int .i64 0, .string (⟨#[]⟩ : ByteArray), .int .i64 0, .string (⟨#[]⟩ : ByteArray)] 73 (0, 0))) := ⟨by (with_reducible repeat (first | refine blk_drewN ?_ _ | refine blk_drew ?_ | refine blk_alloc ?_ _)); refine blk_far ?_ NB730_728.out _; (with_reducible repeat (first | refine blk_drewN ?_ _ | refine blk_drew ?_ | refine blk_alloc ?_ _)); refine blk_far ?_ NB730_728.out _; (with_reducible repeat (first | refine blk_drewN ?_ _ | refine blk_drew ?_ | refine blk_alloc ?_ _)); exact BK730.out⟩
                    have n3_ : Aside0 (Below w.heap.size w ((w57.setCell ⟨gb728, 3, none⟩ (.int .i64 a1_3)).setCell ⟨gb728, 4, none⟩ (.string a1_4))) := ⟨by repeat (first | (with_reducible first | exact HB.out | apply below_alloc | apply pw_below_drewN | apply below_drew1 | refine below_set ?_ GE728.out | refine below_set ?_ GE729.out | refine below_set ?_ GE730.out) | exact HB.out)⟩
                    (try clear BK728); (try clear BK729); (try clear BK730); (try clear HB)
                    generalize ((w57.setCell ⟨gb728, 3, none⟩ (.int .i64 a1_3)).setCell ⟨gb728, 4, none⟩ (.string a1_4)) = w60 at n0_ n1_ n2_ n3_ ⊢
                    have BK728 := n0_; have BK729 := n1_; have BK730 := n2_; have HB := n3_; clear n0_ n1_ n2_ n3_
                    have n0_ := Aside0.mk (blk_drew BK728.out)
                    have n1_ := Aside0.mk (blk_drew BK729.out)
                    have n2_ := Aside0.mk (blk_drew BK730.out)
                    have n3_ := Aside0.mk (below_drew1 HB.out)
                    clear BK728 BK729 BK730 HB; have BK728 := n0_; have BK729 := n1_; have BK730 := n2_; have HB := n3_; clear n0_ n1_ n2_ n3_
                    refine start_ (n := 17) (S := fun w' => w'.cell? ⟨gb728, 0, none⟩ = some (.int .i64 a0_0) ∧ w'.cell? ⟨gb728, 1, none⟩ = some (.int .i64 a0_1) ∧ w'.cell? ⟨gb728, 2, none⟩ = some (.string a0_2) ∧ w'.cell? ⟨gb728, 3, none⟩ = some (.int .i64 a1_3) ∧ w'.cell? ⟨gb728, 4, none⟩ = some (.string a1_4) ∧ w'.cell? ⟨gb728, 5, none⟩ = some (.int .i64 a0_5) ∧ w'.cell? ⟨gb728, 6, none⟩ = some (.string a0_6)) (ds := []) #[false, false, false, false, false, false, false, false, false, false, false, false, false, false, false, false, false] (by kernel_rfl) rfl rfl ⟨(blk_cell BK728.out 0).trans rfl, (blk_cell BK728.out 1).trans rfl, (blk_cell BK728.out 2).trans rfl, (blk_cell BK728.out 3).trans rfl, (blk_cell BK728.out 4).trans rfl, (blk_cell BK728.out 5).trans rfl, (blk_cell BK728.out 6).trans rfl⟩ (fun hHeld => ?_); refine with_tabW impl_combined.tab12 impl_combined.bits12 (fun HT_ HW_ => ?_)
                    generalize w60.drew = w61 at BK728 BK729 BK730 HB hHeld ⊢
                    refine pure_ (i := 1) (N := some 66) (v := ?_) (a' := ?_) #[false, true, false, false, false, false, false, false, false, false, false, false, false, false, false, false, false] rfl rfl (any_of HT_.out (by kernel_rfl)) (fun _ _ _ h => h) (Or.inl ⟨by rfl, ?_⟩) ?_ ?_
                    rotate_left
                    · intro w'
                      go_simp
                      with_reducible rfl
                    rotate_left
                    · simp only [Act.put, List.setIfInBounds_toArray, List.set_cons_zero, List.set_cons_succ, i64_w, i32_w]
                      rfl
                    refine pure_ (i := 2) (N := some 67) (v := ?_) (a' := ?_) #[false, true, true, false, false, false, false, false, false, false, false, false, false, false, false, false, false] rfl rfl (any_of HT_.out (by kernel_rfl)) (fun _ _ _ h => h) (Or.inl ⟨by rfl, ?_⟩) ?_ ?_
                    rotate_left
                    · intro w'
                      go_simp
                      with_reducible rfl
                    rotate_left
                    · simp only [Act.put, List.setIfInBounds_toArray, List.set_cons_zero, List.set_cons_succ, i64_w, i32_w]
                      rfl
                    refine pure_ (i := 4) (N := some 69) (v := ?_) (a' := ?_) #[false, true, true, false, true, false, false, false, false, false, false, false, false, false, false, false, false] rfl rfl (any_of HT_.out (by kernel_rfl)) (fun _ _ _ h => h) (Or.inl ⟨by rfl, ?_⟩) ?_ ?_
                    rotate_left
                    · intro w'
                      go_simp
                      with_reducible rfl
                    rotate_left
                    · simp only [Act.put, List.setIfInBounds_toArray, List.set_cons_zero, List.set_cons_succ, i64_w, i32_w]
                      rfl
                    refine take_ (i := 0) (N := some 65) (v := ?_) (a' := ?_) #[true, true, true, false, true, false, false, false, false, false, false, false, false, false, false, false, false] rfl rfl (take_ofW HT_.out HW_.out (by kernel_rfl)) (fun _ _ _ h => h) (Or.inl ⟨by rfl, ?_⟩) hHeld ?_ ?_
                    rotate_left
                    · rintro w' ⟨s0, s1, s2, s3, s4, s5, s6⟩
                      go_simp
                      with_reducible rfl
                    rotate_left
                    · simp only [Act.put, List.setIfInBounds_toArray, List.set_cons_zero, List.set_cons_succ, i64_w, i32_w]
                      rfl
                    refine take_ (i := 3) (N := some 68) (v := ?_) (a' := ?_) #[true, true, true, true, true, false, false, false, false, false, false, false, false, false, false, false, false] rfl rfl (take_ofW HT_.out HW_.out (by kernel_rfl)) (fun _ _ _ h => h) (Or.inl ⟨by rfl, ?_⟩) hHeld ?_ ?_
                    rotate_left
                    · rintro w' ⟨s0, s1, s2, s3, s4, s5, s6⟩
                      go_simp
                      with_reducible rfl
                    rotate_left
                    · simp only [Act.put, List.setIfInBounds_toArray, List.set_cons_zero, List.set_cons_succ, i64_w, i32_w]
                      rfl
                    refine take_ (i := 5) (N := some 70) (v := ?_) (a' := ?_) #[true, true, true, true, true, true, false, false, false, false, false, false, false, false, false, false, false] rfl rfl (take_ofW HT_.out HW_.out (by kernel_rfl)) (fun _ _ _ h => h) (Or.inl ⟨by rfl, ?_⟩) hHeld ?_ ?_
                    rotate_left
                    · rintro w' ⟨s0, s1, s2, s3, s4, s5, s6⟩
                      go_simp
                      with_reducible rfl
                    rotate_left
                    · simp only [Act.put, List.setIfInBounds_toArray, List.set_cons_zero, List.set_cons_succ, i64_w, i32_w]
                      rfl
                    refine pure_ (i := 6) (N := some 71) (v := ?_) (a' := ?_) #[true, true, true, true, true, true, true, false, false, false, false, false, false, false, false, false, false] rfl rfl (any_of HT_.out (by kernel_rfl)) (fun _ _ _ h => h) (Or.inl ⟨by rfl, ?_⟩) ?_ ?_
                    rotate_left
                    · intro w'
                      go_simp
                      with_reducible rfl
                    rotate_left
                    · simp only [Act.put, List.setIfInBounds_toArray, List.set_cons_zero, List.set_cons_succ, i64_w, i32_w]
                      rfl
                    refine pure_ (i := 7) (N := some 72) (v := ?_) (a' := ?_) #[true, true, true, true, true, true, true, true, false, false, false, false, false, false, false, false, false] rfl rfl (any_of HT_.out (by kernel_rfl)) (fun _ _ _ h => h) (Or.inl ⟨by rfl, ?_⟩) ?_ ?_
                    rotate_left
                    · intro w'
                      go_simp
                      with_reducible rfl
                    rotate_left
                    · simp only [Act.put, List.setIfInBounds_toArray, List.set_cons_zero, List.set_cons_succ, i64_w, i32_w]
                      rfl
                    refine pure_ (i := 8) (N := some 73) (v := ?_) (a' := ?_) #[true, true, true, true, true, true, true, true, true, false, false, false, false, false, false, false, false] rfl rfl (any_of HT_.out (by kernel_rfl)) (fun _ _ _ h => h) (Or.inl ⟨by rfl, ?_⟩) ?_ ?_
                    rotate_left
                    · intro w'
                      go_simp
                      with_reducible rfl
                    rotate_left
                    · simp only [Act.put, List.setIfInBounds_toArray, List.set_cons_zero, List.set_cons_succ, i64_w, i32_w]
                      rfl
                    refine pure_ (i := 10) (N := some 75) (v := ?_) (a' := ?_) #[true, true, true, true, true, true, true, true, true, false, true, false, false, false, false, false, false] rfl rfl (any_of HT_.out (by kernel_rfl)) (fun _ _ _ h => h) (Or.inl ⟨by rfl, ?_⟩) ?_ ?_
                    rotate_left
                    · intro w'
                      go_simp
                      with_reducible rfl
                    rotate_left
                    · simp only [Act.put, List.setIfInBounds_toArray, List.set_cons_zero, List.set_cons_succ, i64_w, i32_w]
                      rfl
                    refine take_ (i := 9) (N := some 74) (v := ?_) (a' := ?_) #[true, true, true, true, true, true, true, true, true, true, true, false, false, false, false, false, false] rfl rfl (take_ofW HT_.out HW_.out (by kernel_rfl)) (fun _ _ _ h => h) (Or.inl ⟨by rfl, ?_⟩) hHeld ?_ ?_
                    rotate_left
                    · rintro w' ⟨s0, s1, s2, s3, s4, s5, s6⟩
                      go_simp
                      with_reducible rfl
                    rotate_left
                    · simp only [Act.put, List.setIfInBounds_toArray, List.set_cons_zero, List.set_cons_succ, i64_w, i32_w]
                      rfl
                    refine take_ (i := 11) (N := some 76) (v := ?_) (a' := ?_) #[true, true, true, true, true, true, true, true, true, true, true, true, false, false, false, false, false] rfl rfl (take_ofW HT_.out HW_.out (by kernel_rfl)) (fun _ _ _ h => h) (Or.inl ⟨by rfl, ?_⟩) hHeld ?_ ?_
                    rotate_left
                    · rintro w' ⟨s0, s1, s2, s3, s4, s5, s6⟩
                      go_simp
                      with_reducible rfl
                    rotate_left
                    · simp only [Act.put, List.setIfInBounds_toArray, List.set_cons_zero, List.set_cons_succ, i64_w, i32_w]
                      rfl
                    refine pure_ (i := 12) (N := some 77) (v := ?_) (a' := ?_) #[true, true, true, true, true, true, true, true, true, true, true, true, true, false, false, false, false] rfl rfl (any_of HT_.out (by kernel_rfl)) (fun _ _ _ h => h) (Or.inl ⟨by rfl, ?_⟩) ?_ ?_
                    rotate_left
                    · intro w'
                      go_simp
                      with_reducible rfl
                    rotate_left
                    · simp only [Act.put, List.setIfInBounds_toArray, List.set_cons_zero, List.set_cons_succ, i64_w, i32_w]
                      rfl
                    refine pure_ (i := 13) (N := some 78) (v := ?_) (a' := ?_) #[true, true, true, true, true, true, true, true, true, true, true, true, true, true, false, false, false] rfl rfl (any_of HT_.out (by kernel_rfl)) (fun _ _ _ h => h) (Or.inl ⟨by rfl, ?_⟩) ?_ ?_
                    rotate_left
                    · intro w'
                      go_simp
                      with_reducible rfl
                    rotate_left
                    · simp only [Act.put, List.setIfInBounds_toArray, List.set_cons_zero, List.set_cons_succ, i64_w, i32_w]
                      rfl
                    refine one_ (i := 14) (N := none) #[true, true, true, true, true, true, true, true, true, true, true, true, true, true, true, false, false] rfl rfl (one_of HT_.out (by kernel_rfl)) (by decide) (fun K hK => ?_)
                    have hs62 : w61.cell? ⟨gb730, 0, none⟩ = some (.int .i64 0) := (blk_cell BK730.out 0).trans rfl
                    have hfs62 := blk_frozen BK730.out 0
                    have hns62_0 := NB728_730.out
                    have hns62_1 := NB729_730.out
                    have hms62_0 := NB730_728.out
                    have hms62_1 := NB730_729.out
                    have hs63 : w61.cell? ⟨gb730, 1, none⟩ = some (.int .i64 0) := (blk_cell BK730.out 1).trans rfl
                    have hfs63 := blk_frozen BK730.out 1
                    have hns63_0 := NB728_730.out
                    have hns63_1 := NB729_730.out
                    have hms63_0 := NB730_728.out
                    have hms63_1 := NB730_729.out
                    have hs64 : w61.cell? ⟨gb730, 2, none⟩ = some (.string (⟨#[]⟩ : ByteArray)) := (blk_cell BK730.out 2).trans rfl
                    have hfs64 := blk_frozen BK730.out 2
                    have hns64_0 := NB728_730.out
                    have hns64_1 := NB729_730.out
                    have hms64_0 := NB730_728.out
                    have hms64_1 := NB730_729.out
                    have hs65 : w61.cell? ⟨gb730, 3, none⟩ = some (.int .i64 0) := (blk_cell BK730.out 3).trans rfl
                    have hfs65 := blk_frozen BK730.out 3
                    have hns65_0 := NB728_730.out
                    have hns65_1 := NB729_730.out
                    have hms65_0 := NB730_728.out
                    have hms65_1 := NB730_729.out
                    have hs66 : w61.cell? ⟨gb730, 4, none⟩ = some (.string (⟨#[]⟩ : ByteArray)) := (blk_cell BK730.out 4).trans rfl
                    have hfs66 := blk_frozen BK730.out 4
                    have hns66_0 := NB728_730.out
                    have hns66_1 := NB729_730.out
                    have hms66_0 := NB730_728.out
                    have hms66_1 := NB730_729.out
                    have hs67 : w61.cell? ⟨gb730, 5, none⟩ = some (.int .i64 0) := (blk_cell BK730.out 5).trans rfl
                    have hfs67 := blk_frozen BK730.out 5
                    have hns67_0 := NB728_730.out
                    have hns67_1 := NB729_730.out
                    have hms67_0 := NB730_728.out
                    have hms67_1 := NB730_729.out
                    have hs68 : w61.cell? ⟨gb730, 6, none⟩ = some (.string (⟨#[]⟩ : ByteArray)) := (blk_cell BK730.out 6).trans rfl
                    have hfs68 := blk_frozen BK730.out 6
                    have hns68_0 := NB728_730.out
                    have hns68_1 := NB729_730.out
                    have hms68_0 := NB730_728.out
                    have hms68_1 := NB730_729.out
                    refine skip_ (w1 := ?_) (by rfl) rfl ?_ ?_
                    rotate_left
                    · go_simp
                      rfl
                    refine hK.out _ _ ⟨((cell_far (p := ⟨gb730, _, none⟩) NB728_730.out _).trans (((cell_far (p := ⟨gb730, _, none⟩) NB728_730.out _).trans (((cell_far (p := ⟨gb730, _, none⟩) NB728_730.out _).trans (((cell_far (p := ⟨gb730, _, none⟩) NB728_730.out _).trans (((cell_far (p := ⟨gb730, _, none⟩) NB728_730.out _).trans (((cell_far (p := ⟨gb730, _, none⟩) NB728_730.out _).trans (((cell_far (p := ⟨gb730, _, none⟩) NB728_730.out _).trans (hHeld.1)))))))))))))), ((cell_far (p := ⟨gb730, _, none⟩) NB728_730.out _).trans (((cell_far (p := ⟨gb730, _, none⟩) NB728_730.out _).trans (((cell_far (p := ⟨gb730, _, none⟩) NB728_730.out _).trans (((cell_far (p := ⟨gb730, _, none⟩) NB728_730.out _).trans (((cell_far (p := ⟨gb730, _, none⟩) NB728_730.out _).trans (((cell_far (p := ⟨gb730, _, none⟩) NB728_730.out _).trans (((cell_far (p := ⟨gb730, _, none⟩) NB728_730.out _).trans (hHeld.2.1)))))))))))))), ((cell_far (p := ⟨gb730, _, none⟩) NB728_730.out _).trans (((cell_far (p := ⟨gb730, _, none⟩) NB728_730.out _).trans (((cell_far (p := ⟨gb730, _, none⟩) NB728_730.out _).trans (((cell_far (p := ⟨gb730, _, none⟩) NB728_730.out _).trans (((cell_far (p := ⟨gb730, _, none⟩) NB728_730.out _).trans (((cell_far (p := ⟨gb730, _, none⟩) NB728_730.out _).trans (((cell_far (p := ⟨gb730, _, none⟩) NB728_730.out _).trans (hHeld.2.2.1)))))))))))))), ((cell_far (p := ⟨gb730, _, none⟩) NB728_730.out _).trans (((cell_far (p := ⟨gb730, _, none⟩) NB728_730.out _).trans (((cell_far (p := ⟨gb730, _, none⟩) NB728_730.out _).trans (((cell_far (p := ⟨gb730, _, none⟩) NB728_730.out _).trans (((cell_far (p := ⟨gb730, _, none⟩) NB728_730.out _).trans (((cell_far (p := ⟨gb730, _, none⟩) NB728_730.out _).trans (((cell_far (p := ⟨gb730, _, none⟩) NB728_730.out _).trans (hHeld.2.2.2.1)))))))))))))), ((cell_far (p := ⟨gb730, _, none⟩) NB728_730.out _).trans (((cell_far (p := ⟨gb730, _, none⟩) NB728_730.out _).trans (((cell_far (p := ⟨gb730, _, none⟩) NB728_730.out _).trans (((cell_far (p := ⟨gb730, _, none⟩) NB728_730.out _).trans (((cell_far (p := ⟨gb730, _, none⟩) NB728_730.out _).trans (((cell_far (p := ⟨gb730, _, none⟩) NB728_730.out _).trans (((cell_far (p := ⟨gb730, _, none⟩) NB728_730.out _).trans (hHeld.2.2.2.2.1)))))))))))))), ((cell_far (p := ⟨gb730, _, none⟩) NB728_730.out _).trans (((cell_far (p := ⟨gb730, _, none⟩) NB728_730.out _).trans (((cell_far (p := ⟨gb730, _, none⟩) NB728_730.out _).trans (((cell_far (p := ⟨gb730, _, none⟩) NB728_730.out _).trans (((cell_far (p := ⟨gb730, _, none⟩) NB728_730.out _).trans (((cell_far (p := ⟨gb730, _, none⟩) NB728_730.out _).trans (((cell_far (p := ⟨gb730, _, none⟩) NB728_730.out _).trans (hHeld.2.2.2.2.2.1)))))))))))))), ((cell_far (p := ⟨gb730, _, none⟩) NB728_730.out _).trans (((cell_far (p := ⟨gb730, _, none⟩) NB728_730.out _).trans (((cell_far (p := ⟨gb730, _, none⟩) NB728_730.out _).trans (((cell_far (p := ⟨gb730, _, none⟩) NB728_730.out _).trans (((cell_far (p := ⟨gb730, _, none⟩) NB728_730.out _).trans (((cell_far (p := ⟨gb730, _, none⟩) NB728_730.out _).trans (((cell_far (p := ⟨gb730, _, none⟩) NB728_730.out _).trans (hHeld.2.2.2.2.2.2))))))))))))))⟩ (fun hHeld => ?_)
                    clear hK K
                    refine pure_ (i := 15) (N := some 5) (v := ?_) (a' := ?_) #[true, true, true, true, true, true, true, true, true, true, true, true, true, true, true, true, false] rfl rfl (any_of HT_.out (by kernel_rfl)) (fun _ _ _ h => h) (Or.inl ⟨by rfl, ?_⟩) ?_ ?_
                    rotate_left
                    · intro w'
                      go_simp
                      with_reducible rfl
                    rotate_left
                    · simp only [Act.put, List.setIfInBounds_toArray, List.set_cons_zero, List.set_cons_succ, i64_w, i32_w]
                      rfl
                    refine pure_ (i := 16) (N := some 6) (v := ?_) (a' := ?_) #[true, true, true, true, true, true, true, true, true, true, true, true, true, true, true, true, true] rfl rfl (any_of HT_.out (by kernel_rfl)) (fun _ _ _ h => h) (Or.inl ⟨by rfl, ?_⟩) ?_ ?_
                    rotate_left
                    · intro w'
                      go_simp
                      with_reducible rfl
                    rotate_left
                    · simp only [Act.put, List.setIfInBounds_toArray, List.set_cons_zero, List.set_cons_succ, i64_w, i32_w]
                      rfl
                    refine done_ (done_of HT_.out (by kernel_rfl)) ?_
                    try go_wp2
                    refine bodyPost_ret (results_ctt rfl _ _ gb730 73 #[.int .i64 a0_0, .int .i64 a0_1, .string a0_2, .int .i64 a1_3, .string a1_4, .int .i64 a0_5, .string a0_6] (0, 0) _ rfl (by (with_reducible repeat (first | refine blk_drewN ?_ _ | refine blk_drew ?_ | refine blk_alloc ?_ _)); refine blk_put (cs := #[.int .i64 a0_0, .int .i64 a0_1, .string a0_2, .int .i64 a1_3, .string a1_4, .int .i64 a0_5, .string (⟨#[]⟩ : ByteArray)]) ?_ 6 _ rfl; (with_reducible repeat (first | refine blk_drewN ?_ _ | refine blk_drew ?_ | refine blk_alloc ?_ _)); refine blk_put (cs := #[.int .i64 a0_0, .int .i64 a0_1, .string a0_2, .int .i64 a1_3, .string a1_4, .int .i64 0, .string (⟨#[]⟩ : ByteArray)]) ?_ 5 _ rfl; (with_reducible repeat (first | refine blk_drewN ?_ _ | refine blk_drew ?_ | refine blk_alloc ?_ _)); refine blk_put (cs := #[.int .i64 a0_0, .int .i64 a0_1, .string a0_2, .int .i64 a1_3, .string (⟨#[]⟩ : ByteArray), .int .i64 0, .string (⟨#[]⟩ : ByteArray)]) ?_ 4 _ rfl; (with_reducible repeat (first | refine blk_drewN ?_ _ | refine blk_drew ?_ | refine blk_alloc ?_ _)); refine blk_put (cs := #[.int .i64 a0_0, .int .i64 a0_1, .string a0_2, .int .i64 0, .string (⟨#[]⟩ : ByteArray), .int .i64 0, .string (⟨#[]⟩ : ByteArray)]) ?_ 3 _ rfl; (with_reducible repeat (first | refine blk_drewN ?_ _ | refine blk_drew ?_ | refine blk_alloc ?_ _)); refine blk_put (cs := #[.int .i64 a0_0, .int .i64 a0_1, .string (⟨#[]⟩ : ByteArray), .int .i64 0, .string (⟨#[]⟩ : ByteArray), .int .i64 0, .string (⟨#[]⟩ : ByteArray)]) ?_ 2 _ rfl; (with_reducible repeat (first | refine blk_drewN ?_ _ | refine blk_drew ?_ | refine blk_alloc ?_ _)); refine blk_put (cs := #[.int .i64 a0_0, .int .i64 0, .string (⟨#[]⟩ : ByteArray), .int .i64 0, .string (⟨#[]⟩ : ByteArray), .int .i64 0, .string (⟨#[]⟩ : ByteArray)]) ?_ 1 _ rfl; (with_reducible repeat (first | refine blk_drewN ?_ _ | refine blk_drew ?_ | refine blk_alloc ?_ _)); refine blk_put (cs := #[.int .i64 0, .int .i64 0, .string (⟨#[]⟩ : ByteArray), .int .i64 0, .string (⟨#[]⟩ : ByteArray), .int .i64 0, .string (⟨#[]⟩ : ByteArray)]) ?_ 0 _ rfl; (with_reducible repeat (first | refine blk_drewN ?_ _ | refine blk_drew ?_ | refine blk_alloc ?_ _)); exact BK730.out) Try.underlying73 rfl (by kernel_rfl)) rfl ?_
                    exact ⟨by first | rfl | (simp [errW_none, errW_some] <;> rfl) | (simp [*, errW_none, errW_some] <;> rfl), by repeat (first | (with_reducible first | exact HB.out | apply below_alloc | apply pw_below_drewN | apply below_drew1 | refine below_set ?_ GE728.out | refine below_set ?_ GE729.out | refine below_set ?_ GE730.out) | exact HB.out)⟩
                  · rw [if_neg c51] at H
                    have c51b0 : (a0_1 == a1_3) = false := beq_eq_false_iff_ne.mpr c51
                    have c51b1 : (a0_1 != a1_3) = true := bne_iff_ne.mpr c51
                    simp only [Option.some.injEq, Prod.mk.injEq] at H
                    obtain ⟨rfl, rfl, rfl, rfl, rfl, rfl, rfl, rfl, rfl⟩ := H
                    have hnb69 := NB728_729.out
                    have hnc69 := NB729_728.out
                    have hnb70 := NB728_730.out
                    have hnc70 := NB730_728.out
                    have hcz71_0 : wc.cell? ⟨gb728, 0, none⟩ = some (.int .i64 a0_0) := (blk_cell BK728.out 0).trans rfl
                    have hcz71_1 : wc.cell? ⟨gb728, 1, none⟩ = some (.int .i64 a0_1) := (blk_cell BK728.out 1).trans rfl
                    have hcz71_2 : wc.cell? ⟨gb728, 2, none⟩ = some (.string a0_2) := (blk_cell BK728.out 2).trans rfl
                    have hcz71_3 : wc.cell? ⟨gb728, 3, none⟩ = some (.int .i64 a0_3) := (blk_cell BK728.out 3).trans rfl
                    have hcz71_4 : wc.cell? ⟨gb728, 4, none⟩ = some (.string a0_4) := (blk_cell BK728.out 4).trans rfl
                    have hcz71_5 : wc.cell? ⟨gb728, 5, none⟩ = some (.int .i64 a0_5) := (blk_cell BK728.out 5).trans rfl
                    have hcz71_6 : wc.cell? ⟨gb728, 6, none⟩ = some (.string a0_6) := (blk_cell BK728.out 6).trans rfl
                    have hfz71_0 := blk_frozen BK728.out 0
                    have hfz71_1 := blk_frozen BK728.out 1
                    have hfz71_2 := blk_frozen BK728.out 2
                    have hfz71_3 := blk_frozen BK728.out 3
                    have hfz71_4 := blk_frozen BK728.out 4
                    have hfz71_5 := blk_frozen BK728.out 5
                    have hfz71_6 := blk_frozen BK728.out 6
                    have hnb72 := NB729_730.out
                    have hnc72 := NB730_729.out
                    have hcz73_0 : wc.cell? ⟨gb729, 0, none⟩ = some (.int .i64 a1_0) := (blk_cell BK729.out 0).trans rfl
                    have hcz73_1 : wc.cell? ⟨gb729, 1, none⟩ = some (.int .i64 a1_1) := (blk_cell BK729.out 1).trans rfl
                    have hcz73_2 : wc.cell? ⟨gb729, 2, none⟩ = some (.string a1_2) := (blk_cell BK729.out 2).trans rfl
                    have hcz73_3 : wc.cell? ⟨gb729, 3, none⟩ = some (.int .i64 a1_3) := (blk_cell BK729.out 3).trans rfl
                    have hcz73_4 : wc.cell? ⟨gb729, 4, none⟩ = some (.string a1_4) := (blk_cell BK729.out 4).trans rfl
                    have hcz73_5 : wc.cell? ⟨gb729, 5, none⟩ = some (.int .i64 a1_5) := (blk_cell BK729.out 5).trans rfl
                    have hcz73_6 : wc.cell? ⟨gb729, 6, none⟩ = some (.string a1_6) := (blk_cell BK729.out 6).trans rfl
                    have hfz73_0 := blk_frozen BK729.out 0
                    have hfz73_1 := blk_frozen BK729.out 1
                    have hfz73_2 := blk_frozen BK729.out 2
                    have hfz73_3 := blk_frozen BK729.out 3
                    have hfz73_4 := blk_frozen BK729.out 4
                    have hfz73_5 := blk_frozen BK729.out 5
                    have hfz73_6 := blk_frozen BK729.out 6
                    try go_wp2
                    have n0_ := Aside0.mk (blk_drew BK728.out)
                    have n1_ := Aside0.mk (blk_drew BK729.out)
                    have n2_ := Aside0.mk (blk_drew BK730.out)
                    have n3_ := Aside0.mk (below_drew1 HB.out)
                    clear BK728 BK729 BK730 HB; have BK728 := n0_; have BK729 := n1_; have BK730 := n2_; have HB := n3_; clear n0_ n1_ n2_ n3_
                    refine start_ (n := 8) (S := fun w' => w'.cell? ⟨gb729, 0, none⟩ = some (.int .i64 a1_0) ∧ w'.cell? ⟨gb729, 1, none⟩ = some (.int .i64 a1_1) ∧ w'.cell? ⟨gb729, 2, none⟩ = some (.string a1_2) ∧ w'.cell? ⟨gb729, 3, none⟩ = some (.int .i64 a1_3) ∧ w'.cell? ⟨gb729, 4, none⟩ = some (.string a1_4) ∧ w'.cell? ⟨gb729, 5, none⟩ = some (.int .i64 a1_5) ∧ w'.cell? ⟨gb729, 6, none⟩ = some (.string a1_6)) (ds := []) #[false, false, false, false, false, false, false, false] (by kernel_rfl) rfl rfl ⟨(blk_cell BK729.out 0).trans rfl, (blk_cell BK729.out 1).trans rfl, (blk_cell BK729.out 2).trans rfl, (blk_cell BK729.out 3).trans rfl, (blk_cell BK729.out 4).trans rfl, (blk_cell BK729.out 5).trans rfl, (blk_cell BK729.out 6).trans rfl⟩ (fun hHeld => ?_); refine with_tabW impl_combined.tab11 impl_combined.bits11 (fun HT_ HW_ => ?_)
                    generalize wc.drew = w74 at BK728 BK729 BK730 HB hHeld ⊢
                    refine pure_ (i := 0) (N := some 59) (v := ?_) (a' := ?_) #[true, false, false, false, false, false, false, false] rfl rfl (any_of HT_.out (by kernel_rfl)) (fun _ _ _ h => h) (Or.inl ⟨by rfl, ?_⟩) ?_ ?_
                    rotate_left
                    · intro w'
                      go_simp
                      with_reducible rfl
                    rotate_left
                    · simp only [Act.put, List.setIfInBounds_toArray, List.set_cons_zero, List.set_cons_succ, i64_w, i32_w]
                      rfl
                    refine pure_ (i := 2) (N := some 61) (v := ?_) (a' := ?_) #[true, false, true, false, false, false, false, false] rfl rfl (any_of HT_.out (by kernel_rfl)) (fun _ _ _ h => h) (Or.inl ⟨by rfl, ?_⟩) ?_ ?_
                    rotate_left
                    · intro w'
                      go_simp
                      with_reducible rfl
                    rotate_left
                    · simp only [Act.put, List.setIfInBounds_toArray, List.set_cons_zero, List.set_cons_succ, i64_w, i32_w]
                      rfl
                    refine take_ (i := 1) (N := some 60) (v := ?_) (a' := ?_) #[true, true, true, false, false, false, false, false] rfl rfl (take_ofW HT_.out HW_.out (by kernel_rfl)) (fun _ _ _ h => h) (Or.inl ⟨by rfl, ?_⟩) hHeld ?_ ?_
                    rotate_left
                    · rintro w' ⟨s0, s1, s2, s3, s4, s5, s6⟩
                      go_simp
                      with_reducible rfl
                    rotate_left
                    · simp only [Act.put, List.setIfInBounds_toArray, List.set_cons_zero, List.set_cons_succ, i64_w, i32_w]
                      rfl
                    refine pure_ (i := 4) (N := some 63) (v := ?_) (a' := ?_) #[true, true, true, false, true, false, false, false] rfl rfl (any_of HT_.out (by kernel_rfl)) (fun _ _ _ h => h) (Or.inl ⟨by rfl, ?_⟩) ?_ ?_
                    rotate_left
                    · intro w'
                      go_simp
                      with_reducible rfl
                    rotate_left
                    · simp only [Act.put, List.setIfInBounds_toArray, List.set_cons_zero, List.set_cons_succ, i64_w, i32_w]
                      rfl
                    refine take_ (i := 3) (N := some 62) (v := ?_) (a' := ?_) #[true, true, true, true, true, false, false, false] rfl rfl (take_ofW HT_.out HW_.out (by kernel_rfl)) (fun _ _ _ h => h) (Or.inl ⟨by rfl, ?_⟩) hHeld ?_ ?_
                    rotate_left
                    · rintro w' ⟨s0, s1, s2, s3, s4, s5, s6⟩
                      go_simp
                      with_reducible rfl
                    rotate_left
                    · simp only [Act.put, List.setIfInBounds_toArray, List.set_cons_zero, List.set_cons_succ, i64_w, i32_w]
                      rfl
                    refine one_ (i := 5) (N := none) #[true, true, true, true, true, true, false, false] rfl rfl (one_of HT_.out (by kernel_rfl)) (by decide) (fun K hK => ?_)
                    have hs75 : w74.cell? ⟨gb728, 3, none⟩ = some (.int .i64 a0_3) := (blk_cell BK728.out 3).trans rfl
                    have hfs75 := blk_frozen BK728.out 3
                    have hns75_1 := NB729_728.out
                    have hns75_2 := NB730_728.out
                    have hms75_1 := NB728_729.out
                    have hms75_2 := NB728_730.out
                    refine skip_ (w1 := ?_) (by rfl) rfl ?_ ?_
                    rotate_left
                    · go_simp
                      rfl
                    refine hK.out _ _ ⟨((cell_far (p := ⟨gb728, _, none⟩) NB729_728.out _).trans (hHeld.1)), ((cell_far (p := ⟨gb728, _, none⟩) NB729_728.out _).trans (hHeld.2.1)), ((cell_far (p := ⟨gb728, _, none⟩) NB729_728.out _).trans (hHeld.2.2.1)), ((cell_far (p := ⟨gb728, _, none⟩) NB729_728.out _).trans (hHeld.2.2.2.1)), ((cell_far (p := ⟨gb728, _, none⟩) NB729_728.out _).trans (hHeld.2.2.2.2.1)), ((cell_far (p := ⟨gb728, _, none⟩) NB729_728.out _).trans (hHeld.2.2.2.2.2.1)), ((cell_far (p := ⟨gb728, _, none⟩) NB729_728.out _).trans (hHeld.2.2.2.2.2.2))⟩ (fun hHeld => ?_)
                    clear hK K
                    refine pure_ (i := 6) (N := some 64) (v := ?_) (a' := ?_) #[true, true, true, true, true, true, true, false] rfl rfl (any_of HT_.out (by kernel_rfl)) (fun _ _ _ h => h) (Or.inl ⟨by rfl, ?_⟩) ?_ ?_
                    rotate_left
                    · intro w'
                      go_simp
                      with_reducible rfl
                    rotate_left
                    · simp only [Act.put, List.setIfInBounds_toArray, List.set_cons_zero, List.set_cons_succ, i64_w, i32_w]
                      rfl
                    refine one_ (i := 7) (N := none) #[true, true, true, true, true, true, true, true] rfl rfl (one_of HT_.out (by kernel_rfl)) (by decide) (fun K hK => ?_)
                    have hs76 : w74.cell? ⟨gb728, 4, none⟩ = some (.string a0_4) := (blk_cell BK728.out 4).trans rfl
                    have hfs76 := blk_frozen BK728.out 4
                    have hns76_1 := NB729_728.out
                    have hns76_2 := NB730_728.out
                    have hms76_1 := NB728_729.out
                    have hms76_2 := NB728_730.out
                    refine skip_ (w1 := ?_) (by rfl) rfl ?_ ?_
                    rotate_left
                    · go_simp
                      rfl
                    refine hK.out _ _ ⟨((cell_far (p := ⟨gb728, _, none⟩) NB729_728.out _).trans (hHeld.1)), ((cell_far (p := ⟨gb728, _, none⟩) NB729_728.out _).trans (hHeld.2.1)), ((cell_far (p := ⟨gb728, _, none⟩) NB729_728.out _).trans (hHeld.2.2.1)), ((cell_far (p := ⟨gb728, _, none⟩) NB729_728.out _).trans (hHeld.2.2.2.1)), ((cell_far (p := ⟨gb728, _, none⟩) NB729_728.out _).trans (hHeld.2.2.2.2.1)), ((cell_far (p := ⟨gb728, _, none⟩) NB729_728.out _).trans (hHeld.2.2.2.2.2.1)), ((cell_far (p := ⟨gb728, _, none⟩) NB729_728.out _).trans (hHeld.2.2.2.2.2.2))⟩ (fun hHeld => ?_)
                    clear hK K
                    refine done_ (done_of HT_.out (by kernel_rfl)) ?_
                    try go_wp2
                    have n0_ : Aside0 (((w74.setCell ⟨gb728, 3, none⟩ (.int .i64 a1_3)).setCell ⟨gb728, 4, none⟩ (.string a1_4)).heap[gb728]? = some (.cells #[.int .i64 a0_0, .int .i64 a0_1, .string a0_2, .int .i64 a1_3, .string a1_4, .int .i64 a0_5, .string a0_6] 73 (0, 0))) := ⟨by (with_reducible repeat (first | refine blk_drewN ?_ _ | refine blk_drew ?_ | refine blk_alloc ?_ _)); refine blk_put (cs := #[.int .i64 a0_0, .int .i64 a0_1, .string a0_2, .int .i64 a1_3, .string a0_4, .int .i64 a0_5, .string a0_6]) ?_ 4 _ rfl; (with_reducible repeat (first | refine blk_drewN ?_ _ | refine blk_drew ?_ | refine blk_alloc ?_ _)); refine blk_put (cs := #[.int .i64 a0_0, .int .i64 a0_1, .string a0_2, .int .i64 a0_3, .string a0_4, .int .i64 a0_5, .string a0_6]) ?_ 3 _ rfl; (with_reducible repeat (first | refine blk_drewN ?_ _ | refine blk_drew ?_ | refine blk_alloc ?_ _)); exact BK728.out⟩
                    have n1_ : Aside0 (((w74.setCell ⟨gb728, 3, none⟩ (.int .i64 a1_3)).setCell ⟨gb728, 4, none⟩ (.string a1_4)).heap[gb729]? = some (.cells #[.int .i64 a1_0, .int .i64 a1_1, .string a1_2, .int .i64 a1_3, .string a1_4, .int .i64 a1_5, .string a1_6] 73 (0, 0))) := ⟨by (with_reducible repeat (first | refine blk_drewN ?_ _ | refine blk_drew ?_ | refine blk_alloc ?_ _)); refine blk_far ?_ NB729_728.out _; (with_reducible repeat (first | refine blk_drewN ?_ _ | refine blk_drew ?_ | refine blk_alloc ?_ _)); refine blk_far ?_ NB729_728.out _; (with_reducible repeat (first | refine blk_drewN ?_ _ | refine blk_drew ?_ | refine blk_alloc ?_ _)); exact BK729.out⟩
                    have n2_ : Aside0 (((w74.setCell ⟨gb728, 3, none⟩ (.int .i64 a1_3)).setCell ⟨gb728, 4, none⟩ (.string a1_4)).heap[gb730]? = some (.cells #[.int .i64 0, .int .i64 0, .string (⟨#[]⟩ : ByteArray), .int .i64 0, .string (⟨#[]⟩ : ByteArray), .int .i64 0, .string (⟨#[]⟩ : ByteArray)] 73 (0, 0))) := ⟨by (with_reducible repeat (first | refine blk_drewN ?_ _ | refine blk_drew ?_ | refine blk_alloc ?_ _)); refine blk_far ?_ NB730_728.out _; (with_reducible repeat (first | refine blk_drewN ?_ _ | refine blk_drew ?_ | refine blk_alloc ?_ _)); refine blk_far ?_ NB730_728.out _; (with_reducible repeat (first | refine blk_drewN ?_ _ | refine blk_drew ?_ | refine blk_alloc ?_ _)); exact BK730.out⟩
                    have n3_ : Aside0 (Below w.heap.size w ((w74.setCell ⟨gb728, 3, none⟩ (.int .i64 a1_3)).setCell ⟨gb728, 4, none⟩ (.string a1_4))) := ⟨by repeat (first | (with_reducible first | exact HB.out | apply below_alloc | apply pw_below_drewN | apply below_drew1 | refine below_set ?_ GE728.out | refine below_set ?_ GE729.out | refine below_set ?_ GE730.out) | exact HB.out)⟩
                    (try clear BK728); (try clear BK729); (try clear BK730); (try clear HB)
                    generalize ((w74.setCell ⟨gb728, 3, none⟩ (.int .i64 a1_3)).setCell ⟨gb728, 4, none⟩ (.string a1_4)) = w77 at n0_ n1_ n2_ n3_ ⊢
                    have BK728 := n0_; have BK729 := n1_; have BK730 := n2_; have HB := n3_; clear n0_ n1_ n2_ n3_
                    have n0_ := Aside0.mk (blk_drew BK728.out)
                    have n1_ := Aside0.mk (blk_drew BK729.out)
                    have n2_ := Aside0.mk (blk_drew BK730.out)
                    have n3_ := Aside0.mk (below_drew1 HB.out)
                    clear BK728 BK729 BK730 HB; have BK728 := n0_; have BK729 := n1_; have BK730 := n2_; have HB := n3_; clear n0_ n1_ n2_ n3_
                    refine start_ (n := 17) (S := fun w' => w'.cell? ⟨gb728, 0, none⟩ = some (.int .i64 a0_0) ∧ w'.cell? ⟨gb728, 1, none⟩ = some (.int .i64 a0_1) ∧ w'.cell? ⟨gb728, 2, none⟩ = some (.string a0_2) ∧ w'.cell? ⟨gb728, 3, none⟩ = some (.int .i64 a1_3) ∧ w'.cell? ⟨gb728, 4, none⟩ = some (.string a1_4) ∧ w'.cell? ⟨gb728, 5, none⟩ = some (.int .i64 a0_5) ∧ w'.cell? ⟨gb728, 6, none⟩ = some (.string a0_6)) (ds := []) #[false, false, false, false, false, false, false, false, false, false, false, false, false, false, false, false, false] (by kernel_rfl) rfl rfl ⟨(blk_cell BK728.out 0).trans rfl, (blk_cell BK728.out 1).trans rfl, (blk_cell BK728.out 2).trans rfl, (blk_cell BK728.out 3).trans rfl, (blk_cell BK728.out 4).trans rfl, (blk_cell BK728.out 5).trans rfl, (blk_cell BK728.out 6).trans rfl⟩ (fun hHeld => ?_); refine with_tabW impl_combined.tab12 impl_combined.bits12 (fun HT_ HW_ => ?_)
                    generalize w77.drew = w78 at BK728 BK729 BK730 HB hHeld ⊢
                    refine pure_ (i := 1) (N := some 66) (v := ?_) (a' := ?_) #[false, true, false, false, false, false, false, false, false, false, false, false, false, false, false, false, false] rfl rfl (any_of HT_.out (by kernel_rfl)) (fun _ _ _ h => h) (Or.inl ⟨by rfl, ?_⟩) ?_ ?_
                    rotate_left
                    · intro w'
                      go_simp
                      with_reducible rfl
                    rotate_left
                    · simp only [Act.put, List.setIfInBounds_toArray, List.set_cons_zero, List.set_cons_succ, i64_w, i32_w]
                      rfl
                    refine pure_ (i := 2) (N := some 67) (v := ?_) (a' := ?_) #[false, true, true, false, false, false, false, false, false, false, false, false, false, false, false, false, false] rfl rfl (any_of HT_.out (by kernel_rfl)) (fun _ _ _ h => h) (Or.inl ⟨by rfl, ?_⟩) ?_ ?_
                    rotate_left
                    · intro w'
                      go_simp
                      with_reducible rfl
                    rotate_left
                    · simp only [Act.put, List.setIfInBounds_toArray, List.set_cons_zero, List.set_cons_succ, i64_w, i32_w]
                      rfl
                    refine pure_ (i := 4) (N := some 69) (v := ?_) (a' := ?_) #[false, true, true, false, true, false, false, false, false, false, false, false, false, false, false, false, false] rfl rfl (any_of HT_.out (by kernel_rfl)) (fun _ _ _ h => h) (Or.inl ⟨by rfl, ?_⟩) ?_ ?_
                    rotate_left
                    · intro w'
                      go_simp
                      with_reducible rfl
                    rotate_left
                    · simp only [Act.put, List.setIfInBounds_toArray, List.set_cons_zero, List.set_cons_succ, i64_w, i32_w]
                      rfl
                    refine take_ (i := 0) (N := some 65) (v := ?_) (a' := ?_) #[true, true, true, false, true, false, false, false, false, false, false, false, false, false, false, false, false] rfl rfl (take_ofW HT_.out HW_.out (by kernel_rfl)) (fun _ _ _ h => h) (Or.inl ⟨by rfl, ?_⟩) hHeld ?_ ?_
                    rotate_left
                    · rintro w' ⟨s0, s1, s2, s3, s4, s5, s6⟩
                      go_simp
                      with_reducible rfl
                    rotate_left
                    · simp only [Act.put, List.setIfInBounds_toArray, List.set_cons_zero, List.set_cons_succ, i64_w, i32_w]
                      rfl
                    refine take_ (i := 3) (N := some 68) (v := ?_) (a' := ?_) #[true, true, true, true, true, false, false, false, false, false, false, false, false, false, false, false, false] rfl rfl (take_ofW HT_.out HW_.out (by kernel_rfl)) (fun _ _ _ h => h) (Or.inl ⟨by rfl, ?_⟩) hHeld ?_ ?_
                    rotate_left
                    · rintro w' ⟨s0, s1, s2, s3, s4, s5, s6⟩
                      go_simp
                      with_reducible rfl
                    rotate_left
                    · simp only [Act.put, List.setIfInBounds_toArray, List.set_cons_zero, List.set_cons_succ, i64_w, i32_w]
                      rfl
                    refine take_ (i := 5) (N := some 70) (v := ?_) (a' := ?_) #[true, true, true, true, true, true, false, false, false, false, false, false, false, false, false, false, false] rfl rfl (take_ofW HT_.out HW_.out (by kernel_rfl)) (fun _ _ _ h => h) (Or.inl ⟨by rfl, ?_⟩) hHeld ?_ ?_
                    rotate_left
                    · rintro w' ⟨s0, s1, s2, s3, s4, s5, s6⟩
                      go_simp
                      with_reducible rfl
                    rotate_left
                    · simp only [Act.put, List.setIfInBounds_toArray, List.set_cons_zero, List.set_cons_succ, i64_w, i32_w]
                      rfl
                    refine pure_ (i := 6) (N := some 71) (v := ?_) (a' := ?_) #[true, true, true, true, true, true, true, false, false, false, false, false, false, false, false, false, false] rfl rfl (any_of HT_.out (by kernel_rfl)) (fun _ _ _ h => h) (Or.inl ⟨by rfl, ?_⟩) ?_ ?_
                    rotate_left
                    · intro w'
                      go_simp
                      with_reducible rfl
                    rotate_left
                    · simp only [Act.put, List.setIfInBounds_toArray, List.set_cons_zero, List.set_cons_succ, i64_w, i32_w]
                      rfl
                    refine pure_ (i := 7) (N := some 72) (v := ?_) (a' := ?_) #[true, true, true, true, true, true, true, true, false, false, false, false, false, false, false, false, false] rfl rfl (any_of HT_.out (by kernel_rfl)) (fun _ _ _ h => h) (Or.inl ⟨by rfl, ?_⟩) ?_ ?_
                    rotate_left
                    · intro w'
                      go_simp
                      with_reducible rfl
                    rotate_left
                    · simp only [Act.put, List.setIfInBounds_toArray, List.set_cons_zero, List.set_cons_succ, i64_w, i32_w]
                      rfl
                    refine pure_ (i := 8) (N := some 73) (v := undef) (a' := ?_) #[true, true, true, true, true, true, true, true, true, false, false, false, false, false, false, false, false] rfl rfl (any_of HT_.out (by kernel_rfl)) (fun _ _ _ h => h) (Or.inr ⟨by rfl, rfl⟩) ?_ ?_
                    rotate_left
                    · simp only [Act.put, List.setIfInBounds_toArray, List.set_cons_zero, List.set_cons_succ, i64_w, i32_w]
                      rfl
                    refine pure_ (i := 9) (N := some 74) (v := undef) (a' := ?_) #[true, true, true, true, true, true, true, true, true, true, false, false, false, false, false, false, false] rfl rfl (any_of HT_.out (by kernel_rfl)) (fun _ _ _ h => h) (Or.inr ⟨by rfl, rfl⟩) ?_ ?_
                    rotate_left
                    · simp only [Act.put, List.setIfInBounds_toArray, List.set_cons_zero, List.set_cons_succ, i64_w, i32_w]
                      rfl
                    refine pure_ (i := 10) (N := some 75) (v := undef) (a' := ?_) #[true, true, true, true, true, true, true, true, true, true, true, false, false, false, false, false, false] rfl rfl (any_of HT_.out (by kernel_rfl)) (fun _ _ _ h => h) (Or.inr ⟨by rfl, rfl⟩) ?_ ?_
                    rotate_left
                    · simp only [Act.put, List.setIfInBounds_toArray, List.set_cons_zero, List.set_cons_succ, i64_w, i32_w]
                      rfl
                    refine pure_ (i := 11) (N := some 76) (v := undef) (a' := ?_) #[true, true, true, true, true, true, true, true, true, true, true, true, false, false, false, false, false] rfl rfl (any_of HT_.out (by kernel_rfl)) (fun _ _ _ h => h) (Or.inr ⟨by rfl, rfl⟩) ?_ ?_
                    rotate_left
                    · simp only [Act.put, List.setIfInBounds_toArray, List.set_cons_zero, List.set_cons_succ, i64_w, i32_w]
                      rfl
                    refine pure_ (i := 12) (N := some 77) (v := undef) (a' := ?_) #[true, true, true, true, true, true, true, true, true, true, true, true, true, false, false, false, false] rfl rfl (any_of HT_.out (by kernel_rfl)) (fun _ _ _ h => h) (Or.inr ⟨by rfl, rfl⟩) ?_ ?_
                    rotate_left
                    · simp only [Act.put, List.setIfInBounds_toArray, List.set_cons_zero, List.set_cons_succ, i64_w, i32_w]
                      rfl
                    refine pure_ (i := 13) (N := some 78) (v := ?_) (a' := ?_) #[true, true, true, true, true, true, true, true, true, true, true, true, true, true, false, false, false] rfl rfl (any_of HT_.out (by kernel_rfl)) (fun _ _ _ h => h) (Or.inl ⟨by rfl, ?_⟩) ?_ ?_
                    rotate_left
                    · intro w'
                      go_simp
                      with_reducible rfl
                    rotate_left
                    · simp only [Act.put, List.setIfInBounds_toArray, List.set_cons_zero, List.set_cons_succ, i64_w, i32_w]
                      rfl
                    refine one_ (i := 14) (N := none) #[true, true, true, true, true, true, true, true, true, true, true, true, true, true, true, false, false] rfl rfl (one_of HT_.out (by kernel_rfl)) (by decide) (fun K hK => ?_)
                    have hs79 : w78.cell? ⟨gb730, 0, none⟩ = some (.int .i64 0) := (blk_cell BK730.out 0).trans rfl
                    have hfs79 := blk_frozen BK730.out 0
                    have hns79_0 := NB728_730.out
                    have hns79_1 := NB729_730.out
                    have hms79_0 := NB730_728.out
                    have hms79_1 := NB730_729.out
                    have hs80 : w78.cell? ⟨gb730, 1, none⟩ = some (.int .i64 0) := (blk_cell BK730.out 1).trans rfl
                    have hfs80 := blk_frozen BK730.out 1
                    have hns80_0 := NB728_730.out
                    have hns80_1 := NB729_730.out
                    have hms80_0 := NB730_728.out
                    have hms80_1 := NB730_729.out
                    have hs81 : w78.cell? ⟨gb730, 2, none⟩ = some (.string (⟨#[]⟩ : ByteArray)) := (blk_cell BK730.out 2).trans rfl
                    have hfs81 := blk_frozen BK730.out 2
                    have hns81_0 := NB728_730.out
                    have hns81_1 := NB729_730.out
                    have hms81_0 := NB730_728.out
                    have hms81_1 := NB730_729.out
                    have hs82 : w78.cell? ⟨gb730, 3, none⟩ = some (.int .i64 0) := (blk_cell BK730.out 3).trans rfl
                    have hfs82 := blk_frozen BK730.out 3
                    have hns82_0 := NB728_730.out
                    have hns82_1 := NB729_730.out
                    have hms82_0 := NB730_728.out
                    have hms82_1 := NB730_729.out
                    have hs83 : w78.cell? ⟨gb730, 4, none⟩ = some (.string (⟨#[]⟩ : ByteArray)) := (blk_cell BK730.out 4).trans rfl
                    have hfs83 := blk_frozen BK730.out 4
                    have hns83_0 := NB728_730.out
                    have hns83_1 := NB729_730.out
                    have hms83_0 := NB730_728.out
                    have hms83_1 := NB730_729.out
                    have hs84 : w78.cell? ⟨gb730, 5, none⟩ = some (.int .i64 0) := (blk_cell BK730.out 5).trans rfl
                    have hfs84 := blk_frozen BK730.out 5
                    have hns84_0 := NB728_730.out
                    have hns84_1 := NB729_730.out
                    have hms84_0 := NB730_728.out
                    have hms84_1 := NB730_729.out
                    have hs85 : w78.cell? ⟨gb730, 6, none⟩ = some (.string (⟨#[]⟩ : ByteArray)) := (blk_cell BK730.out 6).trans rfl
                    have hfs85 := blk_frozen BK730.out 6
                    have hns85_0 := NB728_730.out
                    have hns85_1 := NB729_730.out
                    have hms85_0 := NB730_728.out
                    have hms85_1 := NB730_729.out
                    refine skip_ (w1 := ?_) (by rfl) rfl ?_ ?_
                    rotate_left
                    · go_simp
                      rfl
                    refine hK.out _ _ ⟨((cell_far (p := ⟨gb730, _, none⟩) NB728_730.out _).trans (((cell_far (p := ⟨gb730, _, none⟩) NB728_730.out _).trans (((cell_far (p := ⟨gb730, _, none⟩) NB728_730.out _).trans (((cell_far (p := ⟨gb730, _, none⟩) NB728_730.out _).trans (((cell_far (p := ⟨gb730, _, none⟩) NB728_730.out _).trans (((cell_far (p := ⟨gb730, _, none⟩) NB728_730.out _).trans (((cell_far (p := ⟨gb730, _, none⟩) NB728_730.out _).trans (hHeld.1)))))))))))))), ((cell_far (p := ⟨gb730, _, none⟩) NB728_730.out _).trans (((cell_far (p := ⟨gb730, _, none⟩) NB728_730.out _).trans (((cell_far (p := ⟨gb730, _, none⟩) NB728_730.out _).trans (((cell_far (p := ⟨gb730, _, none⟩) NB728_730.out _).trans (((cell_far (p := ⟨gb730, _, none⟩) NB728_730.out _).trans (((cell_far (p := ⟨gb730, _, none⟩) NB728_730.out _).trans (((cell_far (p := ⟨gb730, _, none⟩) NB728_730.out _).trans (hHeld.2.1)))))))))))))), ((cell_far (p := ⟨gb730, _, none⟩) NB728_730.out _).trans (((cell_far (p := ⟨gb730, _, none⟩) NB728_730.out _).trans (((cell_far (p := ⟨gb730, _, none⟩) NB728_730.out _).trans (((cell_far (p := ⟨gb730, _, none⟩) NB728_730.out _).trans (((cell_far (p := ⟨gb730, _, none⟩) NB728_730.out _).trans (((cell_far (p := ⟨gb730, _, none⟩) NB728_730.out _).trans (((cell_far (p := ⟨gb730, _, none⟩) NB728_730.out _).trans (hHeld.2.2.1)))))))))))))), ((cell_far (p := ⟨gb730, _, none⟩) NB728_730.out _).trans (((cell_far (p := ⟨gb730, _, none⟩) NB728_730.out _).trans (((cell_far (p := ⟨gb730, _, none⟩) NB728_730.out _).trans (((cell_far (p := ⟨gb730, _, none⟩) NB728_730.out _).trans (((cell_far (p := ⟨gb730, _, none⟩) NB728_730.out _).trans (((cell_far (p := ⟨gb730, _, none⟩) NB728_730.out _).trans (((cell_far (p := ⟨gb730, _, none⟩) NB728_730.out _).trans (hHeld.2.2.2.1)))))))))))))), ((cell_far (p := ⟨gb730, _, none⟩) NB728_730.out _).trans (((cell_far (p := ⟨gb730, _, none⟩) NB728_730.out _).trans (((cell_far (p := ⟨gb730, _, none⟩) NB728_730.out _).trans (((cell_far (p := ⟨gb730, _, none⟩) NB728_730.out _).trans (((cell_far (p := ⟨gb730, _, none⟩) NB728_730.out _).trans (((cell_far (p := ⟨gb730, _, none⟩) NB728_730.out _).trans (((cell_far (p := ⟨gb730, _, none⟩) NB728_730.out _).trans (hHeld.2.2.2.2.1)))))))))))))), ((cell_far (p := ⟨gb730, _, none⟩) NB728_730.out _).trans (((cell_far (p := ⟨gb730, _, none⟩) NB728_730.out _).trans (((cell_far (p := ⟨gb730, _, none⟩) NB728_730.out _).trans (((cell_far (p := ⟨gb730, _, none⟩) NB728_730.out _).trans (((cell_far (p := ⟨gb730, _, none⟩) NB728_730.out _).trans (((cell_far (p := ⟨gb730, _, none⟩) NB728_730.out _).trans (((cell_far (p := ⟨gb730, _, none⟩) NB728_730.out _).trans (hHeld.2.2.2.2.2.1)))))))))))))), ((cell_far (p := ⟨gb730, _, none⟩) NB728_730.out _).trans (((cell_far (p := ⟨gb730, _, none⟩) NB728_730.out _).trans (((cell_far (p := ⟨gb730, _, none⟩) NB728_730.out _).trans (((cell_far (p := ⟨gb730, _, none⟩) NB728_730.out _).trans (((cell_far (p := ⟨gb730, _, none⟩) NB728_730.out _).trans (((cell_far (p := ⟨gb730, _, none⟩) NB728_730.out _).trans (((cell_far (p := ⟨gb730, _, none⟩) NB728_730.out _).trans (hHeld.2.2.2.2.2.2))))))))))))))⟩ (fun hHeld => ?_)
                    clear hK K
                    refine pure_ (i := 15) (N := some 5) (v := ?_) (a' := ?_) #[true, true, true, true, true, true, true, true, true, true, true, true, true, true, true, true, false] rfl rfl (any_of HT_.out (by kernel_rfl)) (fun _ _ _ h => h) (Or.inl ⟨by rfl, ?_⟩) ?_ ?_
                    rotate_left
                    · intro w'
                      go_simp
                      with_reducible rfl
                    rotate_left
                    · simp only [Act.put, List.setIfInBounds_toArray, List.set_cons_zero, List.set_cons_succ, i64_w, i32_w]
                      rfl
                    refine pure_ (i := 16) (N := some 6) (v := ?_) (a' := ?_) #[true, true, true, true, true, true, true, true, true, true, true, true, true, true, true, true, true] rfl rfl (any_of HT_.out (by kernel_rfl)) (fun _ _ _ h => h) (Or.inl ⟨by rfl, ?_⟩) ?_ ?_
                    rotate_left
                    · intro w'
                      go_simp
                      with_reducible rfl
                    rotate_left
                    · simp only [Act.put, List.setIfInBounds_toArray, List.set_cons_zero, List.set_cons_succ, i64_w, i32_w]
                      rfl
                    refine done_ (done_of HT_.out (by kernel_rfl)) ?_
                    try go_wp2
                    refine bodyPost_ret (results_ctt rfl _ _ gb730 73 #[.int .i64 a0_0, .int .i64 a0_1, .string a0_2, .int .i64 a1_3, .string a1_4, .int .i64 a0_5, .string a0_6] (0, 0) _ rfl (by (with_reducible repeat (first | refine blk_drewN ?_ _ | refine blk_drew ?_ | refine blk_alloc ?_ _)); refine blk_put (cs := #[.int .i64 a0_0, .int .i64 a0_1, .string a0_2, .int .i64 a1_3, .string a1_4, .int .i64 a0_5, .string (⟨#[]⟩ : ByteArray)]) ?_ 6 _ rfl; (with_reducible repeat (first | refine blk_drewN ?_ _ | refine blk_drew ?_ | refine blk_alloc ?_ _)); refine blk_put (cs := #[.int .i64 a0_0, .int .i64 a0_1, .string a0_2, .int .i64 a1_3, .string a1_4, .int .i64 0, .string (⟨#[]⟩ : ByteArray)]) ?_ 5 _ rfl; (with_reducible repeat (first | refine blk_drewN ?_ _ | refine blk_drew ?_ | refine blk_alloc ?_ _)); refine blk_put (cs := #[.int .i64 a0_0, .int .i64 a0_1, .string a0_2, .int .i64 a1_3, .string (⟨#[]⟩ : ByteArray), .int .i64 0, .string (⟨#[]⟩ : ByteArray)]) ?_ 4 _ rfl; (with_reducible repeat (first | refine blk_drewN ?_ _ | refine blk_drew ?_ | refine blk_alloc ?_ _)); refine blk_put (cs := #[.int .i64 a0_0, .int .i64 a0_1, .string a0_2, .int .i64 0, .string (⟨#[]⟩ : ByteArray), .int .i64 0, .string (⟨#[]⟩ : ByteArray)]) ?_ 3 _ rfl; (with_reducible repeat (first | refine blk_drewN ?_ _ | refine blk_drew ?_ | refine blk_alloc ?_ _)); refine blk_put (cs := #[.int .i64 a0_0, .int .i64 a0_1, .string (⟨#[]⟩ : ByteArray), .int .i64 0, .string (⟨#[]⟩ : ByteArray), .int .i64 0, .string (⟨#[]⟩ : ByteArray)]) ?_ 2 _ rfl; (with_reducible repeat (first | refine blk_drewN ?_ _ | refine blk_drew ?_ | refine blk_alloc ?_ _)); refine blk_put (cs := #[.int .i64 a0_0, .int .i64 0, .string (⟨#[]⟩ : ByteArray), .int .i64 0, .string (⟨#[]⟩ : ByteArray), .int .i64 0, .string (⟨#[]⟩ : ByteArray)]) ?_ 1 _ rfl; (with_reducible repeat (first | refine blk_drewN ?_ _ | refine blk_drew ?_ | refine blk_alloc ?_ _)); refine blk_put (cs := #[.int .i64 0, .int .i64 0, .string (⟨#[]⟩ : ByteArray), .int .i64 0, .string (⟨#[]⟩ : ByteArray), .int .i64 0, .string (⟨#[]⟩ : ByteArray)]) ?_ 0 _ rfl; (with_reducible repeat (first | refine blk_drewN ?_ _ | refine blk_drew ?_ | refine blk_alloc ?_ _)); exact BK730.out) Try.underlying73 rfl (by kernel_rfl)) rfl ?_
                    exact ⟨by first | rfl | (simp [errW_none, errW_some] <;> rfl) | (simp [*, errW_none, errW_some] <;> rfl), by repeat (first | (with_reducible first | exact HB.out | apply below_alloc | apply pw_below_drewN | apply below_drew1 | refine below_set ?_ GE728.out | refine below_set ?_ GE729.out | refine below_set ?_ GE730.out) | exact HB.out)⟩
                · rw [if_neg c50] at H
                  have c50b0 : (a0_3 == a1_1) = false := beq_eq_false_iff_ne.mpr c50
                  have c50b1 : (a0_3 != a1_1) = true := bne_iff_ne.mpr c50
                  by_cases c86 : a0_1 = a1_3
                  · rw [if_pos c86] at H
                    have c86b0 : (a0_1 == a1_3) = true := beq_iff_eq.mpr c86
                    have c86b1 : (a0_1 != a1_3) = false := bne_eq_false_iff_eq.mpr c86
                    clear c86
                    simp only [Option.some.injEq, Prod.mk.injEq] at H
                    obtain ⟨rfl, rfl, rfl, rfl, rfl, rfl, rfl, rfl, rfl⟩ := H
                    have hnb87 := NB728_729.out
                    have hnc87 := NB729_728.out
                    have hnb88 := NB728_730.out
                    have hnc88 := NB730_728.out
                    have hcz89_0 : wc.cell? ⟨gb728, 0, none⟩ = some (.int .i64 a0_0) := (blk_cell BK728.out 0).trans rfl
                    have hcz89_1 : wc.cell? ⟨gb728, 1, none⟩ = some (.int .i64 a0_1) := (blk_cell BK728.out 1).trans rfl
                    have hcz89_2 : wc.cell? ⟨gb728, 2, none⟩ = some (.string a0_2) := (blk_cell BK728.out 2).trans rfl
                    have hcz89_3 : wc.cell? ⟨gb728, 3, none⟩ = some (.int .i64 a0_3) := (blk_cell BK728.out 3).trans rfl
                    have hcz89_4 : wc.cell? ⟨gb728, 4, none⟩ = some (.string a0_4) := (blk_cell BK728.out 4).trans rfl
                    have hcz89_5 : wc.cell? ⟨gb728, 5, none⟩ = some (.int .i64 a0_5) := (blk_cell BK728.out 5).trans rfl
                    have hcz89_6 : wc.cell? ⟨gb728, 6, none⟩ = some (.string a0_6) := (blk_cell BK728.out 6).trans rfl
                    have hfz89_0 := blk_frozen BK728.out 0
                    have hfz89_1 := blk_frozen BK728.out 1
                    have hfz89_2 := blk_frozen BK728.out 2
                    have hfz89_3 := blk_frozen BK728.out 3
                    have hfz89_4 := blk_frozen BK728.out 4
                    have hfz89_5 := blk_frozen BK728.out 5
                    have hfz89_6 := blk_frozen BK728.out 6
                    have hnb90 := NB729_730.out
                    have hnc90 := NB730_729.out
                    have hcz91_0 : wc.cell? ⟨gb729, 0, none⟩ = some (.int .i64 a1_0) := (blk_cell BK729.out 0).trans rfl
                    have hcz91_1 : wc.cell? ⟨gb729, 1, none⟩ = some (.int .i64 a1_1) := (blk_cell BK729.out 1).trans rfl
                    have hcz91_2 : wc.cell? ⟨gb729, 2, none⟩ = some (.string a1_2) := (blk_cell BK729.out 2).trans rfl
                    have hcz91_3 : wc.cell? ⟨gb729, 3, none⟩ = some (.int .i64 a1_3) := (blk_cell BK729.out 3).trans rfl
                    have hcz91_4 : wc.cell? ⟨gb729, 4, none⟩ = some (.string a1_4) := (blk_cell BK729.out 4).trans rfl
                    have hcz91_5 : wc.cell? ⟨gb729, 5, none⟩ = some (.int .i64 a1_5) := (blk_cell BK729.out 5).trans rfl
                    have hcz91_6 : wc.cell? ⟨gb729, 6, none⟩ = some (.string a1_6) := (blk_cell BK729.out 6).trans rfl
                    have hfz91_0 := blk_frozen BK729.out 0
                    have hfz91_1 := blk_frozen BK729.out 1
                    have hfz91_2 := blk_frozen BK729.out 2
                    have hfz91_3 := blk_frozen BK729.out 3
                    have hfz91_4 := blk_frozen BK729.out 4
                    have hfz91_5 := blk_frozen BK729.out 5
                    have hfz91_6 := blk_frozen BK729.out 6
                    try go_wp2
                    have n0_ := Aside0.mk (blk_drew BK728.out)
                    have n1_ := Aside0.mk (blk_drew BK729.out)
                    have n2_ := Aside0.mk (blk_drew BK730.out)
                    have n3_ := Aside0.mk (below_drew1 HB.out)
                    clear BK728 BK729 BK730 HB; have BK728 := n0_; have BK729 := n1_; have BK730 := n2_; have HB := n3_; clear n0_ n1_ n2_ n3_
                    refine start_ (n := 8) (S := fun w' => w'.cell? ⟨gb729, 0, none⟩ = some (.int .i64 a1_0) ∧ w'.cell? ⟨gb729, 1, none⟩ = some (.int .i64 a1_1) ∧ w'.cell? ⟨gb729, 2, none⟩ = some (.string a1_2) ∧ w'.cell? ⟨gb729, 3, none⟩ = some (.int .i64 a1_3) ∧ w'.cell? ⟨gb729, 4, none⟩ = some (.string a1_4) ∧ w'.cell? ⟨gb729, 5, none⟩ = some (.int .i64 a1_5) ∧ w'.cell? ⟨gb729, 6, none⟩ = some (.string a1_6)) (ds := []) #[false, false, false, false, false, false, false, false] (by kernel_rfl) rfl rfl ⟨(blk_cell BK729.out 0).trans rfl, (blk_cell BK729.out 1).trans rfl, (blk_cell BK729.out 2).trans rfl, (blk_cell BK729.out 3).trans rfl, (blk_cell BK729.out 4).trans rfl, (blk_cell BK729.out 5).trans rfl, (blk_cell BK729.out 6).trans rfl⟩ (fun hHeld => ?_); refine with_tabW impl_combined.tab11 impl_combined.bits11 (fun HT_ HW_ => ?_)
                    generalize wc.drew = w92 at BK728 BK729 BK730 HB hHeld ⊢
                    refine pure_ (i := 0) (N := some 59) (v := ?_) (a' := ?_) #[true, false, false, false, false, false, false, false] rfl rfl (any_of HT_.out (by kernel_rfl)) (fun _ _ _ h => h) (Or.inl ⟨by rfl, ?_⟩) ?_ ?_
                    rotate_left
                    · intro w'
                      go_simp
                      with_reducible rfl
                    rotate_left
                    · simp only [Act.put, List.setIfInBounds_toArray, List.set_cons_zero, List.set_cons_succ, i64_w, i32_w]
                      rfl
                    refine pure_ (i := 2) (N := some 61) (v := ?_) (a' := ?_) #[true, false, true, false, false, false, false, false] rfl rfl (any_of HT_.out (by kernel_rfl)) (fun _ _ _ h => h) (Or.inl ⟨by rfl, ?_⟩) ?_ ?_
                    rotate_left
                    · intro w'
                      go_simp
                      with_reducible rfl
                    rotate_left
                    · simp only [Act.put, List.setIfInBounds_toArray, List.set_cons_zero, List.set_cons_succ, i64_w, i32_w]
                      rfl
                    refine take_ (i := 1) (N := some 60) (v := ?_) (a' := ?_) #[true, true, true, false, false, false, false, false] rfl rfl (take_ofW HT_.out HW_.out (by kernel_rfl)) (fun _ _ _ h => h) (Or.inl ⟨by rfl, ?_⟩) hHeld ?_ ?_
                    rotate_left
                    · rintro w' ⟨s0, s1, s2, s3, s4, s5, s6⟩
                      go_simp
                      with_reducible rfl
                    rotate_left
                    · simp only [Act.put, List.setIfInBounds_toArray, List.set_cons_zero, List.set_cons_succ, i64_w, i32_w]
                      rfl
                    refine pure_ (i := 4) (N := some 63) (v := ?_) (a' := ?_) #[true, true, true, false, true, false, false, false] rfl rfl (any_of HT_.out (by kernel_rfl)) (fun _ _ _ h => h) (Or.inl ⟨by rfl, ?_⟩) ?_ ?_
                    rotate_left
                    · intro w'
                      go_simp
                      with_reducible rfl
                    rotate_left
                    · simp only [Act.put, List.setIfInBounds_toArray, List.set_cons_zero, List.set_cons_succ, i64_w, i32_w]
                      rfl
                    refine take_ (i := 3) (N := some 62) (v := ?_) (a' := ?_) #[true, true, true, true, true, false, false, false] rfl rfl (take_ofW HT_.out HW_.out (by kernel_rfl)) (fun _ _ _ h => h) (Or.inl ⟨by rfl, ?_⟩) hHeld ?_ ?_
                    rotate_left
                    · rintro w' ⟨s0, s1, s2, s3, s4, s5, s6⟩
                      go_simp
                      with_reducible rfl
                    rotate_left
                    · simp only [Act.put, List.setIfInBounds_toArray, List.set_cons_zero, List.set_cons_succ, i64_w, i32_w]
                      rfl
                    refine one_ (i := 5) (N := none) #[true, true, true, true, true, true, false, false] rfl rfl (one_of HT_.out (by kernel_rfl)) (by decide) (fun K hK => ?_)
                    have hs93 : w92.cell? ⟨gb728, 3, none⟩ = some (.int .i64 a0_3) := (blk_cell BK728.out 3).trans rfl
                    have hfs93 := blk_frozen BK728.out 3
                    have hns93_1 := NB729_728.out
                    have hns93_2 := NB730_728.out
                    have hms93_1 := NB728_729.out
                    have hms93_2 := NB728_730.out
                    refine skip_ (w1 := ?_) (by rfl) rfl ?_ ?_
                    rotate_left
                    · go_simp
                      rfl
                    refine hK.out _ _ ⟨((cell_far (p := ⟨gb728, _, none⟩) NB729_728.out _).trans (hHeld.1)), ((cell_far (p := ⟨gb728, _, none⟩) NB729_728.out _).trans (hHeld.2.1)), ((cell_far (p := ⟨gb728, _, none⟩) NB729_728.out _).trans (hHeld.2.2.1)), ((cell_far (p := ⟨gb728, _, none⟩) NB729_728.out _).trans (hHeld.2.2.2.1)), ((cell_far (p := ⟨gb728, _, none⟩) NB729_728.out _).trans (hHeld.2.2.2.2.1)), ((cell_far (p := ⟨gb728, _, none⟩) NB729_728.out _).trans (hHeld.2.2.2.2.2.1)), ((cell_far (p := ⟨gb728, _, none⟩) NB729_728.out _).trans (hHeld.2.2.2.2.2.2))⟩ (fun hHeld => ?_)
                    clear hK K
                    refine pure_ (i := 6) (N := some 64) (v := ?_) (a' := ?_) #[true, true, true, true, true, true, true, false] rfl rfl (any_of HT_.out (by kernel_rfl)) (fun _ _ _ h => h) (Or.inl ⟨by rfl, ?_⟩) ?_ ?_
                    rotate_left
                    · intro w'
                      go_simp
                      with_reducible rfl
                    rotate_left
                    · simp only [Act.put, List.setIfInBounds_toArray, List.set_cons_zero, List.set_cons_succ, i64_w, i32_w]
                      rfl
                    refine one_ (i := 7) (N := none) #[true, true, true, true, true, true, true, true] rfl rfl (one_of HT_.out (by kernel_rfl)) (by decide) (fun K hK => ?_)
                    have hs94 : w92.cell? ⟨gb728, 4, none⟩ = some (.string a0_4) := (blk_cell BK728.out 4).trans rfl
                    have hfs94 := blk_frozen BK728.out 4
                    have hns94_1 := NB729_728.out
                    have hns94_2 := NB730_728.out
                    have hms94_1 := NB728_729.out
                    have hms94_2 := NB728_730.out
                    refine skip_ (w1 := ?_) (by rfl) rfl ?_ ?_
                    rotate_left
                    · go_simp
                      rfl
                    refine hK.out _ _ ⟨((cell_far (p := ⟨gb728, _, none⟩) NB729_728.out _).trans (hHeld.1)), ((cell_far (p := ⟨gb728, _, none⟩) NB729_728.out _).trans (hHeld.2.1)), ((cell_far (p := ⟨gb728, _, none⟩) NB729_728.out _).trans (hHeld.2.2.1)), ((cell_far (p := ⟨gb728, _, none⟩) NB729_728.out _).trans (hHeld.2.2.2.1)), ((cell_far (p := ⟨gb728, _, none⟩) NB729_728.out _).trans (hHeld.2.2.2.2.1)), ((cell_far (p := ⟨gb728, _, none⟩) NB729_728.out _).trans (hHeld.2.2.2.2.2.1)), ((cell_far (p := ⟨gb728, _, none⟩) NB729_728.out _).trans (hHeld.2.2.2.2.2.2))⟩ (fun hHeld => ?_)
                    clear hK K
                    refine done_ (done_of HT_.out (by kernel_rfl)) ?_
                    try go_wp2
                    have n0_ : Aside0 (((w92.setCell ⟨gb728, 3, none⟩ (.int .i64 a1_3)).setCell ⟨gb728, 4, none⟩ (.string a1_4)).heap[gb728]? = some (.cells #[.int .i64 a0_0, .int .i64 a0_1, .string a0_2, .int .i64 a1_3, .string a1_4, .int .i64 a0_5, .string a0_6] 73 (0, 0))) := ⟨by (with_reducible repeat (first | refine blk_drewN ?_ _ | refine blk_drew ?_ | refine blk_alloc ?_ _)); refine blk_put (cs := #[.int .i64 a0_0, .int .i64 a0_1, .string a0_2, .int .i64 a1_3, .string a0_4, .int .i64 a0_5, .string a0_6]) ?_ 4 _ rfl; (with_reducible repeat (first | refine blk_drewN ?_ _ | refine blk_drew ?_ | refine blk_alloc ?_ _)); refine blk_put (cs := #[.int .i64 a0_0, .int .i64 a0_1, .string a0_2, .int .i64 a0_3, .string a0_4, .int .i64 a0_5, .string a0_6]) ?_ 3 _ rfl; (with_reducible repeat (first | refine blk_drewN ?_ _ | refine blk_drew ?_ | refine blk_alloc ?_ _)); exact BK728.out⟩
                    have n1_ : Aside0 (((w92.setCell ⟨gb728, 3, none⟩ (.int .i64 a1_3)).setCell ⟨gb728, 4, none⟩ (.string a1_4)).heap[gb729]? = some (.cells #[.int .i64 a1_0, .int .i64 a1_1, .string a1_2, .int .i64 a1_3, .string a1_4, .int .i64 a1_5, .string a1_6] 73 (0, 0))) := ⟨by (with_reducible repeat (first | refine blk_drewN ?_ _ | refine blk_drew ?_ | refine blk_alloc ?_ _)); refine blk_far ?_ NB729_728.out _; (with_reducible repeat (first | refine blk_drewN ?_ _ | refine blk_drew ?_ | refine blk_alloc ?_ _)); refine blk_far ?_ NB729_728.out _; (with_reducible repeat (first | refine blk_drewN ?_ _ | refine blk_drew ?_ | refine blk_alloc ?_ _)); exact BK729.out⟩
                    have n2_ : Aside0 (((w92.setCell ⟨gb728, 3, none⟩ (.int .i64 a1_3)).setCell ⟨gb728, 4, none⟩ (.string a1_4)).heap[gb730]? = some (.cells #[.int .i64 0, .int .i64 0, .string (⟨#[]⟩ : ByteArray), .int .i64 0, .string (⟨#[]⟩ : ByteArray), .int .i64 0, .string (⟨#[]⟩ : ByteArray)] 73 (0, 0))) := ⟨by (with_reducible repeat (first | refine blk_drewN ?_ _ | refine blk_drew ?_ | refine blk_alloc ?_ _)); refine blk_far ?_ NB730_728.out _; (with_reducible repeat (first | refine blk_drewN ?_ _ | refine blk_drew ?_ | refine blk_alloc ?_ _)); refine blk_far ?_ NB730_728.out _; (with_reducible repeat (first | refine blk_drewN ?_ _ | refine blk_drew ?_ | refine blk_alloc ?_ _)); exact BK730.out⟩
                    have n3_ : Aside0 (Below w.heap.size w ((w92.setCell ⟨gb728, 3, none⟩ (.int .i64 a1_3)).setCell ⟨gb728, 4, none⟩ (.string a1_4))) := ⟨by repeat (first | (with_reducible first | exact HB.out | apply below_alloc | apply pw_below_drewN | apply below_drew1 | refine below_set ?_ GE728.out | refine below_set ?_ GE729.out | refine below_set ?_ GE730.out) | exact HB.out)⟩
                    (try clear BK728); (try clear BK729); (try clear BK730); (try clear HB)
                    generalize ((w92.setCell ⟨gb728, 3, none⟩ (.int .i64 a1_3)).setCell ⟨gb728, 4, none⟩ (.string a1_4)) = w95 at n0_ n1_ n2_ n3_ ⊢
                    have BK728 := n0_; have BK729 := n1_; have BK730 := n2_; have HB := n3_; clear n0_ n1_ n2_ n3_
                    have n0_ := Aside0.mk (blk_drew BK728.out)
                    have n1_ := Aside0.mk (blk_drew BK729.out)
                    have n2_ := Aside0.mk (blk_drew BK730.out)
                    have n3_ := Aside0.mk (below_drew1 HB.out)
                    clear BK728 BK729 BK730 HB; have BK728 := n0_; have BK729 := n1_; have BK730 := n2_; have HB := n3_; clear n0_ n1_ n2_ n3_
                    refine start_ (n := 17) (S := fun w' => w'.cell? ⟨gb728, 0, none⟩ = some (.int .i64 a0_0) ∧ w'.cell? ⟨gb728, 1, none⟩ = some (.int .i64 a0_1) ∧ w'.cell? ⟨gb728, 2, none⟩ = some (.string a0_2) ∧ w'.cell? ⟨gb728, 3, none⟩ = some (.int .i64 a1_3) ∧ w'.cell? ⟨gb728, 4, none⟩ = some (.string a1_4) ∧ w'.cell? ⟨gb728, 5, none⟩ = some (.int .i64 a0_5) ∧ w'.cell? ⟨gb728, 6, none⟩ = some (.string a0_6)) (ds := []) #[false, false, false, false, false, false, false, false, false, false, false, false, false, false, false, false, false] (by kernel_rfl) rfl rfl ⟨(blk_cell BK728.out 0).trans rfl, (blk_cell BK728.out 1).trans rfl, (blk_cell BK728.out 2).trans rfl, (blk_cell BK728.out 3).trans rfl, (blk_cell BK728.out 4).trans rfl, (blk_cell BK728.out 5).trans rfl, (blk_cell BK728.out 6).trans rfl⟩ (fun hHeld => ?_); refine with_tabW impl_combined.tab12 impl_combined.bits12 (fun HT_ HW_ => ?_)
                    generalize w95.drew = w96 at BK728 BK729 BK730 HB hHeld ⊢
                    refine pure_ (i := 1) (N := some 66) (v := ?_) (a' := ?_) #[false, true, false, false, false, false, false, false, false, false, false, false, false, false, false, false, false] rfl rfl (any_of HT_.out (by kernel_rfl)) (fun _ _ _ h => h) (Or.inl ⟨by rfl, ?_⟩) ?_ ?_
                    rotate_left
                    · intro w'
                      go_simp
                      with_reducible rfl
                    rotate_left
                    · simp only [Act.put, List.setIfInBounds_toArray, List.set_cons_zero, List.set_cons_succ, i64_w, i32_w]
                      rfl
                    refine pure_ (i := 2) (N := some 67) (v := ?_) (a' := ?_) #[false, true, true, false, false, false, false, false, false, false, false, false, false, false, false, false, false] rfl rfl (any_of HT_.out (by kernel_rfl)) (fun _ _ _ h => h) (Or.inl ⟨by rfl, ?_⟩) ?_ ?_
                    rotate_left
                    · intro w'
                      go_simp
                      with_reducible rfl
                    rotate_left
                    · simp only [Act.put, List.setIfInBounds_toArray, List.set_cons_zero, List.set_cons_succ, i64_w, i32_w]
                      rfl
                    refine pure_ (i := 4) (N := some 69) (v := ?_) (a' := ?_) #[false, true, true, false, true, false, false, false, false, false, false, false, false, false, false, false, false] rfl rfl (any_of HT_.out (by kernel_rfl)) (fun _ _ _ h => h) (Or.inl ⟨by rfl, ?_⟩) ?_ ?_
                    rotate_left
                    · intro w'
                      go_simp
                      with_reducible rfl
                    rotate_left
                    · simp only [Act.put, List.setIfInBounds_toArray, List.set_cons_zero, List.set_cons_succ, i64_w, i32_w]
                      rfl
                    refine take_ (i := 0) (N := some 65) (v := ?_) (a' := ?_) #[true, true, true, false, true, false, false, false, false, false, false, false, false, false, false, false, false] rfl rfl (take_ofW HT_.out HW_.out (by kernel_rfl)) (fun _ _ _ h => h) (Or.inl ⟨by rfl, ?_⟩) hHeld ?_ ?_
                    rotate_left
                    · rintro w' ⟨s0, s1, s2, s3, s4, s5, s6⟩
                      go_simp
                      with_reducible rfl
                    rotate_left
                    · simp only [Act.put, List.setIfInBounds_toArray, List.set_cons_zero, List.set_cons_succ, i64_w, i32_w]
                      rfl
                    refine take_ (i := 3) (N := some 68) (v := ?_) (a' := ?_) #[true, true, true, true, true, false, false, false, false, false, false, false, false, false, false, false, false] rfl rfl (take_ofW HT_.out HW_.out (by kernel_rfl)) (fun _ _ _ h => h) (Or.inl ⟨by rfl, ?_⟩) hHeld ?_ ?_
                    rotate_left
                    · rintro w' ⟨s0, s1, s2, s3, s4, s5, s6⟩
                      go_simp
                      with_reducible rfl
                    rotate_left
                    · simp only [Act.put, List.setIfInBounds_toArray, List.set_cons_zero, List.set_cons_succ, i64_w, i32_w]
                      rfl
                    refine take_ (i := 5) (N := some 70) (v := ?_) (a' := ?_) #[true, true, true, true, true, true, false, false, false, false, false, false, false, false, false, false, false] rfl rfl (take_ofW HT_.out HW_.out (by kernel_rfl)) (fun _ _ _ h => h) (Or.inl ⟨by rfl, ?_⟩) hHeld ?_ ?_
                    rotate_left
                    · rintro w' ⟨s0, s1, s2, s3, s4, s5, s6⟩
                      go_simp
                      with_reducible rfl
                    rotate_left
                    · simp only [Act.put, List.setIfInBounds_toArray, List.set_cons_zero, List.set_cons_succ, i64_w, i32_w]
                      rfl
                    refine pure_ (i := 6) (N := some 71) (v := ?_) (a' := ?_) #[true, true, true, true, true, true, true, false, false, false, false, false, false, false, false, false, false] rfl rfl (any_of HT_.out (by kernel_rfl)) (fun _ _ _ h => h) (Or.inl ⟨by rfl, ?_⟩) ?_ ?_
                    rotate_left
                    · intro w'
                      go_simp
                      with_reducible rfl
                    rotate_left
                    · simp only [Act.put, List.setIfInBounds_toArray, List.set_cons_zero, List.set_cons_succ, i64_w, i32_w]
                      rfl
                    refine pure_ (i := 7) (N := some 72) (v := ?_) (a' := ?_) #[true, true, true, true, true, true, true, true, false, false, false, false, false, false, false, false, false] rfl rfl (any_of HT_.out (by kernel_rfl)) (fun _ _ _ h => h) (Or.inl ⟨by rfl, ?_⟩) ?_ ?_
                    rotate_left
                    · intro w'
                      go_simp
                      with_reducible rfl
                    rotate_left
                    · simp only [Act.put, List.setIfInBounds_toArray, List.set_cons_zero, List.set_cons_succ, i64_w, i32_w]
                      rfl
                    refine pure_ (i := 8) (N := some 73) (v := ?_) (a' := ?_) #[true, true, true, true, true, true, true, true, true, false, false, false, false, false, false, false, false] rfl rfl (any_of HT_.out (by kernel_rfl)) (fun _ _ _ h => h) (Or.inl ⟨by rfl, ?_⟩) ?_ ?_
                    rotate_left
                    · intro w'
                      go_simp
                      with_reducible rfl
                    rotate_left
                    · simp only [Act.put, List.setIfInBounds_toArray, List.set_cons_zero, List.set_cons_succ, i64_w, i32_w]
                      rfl
                    refine pure_ (i := 10) (N := some 75) (v := ?_) (a' := ?_) #[true, true, true, true, true, true, true, true, true, false, true, false, false, false, false, false, false] rfl rfl (any_of HT_.out (by kernel_rfl)) (fun _ _ _ h => h) (Or.inl ⟨by rfl, ?_⟩) ?_ ?_
                    rotate_left
                    · intro w'
                      go_simp
                      with_reducible rfl
                    rotate_left
                    · simp only [Act.put, List.setIfInBounds_toArray, List.set_cons_zero, List.set_cons_succ, i64_w, i32_w]
                      rfl
                    refine take_ (i := 9) (N := some 74) (v := ?_) (a' := ?_) #[true, true, true, true, true, true, true, true, true, true, true, false, false, false, false, false, false] rfl rfl (take_ofW HT_.out HW_.out (by kernel_rfl)) (fun _ _ _ h => h) (Or.inl ⟨by rfl, ?_⟩) hHeld ?_ ?_
                    rotate_left
                    · rintro w' ⟨s0, s1, s2, s3, s4, s5, s6⟩
                      go_simp
                      with_reducible rfl
                    rotate_left
                    · simp only [Act.put, List.setIfInBounds_toArray, List.set_cons_zero, List.set_cons_succ, i64_w, i32_w]
                      rfl
                    refine take_ (i := 11) (N := some 76) (v := ?_) (a' := ?_) #[true, true, true, true, true, true, true, true, true, true, true, true, false, false, false, false, false] rfl rfl (take_ofW HT_.out HW_.out (by kernel_rfl)) (fun _ _ _ h => h) (Or.inl ⟨by rfl, ?_⟩) hHeld ?_ ?_
                    rotate_left
                    · rintro w' ⟨s0, s1, s2, s3, s4, s5, s6⟩
                      go_simp
                      with_reducible rfl
                    rotate_left
                    · simp only [Act.put, List.setIfInBounds_toArray, List.set_cons_zero, List.set_cons_succ, i64_w, i32_w]
                      rfl
                    refine pure_ (i := 12) (N := some 77) (v := ?_) (a' := ?_) #[true, true, true, true, true, true, true, true, true, true, true, true, true, false, false, false, false] rfl rfl (any_of HT_.out (by kernel_rfl)) (fun _ _ _ h => h) (Or.inl ⟨by rfl, ?_⟩) ?_ ?_
                    rotate_left
                    · intro w'
                      go_simp
                      with_reducible rfl
                    rotate_left
                    · simp only [Act.put, List.setIfInBounds_toArray, List.set_cons_zero, List.set_cons_succ, i64_w, i32_w]
                      rfl
                    refine pure_ (i := 13) (N := some 78) (v := ?_) (a' := ?_) #[true, true, true, true, true, true, true, true, true, true, true, true, true, true, false, false, false] rfl rfl (any_of HT_.out (by kernel_rfl)) (fun _ _ _ h => h) (Or.inl ⟨by rfl, ?_⟩) ?_ ?_
                    rotate_left
                    · intro w'
                      go_simp
                      with_reducible rfl
                    rotate_left
                    · simp only [Act.put, List.setIfInBounds_toArray, List.set_cons_zero, List.set_cons_succ, i64_w, i32_w]
                      rfl
                    refine one_ (i := 14) (N := none) #[true, true, true, true, true, true, true, true, true, true, true, true, true, true, true, false, false] rfl rfl (one_of HT_.out (by kernel_rfl)) (by decide) (fun K hK => ?_)
                    have hs97 : w96.cell? ⟨gb730, 0, none⟩ = some (.int .i64 0) := (blk_cell BK730.out 0).trans rfl
                    have hfs97 := blk_frozen BK730.out 0
                    have hns97_0 := NB728_730.out
                    have hns97_1 := NB729_730.out
                    have hms97_0 := NB730_728.out
                    have hms97_1 := NB730_729.out
                    have hs98 : w96.cell? ⟨gb730, 1, none⟩ = some (.int .i64 0) := (blk_cell BK730.out 1).trans rfl
                    have hfs98 := blk_frozen BK730.out 1
                    have hns98_0 := NB728_730.out
                    have hns98_1 := NB729_730.out
                    have hms98_0 := NB730_728.out
                    have hms98_1 := NB730_729.out
                    have hs99 : w96.cell? ⟨gb730, 2, none⟩ = some (.string (⟨#[]⟩ : ByteArray)) := (blk_cell BK730.out 2).trans rfl
                    have hfs99 := blk_frozen BK730.out 2
                    have hns99_0 := NB728_730.out
                    have hns99_1 := NB729_730.out
                    have hms99_0 := NB730_728.out
                    have hms99_1 := NB730_729.out
                    have hs100 : w96.cell? ⟨gb730, 3, none⟩ = some (.int .i64 0) := (blk_cell BK730.out 3).trans rfl
                    have hfs100 := blk_frozen BK730.out 3
                    have hns100_0 := NB728_730.out
                    have hns100_1 := NB729_730.out
                    have hms100_0 := NB730_728.out
                    have hms100_1 := NB730_729.out
                    have hs101 : w96.cell? ⟨gb730, 4, none⟩ = some (.string (⟨#[]⟩ : ByteArray)) := (blk_cell BK730.out 4).trans rfl
                    have hfs101 := blk_frozen BK730.out 4
                    have hns101_0 := NB728_730.out
                    have hns101_1 := NB729_730.out
                    have hms101_0 := NB730_728.out
                    have hms101_1 := NB730_729.out
                    have hs102 : w96.cell? ⟨gb730, 5, none⟩ = some (.int .i64 0) := (blk_cell BK730.out 5).trans rfl
                    have hfs102 := blk_frozen BK730.out 5
                    have hns102_0 := NB728_730.out
                    have hns102_1 := NB729_730.out
                    have hms102_0 := NB730_728.out
                    have hms102_1 := NB730_729.out
                    have hs103 : w96.cell? ⟨gb730, 6, none⟩ = some (.string (⟨#[]⟩ : ByteArray)) := (blk_cell BK730.out 6).trans rfl
                    have hfs103 := blk_frozen BK730.out 6
                    have hns103_0 := NB728_730.out
                    have hns103_1 := NB729_730.out
                    have hms103_0 := NB730_728.out
                    have hms103_1 := NB730_729.out
                    refine skip_ (w1 := ?_) (by rfl) rfl ?_ ?_
                    rotate_left
                    · go_simp
                      rfl
                    refine hK.out _ _ ⟨((cell_far (p := ⟨gb730, _, none⟩) NB728_730.out _).trans (((cell_far (p := ⟨gb730, _, none⟩) NB728_730.out _).trans (((cell_far (p := ⟨gb730, _, none⟩) NB728_730.out _).trans (((cell_far (p := ⟨gb730, _, none⟩) NB728_730.out _).trans (((cell_far (p := ⟨gb730, _, none⟩) NB728_730.out _).trans (((cell_far (p := ⟨gb730, _, none⟩) NB728_730.out _).trans (((cell_far (p := ⟨gb730, _, none⟩) NB728_730.out _).trans (hHeld.1)))))))))))))), ((cell_far (p := ⟨gb730, _, none⟩) NB728_730.out _).trans (((cell_far (p := ⟨gb730, _, none⟩) NB728_730.out _).trans (((cell_far (p := ⟨gb730, _, none⟩) NB728_730.out _).trans (((cell_far (p := ⟨gb730, _, none⟩) NB728_730.out _).trans (((cell_far (p := ⟨gb730, _, none⟩) NB728_730.out _).trans (((cell_far (p := ⟨gb730, _, none⟩) NB728_730.out _).trans (((cell_far (p := ⟨gb730, _, none⟩) NB728_730.out _).trans (hHeld.2.1)))))))))))))), ((cell_far (p := ⟨gb730, _, none⟩) NB728_730.out _).trans (((cell_far (p := ⟨gb730, _, none⟩) NB728_730.out _).trans (((cell_far (p := ⟨gb730, _, none⟩) NB728_730.out _).trans (((cell_far (p := ⟨gb730, _, none⟩) NB728_730.out _).trans (((cell_far (p := ⟨gb730, _, none⟩) NB728_730.out _).trans (((cell_far (p := ⟨gb730, _, none⟩) NB728_730.out _).trans (((cell_far (p := ⟨gb730, _, none⟩) NB728_730.out _).trans (hHeld.2.2.1)))))))))))))), ((cell_far (p := ⟨gb730, _, none⟩) NB728_730.out _).trans (((cell_far (p := ⟨gb730, _, none⟩) NB728_730.out _).trans (((cell_far (p := ⟨gb730, _, none⟩) NB728_730.out _).trans (((cell_far (p := ⟨gb730, _, none⟩) NB728_730.out _).trans (((cell_far (p := ⟨gb730, _, none⟩) NB728_730.out _).trans (((cell_far (p := ⟨gb730, _, none⟩) NB728_730.out _).trans (((cell_far (p := ⟨gb730, _, none⟩) NB728_730.out _).trans (hHeld.2.2.2.1)))))))))))))), ((cell_far (p := ⟨gb730, _, none⟩) NB728_730.out _).trans (((cell_far (p := ⟨gb730, _, none⟩) NB728_730.out _).trans (((cell_far (p := ⟨gb730, _, none⟩) NB728_730.out _).trans (((cell_far (p := ⟨gb730, _, none⟩) NB728_730.out _).trans (((cell_far (p := ⟨gb730, _, none⟩) NB728_730.out _).trans (((cell_far (p := ⟨gb730, _, none⟩) NB728_730.out _).trans (((cell_far (p := ⟨gb730, _, none⟩) NB728_730.out _).trans (hHeld.2.2.2.2.1)))))))))))))), ((cell_far (p := ⟨gb730, _, none⟩) NB728_730.out _).trans (((cell_far (p := ⟨gb730, _, none⟩) NB728_730.out _).trans (((cell_far (p := ⟨gb730, _, none⟩) NB728_730.out _).trans (((cell_far (p := ⟨gb730, _, none⟩) NB728_730.out _).trans (((cell_far (p := ⟨gb730, _, none⟩) NB728_730.out _).trans (((cell_far (p := ⟨gb730, _, none⟩) NB728_730.out _).trans (((cell_far (p := ⟨gb730, _, none⟩) NB728_730.out _).trans (hHeld.2.2.2.2.2.1)))))))))))))), ((cell_far (p := ⟨gb730, _, none⟩) NB728_730.out _).trans (((cell_far (p := ⟨gb730, _, none⟩) NB728_730.out _).trans (((cell_far (p := ⟨gb730, _, none⟩) NB728_730.out _).trans (((cell_far (p := ⟨gb730, _, none⟩) NB728_730.out _).trans (((cell_far (p := ⟨gb730, _, none⟩) NB728_730.out _).trans (((cell_far (p := ⟨gb730, _, none⟩) NB728_730.out _).trans (((cell_far (p := ⟨gb730, _, none⟩) NB728_730.out _).trans (hHeld.2.2.2.2.2.2))))))))))))))⟩ (fun hHeld => ?_)
                    clear hK K
                    refine pure_ (i := 15) (N := some 5) (v := ?_) (a' := ?_) #[true, true, true, true, true, true, true, true, true, true, true, true, true, true, true, true, false] rfl rfl (any_of HT_.out (by kernel_rfl)) (fun _ _ _ h => h) (Or.inl ⟨by rfl, ?_⟩) ?_ ?_
                    rotate_left
                    · intro w'
                      go_simp
                      with_reducible rfl
                    rotate_left
                    · simp only [Act.put, List.setIfInBounds_toArray, List.set_cons_zero, List.set_cons_succ, i64_w, i32_w]
                      rfl
                    refine pure_ (i := 16) (N := some 6) (v := ?_) (a' := ?_) #[true, true, true, true, true, true, true, true, true, true, true, true, true, true, true, true, true] rfl rfl (any_of HT_.out (by kernel_rfl)) (fun _ _ _ h => h) (Or.inl ⟨by rfl, ?_⟩) ?_ ?_
                    rotate_left
                    · intro w'
                      go_simp
                      with_reducible rfl
                    rotate_left
                    · simp only [Act.put, List.setIfInBounds_toArray, List.set_cons_zero, List.set_cons_succ, i64_w, i32_w]
                      rfl
                    refine done_ (done_of HT_.out (by kernel_rfl)) ?_
                    try go_wp2
                    refine bodyPost_ret (results_ctt rfl _ _ gb730 73 #[.int .i64 a0_0, .int .i64 a0_1, .string a0_2, .int .i64 a1_3, .string a1_4, .int .i64 a0_5, .string a0_6] (0, 0) _ rfl (by (with_reducible repeat (first | refine blk_drewN ?_ _ | refine blk_drew ?_ | refine blk_alloc ?_ _)); refine blk_put (cs := #[.int .i64 a0_0, .int .i64 a0_1, .string a0_2, .int .i64 a1_3, .string a1_4, .int .i64 a0_5, .string (⟨#[]⟩ : ByteArray)]) ?_ 6 _ rfl; (with_reducible repeat (first | refine blk_drewN ?_ _ | refine blk_drew ?_ | refine blk_alloc ?_ _)); refine blk_put (cs := #[.int .i64 a0_0, .int .i64 a0_1, .string a0_2, .int .i64 a1_3, .string a1_4, .int .i64 0, .string (⟨#[]⟩ : ByteArray)]) ?_ 5 _ rfl; (with_reducible repeat (first | refine blk_drewN ?_ _ | refine blk_drew ?_ | refine blk_alloc ?_ _)); refine blk_put (cs := #[.int .i64 a0_0, .int .i64 a0_1, .string a0_2, .int .i64 a1_3, .string (⟨#[]⟩ : ByteArray), .int .i64 0, .string (⟨#[]⟩ : ByteArray)]) ?_ 4 _ rfl; (with_reducible repeat (first | refine blk_drewN ?_ _ | refine blk_drew ?_ | refine blk_alloc ?_ _)); refine blk_put (cs := #[.int .i64 a0_0, .int .i64 a0_1, .string a0_2, .int .i64 0, .string (⟨#[]⟩ : ByteArray), .int .i64 0, .string (⟨#[]⟩ : ByteArray)]) ?_ 3 _ rfl; (with_reducible repeat (first | refine blk_drewN ?_ _ | refine blk_drew ?_ | refine blk_alloc ?_ _)); refine blk_put (cs := #[.int .i64 a0_0, .int .i64 a0_1, .string (⟨#[]⟩ : ByteArray), .int .i64 0, .string (⟨#[]⟩ : ByteArray), .int .i64 0, .string (⟨#[]⟩ : ByteArray)]) ?_ 2 _ rfl; (with_reducible repeat (first | refine blk_drewN ?_ _ | refine blk_drew ?_ | refine blk_alloc ?_ _)); refine blk_put (cs := #[.int .i64 a0_0, .int .i64 0, .string (⟨#[]⟩ : ByteArray), .int .i64 0, .string (⟨#[]⟩ : ByteArray), .int .i64 0, .string (⟨#[]⟩ : ByteArray)]) ?_ 1 _ rfl; (with_reducible repeat (first | refine blk_drewN ?_ _ | refine blk_drew ?_ | refine blk_alloc ?_ _)); refine blk_put (cs := #[.int .i64 0, .int .i64 0, .string (⟨#[]⟩ : ByteArray), .int .i64 0, .string (⟨#[]⟩ : ByteArray), .int .i64 0, .string (⟨#[]⟩ : ByteArray)]) ?_ 0 _ rfl; (with_reducible repeat (first | refine blk_drewN ?_ _ | refine blk_drew ?_ | refine blk_alloc ?_ _)); exact BK730.out) Try.underlying73 rfl (by kernel_rfl)) rfl ?_
                    exact ⟨by first | rfl | (simp [errW_none, errW_some] <;> rfl) | (simp [*, errW_none, errW_some] <;> rfl), by repeat (first | (with_reducible first | exact HB.out | apply below_alloc | apply pw_below_drewN | apply below_drew1 | refine below_set ?_ GE728.out | refine below_set ?_ GE729.out | refine below_set ?_ GE730.out) | exact HB.out)⟩
                  · rw [if_neg c86] at H
                    have c86b0 : (a0_1 == a1_3) = false := beq_eq_false_iff_ne.mpr c86
                    have c86b1 : (a0_1 != a1_3) = true := bne_iff_ne.mpr c86
                    simp only [Option.some.injEq, Prod.mk.injEq] at H
                    obtain ⟨rfl, rfl, rfl, rfl, rfl, rfl, rfl, rfl, rfl⟩ := H
                    have hnb104 := NB728_729.out
                    have hnc104 := NB729_728.out
                    have hnb105 := NB728_730.out
                    have hnc105 := NB730_728.out
                    have hcz106_0 : wc.cell? ⟨gb728, 0, none⟩ = some (.int .i64 a0_0) := (blk_cell BK728.out 0).trans rfl
                    have hcz106_1 : wc.cell? ⟨gb728, 1, none⟩ = some (.int .i64 a0_1) := (blk_cell BK728.out 1).trans rfl
                    have hcz106_2 : wc.cell? ⟨gb728, 2, none⟩ = some (.string a0_2) := (blk_cell BK728.out 2).trans rfl
                    have hcz106_3 : wc.cell? ⟨gb728, 3, none⟩ = some (.int .i64 a0_3) := (blk_cell BK728.out 3).trans rfl
                    have hcz106_4 : wc.cell? ⟨gb728, 4, none⟩ = some (.string a0_4) := (blk_cell BK728.out 4).trans rfl
                    have hcz106_5 : wc.cell? ⟨gb728, 5, none⟩ = some (.int .i64 a0_5) := (blk_cell BK728.out 5).trans rfl
                    have hcz106_6 : wc.cell? ⟨gb728, 6, none⟩ = some (.string a0_6) := (blk_cell BK728.out 6).trans rfl
                    have hfz106_0 := blk_frozen BK728.out 0
                    have hfz106_1 := blk_frozen BK728.out 1
                    have hfz106_2 := blk_frozen BK728.out 2
                    have hfz106_3 := blk_frozen BK728.out 3
                    have hfz106_4 := blk_frozen BK728.out 4
                    have hfz106_5 := blk_frozen BK728.out 5
                    have hfz106_6 := blk_frozen BK728.out 6
                    have hnb107 := NB729_730.out
                    have hnc107 := NB730_729.out
                    have hcz108_0 : wc.cell? ⟨gb729, 0, none⟩ = some (.int .i64 a1_0) := (blk_cell BK729.out 0).trans rfl
                    have hcz108_1 : wc.cell? ⟨gb729, 1, none⟩ = some (.int .i64 a1_1) := (blk_cell BK729.out 1).trans rfl
                    have hcz108_2 : wc.cell? ⟨gb729, 2, none⟩ = some (.string a1_2) := (blk_cell BK729.out 2).trans rfl
                    have hcz108_3 : wc.cell? ⟨gb729, 3, none⟩ = some (.int .i64 a1_3) := (blk_cell BK729.out 3).trans rfl
                    have hcz108_4 : wc.cell? ⟨gb729, 4, none⟩ = some (.string a1_4) := (blk_cell BK729.out 4).trans rfl
                    have hcz108_5 : wc.cell? ⟨gb729, 5, none⟩ = some (.int .i64 a1_5) := (blk_cell BK729.out 5).trans rfl
                    have hcz108_6 : wc.cell? ⟨gb729, 6, none⟩ = some (.string a1_6) := (blk_cell BK729.out 6).trans rfl
                    have hfz108_0 := blk_frozen BK729.out 0
                    have hfz108_1 := blk_frozen BK729.out 1
                    have hfz108_2 := blk_frozen BK729.out 2
                    have hfz108_3 := blk_frozen BK729.out 3
                    have hfz108_4 := blk_frozen BK729.out 4
                    have hfz108_5 := blk_frozen BK729.out 5
                    have hfz108_6 := blk_frozen BK729.out 6
                    try go_wp2
                    have n0_ := Aside0.mk (blk_drew BK728.out)
                    have n1_ := Aside0.mk (blk_drew BK729.out)
                    have n2_ := Aside0.mk (blk_drew BK730.out)
                    have n3_ := Aside0.mk (below_drew1 HB.out)
                    clear BK728 BK729 BK730 HB; have BK728 := n0_; have BK729 := n1_; have BK730 := n2_; have HB := n3_; clear n0_ n1_ n2_ n3_
                    refine start_ (n := 8) (S := fun w' => w'.cell? ⟨gb729, 0, none⟩ = some (.int .i64 a1_0) ∧ w'.cell? ⟨gb729, 1, none⟩ = some (.int .i64 a1_1) ∧ w'.cell? ⟨gb729, 2, none⟩ = some (.string a1_2) ∧ w'.cell? ⟨gb729, 3, none⟩ = some (.int .i64 a1_3) ∧ w'.cell? ⟨gb729, 4, none⟩ = some (.string a1_4) ∧ w'.cell? ⟨gb729, 5, none⟩ = some (.int .i64 a1_5) ∧ w'.cell? ⟨gb729, 6, none⟩ = some (.string a1_6)) (ds := []) #[false, false, false, false, false, false, false, false] (by kernel_rfl) rfl rfl ⟨(blk_cell BK729.out 0).trans rfl, (blk_cell BK729.out 1).trans rfl, (blk_cell BK729.out 2).trans rfl, (blk_cell BK729.out 3).trans rfl, (blk_cell BK729.out 4).trans rfl, (blk_cell BK729.out 5).trans rfl, (blk_cell BK729.out 6).trans rfl⟩ (fun hHeld => ?_); refine with_tabW impl_combined.tab11 impl_combined.bits11 (fun HT_ HW_ => ?_)
                    generalize wc.drew = w109 at BK728 BK729 BK730 HB hHeld ⊢
                    refine pure_ (i := 0) (N := some 59) (v := ?_) (a' := ?_) #[true, false, false, false, false, false, false, false] rfl rfl (any_of HT_.out (by kernel_rfl)) (fun _ _ _ h => h) (Or.inl ⟨by rfl, ?_⟩) ?_ ?_
                    rotate_left
                    · intro w'
                      go_simp
                      with_reducible rfl
                    rotate_left
                    · simp only [Act.put, List.setIfInBounds_toArray, List.set_cons_zero, List.set_cons_succ, i64_w, i32_w]
                      rfl
                    refine pure_ (i := 2) (N := some 61) (v := ?_) (a' := ?_) #[true, false, true, false, false, false, false, false] rfl rfl (any_of HT_.out (by kernel_rfl)) (fun _ _ _ h => h) (Or.inl ⟨by rfl, ?_⟩) ?_ ?_
                    rotate_left
                    · intro w'
                      go_simp
                      with_reducible rfl
                    rotate_left
                    · simp only [Act.put, List.setIfInBounds_toArray, List.set_cons_zero, List.set_cons_succ, i64_w, i32_w]
                      rfl
                    refine take_ (i := 1) (N := some 60) (v := ?_) (a' := ?_) #[true, true, true, false, false, false, false, false] rfl rfl (take_ofW HT_.out HW_.out (by kernel_rfl)) (fun _ _ _ h => h) (Or.inl ⟨by rfl, ?_⟩) hHeld ?_ ?_
                    rotate_left
                    · rintro w' ⟨s0, s1, s2, s3, s4, s5, s6⟩
                      go_simp
                      with_reducible rfl
                    rotate_left
                    · simp only [Act.put, List.setIfInBounds_toArray, List.set_cons_zero, List.set_cons_succ, i64_w, i32_w]
                      rfl
                    refine pure_ (i := 4) (N := some 63) (v := ?_) (a' := ?_) #[true, true, true, false, true, false, false, false] rfl rfl (any_of HT_.out (by kernel_rfl)) (fun _ _ _ h => h) (Or.inl ⟨by rfl, ?_⟩) ?_ ?_
                    rotate_left
                    · intro w'
                      go_simp
                      with_reducible rfl
                    rotate_left
                    · simp only [Act.put, List.setIfInBounds_toArray, List.set_cons_zero, List.set_cons_succ, i64_w, i32_w]
                      rfl
                    refine take_ (i := 3) (N := some 62) (v := ?_) (a' := ?_) #[true, true, true, true, true, false, false, false] rfl rfl (take_ofW HT_.out HW_.out (by kernel_rfl)) (fun _ _ _ h => h) (Or.inl ⟨by rfl, ?_⟩) hHeld ?_ ?_
                    rotate_left
                    · rintro w' ⟨s0, s1, s2, s3, s4, s5, s6⟩
                      go_simp
                      with_reducible rfl
                    rotate_left
                    · simp only [Act.put, List.setIfInBounds_toArray, List.set_cons_zero, List.set_cons_succ, i64_w, i32_w]
                      rfl
                    refine one_ (i := 5) (N := none) #[true, true, true, true, true, true, false, false] rfl rfl (one_of HT_.out (by kernel_rfl)) (by decide) (fun K hK => ?_)
                    have hs110 : w109.cell? ⟨gb728, 3, none⟩ = some (.int .i64 a0_3) := (blk_cell BK728.out 3).trans rfl
                    have hfs110 := blk_frozen BK728.out 3
                    have hns110_1 := NB729_728.out
                    have hns110_2 := NB730_728.out
                    have hms110_1 := NB728_729.out
                    have hms110_2 := NB728_730.out
                    refine skip_ (w1 := ?_) (by rfl) rfl ?_ ?_
                    rotate_left
                    · go_simp
                      rfl
                    refine hK.out _ _ ⟨((cell_far (p := ⟨gb728, _, none⟩) NB729_728.out _).trans (hHeld.1)), ((cell_far (p := ⟨gb728, _, none⟩) NB729_728.out _).trans (hHeld.2.1)), ((cell_far (p := ⟨gb728, _, none⟩) NB729_728.out _).trans (hHeld.2.2.1)), ((cell_far (p := ⟨gb728, _, none⟩) NB729_728.out _).trans (hHeld.2.2.2.1)), ((cell_far (p := ⟨gb728, _, none⟩) NB729_728.out _).trans (hHeld.2.2.2.2.1)), ((cell_far (p := ⟨gb728, _, none⟩) NB729_728.out _).trans (hHeld.2.2.2.2.2.1)), ((cell_far (p := ⟨gb728, _, none⟩) NB729_728.out _).trans (hHeld.2.2.2.2.2.2))⟩ (fun hHeld => ?_)
                    clear hK K
                    refine pure_ (i := 6) (N := some 64) (v := ?_) (a' := ?_) #[true, true, true, true, true, true, true, false] rfl rfl (any_of HT_.out (by kernel_rfl)) (fun _ _ _ h => h) (Or.inl ⟨by rfl, ?_⟩) ?_ ?_
                    rotate_left
                    · intro w'
                      go_simp
                      with_reducible rfl
                    rotate_left
                    · simp only [Act.put, List.setIfInBounds_toArray, List.set_cons_zero, List.set_cons_succ, i64_w, i32_w]
                      rfl
                    refine one_ (i := 7) (N := none) #[true, true, true, true, true, true, true, true] rfl rfl (one_of HT_.out (by kernel_rfl)) (by decide) (fun K hK => ?_)
                    have hs111 : w109.cell? ⟨gb728, 4, none⟩ = some (.string a0_4) := (blk_cell BK728.out 4).trans rfl
                    have hfs111 := blk_frozen BK728.out 4
                    have hns111_1 := NB729_728.out
                    have hns111_2 := NB730_728.out
                    have hms111_1 := NB728_729.out
                    have hms111_2 := NB728_730.out
                    refine skip_ (w1 := ?_) (by rfl) rfl ?_ ?_
                    rotate_left
                    · go_simp
                      rfl
                    refine hK.out _ _ ⟨((cell_far (p := ⟨gb728, _, none⟩) NB729_728.out _).trans (hHeld.1)), ((cell_far (p := ⟨gb728, _, none⟩) NB729_728.out _).trans (hHeld.2.1)), ((cell_far (p := ⟨gb728, _, none⟩) NB729_728.out _).trans (hHeld.2.2.1)), ((cell_far (p := ⟨gb728, _, none⟩) NB729_728.out _).trans (hHeld.2.2.2.1)), ((cell_far (p := ⟨gb728, _, none⟩) NB729_728.out _).trans (hHeld.2.2.2.2.1)), ((cell_far (p := ⟨gb728, _, none⟩) NB729_728.out _).trans (hHeld.2.2.2.2.2.1)), ((cell_far (p := ⟨gb728, _, none⟩) NB729_728.out _).trans (hHeld.2.2.2.2.2.2))⟩ (fun hHeld => ?_)
                    clear hK K
                    refine done_ (done_of HT_.out (by kernel_rfl)) ?_
                    try go_wp2
                    have n0_ : Aside0 (((w109.setCell ⟨gb728, 3, none⟩ (.int .i64 a1_3)).setCell ⟨gb728, 4, none⟩ (.string a1_4)).heap[gb728]? = some (.cells #[.int .i64 a0_0, .int .i64 a0_1, .string a0_2, .int .i64 a1_3, .string a1_4, .int .i64 a0_5, .string a0_6] 73 (0, 0))) := ⟨by (with_reducible repeat (first | refine blk_drewN ?_ _ | refine blk_drew ?_ | refine blk_alloc ?_ _)); refine blk_put (cs := #[.int .i64 a0_0, .int .i64 a0_1, .string a0_2, .int .i64 a1_3, .string a0_4, .int .i64 a0_5, .string a0_6]) ?_ 4 _ rfl; (with_reducible repeat (first | refine blk_drewN ?_ _ | refine blk_drew ?_ | refine blk_alloc ?_ _)); refine blk_put (cs := #[.int .i64 a0_0, .int .i64 a0_1, .string a0_2, .int .i64 a0_3, .string a0_4, .int .i64 a0_5, .string a0_6]) ?_ 3 _ rfl; (with_reducible repeat (first | refine blk_drewN ?_ _ | refine blk_drew ?_ | refine blk_alloc ?_ _)); exact BK728.out⟩
                    have n1_ : Aside0 (((w109.setCell ⟨gb728, 3, none⟩ (.int .i64 a1_3)).setCell ⟨gb728, 4, none⟩ (.string a1_4)).heap[gb729]? = some (.cells #[.int .i64 a1_0, .int .i64 a1_1, .string a1_2, .int .i64 a1_3, .string a1_4, .int .i64 a1_5, .string a1_6] 73 (0, 0))) := ⟨by (with_reducible repeat (first | refine blk_drewN ?_ _ | refine blk_drew ?_ | refine blk_alloc ?_ _)); refine blk_far ?_ NB729_728.out _; (with_reducible repeat (first | refine blk_drewN ?_ _ | refine blk_drew ?_ | refine blk_alloc ?_ _)); refine blk_far ?_ NB729_728.out _; (with_reducible repeat (first | refine blk_drewN ?_ _ | refine blk_drew ?_ | refine blk_alloc ?_ _)); exact BK729.out⟩
                    have n2_ : Aside0 (((w109.setCell ⟨gb728, 3, none⟩ (.int .i64 a1_3)).setCell ⟨gb728, 4, none⟩ (.string a1_4)).heap[gb730]? = some (.cells #[.int .i64 0, .int .i64 0, .string (⟨#[]⟩ : ByteArray), .int .i64 0, .string (⟨#[]⟩ : ByteArray), .int .i64 0, .string (⟨#[]⟩ : ByteArray)] 73 (0, 0))) := ⟨by (with_reducible repeat (first | refine blk_drewN ?_ _ | refine blk_drew ?_ | refine blk_alloc ?_ _)); refine blk_far ?_ NB730_728.out _; (with_reducible repeat (first | refine blk_drewN ?_ _ | refine blk_drew ?_ | refine blk_alloc ?_ _)); refine blk_far ?_ NB730_728.out _; (with_reducible repeat (first | refine blk_drewN ?_ _ | refine blk_drew ?_ | refine blk_alloc ?_ _)); exact BK730.out⟩
                    have n3_ : Aside0 (Below w.heap.size w ((w109.setCell ⟨gb728, 3, none⟩ (.int .i64 a1_3)).setCell ⟨gb728, 4, none⟩ (.string a1_4))) := ⟨by repeat (first | (with_reducible first | exact HB.out | apply below_alloc | apply pw_below_drewN | apply below_drew1 | refine below_set ?_ GE728.out | refine below_set ?_ GE729.out | refine below_set ?_ GE730.out) | exact HB.out)⟩
                    (try clear BK728); (try clear BK729); (try clear BK730); (try clear HB)
                    generalize ((w109.setCell ⟨gb728, 3, none⟩ (.int .i64 a1_3)).setCell ⟨gb728, 4, none⟩ (.string a1_4)) = w112 at n0_ n1_ n2_ n3_ ⊢
                    have BK728 := n0_; have BK729 := n1_; have BK730 := n2_; have HB := n3_; clear n0_ n1_ n2_ n3_
                    have n0_ := Aside0.mk (blk_drew BK728.out)
                    have n1_ := Aside0.mk (blk_drew BK729.out)
                    have n2_ := Aside0.mk (blk_drew BK730.out)
                    have n3_ := Aside0.mk (below_drew1 HB.out)
                    clear BK728 BK729 BK730 HB; have BK728 := n0_; have BK729 := n1_; have BK730 := n2_; have HB := n3_; clear n0_ n1_ n2_ n3_
                    refine start_ (n := 17) (S := fun w' => w'.cell? ⟨gb728, 0, none⟩ = some (.int .i64 a0_0) ∧ w'.cell? ⟨gb728, 1, none⟩ = some (.int .i64 a0_1) ∧ w'.cell? ⟨gb728, 2, none⟩ = some (.string a0_2) ∧ w'.cell? ⟨gb728, 3, none⟩ = some (.int .i64 a1_3) ∧ w'.cell? ⟨gb728, 4, none⟩ = some (.string a1_4) ∧ w'.cell? ⟨gb728, 5, none⟩ = some (.int .i64 a0_5) ∧ w'.cell? ⟨gb728, 6, none⟩ = some (.string a0_6)) (ds := []) #[false, false, false, false, false, false, false, false, false, false, false, false, false, false, false, false, false] (by kernel_rfl) rfl rfl ⟨(blk_cell BK728.out 0).trans rfl, (blk_cell BK728.out 1).trans rfl, (blk_cell BK728.out 2).trans rfl, (blk_cell BK728.out 3).trans rfl, (blk_cell BK728.out 4).trans rfl, (blk_cell BK728.out 5).trans rfl, (blk_cell BK728.out 6).trans rfl⟩ (fun hHeld => ?_); refine with_tabW impl_combined.tab12 impl_combined.bits12 (fun HT_ HW_ => ?_)
                    generalize w112.drew = w113 at BK728 BK729 BK730 HB hHeld ⊢
                    refine pure_ (i := 1) (N := some 66) (v := ?_) (a' := ?_) #[false, true, false, false, false, false, false, false, false, false, false, false, false, false, false, false, false] rfl rfl (any_of HT_.out (by kernel_rfl)) (fun _ _ _ h => h) (Or.inl ⟨by rfl, ?_⟩) ?_ ?_
                    rotate_left
                    · intro w'
                      go_simp
                      with_reducible rfl
                    rotate_left
                    · simp only [Act.put, List.setIfInBounds_toArray, List.set_cons_zero, List.set_cons_succ, i64_w, i32_w]
                      rfl
                    refine pure_ (i := 2) (N := some 67) (v := ?_) (a' := ?_) #[false, true, true, false, false, false, false, false, false, false, false, false, false, false, false, false, false] rfl rfl (any_of HT_.out (by kernel_rfl)) (fun _ _ _ h => h) (Or.inl ⟨by rfl, ?_⟩) ?_ ?_
                    rotate_left
                    · intro w'
                      go_simp
                      with_reducible rfl
                    rotate_left
                    · simp only [Act.put, List.setIfInBounds_toArray, List.set_cons_zero, List.set_cons_succ, i64_w, i32_w]
                      rfl
                    refine pure_ (i := 4) (N := some 69) (v := ?_) (a' := ?_) #[false, true, true, false, true, false, false, false, false, false, false, false, false, false, false, false, false] rfl rfl (any_of HT_.out (by kernel_rfl)) (fun _ _ _ h => h) (Or.inl ⟨by rfl, ?_⟩) ?_ ?_
                    rotate_left
                    · intro w'
                      go_simp
                      with_reducible rfl
                    rotate_left
                    · simp only [Act.put, List.setIfInBounds_toArray, List.set_cons_zero, List.set_cons_succ, i64_w, i32_w]
                      rfl
                    refine take_ (i := 0) (N := some 65) (v := ?_) (a' := ?_) #[true, true, true, false, true, false, false, false, false, false, false, false, false, false, false, false, false] rfl rfl (take_ofW HT_.out HW_.out (by kernel_rfl)) (fun _ _ _ h => h) (Or.inl ⟨by rfl, ?_⟩) hHeld ?_ ?_
                    rotate_left
                    · rintro w' ⟨s0, s1, s2, s3, s4, s5, s6⟩
                      go_simp
                      with_reducible rfl
                    rotate_left
                    · simp only [Act.put, List.setIfInBounds_toArray, List.set_cons_zero, List.set_cons_succ, i64_w, i32_w]
                      rfl
                    refine take_ (i := 3) (N := some 68) (v := ?_) (a' := ?_) #[true, true, true, true, true, false, false, false, false, false, false, false, false, false, false, false, false] rfl rfl (take_ofW HT_.out HW_.out (by kernel_rfl)) (fun _ _ _ h => h) (Or.inl ⟨by rfl, ?_⟩) hHeld ?_ ?_
                    rotate_left
                    · rintro w' ⟨s0, s1, s2, s3, s4, s5, s6⟩
                      go_simp
                      with_reducible rfl
                    rotate_left
                    · simp only [Act.put, List.setIfInBounds_toArray, List.set_cons_zero, List.set_cons_succ, i64_w, i32_w]
                      rfl
                    refine take_ (i := 5) (N := some 70) (v := ?_) (a' := ?_) #[true, true, true, true, true, true, false, false, false, false, false, false, false, false, false, false, false] rfl rfl (take_ofW HT_.out HW_.out (by kernel_rfl)) (fun _ _ _ h => h) (Or.inl ⟨by rfl, ?_⟩) hHeld ?_ ?_
                    rotate_left
                    · rintro w' ⟨s0, s1, s2, s3, s4, s5, s6⟩
                      go_simp
                      with_reducible rfl
                    rotate_left
                    · simp only [Act.put, List.setIfInBounds_toArray, List.set_cons_zero, List.set_cons_succ, i64_w, i32_w]
                      rfl
                    refine pure_ (i := 6) (N := some 71) (v := ?_) (a' := ?_) #[true, true, true, true, true, true, true, false, false, false, false, false, false, false, false, false, false] rfl rfl (any_of HT_.out (by kernel_rfl)) (fun _ _ _ h => h) (Or.inl ⟨by rfl, ?_⟩) ?_ ?_
                    rotate_left
                    · intro w'
                      go_simp
                      with_reducible rfl
                    rotate_left
                    · simp only [Act.put, List.setIfInBounds_toArray, List.set_cons_zero, List.set_cons_succ, i64_w, i32_w]
                      rfl
                    refine pure_ (i := 7) (N := some 72) (v := ?_) (a' := ?_) #[true, true, true, true, true, true, true, true, false, false, false, false, false, false, false, false, false] rfl rfl (any_of HT_.out (by kernel_rfl)) (fun _ _ _ h => h) (Or.inl ⟨by rfl, ?_⟩) ?_ ?_
                    rotate_left
                    · intro w'
                      go_simp
                      with_reducible rfl
                    rotate_left
                    · simp only [Act.put, List.setIfInBounds_toArray, List.set_cons_zero, List.set_cons_succ, i64_w, i32_w]
                      rfl
                    refine pure_ (i := 8) (N := some 73) (v := undef) (a' := ?_) #[true, true, true, true, true, true, true, true, true, false, false, false, false, false, false, false, false] rfl rfl (any_of HT_.out (by kernel_rfl)) (fun _ _ _ h => h) (Or.inr ⟨by rfl, rfl⟩) ?_ ?_
                    rotate_left
                    · simp only [Act.put, List.setIfInBounds_toArray, List.set_cons_zero, List.set_cons_succ, i64_w, i32_w]
                      rfl
                    refine pure_ (i := 9) (N := some 74) (v := undef) (a' := ?_) #[true, true, true, true, true, true, true, true, true, true, false, false, false, false, false, false, false] rfl rfl (any_of HT_.out (by kernel_rfl)) (fun _ _ _ h => h) (Or.inr ⟨by rfl, rfl⟩) ?_ ?_
                    rotate_left
                    · simp only [Act.put, List.setIfInBounds_toArray, List.set_cons_zero, List.set_cons_succ, i64_w, i32_w]
                      rfl
                    refine pure_ (i := 10) (N := some 75) (v := undef) (a' := ?_) #[true, true, true, true, true, true, true, true, true, true, true, false, false, false, false, false, false] rfl rfl (any_of HT_.out (by kernel_rfl)) (fun _ _ _ h => h) (Or.inr ⟨by rfl, rfl⟩) ?_ ?_
                    rotate_left
                    · simp only [Act.put, List.setIfInBounds_toArray, List.set_cons_zero, List.set_cons_succ, i64_w, i32_w]
                      rfl
                    refine pure_ (i := 11) (N := some 76) (v := undef) (a' := ?_) #[true, true, true, true, true, true, true, true, true, true, true, true, false, false, false, false, false] rfl rfl (any_of HT_.out (by kernel_rfl)) (fun _ _ _ h => h) (Or.inr ⟨by rfl, rfl⟩) ?_ ?_
                    rotate_left
                    · simp only [Act.put, List.setIfInBounds_toArray, List.set_cons_zero, List.set_cons_succ, i64_w, i32_w]
                      rfl
                    refine pure_ (i := 12) (N := some 77) (v := undef) (a' := ?_) #[true, true, true, true, true, true, true, true, true, true, true, true, true, false, false, false, false] rfl rfl (any_of HT_.out (by kernel_rfl)) (fun _ _ _ h => h) (Or.inr ⟨by rfl, rfl⟩) ?_ ?_
                    rotate_left
                    · simp only [Act.put, List.setIfInBounds_toArray, List.set_cons_zero, List.set_cons_succ, i64_w, i32_w]
                      rfl
                    refine pure_ (i := 13) (N := some 78) (v := ?_) (a' := ?_) #[true, true, true, true, true, true, true, true, true, true, true, true, true, true, false, false, false] rfl rfl (any_of HT_.out (by kernel_rfl)) (fun _ _ _ h => h) (Or.inl ⟨by rfl, ?_⟩) ?_ ?_
                    rotate_left
                    · intro w'
                      go_simp
                      with_reducible rfl
                    rotate_left
                    · simp only [Act.put, List.setIfInBounds_toArray, List.set_cons_zero, List.set_cons_succ, i64_w, i32_w]
                      rfl
                    refine one_ (i := 14) (N := none) #[true, true, true, true, true, true, true, true, true, true, true, true, true, true, true, false, false] rfl rfl (one_of HT_.out (by kernel_rfl)) (by decide) (fun K hK => ?_)
                    have hs114 : w113.cell? ⟨gb730, 0, none⟩ = some (.int .i64 0) := (blk_cell BK730.out 0).trans rfl
                    have hfs114 := blk_frozen BK730.out 0
                    have hns114_0 := NB728_730.out
                    have hns114_1 := NB729_730.out
                    have hms114_0 := NB730_728.out
                    have hms114_1 := NB730_729.out
                    have hs115 : w113.cell? ⟨gb730, 1, none⟩ = some (.int .i64 0) := (blk_cell BK730.out 1).trans rfl
                    have hfs115 := blk_frozen BK730.out 1
                    have hns115_0 := NB728_730.out
                    have hns115_1 := NB729_730.out
                    have hms115_0 := NB730_728.out
                    have hms115_1 := NB730_729.out
                    have hs116 : w113.cell? ⟨gb730, 2, none⟩ = some (.string (⟨#[]⟩ : ByteArray)) := (blk_cell BK730.out 2).trans rfl
                    have hfs116 := blk_frozen BK730.out 2
                    have hns116_0 := NB728_730.out
                    have hns116_1 := NB729_730.out
                    have hms116_0 := NB730_728.out
                    have hms116_1 := NB730_729.out
                    have hs117 : w113.cell? ⟨gb730, 3, none⟩ = some (.int .i64 0) := (blk_cell BK730.out 3).trans rfl
                    have hfs117 := blk_frozen BK730.out 3
                    have hns117_0 := NB728_730.out
                    have hns117_1 := NB729_730.out
                    have hms117_0 := NB730_728.out
                    have hms117_1 := NB730_729.out
                    have hs118 : w113.cell? ⟨gb730, 4, none⟩ = some (.string (⟨#[]⟩ : ByteArray)) := (blk_cell BK730.out 4).trans rfl
                    have hfs118 := blk_frozen BK730.out 4
                    have hns118_0 := NB728_730.out
                    have hns118_1 := NB729_730.out
                    have hms118_0 := NB730_728.out
                    have hms118_1 := NB730_729.out
                    have hs119 : w113.cell? ⟨gb730, 5, none⟩ = some (.int .i64 0) := (blk_cell BK730.out 5).trans rfl
                    have hfs119 := blk_frozen BK730.out 5
                    have hns119_0 := NB728_730.out
                    have hns119_1 := NB729_730.out
                    have hms119_0 := NB730_728.out
                    have hms119_1 := NB730_729.out
                    have hs120 : w113.cell? ⟨gb730, 6, none⟩ = some (.string (⟨#[]⟩ : ByteArray)) := (blk_cell BK730.out 6).trans rfl
                    have hfs120 := blk_frozen BK730.out 6
                    have hns120_0 := NB728_730.out
                    have hns120_1 := NB729_730.out
                    have hms120_0 := NB730_728.out
                    have hms120_1 := NB730_729.out
                    refine skip_ (w1 := ?_) (by rfl) rfl ?_ ?_
                    rotate_left
                    · go_simp
                      rfl
                    refine hK.out _ _ ⟨((cell_far (p := ⟨gb730, _, none⟩) NB728_730.out _).trans (((cell_far (p := ⟨gb730, _, none⟩) NB728_730.out _).trans (((cell_far (p := ⟨gb730, _, none⟩) NB728_730.out _).trans (((cell_far (p := ⟨gb730, _, none⟩) NB728_730.out _).trans (((cell_far (p := ⟨gb730, _, none⟩) NB728_730.out _).trans (((cell_far (p := ⟨gb730, _, none⟩) NB728_730.out _).trans (((cell_far (p := ⟨gb730, _, none⟩) NB728_730.out _).trans (hHeld.1)))))))))))))), ((cell_far (p := ⟨gb730, _, none⟩) NB728_730.out _).trans (((cell_far (p := ⟨gb730, _, none⟩) NB728_730.out _).trans (((cell_far (p := ⟨gb730, _, none⟩) NB728_730.out _).trans (((cell_far (p := ⟨gb730, _, none⟩) NB728_730.out _).trans (((cell_far (p := ⟨gb730, _, none⟩) NB728_730.out _).trans (((cell_far (p := ⟨gb730, _, none⟩) NB728_730.out _).trans (((cell_far (p := ⟨gb730, _, none⟩) NB728_730.out _).trans (hHeld.2.1)))))))))))))), ((cell_far (p := ⟨gb730, _, none⟩) NB728_730.out _).trans (((cell_far (p := ⟨gb730, _, none⟩) NB728_730.out _).trans (((cell_far (p := ⟨gb730, _, none⟩) NB728_730.out _).trans (((cell_far (p := ⟨gb730, _, none⟩) NB728_730.out _).trans (((cell_far (p := ⟨gb730, _, none⟩) NB728_730.out _).trans (((cell_far (p := ⟨gb730, _, none⟩) NB728_730.out _).trans (((cell_far (p := ⟨gb730, _, none⟩) NB728_730.out _).trans (hHeld.2.2.1)))))))))))))), ((cell_far (p := ⟨gb730, _, none⟩) NB728_730.out _).trans (((cell_far (p := ⟨gb730, _, none⟩) NB728_730.out _).trans (((cell_far (p := ⟨gb730, _, none⟩) NB728_730.out _).trans (((cell_far (p := ⟨gb730, _, none⟩) NB728_730.out _).trans (((cell_far (p := ⟨gb730, _, none⟩) NB728_730.out _).trans (((cell_far (p := ⟨gb730, _, none⟩) NB728_730.out _).trans (((cell_far (p := ⟨gb730, _, none⟩) NB728_730.out _).trans (hHeld.2.2.2.1)))))))))))))), ((cell_far (p := ⟨gb730, _, none⟩) NB728_730.out _).trans (((cell_far (p := ⟨gb730, _, none⟩) NB728_730.out _).trans (((cell_far (p := ⟨gb730, _, none⟩) NB728_730.out _).trans (((cell_far (p := ⟨gb730, _, none⟩) NB728_730.out _).trans (((cell_far (p := ⟨gb730, _, none⟩) NB728_730.out _).trans (((cell_far (p := ⟨gb730, _, none⟩) NB728_730.out _).trans (((cell_far (p := ⟨gb730, _, none⟩) NB728_730.out _).trans (hHeld.2.2.2.2.1)))))))))))))), ((cell_far (p := ⟨gb730, _, none⟩) NB728_730.out _).trans (((cell_far (p := ⟨gb730, _, none⟩) NB728_730.out _).trans (((cell_far (p := ⟨gb730, _, none⟩) NB728_730.out _).trans (((cell_far (p := ⟨gb730, _, none⟩) NB728_730.out _).trans (((cell_far (p := ⟨gb730, _, none⟩) NB728_730.out _).trans (((cell_far (p := ⟨gb730, _, none⟩) NB728_730.out _).trans (((cell_far (p := ⟨gb730, _, none⟩) NB728_730.out _).trans (hHeld.2.2.2.2.2.1)))))))))))))), ((cell_far (p := ⟨gb730, _, none⟩) NB728_730.out _).trans (((cell_far (p := ⟨gb730, _, none⟩) NB728_730.out _).trans (((cell_far (p := ⟨gb730, _, none⟩) NB728_730.out _).trans (((cell_far (p := ⟨gb730, _, none⟩) NB728_730.out _).trans (((cell_far (p := ⟨gb730, _, none⟩) NB728_730.out _).trans (((cell_far (p := ⟨gb730, _, none⟩) NB728_730.out _).trans (((cell_far (p := ⟨gb730, _, none⟩) NB728_730.out _).trans (hHeld.2.2.2.2.2.2))))))))))))))⟩ (fun hHeld => ?_)
                    clear hK K
                    refine pure_ (i := 15) (N := some 5) (v := ?_) (a' := ?_) #[true, true, true, true, true, true, true, true, true, true, true, true, true, true, true, true, false] rfl rfl (any_of HT_.out (by kernel_rfl)) (fun _ _ _ h => h) (Or.inl ⟨by rfl, ?_⟩) ?_ ?_
                    rotate_left
                    · intro w'
                      go_simp
                      with_reducible rfl
                    rotate_left
                    · simp only [Act.put, List.setIfInBounds_toArray, List.set_cons_zero, List.set_cons_succ, i64_w, i32_w]
                      rfl
                    refine pure_ (i := 16) (N := some 6) (v := ?_) (a' := ?_) #[true, true, true, true, true, true, true, true, true, true, true, true, true, true, true, true, true] rfl rfl (any_of HT_.out (by kernel_rfl)) (fun _ _ _ h => h) (Or.inl ⟨by rfl, ?_⟩) ?_ ?_
                    rotate_left
                    · intro w'
                      go_simp
                      with_reducible rfl
                    rotate_left
                    · simp only [Act.put, List.setIfInBounds_toArray, List.set_cons_zero, List.set_cons_succ, i64_w, i32_w]
                      rfl
                    refine done_ (done_of HT_.out (by kernel_rfl)) ?_
                    try go_wp2
                    refine bodyPost_ret (results_ctt rfl _ _ gb730 73 #[.int .i64 a0_0, .int .i64 a0_1, .string a0_2, .int .i64 a1_3, .string a1_4, .int .i64 a0_5, .string a0_6] (0, 0) _ rfl (by (with_reducible repeat (first | refine blk_drewN ?_ _ | refine blk_drew ?_ | refine blk_alloc ?_ _)); refine blk_put (cs := #[.int .i64 a0_0, .int .i64 a0_1, .string a0_2, .int .i64 a1_3, .string a1_4, .int .i64 a0_5, .string (⟨#[]⟩ : ByteArray)]) ?_ 6 _ rfl; (with_reducible repeat (first | refine blk_drewN ?_ _ | refine blk_drew ?_ | refine blk_alloc ?_ _)); refine blk_put (cs := #[.int .i64 a0_0, .int .i64 a0_1, .string a0_2, .int .i64 a1_3, .string a1_4, .int .i64 0, .string (⟨#[]⟩ : ByteArray)]) ?_ 5 _ rfl; (with_reducible repeat (first | refine blk_drewN ?_ _ | refine blk_drew ?_ | refine blk_alloc ?_ _)); refine blk_put (cs := #[.int .i64 a0_0, .int .i64 a0_1, .string a0_2, .int .i64 a1_3, .string (⟨#[]⟩ : ByteArray), .int .i64 0, .string (⟨#[]⟩ : ByteArray)]) ?_ 4 _ rfl; (with_reducible repeat (first | refine blk_drewN ?_ _ | refine blk_drew ?_ | refine blk_alloc ?_ _)); refine blk_put (cs := #[.int .i64 a0_0, .int .i64 a0_1, .string a0_2, .int .i64 0, .string (⟨#[]⟩ : ByteArray), .int .i64 0, .string (⟨#[]⟩ : ByteArray)]) ?_ 3 _ rfl; (with_reducible repeat (first | refine blk_drewN ?_ _ | refine blk_drew ?_ | refine blk_alloc ?_ _)); refine blk_put (cs := #[.int .i64 a0_0, .int .i64 a0_1, .string (⟨#[]⟩ : ByteArray), .int .i64 0, .string (⟨#[]⟩ : ByteArray), .int .i64 0, .string (⟨#[]⟩ : ByteArray)]) ?_ 2 _ rfl; (with_reducible repeat (first | refine blk_drewN ?_ _ | refine blk_drew ?_ | refine blk_alloc ?_ _)); refine blk_put (cs := #[.int .i64 a0_0, .int .i64 0, .string (⟨#[]⟩ : ByteArray), .int .i64 0, .string (⟨#[]⟩ : ByteArray), .int .i64 0, .string (⟨#[]⟩ : ByteArray)]) ?_ 1 _ rfl; (with_reducible repeat (first | refine blk_drewN ?_ _ | refine blk_drew ?_ | refine blk_alloc ?_ _)); refine blk_put (cs := #[.int .i64 0, .int .i64 0, .string (⟨#[]⟩ : ByteArray), .int .i64 0, .string (⟨#[]⟩ : ByteArray), .int .i64 0, .string (⟨#[]⟩ : ByteArray)]) ?_ 0 _ rfl; (with_reducible repeat (first | refine blk_drewN ?_ _ | refine blk_drew ?_ | refine blk_alloc ?_ _)); exact BK730.out) Try.underlying73 rfl (by kernel_rfl)) rfl ?_
                    exact ⟨by first | rfl | (simp [errW_none, errW_some] <;> rfl) | (simp [*, errW_none, errW_some] <;> rfl), by repeat (first | (with_reducible first | exact HB.out | apply below_alloc | apply pw_below_drewN | apply below_drew1 | refine below_set ?_ GE728.out | refine below_set ?_ GE729.out | refine below_set ?_ GE730.out) | exact HB.out)⟩
              · rw [if_neg c49] at H
                have c49b0 : (a0_0 == 4) = false := beq_eq_false_iff_ne.mpr c49
                have c49b1 : (a0_0 != 4) = true := bne_iff_ne.mpr c49
                simp only [Option.some.injEq, Prod.mk.injEq] at H
                obtain ⟨rfl, rfl, rfl, rfl, rfl, rfl, rfl, rfl, rfl⟩ := H
                have hnb121 := NB730_728.out
                have hnc121 := NB728_730.out
                have hnb122 := NB730_729.out
                have hnc122 := NB729_730.out
                have hcz123_0 : wc.cell? ⟨gb730, 0, none⟩ = some (.int .i64 0) := (blk_cell BK730.out 0).trans rfl
                have hcz123_1 : wc.cell? ⟨gb730, 1, none⟩ = some (.int .i64 0) := (blk_cell BK730.out 1).trans rfl
                have hcz123_2 : wc.cell? ⟨gb730, 2, none⟩ = some (.string (⟨#[]⟩ : ByteArray)) := (blk_cell BK730.out 2).trans rfl
                have hcz123_3 : wc.cell? ⟨gb730, 3, none⟩ = some (.int .i64 0) := (blk_cell BK730.out 3).trans rfl
                have hcz123_4 : wc.cell? ⟨gb730, 4, none⟩ = some (.string (⟨#[]⟩ : ByteArray)) := (blk_cell BK730.out 4).trans rfl
                have hcz123_5 : wc.cell? ⟨gb730, 5, none⟩ = some (.int .i64 0) := (blk_cell BK730.out 5).trans rfl
                have hcz123_6 : wc.cell? ⟨gb730, 6, none⟩ = some (.string (⟨#[]⟩ : ByteArray)) := (blk_cell BK730.out 6).trans rfl
                have hfz123_0 := blk_frozen BK730.out 0
                have hfz123_1 := blk_frozen BK730.out 1
                have hfz123_2 := blk_frozen BK730.out 2
                have hfz123_3 := blk_frozen BK730.out 3
                have hfz123_4 := blk_frozen BK730.out 4
                have hfz123_5 := blk_frozen BK730.out 5
                have hfz123_6 := blk_frozen BK730.out 6
                go_wp2
                refine bodyPost_ret (results_ctt rfl _ _ gb730 73 #[.int .i64 0, .int .i64 0, .string (⟨#[]⟩ : ByteArray), .int .i64 0, .string (⟨#[]⟩ : ByteArray), .int .i64 0, .string (⟨#[]⟩ : ByteArray)] (0, 0) _ rfl (by (with_reducible repeat (first | refine blk_drewN ?_ _ | refine blk_drew ?_ | refine blk_alloc ?_ _)); refine blk_put (cs := #[.int .i64 0, .int .i64 0, .string (⟨#[]⟩ : ByteArray), .int .i64 0, .string (⟨#[]⟩ : ByteArray), .int .i64 0, .string (⟨#[]⟩ : ByteArray)]) ?_ 6 _ rfl; (with_reducible repeat (first | refine blk_drewN ?_ _ | refine blk_drew ?_ | refine blk_alloc ?_ _)); refine blk_put (cs := #[.int .i64 0, .int .i64 0, .string (⟨#[]⟩ : ByteArray), .int .i64 0, .string (⟨#[]⟩ : ByteArray), .int .i64 0, .string (⟨#[]⟩ : ByteArray)]) ?_ 5 _ rfl; (with_reducible repeat (first | refine blk_drewN ?_ _ | refine blk_drew ?_ | refine blk_alloc ?_ _)); refine blk_put (cs := #[.int .i64 0, .int .i64 0, .string (⟨#[]⟩ : ByteArray), .int .i64 0, .string (⟨#[]⟩ : ByteArray), .int .i64 0, .string (⟨#[]⟩ : ByteArray)]) ?_ 4 _ rfl; (with_reducible repeat (first | refine blk_drewN ?_ _ | refine blk_drew ?_ | refine blk_alloc ?_ _)); refine blk_put (cs := #[.int .i64 0, .int .i64 0, .string (⟨#[]⟩ : ByteArray), .int .i64 0, .string (⟨#[]⟩ : ByteArray), .int .i64 0, .string (⟨#[]⟩ : ByteArray)]) ?_ 3 _ rfl; (with_reducible repeat (first | refine blk_drewN ?_ _ | refine blk_drew ?_ | refine blk_alloc ?_ _)); refine blk_put (cs := #[.int .i64 0, .int .i64 0, .string (⟨#[]⟩ : ByteArray), .int .i64 0, .string (⟨#[]⟩ : ByteArray), .int .i64 0, .string (⟨#[]⟩ : ByteArray)]) ?_ 2 _ rfl; (with_reducible repeat (first | refine blk_drewN ?_ _ | refine blk_drew ?_ | refine blk_alloc ?_ _)); refine blk_put (cs := #[.int .i64 0, .int .i64 0, .string (⟨#[]⟩ : ByteArray), .int .i64 0, .string (⟨#[]⟩ : ByteArray), .int .i64 0, .string (⟨#[]⟩ : ByteArray)]) ?_ 1 _ rfl; (with_reducible repeat (first | refine blk_drewN ?_ _ | refine blk_drew ?_ | refine blk_alloc ?_ _)); refine blk_put (cs := #[.int .i64 0, .int .i64 0, .string (⟨#[]⟩ : ByteArray), .int .i64 0, .string (⟨#[]⟩ : ByteArray), .int .i64 0, .string (⟨#[]⟩ : ByteArray)]) ?_ 0 _ rfl; (with_reducible repeat (first | refine blk_drewN ?_ _ | refine blk_drew ?_ | refine blk_alloc ?_ _)); exact BK730.out) Try.underlying73 rfl (by kernel_rfl)) rfl ?_
                exact ⟨by first | rfl | (simp [errW_none, errW_some] <;> rfl) | (simp [*, errW_none, errW_some] <;> rfl), by repeat (first | (with_reducible first | exact HB.out | apply below_alloc | apply pw_below_drewN | apply below_drew1 | refine below_set ?_ GE728.out | refine below_set ?_ GE729.out | refine below_set ?_ GE730.out) | exact HB.out)⟩
end Go.Proofs.Ytlaichooanflaaa.Q
