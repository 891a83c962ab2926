/- Part 1 of what the proof of FnExactSlimMoves uses: plain functions with the answers of the Go functions, the proofs that the calls come to them, and plain lemmas. -/
import Derived.Test.YtlaichooanflaaaVFnExactSlimMoves0
namespace Go.Proofs.Ytlaichooanflaaa.Q
open Go.RowKit Go.Proofs.YtlaichooanflaaaW.PrintWords Go.Proofs.YtlaichooanflaaaW.PrintLast Go.Proofs.YtlaichooanflaaaW.PrintMore
attribute [local go_sem] Go.Proofs.Ytlaichooanflaaa.Mem.str_leq Go.Proofs.Ytlaichooanflaaa.Mem.str_gtr Go.Proofs.Ytlaichooanflaaa.Mem.str_geq max2_int min2_int max_two min_two max_three min_three max_four min_four   -- for this text's walks alone
set_option linter.unusedVariables false
set_option linter.unusedSimpArgs false
mutual
def spec_OpOk.j0 : Nat → Bool → Int → Int → ByteArray → Int → ByteArray → Int → ByteArray → Option (Bool)
  | 0, _, _, _, _, _, _, _, _ => none
  | k + 1, x3, x153000, x153001, x153002, x153003, x153004, x153005, x153006 => (spec_l1Id.f x153001).bind fun t154 => (if t154 = true then ((spec_TreeWord.f k x153002).bind fun t155 => (spec_OpOk.j1 k x3 t155 x153000 x153001 x153002 x153003 x153004 x153005 x153006)) else (spec_OpOk.j1 k x3 false x153000 x153001 x153002 x153003 x153004 x153005 x153006))
def spec_OpOk.j1 : Nat → Bool → Bool → Int → Int → ByteArray → Int → ByteArray → Int → ByteArray → Option (Bool)
  | 0, _, _, _, _, _, _, _, _, _ => none
  | k + 1, x3, x4, x153000, x153001, x153002, x153003, x153004, x153005, x153006 => (spec_l1Id.f x153003).bind fun t156 => (if t156 = true then ((spec_TreeWord.f k x153004).bind fun t157 => (spec_OpOk.j2 k x3 x4 t157 x153000 x153001 x153002 x153003 x153004 x153005 x153006)) else (spec_OpOk.j2 k x3 x4 false x153000 x153001 x153002 x153003 x153004 x153005 x153006))
def spec_OpOk.j2 : Nat → Bool → Bool → Bool → Int → Int → ByteArray → Int → ByteArray → Int → ByteArray → Option (Bool)
  | 0, _, _, _, _, _, _, _, _, _, _ => none
  | k + 1, x3, x4, x5, x153000, x153001, x153002, x153003, x153004, x153005, x153006 => if x153003 = 0 then (spec_OpOk.j3 k x3 x4 x5 (x153004.toList == ([] : List UInt8)) x153000 x153001 x153002 x153003 x153004 x153005 x153006) else (spec_OpOk.j3 k x3 x4 x5 false x153000 x153001 x153002 x153003 x153004 x153005 x153006)
def spec_OpOk.j3 : Nat → Bool → Bool → Bool → Bool → Int → Int → ByteArray → Int → ByteArray → Int → ByteArray → Option (Bool)
  | 0, _, _, _, _, _, _, _, _, _, _, _ => none
  | k + 1, x3, x4, x5, x6, x153000, x153001, x153002, x153003, x153004, x153005, x153006 => if x153000 = 1 then (spec_OpOk.j4 k x3 x4 x5 x6 x153000 (x153000 == 1) x153000 x153001 x153002 x153003 x153004 x153005 x153006) else (if x153000 = 2 then (spec_OpOk.j4 k x3 x4 x5 x6 x153000 (x153000 == 2) x153000 x153001 x153002 x153003 x153004 x153005 x153006) else (spec_OpOk.j4 k x3 x4 x5 x6 x153000 (x153000 == 3) x153000 x153001 x153002 x153003 x153004 x153005 x153006))
def spec_OpOk.j4 : Nat → Bool → Bool → Bool → Bool → Int → Bool → Int → Int → ByteArray → Int → ByteArray → Int → ByteArray → Option (Bool)
  | 0, _, _, _, _, _, _, _, _, _, _, _, _, _ => none
  | k + 1, x3, x4, x5, x6, x40, x41, x153000, x153001, x153002, x153003, x153004, x153005, x153006 => if x41 = true then (if x3 = true then (if x4 = true then (if x6 = true then (some (x153006.toList == ([] : List UInt8))) else (some false)) else (some false)) else (some false)) else (if x40 = 4 then (if x3 = true then (if x4 = true then (if x5 = true then (some (x153006.toList == ([] : List UInt8))) else (some false)) else (some false)) else (some false)) else (if x40 = 5 then (if x3 = true then (if x153001 = 0 then (if x153002.toList = ([] : List UInt8) then (if x6 = true then ((spec_TreeBody.f k x153006).bind fun t158 => (some t158)) else (some false)) else (some false)) else (some false)) else (some false)) else (some false)))
end
def spec_OpOk.f (k : Nat) (a0_0 : Int) (a0_1 : Int) (a0_2 : ByteArray) (a0_3 : Int) (a0_4 : ByteArray) (a0_5 : Int) (a0_6 : ByteArray) : Option (Bool) := if a0_5 ≥ 1 then ((spec_l1Id.f a0_5).bind fun t153 => (spec_OpOk.j0 k t153 a0_0 a0_1 a0_2 a0_3 a0_4 a0_5 a0_6)) else (spec_OpOk.j0 k false a0_0 a0_1 a0_2 a0_3 a0_4 a0_5 a0_6)
set_option maxHeartbeats 8000000 in
set_option maxRecDepth 100000 in
theorem spec_OpOk.calls (k : Nat) (a0_0 : Int) (a0_1 : Int) (a0_2 : ByteArray) (a0_3 : Int) (a0_4 : ByteArray) (a0_5 : Int) (a0_6 : ByteArray) (r : Bool) (w : World) (h : spec_OpOk.f k a0_0 a0_1 a0_2 a0_3 a0_4 a0_5 a0_6 = some r) :
    Calls Try.prog 79 #[.agg #[.int .i64 a0_0, .int .i64 a0_1, .string a0_2, .int .i64 a0_3, .string a0_4, .int .i64 a0_5, .string a0_6]] w fun e w' => e = .returned (.bool r) ∧ Below w.heap.size w w' := by
  have hu73 := Try.underlying73
  have HB := Aside0.mk (Below.refl w.heap.size w)
  have H : (if a0_5 ≥ 1 then ((spec_l1Id.f a0_5).bind fun t153 => (spec_OpOk.j0 k t153 a0_0 a0_1 a0_2 a0_3 a0_4 a0_5 a0_6)) else (spec_OpOk.j0 k false a0_0 a0_1 a0_2 a0_3 a0_4 a0_5 a0_6)) = some r := h
  clear h
  have HC2 := Aside0.mk H
  clear H
  go_enter Try.func79, Try.ntmps79
  go_upto_region 1 with (first | ((with_reducible refine gate_dst (N := 1) rfl ?_); refine box_event ?hg (N := 1) ?hd (cs := #[.int .i64 a0_0, .int .i64 a0_1, .string a0_2, .int .i64 a0_3, .string a0_4, .int .i64 a0_5, .string a0_6]) (t := 73) ?hr ?_; (case hd => rfl); (case hg => rfl); (case hr => first | (go_simp; done) | (go_simp; rfl)); intro gb152 hg w3 hbox hb; have n0_ := Aside0.mk (below_step (by repeat (first | (with_reducible first | exact HB.out | apply below_alloc | apply pw_below_drewN | apply below_drew1) | exact HB.out)) hb); have n1_ := Aside0.mk (hbox); have n2_ := Aside0.mk ((by rw [hg]; exact (below_size (by repeat (first | (with_reducible first | exact HB.out | apply below_alloc | apply pw_below_drewN | apply below_drew1) | exact HB.out))) : w.heap.size ≤ gb152)); have n3_ := Aside0.mk ((by rw [hg]; exact (below_size (by repeat (first | (with_reducible first | exact HB.out | apply below_alloc | apply pw_below_drewN | apply below_drew1) | exact HB.out))) : w.heap.size ≤ gb152)); clear HB; have HB := n0_; have BK152 := n1_; have GW152 := n2_; have GE152 := n3_; clear n0_ n1_ n2_ n3_; clear hb hbox hg))
  (try simp only [Act.put, List.setIfInBounds_toArray, List.set_cons_zero, List.set_cons_succ])
  go_cut [3] (fun v3 wc => ∃ (kq : Nat) (x3_1 : Bool), v3 = .bool x3_1 ∧ Aside0 (spec_OpOk.j0 kq x3_1 a0_0 a0_1 a0_2 a0_3 a0_4 a0_5 a0_6 = some r) ∧ Aside0 (kq ≤ k) ∧ Aside0 (wc.heap[gb152]? = some (.cells #[.int .i64 a0_0, .int .i64 a0_1, .string a0_2, .int .i64 a0_3, .string a0_4, .int .i64 a0_5, .string a0_6] 73 (0, 0))) ∧ Aside0 (Below w.heap.size w wc))
  case first =>
    have H := HC2.out
    clear HC2
    by_cases c4 : a0_5 ≥ 1
    · rw [if_pos c4] at H
      have c4b0 : decide (1 ≤ a0_5) = true := decide_eq_true c4
      clear c4
      (first | rw [c4b0] | (simp only [i64_w, i32_w]; rw [c4b0]) | skip)
      replace H := Option.bind_eq_some_iff.mp H
      obtain ⟨t153, A50, H⟩ := H
      replace H : (spec_OpOk.j0 k t153 a0_0 a0_1 a0_2 a0_3 a0_4 a0_5 a0_6) = some r := H
      have A5 := Aside0.mk A50
      clear A50
      have H' := Aside0.mk H
      clear H
      have hcz6_0 : w3.cell? ⟨gb152, 0, none⟩ = some (.int .i64 a0_0) := (blk_cell BK152.out 0).trans rfl
      have hcz6_1 : w3.cell? ⟨gb152, 1, none⟩ = some (.int .i64 a0_1) := (blk_cell BK152.out 1).trans rfl
      have hcz6_2 : w3.cell? ⟨gb152, 2, none⟩ = some (.string a0_2) := (blk_cell BK152.out 2).trans rfl
      have hcz6_3 : w3.cell? ⟨gb152, 3, none⟩ = some (.int .i64 a0_3) := (blk_cell BK152.out 3).trans rfl
      have hcz6_4 : w3.cell? ⟨gb152, 4, none⟩ = some (.string a0_4) := (blk_cell BK152.out 4).trans rfl
      have hcz6_5 : w3.cell? ⟨gb152, 5, none⟩ = some (.int .i64 a0_5) := (blk_cell BK152.out 5).trans rfl
      have hcz6_6 : w3.cell? ⟨gb152, 6, none⟩ = some (.string a0_6) := (blk_cell BK152.out 6).trans rfl
      have hfz6_0 := blk_frozen BK152.out 0
      have hfz6_1 := blk_frozen BK152.out 1
      have hfz6_2 := blk_frozen BK152.out 2
      have hfz6_3 := blk_frozen BK152.out 3
      have hfz6_4 := blk_frozen BK152.out 4
      have hfz6_5 := blk_frozen BK152.out 5
      have hfz6_6 := blk_frozen BK152.out 6
      go_wp2_with (first | (go_at_call 107; (with_reducible refine (spec_l1Id.calls a0_5 t153 _ A5.out).mono ?_); rintro e w' ⟨rfl, ⟨nd, rfl⟩⟩))
      go_meet
      case rel => exact ⟨_, (t153), (by first | rfl | (simp; done) | (simp [*]; done)), H', ⟨by first | omega | exact Nat.le_refl _⟩, ⟨by (with_reducible repeat (first | refine blk_drewN ?_ _ | refine blk_drew ?_ | refine blk_alloc ?_ _)); exact BK152.out⟩, ⟨by repeat (first | (with_reducible first | exact HB.out | apply below_alloc | apply pw_below_drewN | apply below_drew1 | refine below_set ?_ GE152.out) | exact HB.out)⟩⟩
    · rw [if_neg c4] at H
      have c4b0 : decide (1 ≤ a0_5) = false := decide_eq_false c4
      clear c4
      (first | rw [c4b0] | (simp only [i64_w, i32_w]; rw [c4b0]) | skip)
      have H' := Aside0.mk H
      clear H
      have hcz7_0 : w3.cell? ⟨gb152, 0, none⟩ = some (.int .i64 a0_0) := (blk_cell BK152.out 0).trans rfl
      have hcz7_1 : w3.cell? ⟨gb152, 1, none⟩ = some (.int .i64 a0_1) := (blk_cell BK152.out 1).trans rfl
      have hcz7_2 : w3.cell? ⟨gb152, 2, none⟩ = some (.string a0_2) := (blk_cell BK152.out 2).trans rfl
      have hcz7_3 : w3.cell? ⟨gb152, 3, none⟩ = some (.int .i64 a0_3) := (blk_cell BK152.out 3).trans rfl
      have hcz7_4 : w3.cell? ⟨gb152, 4, none⟩ = some (.string a0_4) := (blk_cell BK152.out 4).trans rfl
      have hcz7_5 : w3.cell? ⟨gb152, 5, none⟩ = some (.int .i64 a0_5) := (blk_cell BK152.out 5).trans rfl
      have hcz7_6 : w3.cell? ⟨gb152, 6, none⟩ = some (.string a0_6) := (blk_cell BK152.out 6).trans rfl
      have hfz7_0 := blk_frozen BK152.out 0
      have hfz7_1 := blk_frozen BK152.out 1
      have hfz7_2 := blk_frozen BK152.out 2
      have hfz7_3 := blk_frozen BK152.out 3
      have hfz7_4 := blk_frozen BK152.out 4
      have hfz7_5 := blk_frozen BK152.out 5
      have hfz7_6 := blk_frozen BK152.out 6
      go_wp2
      go_meet
      case rel => exact ⟨_, (false), (by first | rfl | (simp; done) | (simp [*]; done)), H', ⟨by first | omega | exact Nat.le_refl _⟩, ⟨by (with_reducible repeat (first | refine blk_drewN ?_ _ | refine blk_drew ?_ | refine blk_alloc ?_ _)); exact BK152.out⟩, ⟨by repeat (first | (with_reducible first | exact HB.out | apply below_alloc | apply pw_below_drewN | apply below_drew1 | refine below_set ?_ GE152.out) | exact HB.out)⟩⟩
  case rest =>
    clear HC2; (try clear p2); (try clear c4); (try clear c4b0); (try clear c7); (try clear hcz6_0); (try clear hcz6_1); (try clear hcz6_2); (try clear hcz6_3); (try clear hcz6_4); (try clear hcz6_5); (try clear hcz6_6); (try clear hcz7_0); (try clear hcz7_1); (try clear hcz7_2); (try clear hcz7_3); (try clear hcz7_4); (try clear hcz7_5); (try clear hcz7_6); (try clear hfz6_0); (try clear hfz6_1); (try clear hfz6_2); (try clear hfz6_3); (try clear hfz6_4); (try clear hfz6_5); (try clear hfz6_6); (try clear hfz7_0); (try clear hfz7_1); (try clear hfz7_2); (try clear hfz7_3); (try clear hfz7_4); (try clear hfz7_5); (try clear hfz7_6)
    obtain ⟨kq, x3_1, rfl, HA, HJ1, BK152, HB⟩ := hcut
    cases kq with
    | zero => exact absurd HA.out (by simp [spec_OpOk.j0])
    | succ kj1 =>
      have H := HA.out
      clear HA
      simp only [spec_OpOk.j0] at H
      have HC8 := Aside0.mk H
      clear H
      go_upto_region 2 with (fail)
      go_cut [4] (fun v4 wc => ∃ (kq : Nat) (x4_7 : Bool), v4 = .bool x4_7 ∧ Aside0 (spec_OpOk.j1 kq x3_1 x4_7 a0_0 a0_1 a0_2 a0_3 a0_4 a0_5 a0_6 = some r) ∧ Aside0 (kq ≤ kj1) ∧ Aside0 (wc.heap[gb152]? = some (.cells #[.int .i64 a0_0, .int .i64 a0_1, .string a0_2, .int .i64 a0_3, .string a0_4, .int .i64 a0_5, .string a0_6] 73 (0, 0))) ∧ Aside0 (Below w.heap.size w wc))
      case first =>
        have H := HC8.out
        clear HC8
        replace H := Option.bind_eq_some_iff.mp H
        obtain ⟨t154, A90, H⟩ := H
        replace H : (if t154 = true then ((spec_TreeWord.f kj1 a0_2).bind fun t155 => (spec_OpOk.j1 kj1 x3_1 t155 a0_0 a0_1 a0_2 a0_3 a0_4 a0_5 a0_6)) else (spec_OpOk.j1 kj1 x3_1 false a0_0 a0_1 a0_2 a0_3 a0_4 a0_5 a0_6)) = some r := H
        have A9 := Aside0.mk A90
        clear A90
        by_cases c10 : t154 = true
        · subst c10
          have H1 : ((spec_TreeWord.f kj1 a0_2).bind fun t155 => (spec_OpOk.j1 kj1 x3_1 t155 a0_0 a0_1 a0_2 a0_3 a0_4 a0_5 a0_6)) = some r := by rw [if_pos rfl] at H; exact H
          clear H
          have H := H1
          clear H1
          replace H := Option.bind_eq_some_iff.mp H
          obtain ⟨t155, A110, H⟩ := H
          replace H : (spec_OpOk.j1 kj1 x3_1 t155 a0_0 a0_1 a0_2 a0_3 a0_4 a0_5 a0_6) = some r := H
          have A11 := Aside0.mk A110
          clear A110
          have H' := Aside0.mk H
          clear H
          have hcz12_0 : wc.cell? ⟨gb152, 0, none⟩ = some (.int .i64 a0_0) := (blk_cell BK152.out 0).trans rfl
          have hcz12_1 : wc.cell? ⟨gb152, 1, none⟩ = some (.int .i64 a0_1) := (blk_cell BK152.out 1).trans rfl
          have hcz12_2 : wc.cell? ⟨gb152, 2, none⟩ = some (.string a0_2) := (blk_cell BK152.out 2).trans rfl
          have hcz12_3 : wc.cell? ⟨gb152, 3, none⟩ = some (.int .i64 a0_3) := (blk_cell BK152.out 3).trans rfl
          have hcz12_4 : wc.cell? ⟨gb152, 4, none⟩ = some (.string a0_4) := (blk_cell BK152.out 4).trans rfl
          have hcz12_5 : wc.cell? ⟨gb152, 5, none⟩ = some (.int .i64 a0_5) := (blk_cell BK152.out 5).trans rfl
          have hcz12_6 : wc.cell? ⟨gb152, 6, none⟩ = some (.string a0_6) := (blk_cell BK152.out 6).trans rfl
          have hfz12_0 := blk_frozen BK152.out 0
          have hfz12_1 := blk_frozen BK152.out 1
          have hfz12_2 := blk_frozen BK152.out 2
          have hfz12_3 := blk_frozen BK152.out 3
          have hfz12_4 := blk_frozen BK152.out 4
          have hfz12_5 := blk_frozen BK152.out 5
          have hfz12_6 := blk_frozen BK152.out 6
          go_wp2_with (first | ((with_reducible refine gate_callee (f := 107) rfl ?_); refine goesL_ (some 17) rfl rfl Try.func107 (by kernel_rfl) rfl #[.int .i64 a0_1] rfl (by (try simp only [List.map_toArray, List.map_cons, List.map_nil]); first | done | rfl | (simp only [List.length_drop, List.length_take]; rfl)) ?_; (with_reducible refine (spec_l1Id.calls a0_1 true _ A9.out).mono ?_); rintro e w' ⟨rfl, ⟨nd, rfl⟩⟩; refine ⟨_, rfl, ?_⟩) | (go_at_call 138; (with_reducible refine (spec_TreeWord.calls kj1 a0_2 t155 _ A11.out).mono ?_); rintro e w' ⟨rfl, ⟨nd, rfl⟩⟩))
          go_meet
          case rel => exact ⟨_, (t155), (by first | rfl | (simp; done) | (simp [*]; done)), H', ⟨by have := HJ1.out; first | omega | exact Nat.le_refl _⟩, ⟨by (with_reducible repeat (first | refine blk_drewN ?_ _ | refine blk_drew ?_ | refine blk_alloc ?_ _)); exact BK152.out⟩, ⟨by repeat (first | (with_reducible first | exact HB.out | apply below_alloc | apply pw_below_drewN | apply below_drew1 | refine below_set ?_ GE152.out) | exact HB.out)⟩⟩
        · replace c10 := Bool.eq_false_iff.mpr c10
          subst c10
          have H1 : (spec_OpOk.j1 kj1 x3_1 false a0_0 a0_1 a0_2 a0_3 a0_4 a0_5 a0_6) = some r := by rw [if_neg (show ¬ (false = true) by decide)] at H; exact H
          clear H
          have H := H1
          clear H1
          have H' := Aside0.mk H
          clear H
          have hcz13_0 : wc.cell? ⟨gb152, 0, none⟩ = some (.int .i64 a0_0) := (blk_cell BK152.out 0).trans rfl
          have hcz13_1 : wc.cell? ⟨gb152, 1, none⟩ = some (.int .i64 a0_1) := (blk_cell BK152.out 1).trans rfl
          have hcz13_2 : wc.cell? ⟨gb152, 2, none⟩ = some (.string a0_2) := (blk_cell BK152.out 2).trans rfl
          have hcz13_3 : wc.cell? ⟨gb152, 3, none⟩ = some (.int .i64 a0_3) := (blk_cell BK152.out 3).trans rfl
          have hcz13_4 : wc.cell? ⟨gb152, 4, none⟩ = some (.string a0_4) := (blk_cell BK152.out 4).trans rfl
          have hcz13_5 : wc.cell? ⟨gb152, 5, none⟩ = some (.int .i64 a0_5) := (blk_cell BK152.out 5).trans rfl
          have hcz13_6 : wc.cell? ⟨gb152, 6, none⟩ = some (.string a0_6) := (blk_cell BK152.out 6).trans rfl
          have hfz13_0 := blk_frozen BK152.out 0
          have hfz13_1 := blk_frozen BK152.out 1
          have hfz13_2 := blk_frozen BK152.out 2
          have hfz13_3 := blk_frozen BK152.out 3
          have hfz13_4 := blk_frozen BK152.out 4
          have hfz13_5 := blk_frozen BK152.out 5
          have hfz13_6 := blk_frozen BK152.out 6
          go_wp2_with (first | ((with_reducible refine gate_callee (f := 107) rfl ?_); refine goesL_ (some 17) rfl rfl Try.func107 (by kernel_rfl) rfl #[.int .i64 a0_1] rfl (by (try simp only [List.map_toArray, List.map_cons, List.map_nil]); first | done | rfl | (simp only [List.length_drop, List.length_take]; rfl)) ?_; (with_reducible refine (spec_l1Id.calls a0_1 false _ A9.out).mono ?_); rintro e w' ⟨rfl, ⟨nd, rfl⟩⟩; refine ⟨_, rfl, ?_⟩))
          go_meet
          case rel => exact ⟨_, (false), (by first | rfl | (simp; done) | (simp [*]; done)), H', ⟨by have := HJ1.out; first | omega | exact Nat.le_refl _⟩, ⟨by (with_reducible repeat (first | refine blk_drewN ?_ _ | refine blk_drew ?_ | refine blk_alloc ?_ _)); exact BK152.out⟩, ⟨by repeat (first | (with_reducible first | exact HB.out | apply below_alloc | apply pw_below_drewN | apply below_drew1 | refine below_set ?_ GE152.out) | exact HB.out)⟩⟩
      case rest =>
        clear HC8; (try clear c1); (try clear p2); (try clear c4); (try clear c4b0); (try clear c7); (try clear c10); (try clear hcz12_0); (try clear hcz12_1); (try clear hcz12_2); (try clear hcz12_3); (try clear hcz12_4); (try clear hcz12_5); (try clear hcz12_6); (try clear hcz13_0); (try clear hcz13_1); (try clear hcz13_2); (try clear hcz13_3); (try clear hcz13_4); (try clear hcz13_5); (try clear hcz13_6); (try clear hcz6_0); (try clear hcz6_1); (try clear hcz6_2); (try clear hcz6_3); (try clear hcz6_4); (try clear hcz6_5); (try clear hcz6_6); (try clear hcz7_0); (try clear hcz7_1); (try clear hcz7_2); (try clear hcz7_3); (try clear hcz7_4); (try clear hcz7_5); (try clear hcz7_6); (try clear hfz12_0); (try clear hfz12_1); (try clear hfz12_2); (try clear hfz12_3); (try clear hfz12_4); (try clear hfz12_5); (try clear hfz12_6); (try clear hfz13_0); (try clear hfz13_1); (try clear hfz13_2); (try clear hfz13_3); (try clear hfz13_4); (try clear hfz13_5); (try clear hfz13_6); (try clear hfz6_0); (try clear hfz6_1); (try clear hfz6_2); (try clear hfz6_3); (try clear hfz6_4); (try clear hfz6_5); (try clear hfz6_6); (try clear hfz7_0); (try clear hfz7_1); (try clear hfz7_2); (try clear hfz7_3); (try clear hfz7_4); (try clear hfz7_5); (try clear hfz7_6); (try clear p2)
        obtain ⟨kq, x4_7, rfl, HA, HJ7, BK152, HB⟩ := hcut
        cases kq with
        | zero => exact absurd HA.out (by simp [spec_OpOk.j1])
        | succ kj7 =>
          have H := HA.out
          clear HA
          simp only [spec_OpOk.j1] at H
          have HC14 := Aside0.mk H
          clear H
          go_upto_region 3 with (fail)
          go_cut [5] (fun v5 wc => ∃ (kq : Nat) (x5_13 : Bool), v5 = .bool x5_13 ∧ Aside0 (spec_OpOk.j2 kq x3_1 x4_7 x5_13 a0_0 a0_1 a0_2 a0_3 a0_4 a0_5 a0_6 = some r) ∧ Aside0 (kq ≤ kj7) ∧ Aside0 (wc.heap[gb152]? = some (.cells #[.int .i64 a0_0, .int .i64 a0_1, .string a0_2, .int .i64 a0_3, .string a0_4, .int .i64 a0_5, .string a0_6] 73 (0, 0))) ∧ Aside0 (Below w.heap.size w wc))
          case first =>
            have H := HC14.out
            clear HC14
            replace H := Option.bind_eq_some_iff.mp H
            obtain ⟨t156, A150, H⟩ := H
            replace H : (if t156 = true then ((spec_TreeWord.f kj7 a0_4).bind fun t157 => (spec_OpOk.j2 kj7 x3_1 x4_7 t157 a0_0 a0_1 a0_2 a0_3 a0_4 a0_5 a0_6)) else (spec_OpOk.j2 kj7 x3_1 x4_7 false a0_0 a0_1 a0_2 a0_3 a0_4 a0_5 a0_6)) = some r := H
            have A15 := Aside0.mk A150
            clear A150
            by_cases c16 : t156 = true
            · subst c16
              have H1 : ((spec_TreeWord.f kj7 a0_4).bind fun t157 => (spec_OpOk.j2 kj7 x3_1 x4_7 t157 a0_0 a0_1 a0_2 a0_3 a0_4 a0_5 a0_6)) = some r := by rw [if_pos rfl] at H; exact H
              clear H
              have H := H1
              clear H1
              replace H := Option.bind_eq_some_iff.mp H
              obtain ⟨t157, A170, H⟩ := H
              replace H : (spec_OpOk.j2 kj7 x3_1 x4_7 t157 a0_0 a0_1 a0_2 a0_3 a0_4 a0_5 a0_6) = some r := H
              have A17 := Aside0.mk A170
              clear A170
              have H' := Aside0.mk H
              clear H
              have hcz18_0 : wc.cell? ⟨gb152, 0, none⟩ = some (.int .i64 a0_0) := (blk_cell BK152.out 0).trans rfl
              have hcz18_1 : wc.cell? ⟨gb152, 1, none⟩ = some (.int .i64 a0_1) := (blk_cell BK152.out 1).trans rfl
              have hcz18_2 : wc.cell? ⟨gb152, 2, none⟩ = some (.string a0_2) := (blk_cell BK152.out 2).trans rfl
              have hcz18_3 : wc.cell? ⟨gb152, 3, none⟩ = some (.int .i64 a0_3) := (blk_cell BK152.out 3).trans rfl
              have hcz18_4 : wc.cell? ⟨gb152, 4, none⟩ = some (.string a0_4) := (blk_cell BK152.out 4).trans rfl
              have hcz18_5 : wc.cell? ⟨gb152, 5, none⟩ = some (.int .i64 a0_5) := (blk_cell BK152.out 5).trans rfl
              have hcz18_6 : wc.cell? ⟨gb152, 6, none⟩ = some (.string a0_6) := (blk_cell BK152.out 6).trans rfl
              have hfz18_0 := blk_frozen BK152.out 0
              have hfz18_1 := blk_frozen BK152.out 1
              have hfz18_2 := blk_frozen BK152.out 2
              have hfz18_3 := blk_frozen BK152.out 3
              have hfz18_4 := blk_frozen BK152.out 4
              have hfz18_5 := blk_frozen BK152.out 5
              have hfz18_6 := blk_frozen BK152.out 6
              go_wp2_with (first | ((with_reducible refine gate_callee (f := 107) rfl ?_); refine goesL_ (some 25) rfl rfl Try.func107 (by kernel_rfl) rfl #[.int .i64 a0_3] rfl (by (try simp only [List.map_toArray, List.map_cons, List.map_nil]); first | done | rfl | (simp only [List.length_drop, List.length_take]; rfl)) ?_; (with_reducible refine (spec_l1Id.calls a0_3 true _ A15.out).mono ?_); rintro e w' ⟨rfl, ⟨nd, rfl⟩⟩; refine ⟨_, rfl, ?_⟩) | (go_at_call 138; (with_reducible refine (spec_TreeWord.calls kj7 a0_4 t157 _ A17.out).mono ?_); rintro e w' ⟨rfl, ⟨nd, rfl⟩⟩))
              go_meet
              case rel => exact ⟨_, (t157), (by first | rfl | (simp; done) | (simp [*]; done)), H', ⟨by have := HJ1.out; have := HJ7.out; first | omega | exact Nat.le_refl _⟩, ⟨by (with_reducible repeat (first | refine blk_drewN ?_ _ | refine blk_drew ?_ | refine blk_alloc ?_ _)); exact BK152.out⟩, ⟨by repeat (first | (with_reducible first | exact HB.out | apply below_alloc | apply pw_below_drewN | apply below_drew1 | refine below_set ?_ GE152.out) | exact HB.out)⟩⟩
            · replace c16 := Bool.eq_false_iff.mpr c16
              subst c16
              have H1 : (spec_OpOk.j2 kj7 x3_1 x4_7 false a0_0 a0_1 a0_2 a0_3 a0_4 a0_5 a0_6) = some r := by rw [if_neg (show ¬ (false = true) by decide)] at H; exact H
              clear H
              have H := H1
              clear H1
              have H' := Aside0.mk H
              clear H
              have hcz19_0 : wc.cell? ⟨gb152, 0, none⟩ = some (.int .i64 a0_0) := (blk_cell BK152.out 0).trans rfl
              have hcz19_1 : wc.cell? ⟨gb152, 1, none⟩ = some (.int .i64 a0_1) := (blk_cell BK152.out 1).trans rfl
              have hcz19_2 : wc.cell? ⟨gb152, 2, none⟩ = some (.string a0_2) := (blk_cell BK152.out 2).trans rfl
              have hcz19_3 : wc.cell? ⟨gb152, 3, none⟩ = some (.int .i64 a0_3) := (blk_cell BK152.out 3).trans rfl
              have hcz19_4 : wc.cell? ⟨gb152, 4, none⟩ = some (.string a0_4) := (blk_cell BK152.out 4).trans rfl
              have hcz19_5 : wc.cell? ⟨gb152, 5, none⟩ = some (.int .i64 a0_5) := (blk_cell BK152.out 5).trans rfl
              have hcz19_6 : wc.cell? ⟨gb152, 6, none⟩ = some (.string a0_6) := (blk_cell BK152.out 6).trans rfl
              have hfz19_0 := blk_frozen BK152.out 0
              have hfz19_1 := blk_frozen BK152.out 1
              have hfz19_2 := blk_frozen BK152.out 2
              have hfz19_3 := blk_frozen BK152.out 3
              have hfz19_4 := blk_frozen BK152.out 4
              have hfz19_5 := blk_frozen BK152.out 5
              have hfz19_6 := blk_frozen BK152.out 6
              go_wp2_with (first | ((with_reducible refine gate_callee (f := 107) rfl ?_); refine goesL_ (some 25) rfl rfl Try.func107 (by kernel_rfl) rfl #[.int .i64 a0_3] rfl (by (try simp only [List.map_toArray, List.map_cons, List.map_nil]); first | done | rfl | (simp only [List.length_drop, List.length_take]; rfl)) ?_; (with_reducible refine (spec_l1Id.calls a0_3 false _ A15.out).mono ?_); rintro e w' ⟨rfl, ⟨nd, rfl⟩⟩; refine ⟨_, rfl, ?_⟩))
              go_meet
              case rel => exact ⟨_, (false), (by first | rfl | (simp; done) | (simp [*]; done)), H', ⟨by have := HJ1.out; have := HJ7.out; first | omega | exact Nat.le_refl _⟩, ⟨by (with_reducible repeat (first | refine blk_drewN ?_ _ | refine blk_drew ?_ | refine blk_alloc ?_ _)); exact BK152.out⟩, ⟨by repeat (first | (with_reducible first | exact HB.out | apply below_alloc | apply pw_below_drewN | apply below_drew1 | refine below_set ?_ GE152.out) | exact HB.out)⟩⟩
          case rest =>
            clear HC14; (try clear c1); (try clear p2); (try clear c4); (try clear c4b0); (try clear c7); (try clear c10); (try clear c16); (try clear hcz12_0); (try clear hcz12_1); (try clear hcz12_2); (try clear hcz12_3); (try clear hcz12_4); (try clear hcz12_5); (try clear hcz12_6); (try clear hcz13_0); (try clear hcz13_1); (try clear hcz13_2); (try clear hcz13_3); (try clear hcz13_4); (try clear hcz13_5); (try clear hcz13_6); (try clear hcz18_0); (try clear hcz18_1); (try clear hcz18_2); (try clear hcz18_3); (try clear hcz18_4); (try clear hcz18_5); (try clear hcz18_6); (try clear hcz19_0); (try clear hcz19_1); (try clear hcz19_2); (try clear hcz19_3); (try clear hcz19_4); (try clear hcz19_5); (try clear hcz19_6); (try clear hcz6_0); (try clear hcz6_1); (try clear hcz6_2); (try clear hcz6_3); (try clear hcz6_4); (try clear hcz6_5); (try clear hcz6_6); (try clear hcz7_0); (try clear hcz7_1); (try clear hcz7_2); (try clear hcz7_3); (try clear hcz7_4); (try clear hcz7_5); (try clear hcz7_6); (try clear hfz12_0); (try clear hfz12_1); (try clear hfz12_2); (try clear hfz12_3); (try clear hfz12_4); (try clear hfz12_5); (try clear hfz12_6); (try clear hfz13_0); (try clear hfz13_1); (try clear hfz13_2); (try clear hfz13_3); (try clear hfz13_4); (try clear hfz13_5); (try clear hfz13_6); (try clear hfz18_0); (try clear hfz18_1); (try clear hfz18_2); (try clear hfz18_3); (try clear hfz18_4); (try clear hfz18_5); (try clear hfz18_6); (try clear hfz19_0); (try clear hfz19_1); (try clear hfz19_2); (try clear hfz19_3); (try clear hfz19_4); (try clear hfz19_5); (try clear hfz19_6); (try clear hfz6_0); (try clear hfz6_1); (try clear hfz6_2); (try clear hfz6_3); (try clear hfz6_4); (try clear hfz6_5); (try clear hfz6_6); (try clear hfz7_0); (try clear hfz7_1); (try clear hfz7_2); (try clear hfz7_3); (try clear hfz7_4); (try clear hfz7_5); (try clear hfz7_6); (try clear p2)
            obtain ⟨kq, x5_13, rfl, HA, HJ13, BK152, HB⟩ := hcut
            cases kq with
            | zero => exact absurd HA.out (by simp [spec_OpOk.j2])
            | succ kj13 =>
              have H := HA.out
              clear HA
              simp only [spec_OpOk.j2] at H
              have HC20 := Aside0.mk H
              clear H
              go_upto_region 4 with (fail)
              go_cut [6] (fun v6 wc => ∃ (kq : Nat) (x6_19 : Bool), v6 = .bool x6_19 ∧ Aside0 (spec_OpOk.j3 kq x3_1 x4_7 x5_13 x6_19 a0_0 a0_1 a0_2 a0_3 a0_4 a0_5 a0_6 = some r) ∧ Aside0 (kq ≤ kj13) ∧ Aside0 (wc.heap[gb152]? = some (.cells #[.int .i64 a0_0, .int .i64 a0_1, .string a0_2, .int .i64 a0_3, .string a0_4, .int .i64 a0_5, .string a0_6] 73 (0, 0))) ∧ Aside0 (Below w.heap.size w wc))
              case first =>
                have H := HC20.out
                clear HC20
                by_cases c21 : a0_3 = 0
                · rw [if_pos c21] at H
                  have c21b0 : (a0_3 == 0) = true := beq_iff_eq.mpr c21
                  have c21b1 : (a0_3 != 0) = false := bne_eq_false_iff_eq.mpr c21
                  clear c21
                  (first | rw [c21b0] | (simp only [i64_w, i32_w]; rw [c21b0]) | skip)
                  have H' := Aside0.mk H
                  clear H
                  have hcz22_0 : wc.cell? ⟨gb152, 0, none⟩ = some (.int .i64 a0_0) := (blk_cell BK152.out 0).trans rfl
                  have hcz22_1 : wc.cell? ⟨gb152, 1, none⟩ = some (.int .i64 a0_1) := (blk_cell BK152.out 1).trans rfl
                  have hcz22_2 : wc.cell? ⟨gb152, 2, none⟩ = some (.string a0_2) := (blk_cell BK152.out 2).trans rfl
                  have hcz22_3 : wc.cell? ⟨gb152, 3, none⟩ = some (.int .i64 a0_3) := (blk_cell BK152.out 3).trans rfl
                  have hcz22_4 : wc.cell? ⟨gb152, 4, none⟩ = some (.string a0_4) := (blk_cell BK152.out 4).trans rfl
                  have hcz22_5 : wc.cell? ⟨gb152, 5, none⟩ = some (.int .i64 a0_5) := (blk_cell BK152.out 5).trans rfl
                  have hcz22_6 : wc.cell? ⟨gb152, 6, none⟩ = some (.string a0_6) := (blk_cell BK152.out 6).trans rfl
                  have hfz22_0 := blk_frozen BK152.out 0
                  have hfz22_1 := blk_frozen BK152.out 1
                  have hfz22_2 := blk_frozen BK152.out 2
                  have hfz22_3 := blk_frozen BK152.out 3
                  have hfz22_4 := blk_frozen BK152.out 4
                  have hfz22_5 := blk_frozen BK152.out 5
                  have hfz22_6 := blk_frozen BK152.out 6
                  go_wp2
                  go_meet
                  case rel => exact ⟨_, ((a0_4.toList == ([] : List UInt8))), (by first | rfl | (simp; done) | (simp [*]; done)), H', ⟨by have := HJ1.out; have := HJ7.out; have := HJ13.out; first | omega | exact Nat.le_refl _⟩, ⟨by (with_reducible repeat (first | refine blk_drewN ?_ _ | refine blk_drew ?_ | refine blk_alloc ?_ _)); exact BK152.out⟩, ⟨by repeat (first | (with_reducible first | exact HB.out | apply below_alloc | apply pw_below_drewN | apply below_drew1 | refine below_set ?_ GE152.out) | exact HB.out)⟩⟩
                · rw [if_neg c21] at H
                  have c21b0 : (a0_3 == 0) = false := beq_eq_false_iff_ne.mpr c21
                  have c21b1 : (a0_3 != 0) = true := bne_iff_ne.mpr c21
                  (first | rw [c21b0] | (simp only [i64_w, i32_w]; rw [c21b0]) | skip)
                  have H' := Aside0.mk H
                  clear H
                  have hcz23_0 : wc.cell? ⟨gb152, 0, none⟩ = some (.int .i64 a0_0) := (blk_cell BK152.out 0).trans rfl
                  have hcz23_1 : wc.cell? ⟨gb152, 1, none⟩ = some (.int .i64 a0_1) := (blk_cell BK152.out 1).trans rfl
                  have hcz23_2 : wc.cell? ⟨gb152, 2, none⟩ = some (.string a0_2) := (blk_cell BK152.out 2).trans rfl
                  have hcz23_3 : wc.cell? ⟨gb152, 3, none⟩ = some (.int .i64 a0_3) := (blk_cell BK152.out 3).trans rfl
                  have hcz23_4 : wc.cell? ⟨gb152, 4, none⟩ = some (.string a0_4) := (blk_cell BK152.out 4).trans rfl
                  have hcz23_5 : wc.cell? ⟨gb152, 5, none⟩ = some (.int .i64 a0_5) := (blk_cell BK152.out 5).trans rfl
                  have hcz23_6 : wc.cell? ⟨gb152, 6, none⟩ = some (.string a0_6) := (blk_cell BK152.out 6).trans rfl
                  have hfz23_0 := blk_frozen BK152.out 0
                  have hfz23_1 := blk_frozen BK152.out 1
                  have hfz23_2 := blk_frozen BK152.out 2
                  have hfz23_3 := blk_frozen BK152.out 3
                  have hfz23_4 := blk_frozen BK152.out 4
                  have hfz23_5 := blk_frozen BK152.out 5
                  have hfz23_6 := blk_frozen BK152.out 6
                  go_wp2
                  go_meet
                  case rel => exact ⟨_, (false), (by first | rfl | (simp; done) | (simp [*]; done)), H', ⟨by have := HJ1.out; have := HJ7.out; have := HJ13.out; first | omega | exact Nat.le_refl _⟩, ⟨by (with_reducible repeat (first | refine blk_drewN ?_ _ | refine blk_drew ?_ | refine blk_alloc ?_ _)); exact BK152.out⟩, ⟨by repeat (first | (with_reducible first | exact HB.out | apply below_alloc | apply pw_below_drewN | apply below_drew1 | refine below_set ?_ GE152.out) | exact HB.out)⟩⟩
              case rest =>
                clear HC20; (try clear c1); (try clear c2); (try clear p2); (try clear c4); (try clear c4b0); (try clear c7); (try clear c10); (try clear c16); (try clear c21); (try clear c21b0); (try clear c21b1); (try clear hcz12_0); (try clear hcz12_1); (try clear hcz12_2); (try clear hcz12_3); (try clear hcz12_4); (try clear hcz12_5); (try clear hcz12_6); (try clear hcz13_0); (try clear hcz13_1); (try clear hcz13_2); (try clear hcz13_3); (try clear hcz13_4); (try clear hcz13_5); (try clear hcz13_6); (try clear hcz18_0); (try clear hcz18_1); (try clear hcz18_2); (try clear hcz18_3); (try clear hcz18_4); (try clear hcz18_5); (try clear hcz18_6); (try clear hcz19_0); (try clear hcz19_1); (try clear hcz19_2); (try clear hcz19_3); (try clear hcz19_4); (try clear hcz19_5); (try clear hcz19_6); (try clear hcz22_0); (try clear hcz22_1); (try clear hcz22_2); (try clear hcz22_3); (try clear hcz22_4); (try clear hcz22_5); (try clear hcz22_6); (try clear hcz23_0); (try clear hcz23_1); (try clear hcz23_2); (try clear hcz23_3); (try clear hcz23_4); (try clear hcz23_5); (try clear hcz23_6); (try clear hcz6_0); (try clear hcz6_1); (try clear hcz6_2); (try clear hcz6_3); (try clear hcz6_4); (try clear hcz6_5); (try clear hcz6_6); (try clear hcz7_0); (try clear hcz7_1); (try clear hcz7_2); (try clear hcz7_3); (try clear hcz7_4); (try clear hcz7_5); (try clear hcz7_6); (try clear hfz12_0); (try clear hfz12_1); (try clear hfz12_2); (try clear hfz12_3); (try clear hfz12_4); (try clear hfz12_5); (try clear hfz12_6); (try clear hfz13_0); (try clear hfz13_1); (try clear hfz13_2); (try clear hfz13_3); (try clear hfz13_4); (try clear hfz13_5); (try clear hfz13_6); (try clear hfz18_0); (try clear hfz18_1); (try clear hfz18_2); (try clear hfz18_3); (try clear hfz18_4); (try clear hfz18_5); (try clear hfz18_6); (try clear hfz19_0); (try clear hfz19_1); (try clear hfz19_2); (try clear hfz19_3); (try clear hfz19_4); (try clear hfz19_5); (try clear hfz19_6); (try clear hfz22_0); (try clear hfz22_1)
                (try clear hfz22_2); (try clear hfz22_3); (try clear hfz22_4); (try clear hfz22_5); (try clear hfz22_6); (try clear hfz23_0); (try clear hfz23_1); (try clear hfz23_2); (try clear hfz23_3); (try clear hfz23_4); (try clear hfz23_5); (try clear hfz23_6); (try clear hfz6_0); (try clear hfz6_1); (try clear hfz6_2); (try clear hfz6_3); (try clear hfz6_4); (try clear hfz6_5); (try clear hfz6_6); (try clear hfz7_0); (try clear hfz7_1); (try clear hfz7_2); (try clear hfz7_3); (try clear hfz7_4); (try clear hfz7_5); (try clear hfz7_6); (try clear p2)
                obtain ⟨kq, x6_19, rfl, HA, HJ19, BK152, HB⟩ := hcut
                cases kq with
                | zero => exact absurd HA.out (by simp [spec_OpOk.j3])
                | succ kj19 =>
                  have H := HA.out
                  clear HA
                  simp only [spec_OpOk.j3] at H
                  have HC24 := Aside0.mk H
                  clear H
                  have hcz25_0 : wc.cell? ⟨gb152, 0, none⟩ = some (.int .i64 a0_0) := (blk_cell BK152.out 0).trans rfl
                  have hcz25_1 : wc.cell? ⟨gb152, 1, none⟩ = some (.int .i64 a0_1) := (blk_cell BK152.out 1).trans rfl
                  have hcz25_2 : wc.cell? ⟨gb152, 2, none⟩ = some (.string a0_2) := (blk_cell BK152.out 2).trans rfl
                  have hcz25_3 : wc.cell? ⟨gb152, 3, none⟩ = some (.int .i64 a0_3) := (blk_cell BK152.out 3).trans rfl
                  have hcz25_4 : wc.cell? ⟨gb152, 4, none⟩ = some (.string a0_4) := (blk_cell BK152.out 4).trans rfl
                  have hcz25_5 : wc.cell? ⟨gb152, 5, none⟩ = some (.int .i64 a0_5) := (blk_cell BK152.out 5).trans rfl
                  have hcz25_6 : wc.cell? ⟨gb152, 6, none⟩ = some (.string a0_6) := (blk_cell BK152.out 6).trans rfl
                  have hfz25_0 := blk_frozen BK152.out 0
                  have hfz25_1 := blk_frozen BK152.out 1
                  have hfz25_2 := blk_frozen BK152.out 2
                  have hfz25_3 := blk_frozen BK152.out 3
                  have hfz25_4 := blk_frozen BK152.out 4
                  have hfz25_5 := blk_frozen BK152.out 5
                  have hfz25_6 := blk_frozen BK152.out 6
                  go_upto_if 41 with (fail)
                  go_cut [41] (fun v41 wc => ∃ (kq : Nat) (x41_23 : Bool), v41 = .bool x41_23 ∧ Aside0 (spec_OpOk.j4 kq x3_1 x4_7 x5_13 x6_19 a0_0 x41_23 a0_0 a0_1 a0_2 a0_3 a0_4 a0_5 a0_6 = some r) ∧ Aside0 (kq ≤ kj19) ∧ Aside0 (wc.heap[gb152]? = some (.cells #[.int .i64 a0_0, .int .i64 a0_1, .string a0_2, .int .i64 a0_3, .string a0_4, .int .i64 a0_5, .string a0_6] 73 (0, 0))) ∧ Aside0 (Below w.heap.size w wc))
                  case first =>
                    have H := HC24.out
                    clear HC24
                    by_cases c26 : a0_0 = 1
                    · rw [if_pos c26] at H
                      have c26b0 : (a0_0 == 1) = true := beq_iff_eq.mpr c26
                      have c26b1 : (a0_0 != 1) = false := bne_eq_false_iff_eq.mpr c26
                      clear c26
                      (first | rw [c26b0] | (simp only [i64_w, i32_w]; rw [c26b0]) | skip)
                      have H' := Aside0.mk H
                      clear H
                      go_wp2
                      go_meet
                      case rel => exact ⟨_, ((a0_0 == 1)), (by first | rfl | (simp; done) | (simp [*]; done)), H', ⟨by have := HJ1.out; have := HJ7.out; have := HJ13.out; have := HJ19.out; first | omega | exact Nat.le_refl _⟩, ⟨by (with_reducible repeat (first | refine blk_drewN ?_ _ | refine blk_drew ?_ | refine blk_alloc ?_ _)); exact BK152.out⟩, ⟨by repeat (first | (with_reducible first | exact HB.out | apply below_alloc | apply pw_below_drewN | apply below_drew1 | refine below_set ?_ GE152.out) | exact HB.out)⟩⟩
                    · rw [if_neg c26] at H
                      have c26b0 : (a0_0 == 1) = false := beq_eq_false_iff_ne.mpr c26
                      have c26b1 : (a0_0 != 1) = true := bne_iff_ne.mpr c26
                      (first | rw [c26b0] | (simp only [i64_w, i32_w]; rw [c26b0]) | skip)
                      by_cases c27 : a0_0 = 2
                      · rw [if_pos c27] at H
                        have c27b0 : (a0_0 == 2) = true := beq_iff_eq.mpr c27
                        have c27b1 : (a0_0 != 2) = false := bne_eq_false_iff_eq.mpr c27
                        clear c27
                        have H' := Aside0.mk H
                        clear H
                        go_wp2
                        go_meet
                        case rel => exact ⟨_, ((a0_0 == 2)), (by first | rfl | (simp; done) | (simp [*]; done)), H', ⟨by have := HJ1.out; have := HJ7.out; have := HJ13.out; have := HJ19.out; first | omega | exact Nat.le_refl _⟩, ⟨by (with_reducible repeat (first | refine blk_drewN ?_ _ | refine blk_drew ?_ | refine blk_alloc ?_ _)); exact BK152.out⟩, ⟨by repeat (first | (with_reducible first | exact HB.out | apply below_alloc | apply pw_below_drewN | apply below_drew1 | refine below_set ?_ GE152.out) | exact HB.out)⟩⟩
                      · rw [if_neg c27] at H
                        have c27b0 : (a0_0 == 2) = false := beq_eq_false_iff_ne.mpr c27
                        have c27b1 : (a0_0 != 2) = true := bne_iff_ne.mpr c27
                        have H' := Aside0.mk H
                        clear H
                        go_wp2
                        go_meet
                        case rel => exact ⟨_, ((a0_0 == 3)), (by first | rfl | (simp; done) | (simp [*]; done)), H', ⟨by have := HJ1.out; have := HJ7.out; have := HJ13.out; have := HJ19.out; first | omega | exact Nat.le_refl _⟩, ⟨by (with_reducible repeat (first | refine blk_drewN ?_ _ | refine blk_drew ?_ | refine blk_alloc ?_ _)); exact BK152.out⟩, ⟨by repeat (first | (with_reducible first | exact HB.out | apply below_alloc | apply pw_below_drewN | apply below_drew1 | refine below_set ?_ GE152.out) | exact HB.out)⟩⟩
                  case rest =>
                    clear HC24; (try clear c1); (try clear c2); (try clear p2); (try clear c4); (try clear c4b0); (try clear c7); (try clear c10); (try clear c16); (try clear c21); (try clear c21b0); (try clear c21b1); (try clear c26); (try clear c26b0); (try clear c26b1); (try clear c27); (try clear c27b0); (try clear c27b1); (try clear hcz12_0); (try clear hcz12_1); (try clear hcz12_2); (try clear hcz12_3); (try clear hcz12_4); (try clear hcz12_5); (try clear hcz12_6); (try clear hcz13_0); (try clear hcz13_1); (try clear hcz13_2); (try clear hcz13_3); (try clear hcz13_4); (try clear hcz13_5); (try clear hcz13_6); (try clear hcz18_0); (try clear hcz18_1); (try clear hcz18_2); (try clear hcz18_3); (try clear hcz18_4); (try clear hcz18_5); (try clear hcz18_6); (try clear hcz19_0); (try clear hcz19_1); (try clear hcz19_2); (try clear hcz19_3); (try clear hcz19_4); (try clear hcz19_5); (try clear hcz19_6); (try clear hcz22_0); (try clear hcz22_1); (try clear hcz22_2); (try clear hcz22_3); (try clear hcz22_4); (try clear hcz22_5); (try clear hcz22_6); (try clear hcz23_0); (try clear hcz23_1); (try clear hcz23_2); (try clear hcz23_3); (try clear hcz23_4); (try clear hcz23_5); (try clear hcz23_6); (try clear hcz25_0); (try clear hcz25_1); (try clear hcz25_2); (try clear hcz25_3); (try clear hcz25_4); (try clear hcz25_5); (try clear hcz25_6); (try clear hcz6_0); (try clear hcz6_1); (try clear hcz6_2); (try clear hcz6_3); (try clear hcz6_4); (try clear hcz6_5); (try clear hcz6_6); (try clear hcz7_0); (try clear hcz7_1); (try clear hcz7_2); (try clear hcz7_3); (try clear hcz7_4); (try clear hcz7_5); (try clear hcz7_6); (try clear hfz12_0); (try clear hfz12_1); (try clear hfz12_2); (try clear hfz12_3); (try clear hfz12_4); (try clear hfz12_5); (try clear hfz12_6); (try clear hfz13_0); (try clear hfz13_1); (try clear hfz13_2); (try clear hfz13_3); (try clear hfz13_4); (try clear hfz13_5); (try clear hfz13_6); (try clear hfz18_0); (try clear hfz18_1); (try clear hfz18_2); (try clear hfz18_3)
                    (try clear hfz18_4); (try clear hfz18_5); (try clear hfz18_6); (try clear hfz19_0); (try clear hfz19_1); (try clear hfz19_2); (try clear hfz19_3); (try clear hfz19_4); (try clear hfz19_5); (try clear hfz19_6); (try clear hfz22_0); (try clear hfz22_1); (try clear hfz22_2); (try clear hfz22_3); (try clear hfz22_4); (try clear hfz22_5); (try clear hfz22_6); (try clear hfz23_0); (try clear hfz23_1); (try clear hfz23_2); (try clear hfz23_3); (try clear hfz23_4); (try clear hfz23_5); (try clear hfz23_6); (try clear hfz25_0); (try clear hfz25_1); (try clear hfz25_2); (try clear hfz25_3); (try clear hfz25_4); (try clear hfz25_5); (try clear hfz25_6); (try clear hfz6_0); (try clear hfz6_1); (try clear hfz6_2); (try clear hfz6_3); (try clear hfz6_4); (try clear hfz6_5); (try clear hfz6_6); (try clear hfz7_0); (try clear hfz7_1); (try clear hfz7_2); (try clear hfz7_3); (try clear hfz7_4); (try clear hfz7_5); (try clear hfz7_6); (try clear p2)
                    obtain ⟨kq, x41_23, rfl, HA, HJ23, BK152, HB⟩ := hcut
                    cases kq with
                    | zero => exact absurd HA.out (by simp [spec_OpOk.j4])
                    | succ kj23 =>
                      have H := HA.out
                      clear HA
                      simp only [spec_OpOk.j4] at H
                      by_cases c28 : x41_23 = true
                      · subst c28
                        have H1 : (if x3_1 = true then (if x4_7 = true then (if x6_19 = true then (some (a0_6.toList == ([] : List UInt8))) else (some false)) else (some false)) else (some false)) = some r := by rw [if_pos rfl] at H; exact H
                        clear H
                        have H := H1
                        clear H1
                        by_cases c29 : x3_1 = true
                        · subst c29
                          have H1 : (if x4_7 = true then (if x6_19 = true then (some (a0_6.toList == ([] : List UInt8))) else (some false)) else (some false)) = some r := by rw [if_pos rfl] at H; exact H
                          clear H
                          have H := H1
                          clear H1
                          by_cases c30 : x4_7 = true
                          · subst c30
                            have H1 : (if x6_19 = true then (some (a0_6.toList == ([] : List UInt8))) else (some false)) = some r := by rw [if_pos rfl] at H; exact H
                            clear H
                            have H := H1
                            clear H1
                            by_cases c31 : x6_19 = true
                            · subst c31
                              have H1 : (some (a0_6.toList == ([] : List UInt8))) = some r := by rw [if_pos rfl] at H; exact H
                              clear H
                              have H := H1
                              clear H1
                              obtain rfl := Option.some.inj H
                              have hcz32_0 : wc.cell? ⟨gb152, 0, none⟩ = some (.int .i64 a0_0) := (blk_cell BK152.out 0).trans rfl
                              have hcz32_1 : wc.cell? ⟨gb152, 1, none⟩ = some (.int .i64 a0_1) := (blk_cell BK152.out 1).trans rfl
                              have hcz32_2 : wc.cell? ⟨gb152, 2, none⟩ = some (.string a0_2) := (blk_cell BK152.out 2).trans rfl
                              have hcz32_3 : wc.cell? ⟨gb152, 3, none⟩ = some (.int .i64 a0_3) := (blk_cell BK152.out 3).trans rfl
                              have hcz32_4 : wc.cell? ⟨gb152, 4, none⟩ = some (.string a0_4) := (blk_cell BK152.out 4).trans rfl
                              have hcz32_5 : wc.cell? ⟨gb152, 5, none⟩ = some (.int .i64 a0_5) := (blk_cell BK152.out 5).trans rfl
                              have hcz32_6 : wc.cell? ⟨gb152, 6, none⟩ = some (.string a0_6) := (blk_cell BK152.out 6).trans rfl
                              have hfz32_0 := blk_frozen BK152.out 0
                              have hfz32_1 := blk_frozen BK152.out 1
                              have hfz32_2 := blk_frozen BK152.out 2
                              have hfz32_3 := blk_frozen BK152.out 3
                              have hfz32_4 := blk_frozen BK152.out 4
                              have hfz32_5 := blk_frozen BK152.out 5
                              have hfz32_6 := blk_frozen BK152.out 6
                              go_wp2
                              go_ret
                              exact ⟨by first | rfl | (simp [errW_none, errW_some] <;> rfl) | (simp [*, errW_none, errW_some] <;> rfl), by repeat (first | (with_reducible first | exact HB.out | apply below_alloc | apply pw_below_drewN | apply below_drew1 | refine below_set ?_ GE152.out) | exact HB.out)⟩
                            · replace c31 := Bool.eq_false_iff.mpr c31
                              subst c31
                              have H1 : (some false) = some r := by rw [if_neg (show ¬ (false = true) by decide)] at H; exact H
                              clear H
                              have H := H1
                              clear H1
                              obtain rfl := Option.some.inj H
                              go_wp2
                              go_ret
                              exact ⟨by first | rfl | (simp [errW_none, errW_some] <;> rfl) | (simp [*, errW_none, errW_some] <;> rfl), by repeat (first | (with_reducible first | exact HB.out | apply below_alloc | apply pw_below_drewN | apply below_drew1 | refine below_set ?_ GE152.out) | exact HB.out)⟩
                          · replace c30 := Bool.eq_false_iff.mpr c30
                            subst c30
                            have H1 : (some false) = some r := by rw [if_neg (show ¬ (false = true) by decide)] at H; exact H
                            clear H
                            have H := H1
                            clear H1
                            obtain rfl := Option.some.inj H
                            go_wp2
                            go_ret
                            exact ⟨by first | rfl | (simp [errW_none, errW_some] <;> rfl) | (simp [*, errW_none, errW_some] <;> rfl), by repeat (first | (with_reducible first | exact HB.out | apply below_alloc | apply pw_below_drewN | apply below_drew1 | refine below_set ?_ GE152.out) | exact HB.out)⟩
                        · replace c29 := Bool.eq_false_iff.mpr c29
                          subst c29
                          have H1 : (some false) = some r := by rw [if_neg (show ¬ (false = true) by decide)] at H; exact H
                          clear H
                          have H := H1
                          clear H1
                          obtain rfl := Option.some.inj H
                          go_wp2
                          go_ret
                          exact ⟨by first | rfl | (simp [errW_none, errW_some] <;> rfl) | (simp [*, errW_none, errW_some] <;> rfl), by repeat (first | (with_reducible first | exact HB.out | apply below_alloc | apply pw_below_drewN | apply below_drew1 | refine below_set ?_ GE152.out) | exact HB.out)⟩
                      · replace c28 := Bool.eq_false_iff.mpr c28
                        subst c28
                        have H1 : (if a0_0 = 4 then (if x3_1 = true then (if x4_7 = true then (if x5_13 = true then (some (a0_6.toList == ([] : List UInt8))) else (some false)) else (some false)) else (some false)) else (if a0_0 = 5 then (if x3_1 = true then (if a0_1 = 0 then (if a0_2.toList = ([] : List UInt8) then (if x6_19 = true then ((spec_TreeBody.f kj23 a0_6).bind fun t158 => (some t158)) else (some false)) else (some false)) else (some false)) else (some false)) else (some false))) = some r := by rw [if_neg (show ¬ (false = true) by decide)] at H; exact H
                        clear H
                        have H := H1
                        clear H1
                        by_cases c33 : a0_0 = 4
                        · rw [if_pos c33] at H
                          have c33b0 : (a0_0 == 4) = true := beq_iff_eq.mpr c33
                          have c33b1 : (a0_0 != 4) = false := bne_eq_false_iff_eq.mpr c33
                          clear c33
                          by_cases c34 : x3_1 = true
                          · subst c34
                            have H1 : (if x4_7 = true then (if x5_13 = true then (some (a0_6.toList == ([] : List UInt8))) else (some false)) else (some false)) = some r := by rw [if_pos rfl] at H; exact H
                            clear H
                            have H := H1
                            clear H1
                            by_cases c35 : x4_7 = true
                            · subst c35
                              have H1 : (if x5_13 = true then (some (a0_6.toList == ([] : List UInt8))) else (some false)) = some r := by rw [if_pos rfl] at H; exact H
                              clear H
                              have H := H1
                              clear H1
                              by_cases c36 : x5_13 = true
                              · subst c36
                                have H1 : (some (a0_6.toList == ([] : List UInt8))) = some r := by rw [if_pos rfl] at H; exact H
                                clear H
                                have H := H1
                                clear H1
                                obtain rfl := Option.some.inj H
                                have hcz37_0 : wc.cell? ⟨gb152, 0, none⟩ = some (.int .i64 a0_0) := (blk_cell BK152.out 0).trans rfl
                                have hcz37_1 : wc.cell? ⟨gb152, 1, none⟩ = some (.int .i64 a0_1) := (blk_cell BK152.out 1).trans rfl
                                have hcz37_2 : wc.cell? ⟨gb152, 2, none⟩ = some (.string a0_2) := (blk_cell BK152.out 2).trans rfl
                                have hcz37_3 : wc.cell? ⟨gb152, 3, none⟩ = some (.int .i64 a0_3) := (blk_cell BK152.out 3).trans rfl
                                have hcz37_4 : wc.cell? ⟨gb152, 4, none⟩ = some (.string a0_4) := (blk_cell BK152.out 4).trans rfl
                                have hcz37_5 : wc.cell? ⟨gb152, 5, none⟩ = some (.int .i64 a0_5) := (blk_cell BK152.out 5).trans rfl
                                have hcz37_6 : wc.cell? ⟨gb152, 6, none⟩ = some (.string a0_6) := (blk_cell BK152.out 6).trans rfl
                                have hfz37_0 := blk_frozen BK152.out 0
                                have hfz37_1 := blk_frozen BK152.out 1
                                have hfz37_2 := blk_frozen BK152.out 2
                                have hfz37_3 := blk_frozen BK152.out 3
                                have hfz37_4 := blk_frozen BK152.out 4
                                have hfz37_5 := blk_frozen BK152.out 5
                                have hfz37_6 := blk_frozen BK152.out 6
                                go_wp2
                                go_ret
                                exact ⟨by first | rfl | (simp [errW_none, errW_some] <;> rfl) | (simp [*, errW_none, errW_some] <;> rfl), by repeat (first | (with_reducible first | exact HB.out | apply below_alloc | apply pw_below_drewN | apply below_drew1 | refine below_set ?_ GE152.out) | exact HB.out)⟩
                              · replace c36 := Bool.eq_false_iff.mpr c36
                                subst c36
                                have H1 : (some false) = some r := by rw [if_neg (show ¬ (false = true) by decide)] at H; exact H
                                clear H
                                have H := H1
                                clear H1
                                obtain rfl := Option.some.inj H
                                go_wp2
                                go_ret
                                exact ⟨by first | rfl | (simp [errW_none, errW_some] <;> rfl) | (simp [*, errW_none, errW_some] <;> rfl), by repeat (first | (with_reducible first | exact HB.out | apply below_alloc | apply pw_below_drewN | apply below_drew1 | refine below_set ?_ GE152.out) | exact HB.out)⟩
                            · replace c35 := Bool.eq_false_iff.mpr c35
                              subst c35
                              have H1 : (some false) = some r := by rw [if_neg (show ¬ (false = true) by decide)] at H; exact H
                              clear H
                              have H := H1
                              clear H1
                              obtain rfl := Option.some.inj H
                              go_wp2
                              go_ret
                              exact ⟨by first | rfl | (simp [errW_none, errW_some] <;> rfl) | (simp [*, errW_none, errW_some] <;> rfl), by repeat (first | (with_reducible first | exact HB.out | apply below_alloc | apply pw_below_drewN | apply below_drew1 | refine below_set ?_ GE152.out) | exact HB.out)⟩
                          · replace c34 := Bool.eq_false_iff.mpr c34
                            subst c34
                            have H1 : (some false) = some r := by rw [if_neg (show ¬ (false = true) by decide)] at H; exact H
                            clear H
                            have H := H1
                            clear H1
                            obtain rfl := Option.some.inj H
                            go_wp2
                            go_ret
                            exact ⟨by first | rfl | (simp [errW_none, errW_some] <;> rfl) | (simp [*, errW_none, errW_some] <;> rfl), by repeat (first | (with_reducible first | exact HB.out | apply below_alloc | apply pw_below_drewN | apply below_drew1 | refine below_set ?_ GE152.out) | exact HB.out)⟩
                        · rw [if_neg c33] at H
                          have c33b0 : (a0_0 == 4) = false := beq_eq_false_iff_ne.mpr c33
                          have c33b1 : (a0_0 != 4) = true := bne_iff_ne.mpr c33
                          by_cases c38 : a0_0 = 5
                          · rw [if_pos c38] at H
                            have c38b0 : (a0_0 == 5) = true := beq_iff_eq.mpr c38
                            have c38b1 : (a0_0 != 5) = false := bne_eq_false_iff_eq.mpr c38
                            clear c38
                            by_cases c39 : x3_1 = true
                            · subst c39
                              have H1 : (if a0_1 = 0 then (if a0_2.toList = ([] : List UInt8) then (if x6_19 = true then ((spec_TreeBody.f kj23 a0_6).bind fun t158 => (some t158)) else (some false)) else (some false)) else (some false)) = some r := by rw [if_pos rfl] at H; exact H
                              clear H
                              have H := H1
                              clear H1
                              by_cases c40 : a0_1 = 0
                              · rw [if_pos c40] at H
                                have c40b0 : (a0_1 == 0) = true := beq_iff_eq.mpr c40
                                have c40b1 : (a0_1 != 0) = false := bne_eq_false_iff_eq.mpr c40
                                clear c40
                                by_cases c41 : a0_2.toList = ([] : List UInt8)
                                · rw [if_pos c41] at H
                                  have c41b0 : (a0_2.toList == ([] : List UInt8)) = true := beq_iff_eq.mpr c41
                                  have c41b1 : (a0_2.toList != ([] : List UInt8)) = false := bne_eq_false_iff_eq.mpr c41
                                  clear c41
                                  by_cases c42 : x6_19 = true
                                  · subst c42
                                    have H1 : ((spec_TreeBody.f kj23 a0_6).bind fun t158 => (some t158)) = some r := by rw [if_pos rfl] at H; exact H
                                    clear H
                                    have H := H1
                                    clear H1
                                    replace H := Option.bind_eq_some_iff.mp H
                                    obtain ⟨t158, A430, H⟩ := H
                                    replace H : (some t158) = some r := H
                                    have A43 := Aside0.mk A430
                                    clear A430
                                    obtain rfl := Option.some.inj H
                                    have hcz44_0 : wc.cell? ⟨gb152, 0, none⟩ = some (.int .i64 a0_0) := (blk_cell BK152.out 0).trans rfl
                                    have hcz44_1 : wc.cell? ⟨gb152, 1, none⟩ = some (.int .i64 a0_1) := (blk_cell BK152.out 1).trans rfl
                                    have hcz44_2 : wc.cell? ⟨gb152, 2, none⟩ = some (.string a0_2) := (blk_cell BK152.out 2).trans rfl
                                    have hcz44_3 : wc.cell? ⟨gb152, 3, none⟩ = some (.int .i64 a0_3) := (blk_cell BK152.out 3).trans rfl
                                    have hcz44_4 : wc.cell? ⟨gb152, 4, none⟩ = some (.string a0_4) := (blk_cell BK152.out 4).trans rfl
                                    have hcz44_5 : wc.cell? ⟨gb152, 5, none⟩ = some (.int .i64 a0_5) := (blk_cell BK152.out 5).trans rfl
                                    have hcz44_6 : wc.cell? ⟨gb152, 6, none⟩ = some (.string a0_6) := (blk_cell BK152.out 6).trans rfl
                                    have hfz44_0 := blk_frozen BK152.out 0
                                    have hfz44_1 := blk_frozen BK152.out 1
                                    have hfz44_2 := blk_frozen BK152.out 2
                                    have hfz44_3 := blk_frozen BK152.out 3
                                    have hfz44_4 := blk_frozen BK152.out 4
                                    have hfz44_5 := blk_frozen BK152.out 5
                                    have hfz44_6 := blk_frozen BK152.out 6
                                    go_wp2_with (first | (go_at_call 139; (with_reducible refine (spec_TreeBody.calls kj23 a0_6 t158 _ A43.out).mono ?_); rintro e w' ⟨rfl, ⟨nd, rfl⟩⟩))
                                    go_ret
                                    exact ⟨by first | rfl | (simp [errW_none, errW_some] <;> rfl) | (simp [*, errW_none, errW_some] <;> rfl), by repeat (first | (with_reducible first | exact HB.out | apply below_alloc | apply pw_below_drewN | apply below_drew1 | refine below_set ?_ GE152.out) | exact HB.out)⟩
                                  · replace c42 := Bool.eq_false_iff.mpr c42
                                    subst c42
                                    have H1 : (some false) = some r := by rw [if_neg (show ¬ (false = true) by decide)] at H; exact H
                                    clear H
                                    have H := H1
                                    clear H1
                                    obtain rfl := Option.some.inj H
                                    have hcz45_0 : wc.cell? ⟨gb152, 0, none⟩ = some (.int .i64 a0_0) := (blk_cell BK152.out 0).trans rfl
                                    have hcz45_1 : wc.cell? ⟨gb152, 1, none⟩ = some (.int .i64 a0_1) := (blk_cell BK152.out 1).trans rfl
                                    have hcz45_2 : wc.cell? ⟨gb152, 2, none⟩ = some (.string a0_2) := (blk_cell BK152.out 2).trans rfl
                                    have hcz45_3 : wc.cell? ⟨gb152, 3, none⟩ = some (.int .i64 a0_3) := (blk_cell BK152.out 3).trans rfl
                                    have hcz45_4 : wc.cell? ⟨gb152, 4, none⟩ = some (.string a0_4) := (blk_cell BK152.out 4).trans rfl
                                    have hcz45_5 : wc.cell? ⟨gb152, 5, none⟩ = some (.int .i64 a0_5) := (blk_cell BK152.out 5).trans rfl
                                    have hcz45_6 : wc.cell? ⟨gb152, 6, none⟩ = some (.string a0_6) := (blk_cell BK152.out 6).trans rfl
                                    have hfz45_0 := blk_frozen BK152.out 0
                                    have hfz45_1 := blk_frozen BK152.out 1
                                    have hfz45_2 := blk_frozen BK152.out 2
                                    have hfz45_3 := blk_frozen BK152.out 3
                                    have hfz45_4 := blk_frozen BK152.out 4
                                    have hfz45_5 := blk_frozen BK152.out 5
                                    have hfz45_6 := blk_frozen BK152.out 6
                                    go_wp2
                                    go_ret
                                    exact ⟨by first | rfl | (simp [errW_none, errW_some] <;> rfl) | (simp [*, errW_none, errW_some] <;> rfl), by repeat (first | (with_reducible first | exact HB.out | apply below_alloc | apply pw_below_drewN | apply below_drew1 | refine below_set ?_ GE152.out) | exact HB.out)⟩
                                · rw [if_neg c41] at H
                                  have c41b0 : (a0_2.toList == ([] : List UInt8)) = false := beq_eq_false_iff_ne.mpr c41
                                  have c41b1 : (a0_2.toList != ([] : List UInt8)) = true := bne_iff_ne.mpr c41
                                  obtain rfl := Option.some.inj H
                                  have hcz46_0 : wc.cell? ⟨gb152, 0, none⟩ = some (.int .i64 a0_0) := (blk_cell BK152.out 0).trans rfl
                                  have hcz46_1 : wc.cell? ⟨gb152, 1, none⟩ = some (.int .i64 a0_1) := (blk_cell BK152.out 1).trans rfl
                                  have hcz46_2 : wc.cell? ⟨gb152, 2, none⟩ = some (.string a0_2) := (blk_cell BK152.out 2).trans rfl
                                  have hcz46_3 : wc.cell? ⟨gb152, 3, none⟩ = some (.int .i64 a0_3) := (blk_cell BK152.out 3).trans rfl
                                  have hcz46_4 : wc.cell? ⟨gb152, 4, none⟩ = some (.string a0_4) := (blk_cell BK152.out 4).trans rfl
                                  have hcz46_5 : wc.cell? ⟨gb152, 5, none⟩ = some (.int .i64 a0_5) := (blk_cell BK152.out 5).trans rfl
                                  have hcz46_6 : wc.cell? ⟨gb152, 6, none⟩ = some (.string a0_6) := (blk_cell BK152.out 6).trans rfl
                                  have hfz46_0 := blk_frozen BK152.out 0
                                  have hfz46_1 := blk_frozen BK152.out 1
                                  have hfz46_2 := blk_frozen BK152.out 2
                                  have hfz46_3 := blk_frozen BK152.out 3
                                  have hfz46_4 := blk_frozen BK152.out 4
                                  have hfz46_5 := blk_frozen BK152.out 5
                                  have hfz46_6 := blk_frozen BK152.out 6
                                  go_wp2
                                  go_ret
                                  exact ⟨by first | rfl | (simp [errW_none, errW_some] <;> rfl) | (simp [*, errW_none, errW_some] <;> rfl), by repeat (first | (with_reducible first | exact HB.out | apply below_alloc | apply pw_below_drewN | apply below_drew1 | refine below_set ?_ GE152.out) | exact HB.out)⟩
                              · rw [if_neg c40] at H
                                have c40b0 : (a0_1 == 0) = false := beq_eq_false_iff_ne.mpr c40
                                have c40b1 : (a0_1 != 0) = true := bne_iff_ne.mpr c40
                                obtain rfl := Option.some.inj H
                                have hcz47_0 : wc.cell? ⟨gb152, 0, none⟩ = some (.int .i64 a0_0) := (blk_cell BK152.out 0).trans rfl
                                have hcz47_1 : wc.cell? ⟨gb152, 1, none⟩ = some (.int .i64 a0_1) := (blk_cell BK152.out 1).trans rfl
                                have hcz47_2 : wc.cell? ⟨gb152, 2, none⟩ = some (.string a0_2) := (blk_cell BK152.out 2).trans rfl
                                have hcz47_3 : wc.cell? ⟨gb152, 3, none⟩ = some (.int .i64 a0_3) := (blk_cell BK152.out 3).trans rfl
                                have hcz47_4 : wc.cell? ⟨gb152, 4, none⟩ = some (.string a0_4) := (blk_cell BK152.out 4).trans rfl
                                have hcz47_5 : wc.cell? ⟨gb152, 5, none⟩ = some (.int .i64 a0_5) := (blk_cell BK152.out 5).trans rfl
                                have hcz47_6 : wc.cell? ⟨gb152, 6, none⟩ = some (.string a0_6) := (blk_cell BK152.out 6).trans rfl
                                have hfz47_0 := blk_frozen BK152.out 0
                                have hfz47_1 := blk_frozen BK152.out 1
                                have hfz47_2 := blk_frozen BK152.out 2
                                have hfz47_3 := blk_frozen BK152.out 3
                                have hfz47_4 := blk_frozen BK152.out 4
                                have hfz47_5 := blk_frozen BK152.out 5
                                have hfz47_6 := blk_frozen BK152.out 6
                                go_wp2
                                go_ret
                                exact ⟨by first | rfl | (simp [errW_none, errW_some] <;> rfl) | (simp [*, errW_none, errW_some] <;> rfl), by repeat (first | (with_reducible first | exact HB.out | apply below_alloc | apply pw_below_drewN | apply below_drew1 | refine below_set ?_ GE152.out) | exact HB.out)⟩
                            · replace c39 := Bool.eq_false_iff.mpr c39
                              subst c39
                              have H1 : (some false) = some r := by rw [if_neg (show ¬ (false = true) by decide)] at H; exact H
                              clear H
                              have H := H1
                              clear H1
                              obtain rfl := Option.some.inj H
                              go_wp2
                              go_ret
                              exact ⟨by first | rfl | (simp [errW_none, errW_some] <;> rfl) | (simp [*, errW_none, errW_some] <;> rfl), by repeat (first | (with_reducible first | exact HB.out | apply below_alloc | apply pw_below_drewN | apply below_drew1 | refine below_set ?_ GE152.out) | exact HB.out)⟩
                          · rw [if_neg c38] at H
                            have c38b0 : (a0_0 == 5) = false := beq_eq_false_iff_ne.mpr c38
                            have c38b1 : (a0_0 != 5) = true := bne_iff_ne.mpr c38
                            obtain rfl := Option.some.inj H
                            go_wp2
                            go_ret
                            exact ⟨by first | rfl | (simp [errW_none, errW_some] <;> rfl) | (simp [*, errW_none, errW_some] <;> rfl), by repeat (first | (with_reducible first | exact HB.out | apply below_alloc | apply pw_below_drewN | apply below_drew1 | refine below_set ?_ GE152.out) | exact HB.out)⟩
end Go.Proofs.Ytlaichooanflaaa.Q
namespace Go.Proofs.Ytlaichooanflaaa.Q
open Go.RowKit Go.Proofs.YtlaichooanflaaaW.PrintWords Go.Proofs.YtlaichooanflaaaW.PrintLast Go.Proofs.YtlaichooanflaaaW.PrintMore
attribute [local go_sem] Go.Proofs.Ytlaichooanflaaa.Mem.str_leq Go.Proofs.Ytlaichooanflaaa.Mem.str_gtr Go.Proofs.Ytlaichooanflaaa.Mem.str_geq max2_int min2_int max_two min_two max_three min_three max_four min_four   -- for this text's walks alone
set_option linter.unusedVariables false
set_option linter.unusedSimpArgs false
def spec_l3Forms.l0 : Nat → List (S73) → Int → Option (Bool)
  | 0, _, _ => none
  | k + 1, x0, x3 => if x3 < (x0.length : Int) then (if 0 ≤ x3 then ((spec_OpOk.f k ((rd_T73 x0 x3).f0) ((rd_T73 x0 x3).f1) ((rd_T73 x0 x3).f2) ((rd_T73 x0 x3).f3) ((rd_T73 x0 x3).f4) ((rd_T73 x0 x3).f5) ((rd_T73 x0 x3).f6)).bind fun t160 => (if t160 = true then (spec_l3Forms.l0 k x0 (wrap64 (x3 + 1))) else (some false))) else (none)) else (some true)
def spec_l3Forms.f (k : Nat) (l0 : List (S73)) : Option (Bool) := if (l0.length : Int) > 60 then (some false) else (spec_l3Forms.l0 k l0 0)
set_option maxHeartbeats 8000000 in
set_option maxRecDepth 100000 in
theorem spec_l3Forms.calls (k : Nat) (A0 : Option Addr) (c0 : Nat) (l0 : List (S73)) (r : Bool) (w : World) (hr0 : Kd.C k73 w A0 l0.length l0) (hc0 : l0.length ≤ c0) (h : spec_l3Forms.f k l0 = some r) :
    Calls Try.prog 85 #[.slice A0 l0.length c0] w fun e w' => e = .returned (.bool r) ∧ Below w.heap.size w w' := by
  have hu73 := Try.underlying73
  have HR0 := Aside0.mk hr0
  have HC0 := Aside0.mk hc0
  clear hr0 hc0
  have HB := Aside0.mk (Below.refl w.heap.size w)
  have H : (if (l0.length : Int) > 60 then (some false) else (spec_l3Forms.l0 k l0 0)) = some r := h
  clear h
  by_cases c2 : (l0.length : Int) > 60
  · rw [if_pos c2] at H
    have c2b0 : decide (60 < (l0.length : Int)) = true := decide_eq_true c2
    have c2b1 : decide (60 < l0.length) = true := decide_eq_true (by omega)
    clear c2
    obtain rfl := Option.some.inj H
    go_enter Try.func85, Try.ntmps85
    go_wp2
    go_ret
    exact ⟨by first | rfl | (simp [errW_none, errW_some] <;> rfl) | (simp [*, errW_none, errW_some] <;> rfl), by repeat (first | (with_reducible first | exact HB.out | apply below_alloc | apply pw_below_drewN | apply below_drew1) | exact HB.out)⟩
  · rw [if_neg c2] at H
    have c2b0 : decide (60 < (l0.length : Int)) = false := decide_eq_false c2
    have c2b1 : decide (60 < l0.length) = false := decide_eq_false (by omega)
    clear c2
    have H' := Aside0.mk H
    clear H
    go_enter Try.func85, Try.ntmps85
    go_wp2
    go_loopg [3] k (fun kq v3 w' => ∃ (x3_1 : Int), v3 = .int .i64 x3_1 ∧ Aside0 (spec_l3Forms.l0 kq l0 x3_1 = some r) ∧ Aside0 (kq ≤ k) ∧ Aside0 (Below w.heap.size w w'))
    case atStart => exact ⟨(0), (by first | rfl | (simp; done) | (simp [*]; done)), H', ⟨Nat.le_refl _⟩, ⟨by repeat (first | (with_reducible first | exact HB.out | apply below_alloc | apply pw_below_drewN | apply below_drew1) | exact HB.out)⟩⟩
    case round =>
      clear H'
      (try clear c2); (try clear c2b0); (try clear c2b1); (try clear p2)
      obtain ⟨x3_1, rfl, HA, HK1, HB⟩ := hrel
      cases gk with
      | zero => exact absurd HA.out (by simp [spec_l3Forms.l0])
      | succ k1 =>
        have H := HA.out
        clear HA
        simp only [spec_l3Forms.l0] at H
        by_cases c3 : x3_1 < (l0.length : Int)
        · rw [if_pos c3] at H
          have c3b0 : decide (x3_1 < (l0.length : Int)) = true := decide_eq_true c3
          clear c3
          by_cases c4 : 0 ≤ x3_1
          · rw [if_pos c4] at H
            have c4b0 : decide (0 ≤ x3_1) = true := decide_eq_true c4
            clear c4
            replace H := Option.bind_eq_some_iff.mp H
            obtain ⟨t160, A50, H⟩ := H
            replace H : (if t160 = true then (spec_l3Forms.l0 k1 l0 (wrap64 (x3_1 + 1))) else (some false)) = some r := H
            have A5 := Aside0.mk A50
            clear A50
            by_cases c6 : t160 = true
            · subst c6
              have H1 : (spec_l3Forms.l0 k1 l0 (wrap64 (x3_1 + 1))) = some r := by rw [if_pos rfl] at H; exact H
              clear H
              have H := H1
              clear H1
              have H' := Aside0.mk H
              clear H
              have p159 : 0 ≤ (x3_1 : Int) := of_decide_eq_true (by first | (with_reducible assumption) | assumption)
              have q159 : x3_1 < (l0.length : Int) := of_decide_eq_true (by first | (with_reducible assumption) | assumption)
              obtain ⟨ad159, e159, hx159_0, hx159_1, hx159_2, hx159_3, hx159_4, hx159_5, hx159_6⟩ := at_T73 HR0.out x3_1 p159 q159
              cases e159
              replace hx159_0 := (HB.out.cell (World.block_lt_of_cell? w _ hx159_0)).trans hx159_0
              replace hx159_1 := (HB.out.cell (World.block_lt_of_cell? w _ hx159_1)).trans hx159_1
              replace hx159_2 := (HB.out.cell (World.block_lt_of_cell? w _ hx159_2)).trans hx159_2
              replace hx159_3 := (HB.out.cell (World.block_lt_of_cell? w _ hx159_3)).trans hx159_3
              replace hx159_4 := (HB.out.cell (World.block_lt_of_cell? w _ hx159_4)).trans hx159_4
              replace hx159_5 := (HB.out.cell (World.block_lt_of_cell? w _ hx159_5)).trans hx159_5
              replace hx159_6 := (HB.out.cell (World.block_lt_of_cell? w _ hx159_6)).trans hx159_6
              replace p159 := eq_true p159
              replace q159 := eq_true q159
              go_wp2_with (first | ((with_reducible refine gate_callee (f := 79) rfl ?_); refine goesL_ (some 17) rfl rfl Try.func79 (by kernel_rfl) rfl #[.agg #[.int .i64 ((rd_T73 l0 x3_1).f0), .int .i64 ((rd_T73 l0 x3_1).f1), .string ((rd_T73 l0 x3_1).f2), .int .i64 ((rd_T73 l0 x3_1).f3), .string ((rd_T73 l0 x3_1).f4), .int .i64 ((rd_T73 l0 x3_1).f5), .string ((rd_T73 l0 x3_1).f6)]] rfl (by (try simp only [List.map_toArray, List.map_cons, List.map_nil]); first | done | rfl | (simp only [List.length_drop, List.length_take]; rfl)) ?_; (with_reducible refine (spec_OpOk.calls k1 ((rd_T73 l0 x3_1).f0) ((rd_T73 l0 x3_1).f1) ((rd_T73 l0 x3_1).f2) ((rd_T73 l0 x3_1).f3) ((rd_T73 l0 x3_1).f4) ((rd_T73 l0 x3_1).f5) ((rd_T73 l0 x3_1).f6) true _ A5.out).mono ?_); rintro e w7 ⟨rfl, hb⟩; refine ⟨_, rfl, ?_⟩; have n0_ := Aside0.mk (below_step (by repeat (first | (with_reducible first | exact HB.out | apply below_alloc | apply pw_below_drewN | apply below_drew1) | exact HB.out)) hb); clear HB; have HB := n0_; clear n0_; (try clear hb); (try clear hb2); (try clear hk); (try clear hi)))
              go_roundg k1
              case measure => have := HK1.out; omega
              case rel => exact ⟨(wrap64 (x3_1 + 1)), (by first | rfl | (simp; done) | (simp [*]; done)), H', ⟨by have := HK1.out; omega⟩, ⟨by repeat (first | (with_reducible first | exact HB.out | apply below_alloc | apply pw_below_drewN | apply below_drew1) | exact HB.out)⟩⟩
            · replace c6 := Bool.eq_false_iff.mpr c6
              subst c6
              have H1 : (some false) = some r := by rw [if_neg (show ¬ (false = true) by decide)] at H; exact H
              clear H
              have H := H1
              clear H1
              obtain rfl := Option.some.inj H
              have p159 : 0 ≤ (x3_1 : Int) := of_decide_eq_true (by first | (with_reducible assumption) | assumption)
              have q159 : x3_1 < (l0.length : Int) := of_decide_eq_true (by first | (with_reducible assumption) | assumption)
              obtain ⟨ad159, e159, hx159_0, hx159_1, hx159_2, hx159_3, hx159_4, hx159_5, hx159_6⟩ := at_T73 HR0.out x3_1 p159 q159
              cases e159
              replace hx159_0 := (HB.out.cell (World.block_lt_of_cell? w _ hx159_0)).trans hx159_0
              replace hx159_1 := (HB.out.cell (World.block_lt_of_cell? w _ hx159_1)).trans hx159_1
              replace hx159_2 := (HB.out.cell (World.block_lt_of_cell? w _ hx159_2)).trans hx159_2
              replace hx159_3 := (HB.out.cell (World.block_lt_of_cell? w _ hx159_3)).trans hx159_3
              replace hx159_4 := (HB.out.cell (World.block_lt_of_cell? w _ hx159_4)).trans hx159_4
              replace hx159_5 := (HB.out.cell (World.block_lt_of_cell? w _ hx159_5)).trans hx159_5
              replace hx159_6 := (HB.out.cell (World.block_lt_of_cell? w _ hx159_6)).trans hx159_6
              replace p159 := eq_true p159
              replace q159 := eq_true q159
              go_wp2_with (first | ((with_reducible refine gate_callee (f := 79) rfl ?_); refine goesL_ (some 17) rfl rfl Try.func79 (by kernel_rfl) rfl #[.agg #[.int .i64 ((rd_T73 l0 x3_1).f0), .int .i64 ((rd_T73 l0 x3_1).f1), .string ((rd_T73 l0 x3_1).f2), .int .i64 ((rd_T73 l0 x3_1).f3), .string ((rd_T73 l0 x3_1).f4), .int .i64 ((rd_T73 l0 x3_1).f5), .string ((rd_T73 l0 x3_1).f6)]] rfl (by (try simp only [List.map_toArray, List.map_cons, List.map_nil]); first | done | rfl | (simp only [List.length_drop, List.length_take]; rfl)) ?_; (with_reducible refine (spec_OpOk.calls k1 ((rd_T73 l0 x3_1).f0) ((rd_T73 l0 x3_1).f1) ((rd_T73 l0 x3_1).f2) ((rd_T73 l0 x3_1).f3) ((rd_T73 l0 x3_1).f4) ((rd_T73 l0 x3_1).f5) ((rd_T73 l0 x3_1).f6) false _ A5.out).mono ?_); rintro e w8 ⟨rfl, hb⟩; refine ⟨_, rfl, ?_⟩; have n0_ := Aside0.mk (below_step (by repeat (first | (with_reducible first | exact HB.out | apply below_alloc | apply pw_below_drewN | apply below_drew1) | exact HB.out)) hb); clear HB; have HB := n0_; clear n0_; (try clear hb); (try clear hb2); (try clear hk); (try clear hi)))
              go_ret
              exact ⟨by first | rfl | (simp [errW_none, errW_some] <;> rfl) | (simp [*, errW_none, errW_some] <;> rfl), by repeat (first | (with_reducible first | exact HB.out | apply below_alloc | apply pw_below_drewN | apply below_drew1) | exact HB.out)⟩
          · rw [if_neg c4] at H
            exact absurd H (by simp)
        · rw [if_neg c3] at H
          have c3b0 : decide (x3_1 < (l0.length : Int)) = false := decide_eq_false c3
          clear c3
          obtain rfl := Option.some.inj H
          go_wp2
          go_ret
          exact ⟨by first | rfl | (simp [errW_none, errW_some] <;> rfl) | (simp [*, errW_none, errW_some] <;> rfl), by repeat (first | (with_reducible first | exact HB.out | apply below_alloc | apply pw_below_drewN | apply below_drew1) | exact HB.out)⟩
end Go.Proofs.Ytlaichooanflaaa.Q
namespace Go.Proofs.Ytlaichooanflaaa.Q
open Go.RowKit Go.Proofs.YtlaichooanflaaaW.PrintWords Go.Proofs.YtlaichooanflaaaW.PrintLast Go.Proofs.YtlaichooanflaaaW.PrintMore
attribute [local go_sem] Go.Proofs.Ytlaichooanflaaa.Mem.str_leq Go.Proofs.Ytlaichooanflaaa.Mem.str_gtr Go.Proofs.Ytlaichooanflaaa.Mem.str_geq max2_int min2_int max_two min_two max_three min_three max_four min_four   -- for this text's walks alone
set_option linter.unusedVariables false
set_option linter.unusedSimpArgs false
mutual
def spec_l4Joins.j0 : Nat → Bool → Int → Int → ByteArray → Int → ByteArray → Int → ByteArray → Int → Int → ByteArray → Int → ByteArray → Int → ByteArray → Option (Bool)
  | 0, _, _, _, _, _, _, _, _, _, _, _, _, _, _, _ => none
  | k + 1, x14, x673000, x673001, x673002, x673003, x673004, x673005, x673006, x674000, x674001, x674002, x674003, x674004, x674005, x674006 => if x14 = true then (some false) else (if x673000 = 1 then (spec_l4Joins.j1 k x673000 (x673000 == 1) x673000 x673001 x673002 x673003 x673004 x673005 x673006 x674000 x674001 x674002 x674003 x674004 x674005 x674006) else (spec_l4Joins.j1 k x673000 (x673000 == 2) x673000 x673001 x673002 x673003 x673004 x673005 x673006 x674000 x674001 x674002 x674003 x674004 x674005 x674006))
def spec_l4Joins.j1 : Nat → Int → Bool → Int → Int → ByteArray → Int → ByteArray → Int → ByteArray → Int → Int → ByteArray → Int → ByteArray → Int → ByteArray → Option (Bool)
  | 0, _, _, _, _, _, _, _, _, _, _, _, _, _, _, _, _ => none
  | k + 1, x16, x17, x673000, x673001, x673002, x673003, x673004, x673005, x673006, x674000, x674001, x674002, x674003, x674004, x674005, x674006 => if x17 = true then (if x674001 = x673001 then (some (x674002.toList == x673002.toList)) else (some false)) else (if x16 = 4 then (if x674001 = x673003 then (some (x674002.toList == x673004.toList)) else (some false)) else (some false))
end
def spec_l4Joins.f (k : Nat) (a0_0 : Int) (a0_1 : Int) (a0_2 : ByteArray) (a0_3 : Int) (a0_4 : ByteArray) (a0_5 : Int) (a0_6 : ByteArray) (a1_0 : Int) (a1_1 : Int) (a1_2 : ByteArray) (a1_3 : Int) (a1_4 : ByteArray) (a1_5 : Int) (a1_6 : ByteArray) : Option (Bool) := if a1_0 = 4 then (spec_l4Joins.j0 k (a0_5 != a1_5) a0_0 a0_1 a0_2 a0_3 a0_4 a0_5 a0_6 a1_0 a1_1 a1_2 a1_3 a1_4 a1_5 a1_6) else (spec_l4Joins.j0 k true a0_0 a0_1 a0_2 a0_3 a0_4 a0_5 a0_6 a1_0 a1_1 a1_2 a1_3 a1_4 a1_5 a1_6)
set_option maxHeartbeats 8000000 in
set_option maxRecDepth 100000 in
theorem spec_l4Joins.calls (k : Nat) (a0_0 : Int) (a0_1 : Int) (a0_2 : ByteArray) (a0_3 : Int) (a0_4 : ByteArray) (a0_5 : Int) (a0_6 : ByteArray) (a1_0 : Int) (a1_1 : Int) (a1_2 : ByteArray) (a1_3 : Int) (a1_4 : ByteArray) (a1_5 : Int) (a1_6 : ByteArray) (r : Bool) (w : World) (h : spec_l4Joins.f k a0_0 a0_1 a0_2 a0_3 a0_4 a0_5 a0_6 a1_0 a1_1 a1_2 a1_3 a1_4 a1_5 a1_6 = some r) :
    Calls Try.prog 159 #[.agg #[.int .i64 a0_0, .int .i64 a0_1, .string a0_2, .int .i64 a0_3, .string a0_4, .int .i64 a0_5, .string a0_6], .agg #[.int .i64 a1_0, .int .i64 a1_1, .string a1_2, .int .i64 a1_3, .string a1_4, .int .i64 a1_5, .string a1_6]] w fun e w' => e = .returned (.bool r) ∧ Below w.heap.size w w' := by
  have hu73 := Try.underlying73
  have HB := Aside0.mk (Below.refl w.heap.size w)
  have H : (if a1_0 = 4 then (spec_l4Joins.j0 k (a0_5 != a1_5) a0_0 a0_1 a0_2 a0_3 a0_4 a0_5 a0_6 a1_0 a1_1 a1_2 a1_3 a1_4 a1_5 a1_6) else (spec_l4Joins.j0 k true a0_0 a0_1 a0_2 a0_3 a0_4 a0_5 a0_6 a1_0 a1_1 a1_2 a1_3 a1_4 a1_5 a1_6)) = some r := h
  clear h
  have HC3 := Aside0.mk H
  clear H
  go_enter Try.func159, Try.ntmps159
  go_upto_region 1 with (first | ((with_reducible refine gate_dst (N := 2) rfl ?_); refine box_event ?hg (N := 2) ?hd (cs := #[.int .i64 a0_0, .int .i64 a0_1, .string a0_2, .int .i64 a0_3, .string a0_4, .int .i64 a0_5, .string a0_6]) (t := 73) ?hr ?_; (case hd => rfl); (case hg => rfl); (case hr => first | (go_simp; done) | (go_simp; rfl)); intro gb672 hg w4 hbox hb; have n0_ := Aside0.mk (below_step (by repeat (first | (with_reducible first | exact HB.out | apply below_alloc | apply pw_below_drewN | apply below_drew1) | exact HB.out)) hb); have n1_ := Aside0.mk (hbox); have n2_ := Aside0.mk ((by rw [hg]; exact (below_size (by repeat (first | (with_reducible first | exact HB.out | apply below_alloc | apply pw_below_drewN | apply below_drew1) | exact HB.out))) : w.heap.size ≤ gb672)); have n3_ := Aside0.mk ((by rw [hg]; exact (below_size (by repeat (first | (with_reducible first | exact HB.out | apply below_alloc | apply pw_below_drewN | apply below_drew1) | exact HB.out))) : w.heap.size ≤ gb672)); clear HB; have HB := n0_; have BK672 := n1_; have GW672 := n2_; have GE672 := n3_; clear n0_ n1_ n2_ n3_; clear hb hbox hg) | ((with_reducible refine gate_dst (N := 3) rfl ?_); refine box_event ?hg (N := 3) ?hd (cs := #[.int .i64 a1_0, .int .i64 a1_1, .string a1_2, .int .i64 a1_3, .string a1_4, .int .i64 a1_5, .string a1_6]) (t := 73) ?hr ?_; (case hd => rfl); (case hg => rfl); (case hr => first | (go_simp; done) | (go_simp; rfl)); intro gb673 hg w5 hbox hb; have n0_ := Aside0.mk (blk_below (g := gb672) (o := .cells #[.int .i64 a0_0, .int .i64 a0_1, .string a0_2, .int .i64 a0_3, .string a0_4, .int .i64 a0_5, .string a0_6] 73 (0, 0)) (by (with_reducible repeat (first | refine blk_drewN ?_ _ | refine blk_drew ?_ | refine blk_alloc ?_ _)); exact BK672.out) hb); have n1_ := Aside0.mk (below_step (by repeat (first | (with_reducible first | exact HB.out | apply below_alloc | apply pw_below_drewN | apply below_drew1 | refine below_set ?_ GE672.out) | exact HB.out)) hb); have n2_ := Aside0.mk (hbox); have n3_ := Aside0.mk ((by rw [hg]; exact (below_size (by repeat (first | (with_reducible first | exact HB.out | apply below_alloc | apply pw_below_drewN | apply below_drew1 | refine below_set ?_ GE672.out) | exact HB.out))) : w.heap.size ≤ gb673)); have n4_ := Aside0.mk ((by rw [hg]; exact (below_size (by repeat (first | (with_reducible first | exact HB.out | apply below_alloc | apply pw_below_drewN | apply below_drew1 | refine below_set ?_ GE672.out) | exact HB.out))) : w.heap.size ≤ gb673)); have n5_ := Aside0.mk ((by rw [hg]; exact Nat.ne_of_lt (blk_lt (g := gb672) (o := .cells #[.int .i64 a0_0, .int .i64 a0_1, .string a0_2, .int .i64 a0_3, .string a0_4, .int .i64 a0_5, .string a0_6] 73 (0, 0)) (by (with_reducible repeat (first | refine blk_drewN ?_ _ | refine blk_drew ?_ | refine blk_alloc ?_ _)); exact BK672.out)) : gb672 ≠ gb673)); have n6_ := Aside0.mk ((by rw [hg]; exact Nat.ne_of_gt (blk_lt (g := gb672) (o := .cells #[.int .i64 a0_0, .int .i64 a0_1, .string a0_2, .int .i64 a0_3, .string a0_4, .int .i64 a0_5, .string a0_6] 73 (0, 0)) (by (with_reducible repeat (first | refine blk_drewN ?_ _ | refine blk_drew ?_ | refine blk_alloc ?_ _)); exact BK672.out)) : gb673 ≠ gb672)); clear BK672; clear HB; have BK672 := n0_; have HB := n1_; have BK673 := n2_; have GW673 := n3_; have GE673 := n4_; have NB672_673 := n5_; have NB673_672 := n6_; clear n0_ n1_ n2_ n3_ n4_ n5_ n6_; clear hb hbox hg))
  (try simp only [Act.put, List.setIfInBounds_toArray, List.set_cons_zero, List.set_cons_succ])
  go_cut [14] (fun v14 wc => ∃ (kq : Nat) (x14_2 : Bool), v14 = .bool x14_2 ∧ Aside0 (spec_l4Joins.j0 kq x14_2 a0_0 a0_1 a0_2 a0_3 a0_4 a0_5 a0_6 a1_0 a1_1 a1_2 a1_3 a1_4 a1_5 a1_6 = some r) ∧ Aside0 (kq ≤ k) ∧ Aside0 (wc.heap[gb672]? = some (.cells #[.int .i64 a0_0, .int .i64 a0_1, .string a0_2, .int .i64 a0_3, .string a0_4, .int .i64 a0_5, .string a0_6] 73 (0, 0))) ∧ Aside0 (wc.heap[gb673]? = some (.cells #[.int .i64 a1_0, .int .i64 a1_1, .string a1_2, .int .i64 a1_3, .string a1_4, .int .i64 a1_5, .string a1_6] 73 (0, 0))) ∧ Aside0 (Below w.heap.size w wc))
  case first =>
    have H := HC3.out
    clear HC3
    by_cases c6 : a1_0 = 4
    · rw [if_pos c6] at H
      have c6b0 : (a1_0 == 4) = true := beq_iff_eq.mpr c6
      have c6b1 : (a1_0 != 4) = false := bne_eq_false_iff_eq.mpr c6
      clear c6
      (first | rw [c6b0] | (simp only [i64_w, i32_w]; rw [c6b0]) | skip)
      have H' := Aside0.mk H
      clear H
      have hnb7 := NB673_672.out
      have hnc7 := NB672_673.out
      have hcz8_0 : w5.cell? ⟨gb673, 0, none⟩ = some (.int .i64 a1_0) := (blk_cell BK673.out 0).trans rfl
      have hcz8_1 : w5.cell? ⟨gb673, 1, none⟩ = some (.int .i64 a1_1) := (blk_cell BK673.out 1).trans rfl
      have hcz8_2 : w5.cell? ⟨gb673, 2, none⟩ = some (.string a1_2) := (blk_cell BK673.out 2).trans rfl
      have hcz8_3 : w5.cell? ⟨gb673, 3, none⟩ = some (.int .i64 a1_3) := (blk_cell BK673.out 3).trans rfl
      have hcz8_4 : w5.cell? ⟨gb673, 4, none⟩ = some (.string a1_4) := (blk_cell BK673.out 4).trans rfl
      have hcz8_5 : w5.cell? ⟨gb673, 5, none⟩ = some (.int .i64 a1_5) := (blk_cell BK673.out 5).trans rfl
      have hcz8_6 : w5.cell? ⟨gb673, 6, none⟩ = some (.string a1_6) := (blk_cell BK673.out 6).trans rfl
      have hfz8_0 := blk_frozen BK673.out 0
      have hfz8_1 := blk_frozen BK673.out 1
      have hfz8_2 := blk_frozen BK673.out 2
      have hfz8_3 := blk_frozen BK673.out 3
      have hfz8_4 := blk_frozen BK673.out 4
      have hfz8_5 := blk_frozen BK673.out 5
      have hfz8_6 := blk_frozen BK673.out 6
      have hcz9_0 : w5.cell? ⟨gb672, 0, none⟩ = some (.int .i64 a0_0) := (blk_cell BK672.out 0).trans rfl
      have hcz9_1 : w5.cell? ⟨gb672, 1, none⟩ = some (.int .i64 a0_1) := (blk_cell BK672.out 1).trans rfl
      have hcz9_2 : w5.cell? ⟨gb672, 2, none⟩ = some (.string a0_2) := (blk_cell BK672.out 2).trans rfl
      have hcz9_3 : w5.cell? ⟨gb672, 3, none⟩ = some (.int .i64 a0_3) := (blk_cell BK672.out 3).trans rfl
      have hcz9_4 : w5.cell? ⟨gb672, 4, none⟩ = some (.string a0_4) := (blk_cell BK672.out 4).trans rfl
      have hcz9_5 : w5.cell? ⟨gb672, 5, none⟩ = some (.int .i64 a0_5) := (blk_cell BK672.out 5).trans rfl
      have hcz9_6 : w5.cell? ⟨gb672, 6, none⟩ = some (.string a0_6) := (blk_cell BK672.out 6).trans rfl
      have hfz9_0 := blk_frozen BK672.out 0
      have hfz9_1 := blk_frozen BK672.out 1
      have hfz9_2 := blk_frozen BK672.out 2
      have hfz9_3 := blk_frozen BK672.out 3
      have hfz9_4 := blk_frozen BK672.out 4
      have hfz9_5 := blk_frozen BK672.out 5
      have hfz9_6 := blk_frozen BK672.out 6
      go_wp2
      go_meet
      case rel => exact ⟨_, ((a0_5 != a1_5)), (by first | rfl | (simp; done) | (simp [*]; done)), H', ⟨by first | omega | exact Nat.le_refl _⟩, ⟨by (with_reducible repeat (first | refine blk_drewN ?_ _ | refine blk_drew ?_ | refine blk_alloc ?_ _)); exact BK672.out⟩, ⟨by (with_reducible repeat (first | refine blk_drewN ?_ _ | refine blk_drew ?_ | refine blk_alloc ?_ _)); exact BK673.out⟩, ⟨by repeat (first | (with_reducible first | exact HB.out | apply below_alloc | apply pw_below_drewN | apply below_drew1 | refine below_set ?_ GE672.out | refine below_set ?_ GE673.out) | exact HB.out)⟩⟩
    · rw [if_neg c6] at H
      have c6b0 : (a1_0 == 4) = false := beq_eq_false_iff_ne.mpr c6
      have c6b1 : (a1_0 != 4) = true := bne_iff_ne.mpr c6
      (first | rw [c6b0] | (simp only [i64_w, i32_w]; rw [c6b0]) | skip)
      have H' := Aside0.mk H
      clear H
      have hnb10 := NB673_672.out
      have hnc10 := NB672_673.out
      have hcz11_0 : w5.cell? ⟨gb673, 0, none⟩ = some (.int .i64 a1_0) := (blk_cell BK673.out 0).trans rfl
      have hcz11_1 : w5.cell? ⟨gb673, 1, none⟩ = some (.int .i64 a1_1) := (blk_cell BK673.out 1).trans rfl
      have hcz11_2 : w5.cell? ⟨gb673, 2, none⟩ = some (.string a1_2) := (blk_cell BK673.out 2).trans rfl
      have hcz11_3 : w5.cell? ⟨gb673, 3, none⟩ = some (.int .i64 a1_3) := (blk_cell BK673.out 3).trans rfl
      have hcz11_4 : w5.cell? ⟨gb673, 4, none⟩ = some (.string a1_4) := (blk_cell BK673.out 4).trans rfl
      have hcz11_5 : w5.cell? ⟨gb673, 5, none⟩ = some (.int .i64 a1_5) := (blk_cell BK673.out 5).trans rfl
      have hcz11_6 : w5.cell? ⟨gb673, 6, none⟩ = some (.string a1_6) := (blk_cell BK673.out 6).trans rfl
      have hfz11_0 := blk_frozen BK673.out 0
      have hfz11_1 := blk_frozen BK673.out 1
      have hfz11_2 := blk_frozen BK673.out 2
      have hfz11_3 := blk_frozen BK673.out 3
      have hfz11_4 := blk_frozen BK673.out 4
      have hfz11_5 := blk_frozen BK673.out 5
      have hfz11_6 := blk_frozen BK673.out 6
      go_wp2
      go_meet
      case rel => exact ⟨_, (true), (by first | rfl | (simp; done) | (simp [*]; done)), H', ⟨by first | omega | exact Nat.le_refl _⟩, ⟨by (with_reducible repeat (first | refine blk_drewN ?_ _ | refine blk_drew ?_ | refine blk_alloc ?_ _)); exact BK672.out⟩, ⟨by (with_reducible repeat (first | refine blk_drewN ?_ _ | refine blk_drew ?_ | refine blk_alloc ?_ _)); exact BK673.out⟩, ⟨by repeat (first | (with_reducible first | exact HB.out | apply below_alloc | apply pw_below_drewN | apply below_drew1 | refine below_set ?_ GE672.out | refine below_set ?_ GE673.out) | exact HB.out)⟩⟩
  case rest =>
    clear HC3; (try clear c1); (try clear p2); (try clear c6); (try clear c6b0); (try clear c6b1); (try clear c7); (try clear c10); (try clear hcz11_0); (try clear hcz11_1); (try clear hcz11_2); (try clear hcz11_3); (try clear hcz11_4); (try clear hcz11_5); (try clear hcz11_6); (try clear hcz8_0); (try clear hcz8_1); (try clear hcz8_2); (try clear hcz8_3); (try clear hcz8_4); (try clear hcz8_5); (try clear hcz8_6); (try clear hcz9_0); (try clear hcz9_1); (try clear hcz9_2); (try clear hcz9_3); (try clear hcz9_4); (try clear hcz9_5); (try clear hcz9_6); (try clear hfz11_0); (try clear hfz11_1); (try clear hfz11_2); (try clear hfz11_3); (try clear hfz11_4); (try clear hfz11_5); (try clear hfz11_6); (try clear hfz8_0); (try clear hfz8_1); (try clear hfz8_2); (try clear hfz8_3); (try clear hfz8_4); (try clear hfz8_5); (try clear hfz8_6); (try clear hfz9_0); (try clear hfz9_1); (try clear hfz9_2); (try clear hfz9_3); (try clear hfz9_4); (try clear hfz9_5); (try clear hfz9_6)
    obtain ⟨kq, x14_2, rfl, HA, HJ2, BK672, BK673, HB⟩ := hcut
    cases kq with
    | zero => exact absurd HA.out (by simp [spec_l4Joins.j0])
    | succ kj2 =>
      have H := HA.out
      clear HA
      simp only [spec_l4Joins.j0] at H
      by_cases c12 : x14_2 = true
      · subst c12
        have H1 : (some false) = some r := by rw [if_pos rfl] at H; exact H
        clear H
        have H := H1
        clear H1
        obtain rfl := Option.some.inj H
        go_wp2
        go_ret
        exact ⟨by first | rfl | (simp [errW_none, errW_some] <;> rfl) | (simp [*, errW_none, errW_some] <;> rfl), by repeat (first | (with_reducible first | exact HB.out | apply below_alloc | apply pw_below_drewN | apply below_drew1 | refine below_set ?_ GE672.out | refine below_set ?_ GE673.out) | exact HB.out)⟩
      · replace c12 := Bool.eq_false_iff.mpr c12
        subst c12
        have H1 : (if a0_0 = 1 then (spec_l4Joins.j1 kj2 a0_0 (a0_0 == 1) a0_0 a0_1 a0_2 a0_3 a0_4 a0_5 a0_6 a1_0 a1_1 a1_2 a1_3 a1_4 a1_5 a1_6) else (spec_l4Joins.j1 kj2 a0_0 (a0_0 == 2) a0_0 a0_1 a0_2 a0_3 a0_4 a0_5 a0_6 a1_0 a1_1 a1_2 a1_3 a1_4 a1_5 a1_6)) = some r := by rw [if_neg (show ¬ (false = true) by decide)] at H; exact H
        clear H
        have H := H1
        clear H1
        have HC13 := Aside0.mk H
        clear H
        have hnb14 := NB672_673.out
        have hnc14 := NB673_672.out
        have hcz15_0 : wc.cell? ⟨gb672, 0, none⟩ = some (.int .i64 a0_0) := (blk_cell BK672.out 0).trans rfl
        have hcz15_1 : wc.cell? ⟨gb672, 1, none⟩ = some (.int .i64 a0_1) := (blk_cell BK672.out 1).trans rfl
        have hcz15_2 : wc.cell? ⟨gb672, 2, none⟩ = some (.string a0_2) := (blk_cell BK672.out 2).trans rfl
        have hcz15_3 : wc.cell? ⟨gb672, 3, none⟩ = some (.int .i64 a0_3) := (blk_cell BK672.out 3).trans rfl
        have hcz15_4 : wc.cell? ⟨gb672, 4, none⟩ = some (.string a0_4) := (blk_cell BK672.out 4).trans rfl
        have hcz15_5 : wc.cell? ⟨gb672, 5, none⟩ = some (.int .i64 a0_5) := (blk_cell BK672.out 5).trans rfl
        have hcz15_6 : wc.cell? ⟨gb672, 6, none⟩ = some (.string a0_6) := (blk_cell BK672.out 6).trans rfl
        have hfz15_0 := blk_frozen BK672.out 0
        have hfz15_1 := blk_frozen BK672.out 1
        have hfz15_2 := blk_frozen BK672.out 2
        have hfz15_3 := blk_frozen BK672.out 3
        have hfz15_4 := blk_frozen BK672.out 4
        have hfz15_5 := blk_frozen BK672.out 5
        have hfz15_6 := blk_frozen BK672.out 6
        go_upto_if 17 with (fail)
        go_cut [17] (fun v17 wc => ∃ (kq : Nat) (x17_12 : Bool), v17 = .bool x17_12 ∧ Aside0 (spec_l4Joins.j1 kq a0_0 x17_12 a0_0 a0_1 a0_2 a0_3 a0_4 a0_5 a0_6 a1_0 a1_1 a1_2 a1_3 a1_4 a1_5 a1_6 = some r) ∧ Aside0 (kq ≤ kj2) ∧ Aside0 (wc.heap[gb672]? = some (.cells #[.int .i64 a0_0, .int .i64 a0_1, .string a0_2, .int .i64 a0_3, .string a0_4, .int .i64 a0_5, .string a0_6] 73 (0, 0))) ∧ Aside0 (wc.heap[gb673]? = some (.cells #[.int .i64 a1_0, .int .i64 a1_1, .string a1_2, .int .i64 a1_3, .string a1_4, .int .i64 a1_5, .string a1_6] 73 (0, 0))) ∧ Aside0 (Below w.heap.size w wc))
        case first =>
          have H := HC13.out
          clear HC13
          by_cases c16 : a0_0 = 1
          · rw [if_pos c16] at H
            have c16b0 : (a0_0 == 1) = true := beq_iff_eq.mpr c16
            have c16b1 : (a0_0 != 1) = false := bne_eq_false_iff_eq.mpr c16
            clear c16
            (first | rw [c16b0] | (simp only [i64_w, i32_w]; rw [c16b0]) | skip)
            have H' := Aside0.mk H
            clear H
            go_wp2
            go_meet
            case rel => exact ⟨_, ((a0_0 == 1)), (by first | rfl | (simp; done) | (simp [*]; done)), H', ⟨by have := HJ2.out; first | omega | exact Nat.le_refl _⟩, ⟨by (with_reducible repeat (first | refine blk_drewN ?_ _ | refine blk_drew ?_ | refine blk_alloc ?_ _)); exact BK672.out⟩, ⟨by (with_reducible repeat (first | refine blk_drewN ?_ _ | refine blk_drew ?_ | refine blk_alloc ?_ _)); exact BK673.out⟩, ⟨by repeat (first | (with_reducible first | exact HB.out | apply below_alloc | apply pw_below_drewN | apply below_drew1 | refine below_set ?_ GE672.out | refine below_set ?_ GE673.out) | exact HB.out)⟩⟩
          · rw [if_neg c16] at H
            have c16b0 : (a0_0 == 1) = false := beq_eq_false_iff_ne.mpr c16
            have c16b1 : (a0_0 != 1) = true := bne_iff_ne.mpr c16
            (first | rw [c16b0] | (simp only [i64_w, i32_w]; rw [c16b0]) | skip)
            have H' := Aside0.mk H
            clear H
            go_wp2
            go_meet
            case rel => exact ⟨_, ((a0_0 == 2)), (by first | rfl | (simp; done) | (simp [*]; done)), H', ⟨by have := HJ2.out; first | omega | exact Nat.le_refl _⟩, ⟨by (with_reducible repeat (first | refine blk_drewN ?_ _ | refine blk_drew ?_ | refine blk_alloc ?_ _)); exact BK672.out⟩, ⟨by (with_reducible repeat (first | refine blk_drewN ?_ _ | refine blk_drew ?_ | refine blk_alloc ?_ _)); exact BK673.out⟩, ⟨by repeat (first | (with_reducible first | exact HB.out | apply below_alloc | apply pw_below_drewN | apply below_drew1 | refine below_set ?_ GE672.out | refine below_set ?_ GE673.out) | exact HB.out)⟩⟩
        case rest =>
          clear HC13; (try clear c1); (try clear p2); (try clear c6); (try clear c6b0); (try clear c6b1); (try clear c7); (try clear c10); (try clear c12); (try clear c14); (try clear c15); (try clear c16); (try clear c16b0); (try clear c16b1); (try clear hcz11_0); (try clear hcz11_1); (try clear hcz11_2); (try clear hcz11_3); (try clear hcz11_4); (try clear hcz11_5); (try clear hcz11_6); (try clear hcz15_0); (try clear hcz15_1); (try clear hcz15_2); (try clear hcz15_3); (try clear hcz15_4); (try clear hcz15_5); (try clear hcz15_6); (try clear hcz8_0); (try clear hcz8_1); (try clear hcz8_2); (try clear hcz8_3); (try clear hcz8_4); (try clear hcz8_5); (try clear hcz8_6); (try clear hcz9_0); (try clear hcz9_1); (try clear hcz9_2); (try clear hcz9_3); (try clear hcz9_4); (try clear hcz9_5); (try clear hcz9_6); (try clear hfz11_0); (try clear hfz11_1); (try clear hfz11_2); (try clear hfz11_3); (try clear hfz11_4); (try clear hfz11_5); (try clear hfz11_6); (try clear hfz15_0); (try clear hfz15_1); (try clear hfz15_2); (try clear hfz15_3); (try clear hfz15_4); (try clear hfz15_5); (try clear hfz15_6); (try clear hfz8_0); (try clear hfz8_1); (try clear hfz8_2); (try clear hfz8_3); (try clear hfz8_4); (try clear hfz8_5); (try clear hfz8_6); (try clear hfz9_0); (try clear hfz9_1); (try clear hfz9_2); (try clear hfz9_3); (try clear hfz9_4); (try clear hfz9_5); (try clear hfz9_6); (try clear p2)
          obtain ⟨kq, x17_12, rfl, HA, HJ12, BK672, BK673, HB⟩ := hcut
          cases kq with
          | zero => exact absurd HA.out (by simp [spec_l4Joins.j1])
          | succ kj12 =>
            have H := HA.out
            clear HA
            simp only [spec_l4Joins.j1] at H
            by_cases c17 : x17_12 = true
            · subst c17
              have H1 : (if a1_1 = a0_1 then (some (a1_2.toList == a0_2.toList)) else (some false)) = some r := by rw [if_pos rfl] at H; exact H
              clear H
              have H := H1
              clear H1
              by_cases c18 : a1_1 = a0_1
              · rw [if_pos c18] at H
                have c18b0 : (a1_1 == a0_1) = true := beq_iff_eq.mpr c18
                have c18b1 : (a1_1 != a0_1) = false := bne_eq_false_iff_eq.mpr c18
                clear c18
                obtain rfl := Option.some.inj H
                have hnb19 := NB673_672.out
                have hnc19 := NB672_673.out
                have hcz20_0 : wc.cell? ⟨gb673, 0, none⟩ = some (.int .i64 a1_0) := (blk_cell BK673.out 0).trans rfl
                have hcz20_1 : wc.cell? ⟨gb673, 1, none⟩ = some (.int .i64 a1_1) := (blk_cell BK673.out 1).trans rfl
                have hcz20_2 : wc.cell? ⟨gb673, 2, none⟩ = some (.string a1_2) := (blk_cell BK673.out 2).trans rfl
                have hcz20_3 : wc.cell? ⟨gb673, 3, none⟩ = some (.int .i64 a1_3) := (blk_cell BK673.out 3).trans rfl
                have hcz20_4 : wc.cell? ⟨gb673, 4, none⟩ = some (.string a1_4) := (blk_cell BK673.out 4).trans rfl
                have hcz20_5 : wc.cell? ⟨gb673, 5, none⟩ = some (.int .i64 a1_5) := (blk_cell BK673.out 5).trans rfl
                have hcz20_6 : wc.cell? ⟨gb673, 6, none⟩ = some (.string a1_6) := (blk_cell BK673.out 6).trans rfl
                have hfz20_0 := blk_frozen BK673.out 0
                have hfz20_1 := blk_frozen BK673.out 1
                have hfz20_2 := blk_frozen BK673.out 2
                have hfz20_3 := blk_frozen BK673.out 3
                have hfz20_4 := blk_frozen BK673.out 4
                have hfz20_5 := blk_frozen BK673.out 5
                have hfz20_6 := blk_frozen BK673.out 6
                have hcz21_0 : wc.cell? ⟨gb672, 0, none⟩ = some (.int .i64 a0_0) := (blk_cell BK672.out 0).trans rfl
                have hcz21_1 : wc.cell? ⟨gb672, 1, none⟩ = some (.int .i64 a0_1) := (blk_cell BK672.out 1).trans rfl
                have hcz21_2 : wc.cell? ⟨gb672, 2, none⟩ = some (.string a0_2) := (blk_cell BK672.out 2).trans rfl
                have hcz21_3 : wc.cell? ⟨gb672, 3, none⟩ = some (.int .i64 a0_3) := (blk_cell BK672.out 3).trans rfl
                have hcz21_4 : wc.cell? ⟨gb672, 4, none⟩ = some (.string a0_4) := (blk_cell BK672.out 4).trans rfl
                have hcz21_5 : wc.cell? ⟨gb672, 5, none⟩ = some (.int .i64 a0_5) := (blk_cell BK672.out 5).trans rfl
                have hcz21_6 : wc.cell? ⟨gb672, 6, none⟩ = some (.string a0_6) := (blk_cell BK672.out 6).trans rfl
                have hfz21_0 := blk_frozen BK672.out 0
                have hfz21_1 := blk_frozen BK672.out 1
                have hfz21_2 := blk_frozen BK672.out 2
                have hfz21_3 := blk_frozen BK672.out 3
                have hfz21_4 := blk_frozen BK672.out 4
                have hfz21_5 := blk_frozen BK672.out 5
                have hfz21_6 := blk_frozen BK672.out 6
                go_wp2
                go_ret
                exact ⟨by first | rfl | (simp [errW_none, errW_some] <;> rfl) | (simp [*, errW_none, errW_some] <;> rfl), by repeat (first | (with_reducible first | exact HB.out | apply below_alloc | apply pw_below_drewN | apply below_drew1 | refine below_set ?_ GE672.out | refine below_set ?_ GE673.out) | exact HB.out)⟩
              · rw [if_neg c18] at H
                have c18b0 : (a1_1 == a0_1) = false := beq_eq_false_iff_ne.mpr c18
                have c18b1 : (a1_1 != a0_1) = true := bne_iff_ne.mpr c18
                obtain rfl := Option.some.inj H
                have hnb22 := NB673_672.out
                have hnc22 := NB672_673.out
                have hcz23_0 : wc.cell? ⟨gb673, 0, none⟩ = some (.int .i64 a1_0) := (blk_cell BK673.out 0).trans rfl
                have hcz23_1 : wc.cell? ⟨gb673, 1, none⟩ = some (.int .i64 a1_1) := (blk_cell BK673.out 1).trans rfl
                have hcz23_2 : wc.cell? ⟨gb673, 2, none⟩ = some (.string a1_2) := (blk_cell BK673.out 2).trans rfl
                have hcz23_3 : wc.cell? ⟨gb673, 3, none⟩ = some (.int .i64 a1_3) := (blk_cell BK673.out 3).trans rfl
                have hcz23_4 : wc.cell? ⟨gb673, 4, none⟩ = some (.string a1_4) := (blk_cell BK673.out 4).trans rfl
                have hcz23_5 : wc.cell? ⟨gb673, 5, none⟩ = some (.int .i64 a1_5) := (blk_cell BK673.out 5).trans rfl
                have hcz23_6 : wc.cell? ⟨gb673, 6, none⟩ = some (.string a1_6) := (blk_cell BK673.out 6).trans rfl
                have hfz23_0 := blk_frozen BK673.out 0
                have hfz23_1 := blk_frozen BK673.out 1
                have hfz23_2 := blk_frozen BK673.out 2
                have hfz23_3 := blk_frozen BK673.out 3
                have hfz23_4 := blk_frozen BK673.out 4
                have hfz23_5 := blk_frozen BK673.out 5
                have hfz23_6 := blk_frozen BK673.out 6
                have hcz24_0 : wc.cell? ⟨gb672, 0, none⟩ = some (.int .i64 a0_0) := (blk_cell BK672.out 0).trans rfl
                have hcz24_1 : wc.cell? ⟨gb672, 1, none⟩ = some (.int .i64 a0_1) := (blk_cell BK672.out 1).trans rfl
                have hcz24_2 : wc.cell? ⟨gb672, 2, none⟩ = some (.string a0_2) := (blk_cell BK672.out 2).trans rfl
                have hcz24_3 : wc.cell? ⟨gb672, 3, none⟩ = some (.int .i64 a0_3) := (blk_cell BK672.out 3).trans rfl
                have hcz24_4 : wc.cell? ⟨gb672, 4, none⟩ = some (.string a0_4) := (blk_cell BK672.out 4).trans rfl
                have hcz24_5 : wc.cell? ⟨gb672, 5, none⟩ = some (.int .i64 a0_5) := (blk_cell BK672.out 5).trans rfl
                have hcz24_6 : wc.cell? ⟨gb672, 6, none⟩ = some (.string a0_6) := (blk_cell BK672.out 6).trans rfl
                have hfz24_0 := blk_frozen BK672.out 0
                have hfz24_1 := blk_frozen BK672.out 1
                have hfz24_2 := blk_frozen BK672.out 2
                have hfz24_3 := blk_frozen BK672.out 3
                have hfz24_4 := blk_frozen BK672.out 4
                have hfz24_5 := blk_frozen BK672.out 5
                have hfz24_6 := blk_frozen BK672.out 6
                go_wp2
                go_ret
                exact ⟨by first | rfl | (simp [errW_none, errW_some] <;> rfl) | (simp [*, errW_none, errW_some] <;> rfl), by repeat (first | (with_reducible first | exact HB.out | apply below_alloc | apply pw_below_drewN | apply below_drew1 | refine below_set ?_ GE672.out | refine below_set ?_ GE673.out) | exact HB.out)⟩
            · replace c17 := Bool.eq_false_iff.mpr c17
              subst c17
              have H1 : (if a0_0 = 4 then (if a1_1 = a0_3 then (some (a1_2.toList == a0_4.toList)) else (some false)) else (some false)) = some r := by rw [if_neg (show ¬ (false = true) by decide)] at H; exact H
              clear H
              have H := H1
              clear H1
              by_cases c25 : a0_0 = 4
              · rw [if_pos c25] at H
                have c25b0 : (a0_0 == 4) = true := beq_iff_eq.mpr c25
                have c25b1 : (a0_0 != 4) = false := bne_eq_false_iff_eq.mpr c25
                clear c25
                by_cases c26 : a1_1 = a0_3
                · rw [if_pos c26] at H
                  have c26b0 : (a1_1 == a0_3) = true := beq_iff_eq.mpr c26
                  have c26b1 : (a1_1 != a0_3) = false := bne_eq_false_iff_eq.mpr c26
                  clear c26
                  obtain rfl := Option.some.inj H
                  have hnb27 := NB673_672.out
                  have hnc27 := NB672_673.out
                  have hcz28_0 : wc.cell? ⟨gb673, 0, none⟩ = some (.int .i64 a1_0) := (blk_cell BK673.out 0).trans rfl
                  have hcz28_1 : wc.cell? ⟨gb673, 1, none⟩ = some (.int .i64 a1_1) := (blk_cell BK673.out 1).trans rfl
                  have hcz28_2 : wc.cell? ⟨gb673, 2, none⟩ = some (.string a1_2) := (blk_cell BK673.out 2).trans rfl
                  have hcz28_3 : wc.cell? ⟨gb673, 3, none⟩ = some (.int .i64 a1_3) := (blk_cell BK673.out 3).trans rfl
                  have hcz28_4 : wc.cell? ⟨gb673, 4, none⟩ = some (.string a1_4) := (blk_cell BK673.out 4).trans rfl
                  have hcz28_5 : wc.cell? ⟨gb673, 5, none⟩ = some (.int .i64 a1_5) := (blk_cell BK673.out 5).trans rfl
                  have hcz28_6 : wc.cell? ⟨gb673, 6, none⟩ = some (.string a1_6) := (blk_cell BK673.out 6).trans rfl
                  have hfz28_0 := blk_frozen BK673.out 0
                  have hfz28_1 := blk_frozen BK673.out 1
                  have hfz28_2 := blk_frozen BK673.out 2
                  have hfz28_3 := blk_frozen BK673.out 3
                  have hfz28_4 := blk_frozen BK673.out 4
                  have hfz28_5 := blk_frozen BK673.out 5
                  have hfz28_6 := blk_frozen BK673.out 6
                  have hcz29_0 : wc.cell? ⟨gb672, 0, none⟩ = some (.int .i64 a0_0) := (blk_cell BK672.out 0).trans rfl
                  have hcz29_1 : wc.cell? ⟨gb672, 1, none⟩ = some (.int .i64 a0_1) := (blk_cell BK672.out 1).trans rfl
                  have hcz29_2 : wc.cell? ⟨gb672, 2, none⟩ = some (.string a0_2) := (blk_cell BK672.out 2).trans rfl
                  have hcz29_3 : wc.cell? ⟨gb672, 3, none⟩ = some (.int .i64 a0_3) := (blk_cell BK672.out 3).trans rfl
                  have hcz29_4 : wc.cell? ⟨gb672, 4, none⟩ = some (.string a0_4) := (blk_cell BK672.out 4).trans rfl
                  have hcz29_5 : wc.cell? ⟨gb672, 5, none⟩ = some (.int .i64 a0_5) := (blk_cell BK672.out 5).trans rfl
                  have hcz29_6 : wc.cell? ⟨gb672, 6, none⟩ = some (.string a0_6) := (blk_cell BK672.out 6).trans rfl
                  have hfz29_0 := blk_frozen BK672.out 0
                  have hfz29_1 := blk_frozen BK672.out 1
                  have hfz29_2 := blk_frozen BK672.out 2
                  have hfz29_3 := blk_frozen BK672.out 3
                  have hfz29_4 := blk_frozen BK672.out 4
                  have hfz29_5 := blk_frozen BK672.out 5
                  have hfz29_6 := blk_frozen BK672.out 6
                  go_wp2
                  go_ret
                  exact ⟨by first | rfl | (simp [errW_none, errW_some] <;> rfl) | (simp [*, errW_none, errW_some] <;> rfl), by repeat (first | (with_reducible first | exact HB.out | apply below_alloc | apply pw_below_drewN | apply below_drew1 | refine below_set ?_ GE672.out | refine below_set ?_ GE673.out) | exact HB.out)⟩
                · rw [if_neg c26] at H
                  have c26b0 : (a1_1 == a0_3) = false := beq_eq_false_iff_ne.mpr c26
                  have c26b1 : (a1_1 != a0_3) = true := bne_iff_ne.mpr c26
                  obtain rfl := Option.some.inj H
                  have hnb30 := NB673_672.out
                  have hnc30 := NB672_673.out
                  have hcz31_0 : wc.cell? ⟨gb673, 0, none⟩ = some (.int .i64 a1_0) := (blk_cell BK673.out 0).trans rfl
                  have hcz31_1 : wc.cell? ⟨gb673, 1, none⟩ = some (.int .i64 a1_1) := (blk_cell BK673.out 1).trans rfl
                  have hcz31_2 : wc.cell? ⟨gb673, 2, none⟩ = some (.string a1_2) := (blk_cell BK673.out 2).trans rfl
                  have hcz31_3 : wc.cell? ⟨gb673, 3, none⟩ = some (.int .i64 a1_3) := (blk_cell BK673.out 3).trans rfl
                  have hcz31_4 : wc.cell? ⟨gb673, 4, none⟩ = some (.string a1_4) := (blk_cell BK673.out 4).trans rfl
                  have hcz31_5 : wc.cell? ⟨gb673, 5, none⟩ = some (.int .i64 a1_5) := (blk_cell BK673.out 5).trans rfl
                  have hcz31_6 : wc.cell? ⟨gb673, 6, none⟩ = some (.string a1_6) := (blk_cell BK673.out 6).trans rfl
                  have hfz31_0 := blk_frozen BK673.out 0
                  have hfz31_1 := blk_frozen BK673.out 1
                  have hfz31_2 := blk_frozen BK673.out 2
                  have hfz31_3 := blk_frozen BK673.out 3
                  have hfz31_4 := blk_frozen BK673.out 4
                  have hfz31_5 := blk_frozen BK673.out 5
                  have hfz31_6 := blk_frozen BK673.out 6
                  have hcz32_0 : wc.cell? ⟨gb672, 0, none⟩ = some (.int .i64 a0_0) := (blk_cell BK672.out 0).trans rfl
                  have hcz32_1 : wc.cell? ⟨gb672, 1, none⟩ = some (.int .i64 a0_1) := (blk_cell BK672.out 1).trans rfl
                  have hcz32_2 : wc.cell? ⟨gb672, 2, none⟩ = some (.string a0_2) := (blk_cell BK672.out 2).trans rfl
                  have hcz32_3 : wc.cell? ⟨gb672, 3, none⟩ = some (.int .i64 a0_3) := (blk_cell BK672.out 3).trans rfl
                  have hcz32_4 : wc.cell? ⟨gb672, 4, none⟩ = some (.string a0_4) := (blk_cell BK672.out 4).trans rfl
                  have hcz32_5 : wc.cell? ⟨gb672, 5, none⟩ = some (.int .i64 a0_5) := (blk_cell BK672.out 5).trans rfl
                  have hcz32_6 : wc.cell? ⟨gb672, 6, none⟩ = some (.string a0_6) := (blk_cell BK672.out 6).trans rfl
                  have hfz32_0 := blk_frozen BK672.out 0
                  have hfz32_1 := blk_frozen BK672.out 1
                  have hfz32_2 := blk_frozen BK672.out 2
                  have hfz32_3 := blk_frozen BK672.out 3
                  have hfz32_4 := blk_frozen BK672.out 4
                  have hfz32_5 := blk_frozen BK672.out 5
                  have hfz32_6 := blk_frozen BK672.out 6
                  go_wp2
                  go_ret
                  exact ⟨by first | rfl | (simp [errW_none, errW_some] <;> rfl) | (simp [*, errW_none, errW_some] <;> rfl), by repeat (first | (with_reducible first | exact HB.out | apply below_alloc | apply pw_below_drewN | apply below_drew1 | refine below_set ?_ GE672.out | refine below_set ?_ GE673.out) | exact HB.out)⟩
              · rw [if_neg c25] at H
                have c25b0 : (a0_0 == 4) = false := beq_eq_false_iff_ne.mpr c25
                have c25b1 : (a0_0 != 4) = true := bne_iff_ne.mpr c25
                obtain rfl := Option.some.inj H
                go_wp2
                go_ret
                exact ⟨by first | rfl | (simp [errW_none, errW_some] <;> rfl) | (simp [*, errW_none, errW_some] <;> rfl), by repeat (first | (with_reducible first | exact HB.out | apply below_alloc | apply pw_below_drewN | apply below_drew1 | refine below_set ?_ GE672.out | refine below_set ?_ GE673.out) | exact HB.out)⟩
end Go.Proofs.Ytlaichooanflaaa.Q
namespace Go.Proofs.Ytlaichooanflaaa.Q
open Go.RowKit Go.Proofs.YtlaichooanflaaaW.PrintWords Go.Proofs.YtlaichooanflaaaW.PrintLast Go.Proofs.YtlaichooanflaaaW.PrintMore
attribute [local go_sem] Go.Proofs.Ytlaichooanflaaa.Mem.str_leq Go.Proofs.Ytlaichooanflaaa.Mem.str_gtr Go.Proofs.Ytlaichooanflaaa.Mem.str_geq max2_int min2_int max_two min_two max_three min_three max_four min_four   -- for this text's walks alone
set_option linter.unusedVariables false
set_option linter.unusedSimpArgs false
def spec_l4Join.f (a0_0 : Int) (a0_1 : Int) (a0_2 : ByteArray) (a0_3 : Int) (a0_4 : ByteArray) (a0_5 : Int) (a0_6 : ByteArray) (a1_0 : Int) (a1_1 : Int) (a1_2 : ByteArray) (a1_3 : Int) (a1_4 : ByteArray) (a1_5 : Int) (a1_6 : ByteArray) : Option ((List (S73))) := if a0_0 = 4 then (if a0_1 = a1_3 then (if a0_2.toList = a1_4.toList then (some (([] : List (S73)))) else (some (([(⟨a0_0, a0_1, a0_2, a1_3, a1_4, a0_5, a0_6⟩ : S73)] : List (S73))))) else (some (([(⟨a0_0, a0_1, a0_2, a1_3, a1_4, a0_5, a0_6⟩ : S73)] : List (S73))))) else (some (([(⟨a0_0, a1_3, a1_4, a0_3, a0_4, a0_5, a0_6⟩ : S73)] : List (S73))))
set_option maxHeartbeats 8000000 in
set_option maxRecDepth 100000 in
theorem spec_l4Join.calls (a0_0 : Int) (a0_1 : Int) (a0_2 : ByteArray) (a0_3 : Int) (a0_4 : ByteArray) (a0_5 : Int) (a0_6 : ByteArray) (a1_0 : Int) (a1_1 : Int) (a1_2 : ByteArray) (a1_3 : Int) (a1_4 : ByteArray) (a1_5 : Int) (a1_6 : ByteArray) (r : List (S73)) (w : World) (h : spec_l4Join.f a0_0 a0_1 a0_2 a0_3 a0_4 a0_5 a0_6 a1_0 a1_1 a1_2 a1_3 a1_4 a1_5 a1_6 = some r) :
    Calls Try.prog 160 #[.agg #[.int .i64 a0_0, .int .i64 a0_1, .string a0_2, .int .i64 a0_3, .string a0_4, .int .i64 a0_5, .string a0_6], .agg #[.int .i64 a1_0, .int .i64 a1_1, .string a1_2, .int .i64 a1_3, .string a1_4, .int .i64 a1_5, .string a1_6]] w fun e w' => ∃ v0_ : Value, e = .returned (v0_) ∧ Kd.R k73 73 w' w.heap.size (fun _ => True) v0_ r ∧ Below w.heap.size w w' := by
  have hu73 := Try.underlying73
  have HB := Aside0.mk (Below.refl w.heap.size w)
  have H : (if a0_0 = 4 then (if a0_1 = a1_3 then (if a0_2.toList = a1_4.toList then (some (([] : List (S73)))) else (some (([(⟨a0_0, a0_1, a0_2, a1_3, a1_4, a0_5, a0_6⟩ : S73)] : List (S73))))) else (some (([(⟨a0_0, a0_1, a0_2, a1_3, a1_4, a0_5, a0_6⟩ : S73)] : List (S73))))) else (some (([(⟨a0_0, a1_3, a1_4, a0_3, a0_4, a0_5, a0_6⟩ : S73)] : List (S73))))) = some r := h
  clear h
  by_cases c3 : a0_0 = 4
  · rw [if_pos c3] at H
    have c3b0 : (a0_0 == 4) = true := beq_iff_eq.mpr c3
    have c3b1 : (a0_0 != 4) = false := bne_eq_false_iff_eq.mpr c3
    clear c3
    by_cases c4 : a0_1 = a1_3
    · rw [if_pos c4] at H
      have c4b0 : (a0_1 == a1_3) = true := beq_iff_eq.mpr c4
      have c4b1 : (a0_1 != a1_3) = false := bne_eq_false_iff_eq.mpr c4
      clear c4
      by_cases c5 : a0_2.toList = a1_4.toList
      · rw [if_pos c5] at H
        have c5b0 : (a0_2.toList == a1_4.toList) = true := beq_iff_eq.mpr c5
        have c5b1 : (a0_2.toList != a1_4.toList) = false := bne_eq_false_iff_eq.mpr c5
        clear c5
        obtain ⟨y676, hy676⟩ : ∃ y_ : List (S73), y_ = (([] : List (S73))) := ⟨_, rfl⟩
        replace H : (some y676) = some r := by first | (rw [hy676]; with_reducible exact H) | (have H2_ := (Option.bind_some _ _).symm.trans H; rw [hy676]; with_reducible exact H2_) | (have H2_ := (Option.bind_some _ _).symm.trans H; with_reducible exact H2_) | with_reducible exact H | (rw [hy676]; exact H) | exact H
        have Ny676 := Aside0.mk hy676
        clear hy676
        obtain rfl := Option.some.inj H
        go_enter Try.func160, Try.ntmps160
        go_wp2_with (first | ((with_reducible refine gate_dst (N := 2) rfl ?_); refine box_event ?hg (N := 2) ?hd (cs := #[.int .i64 a0_0, .int .i64 a0_1, .string a0_2, .int .i64 a0_3, .string a0_4, .int .i64 a0_5, .string a0_6]) (t := 73) ?hr ?_; (case hd => rfl); (case hg => rfl); (case hr => first | (go_simp; done) | (go_simp; rfl)); intro gb674 hg w6 hbox hb; have n0_ := Aside0.mk (below_step (by repeat (first | (with_reducible first | exact HB.out | apply below_alloc | apply pw_below_drewN | apply below_drew1) | exact HB.out)) hb); have n1_ := Aside0.mk (hbox); have n2_ := Aside0.mk ((by rw [hg]; exact (below_size (by repeat (first | (with_reducible first | exact HB.out | apply below_alloc | apply pw_below_drewN | apply below_drew1) | exact HB.out))) : w.heap.size ≤ gb674)); have n3_ := Aside0.mk ((by rw [hg]; exact (below_size (by repeat (first | (with_reducible first | exact HB.out | apply below_alloc | apply pw_below_drewN | apply below_drew1) | exact HB.out))) : w.heap.size ≤ gb674)); clear HB; have HB := n0_; have BK674 := n1_; have GW674 := n2_; have GE674 := n3_; clear n0_ n1_ n2_ n3_; clear hb hbox hg) | ((with_reducible refine gate_dst (N := 3) rfl ?_); refine box_event ?hg (N := 3) ?hd (cs := #[.int .i64 a1_0, .int .i64 a1_1, .string a1_2, .int .i64 a1_3, .string a1_4, .int .i64 a1_5, .string a1_6]) (t := 73) ?hr ?_; (case hd => rfl); (case hg => rfl); (case hr => first | (go_simp; done) | (go_simp; rfl)); intro gb675 hg w7 hbox hb; have n0_ := Aside0.mk (blk_below (g := gb674) (o := .cells #[.int .i64 a0_0, .int .i64 a0_1, .string a0_2, .int .i64 a0_3, .string a0_4, .int .i64 a0_5, .string a0_6] 73 (0, 0)) (by (with_reducible repeat (first | refine blk_drewN ?_ _ | refine blk_drew ?_ | refine blk_alloc ?_ _)); exact BK674.out) hb); have n1_ := Aside0.mk (below_step (by repeat (first | (with_reducible first | exact HB.out | apply below_alloc | apply pw_below_drewN | apply below_drew1 | refine below_set ?_ GE674.out) | exact HB.out)) hb); have n2_ := Aside0.mk (hbox); have n3_ := Aside0.mk ((by rw [hg]; exact (below_size (by repeat (first | (with_reducible first | exact HB.out | apply below_alloc | apply pw_below_drewN | apply below_drew1 | refine below_set ?_ GE674.out) | exact HB.out))) : w.heap.size ≤ gb675)); have n4_ := Aside0.mk ((by rw [hg]; exact (below_size (by repeat (first | (with_reducible first | exact HB.out | apply below_alloc | apply pw_below_drewN | apply below_drew1 | refine below_set ?_ GE674.out) | exact HB.out))) : w.heap.size ≤ gb675)); have n5_ := Aside0.mk ((by rw [hg]; exact Nat.ne_of_lt (blk_lt (g := gb674) (o := .cells #[.int .i64 a0_0, .int .i64 a0_1, .string a0_2, .int .i64 a0_3, .string a0_4, .int .i64 a0_5, .string a0_6] 73 (0, 0)) (by (with_reducible repeat (first | refine blk_drewN ?_ _ | refine blk_drew ?_ | refine blk_alloc ?_ _)); exact BK674.out)) : gb674 ≠ gb675)); have n6_ := Aside0.mk ((by rw [hg]; exact Nat.ne_of_gt (blk_lt (g := gb674) (o := .cells #[.int .i64 a0_0, .int .i64 a0_1, .string a0_2, .int .i64 a0_3, .string a0_4, .int .i64 a0_5, .string a0_6] 73 (0, 0)) (by (with_reducible repeat (first | refine blk_drewN ?_ _ | refine blk_drew ?_ | refine blk_alloc ?_ _)); exact BK674.out)) : gb675 ≠ gb674)); clear BK674; clear HB; have BK674 := n0_; have HB := n1_; have BK675 := n2_; have GW675 := n3_; have GE675 := n4_; have NB674_675 := n5_; have NB675_674 := n6_; clear n0_ n1_ n2_ n3_ n4_ n5_ n6_; clear hb hbox hg; have hnb8 := NB674_675.out; have hnc8 := NB675_674.out; have hcz9_0 : w7.cell? ⟨gb674, 0, none⟩ = some (.int .i64 a0_0) := (blk_cell BK674.out 0).trans rfl; have hcz9_1 : w7.cell? ⟨gb674, 1, none⟩ = some (.int .i64 a0_1) := (blk_cell BK674.out 1).trans rfl; have hcz9_2 : w7.cell? ⟨gb674, 2, none⟩ = some (.string a0_2) := (blk_cell BK674.out 2).trans rfl; have hcz9_3 : w7.cell? ⟨gb674, 3, none⟩ = some (.int .i64 a0_3) := (blk_cell BK674.out 3).trans rfl; have hcz9_4 : w7.cell? ⟨gb674, 4, none⟩ = some (.string a0_4) := (blk_cell BK674.out 4).trans rfl; have hcz9_5 : w7.cell? ⟨gb674, 5, none⟩ = some (.int .i64 a0_5) := (blk_cell BK674.out 5).trans rfl; have hcz9_6 : w7.cell? ⟨gb674, 6, none⟩ = some (.string a0_6) := (blk_cell BK674.out 6).trans rfl; have hfz9_0 := blk_frozen BK674.out 0; have hfz9_1 := blk_frozen BK674.out 1; have hfz9_2 := blk_frozen BK674.out 2; have hfz9_3 := blk_frozen BK674.out 3; have hfz9_4 := blk_frozen BK674.out 4; have hfz9_5 := blk_frozen BK674.out 5; have hfz9_6 := blk_frozen BK674.out 6; have hcz10_0 : w7.cell? ⟨gb675, 0, none⟩ = some (.int .i64 a1_0) := (blk_cell BK675.out 0).trans rfl; have hcz10_1 : w7.cell? ⟨gb675, 1, none⟩ = some (.int .i64 a1_1) := (blk_cell BK675.out 1).trans rfl; have hcz10_2 : w7.cell? ⟨gb675, 2, none⟩ = some (.string a1_2) := (blk_cell BK675.out 2).trans rfl; have hcz10_3 : w7.cell? ⟨gb675, 3, none⟩ = some (.int .i64 a1_3) := (blk_cell BK675.out 3).trans rfl; have hcz10_4 : w7.cell? ⟨gb675, 4, none⟩ = some (.string a1_4) := (blk_cell BK675.out 4).trans rfl; have hcz10_5 : w7.cell? ⟨gb675, 5, none⟩ = some (.int .i64 a1_5) := (blk_cell BK675.out 5).trans rfl; have hcz10_6 : w7.cell? ⟨gb675, 6, none⟩ = some (.string a1_6) := (blk_cell BK675.out 6).trans rfl; have hfz10_0 := blk_frozen BK675.out 0; have hfz10_1 := blk_frozen BK675.out 1; have hfz10_2 := blk_frozen BK675.out 2; have hfz10_3 := blk_frozen BK675.out 3; have hfz10_4 := blk_frozen BK675.out 4; have hfz10_5 := blk_frozen BK675.out 5; have hfz10_6 := blk_frozen BK675.out 6) | ((with_reducible refine gate_dst (N := 28) rfl ?_); refine Kd.R_lit k73 _ 73 ?hg (N := 28) ?hd (xs := ([] : List (S73))) (inner := []) (ok := fun _ => True) (okp := fun _ => True) ?hr ?hp (fun _ hk => hk) trivial (Below.refl _ _) (Nat.le_refl _) (by simp) ?_; (case hd => rfl); (case hg => rfl); (case hr => first | (go_simp; done) | (go_simp; rfl)); (case hp => exact (Reps.none _ _)); intro v677 w11 ho12 hb hg_ hnew_; clear hg_ hnew_; (first | rw [← Ny676.out] at ho12 | (simp only [Int.reduceToNat] at ho12; rw [← Ny676.out] at ho12)); have n0_ := Aside0.mk (Kd.R_lower (Kd.R_newB (Kd.R_newB ho12 (g := gb674) (o := .cells #[.int .i64 a0_0, .int .i64 a0_1, .string a0_2, .int .i64 a0_3, .string a0_4, .int .i64 a0_5, .string a0_6] 73 (0, 0)) (by (with_reducible repeat (first | refine blk_drewN ?_ _ | refine blk_drew ?_ | refine blk_alloc ?_ _)); exact BK674.out)) (g := gb675) (o := .cells #[.int .i64 a1_0, .int .i64 a1_1, .string a1_2, .int .i64 a1_3, .string a1_4, .int .i64 a1_5, .string a1_6] 73 (0, 0)) (by (with_reducible repeat (first | refine blk_drewN ?_ _ | refine blk_drew ?_ | refine blk_alloc ?_ _)); exact BK675.out)) (below_size (by repeat (first | (with_reducible first | exact HB.out | apply below_alloc | apply pw_below_drewN | apply below_drew1 | refine below_set ?_ GE674.out | refine below_set ?_ GE675.out) | exact HB.out)))); have n1_ := Aside0.mk (blk_below (g := gb674) (o := .cells #[.int .i64 a0_0, .int .i64 a0_1, .string a0_2, .int .i64 a0_3, .string a0_4, .int .i64 a0_5, .string a0_6] 73 (0, 0)) (by (with_reducible repeat (first | refine blk_drewN ?_ _ | refine blk_drew ?_ | refine blk_alloc ?_ _)); exact BK674.out) hb); have n2_ := Aside0.mk (blk_below (g := gb675) (o := .cells #[.int .i64 a1_0, .int .i64 a1_1, .string a1_2, .int .i64 a1_3, .string a1_4, .int .i64 a1_5, .string a1_6] 73 (0, 0)) (by (with_reducible repeat (first | refine blk_drewN ?_ _ | refine blk_drew ?_ | refine blk_alloc ?_ _)); exact BK675.out) hb); have n3_ := Aside0.mk (below_step (by repeat (first | (with_reducible first | exact HB.out | apply below_alloc | apply pw_below_drewN | apply below_drew1 | refine below_set ?_ GE674.out | refine below_set ?_ GE675.out) | exact HB.out)) hb); clear BK674; clear BK675; clear HB; have HO678 := n0_; have BK674 := n1_; have BK675 := n2_; have HB := n3_; clear n0_ n1_ n2_ n3_; clear hb ho12))
        go_ret
        exact ⟨_, by first | rfl | (simp [errW_none, errW_some] <;> rfl) | (simp [*, errW_none, errW_some] <;> rfl), by (with_reducible repeat (first | apply Kd.R_alloc | apply Kd.R_drewN | apply Kd.R_drew)); exact Kd.R_mono HO678.out (fun _ hk => trivial), by repeat (first | (with_reducible first | exact HB.out | apply below_alloc | apply pw_below_drewN | apply below_drew1 | refine below_set ?_ GE674.out | refine below_set ?_ GE675.out) | exact HB.out)⟩
      · rw [if_neg c5] at H
        have c5b0 : (a0_2.toList == a1_4.toList) = false := beq_eq_false_iff_ne.mpr c5
        have c5b1 : (a0_2.toList != a1_4.toList) = true := bne_iff_ne.mpr c5
        obtain ⟨y679, hy679⟩ : ∃ y_ : List (S73), y_ = (([(⟨a0_0, a0_1, a0_2, a1_3, a1_4, a0_5, a0_6⟩ : S73)] : List (S73))) := ⟨_, rfl⟩
        replace H : (some y679) = some r := by first | (rw [hy679]; with_reducible exact H) | (have H2_ := (Option.bind_some _ _).symm.trans H; rw [hy679]; with_reducible exact H2_) | (have H2_ := (Option.bind_some _ _).symm.trans H; with_reducible exact H2_) | with_reducible exact H | (rw [hy679]; exact H) | exact H
        have Ny679 := Aside0.mk hy679
        clear hy679
        obtain rfl := Option.some.inj H
        go_enter Try.func160, Try.ntmps160
        go_wp2_with (first | ((with_reducible refine gate_dst (N := 2) rfl ?_); refine box_event ?hg (N := 2) ?hd (cs := #[.int .i64 a0_0, .int .i64 a0_1, .string a0_2, .int .i64 a0_3, .string a0_4, .int .i64 a0_5, .string a0_6]) (t := 73) ?hr ?_; (case hd => rfl); (case hg => rfl); (case hr => first | (go_simp; done) | (go_simp; rfl)); intro gb674 hg w13 hbox hb; have n0_ := Aside0.mk (below_step (by repeat (first | (with_reducible first | exact HB.out | apply below_alloc | apply pw_below_drewN | apply below_drew1) | exact HB.out)) hb); have n1_ := Aside0.mk (hbox); have n2_ := Aside0.mk ((by rw [hg]; exact (below_size (by repeat (first | (with_reducible first | exact HB.out | apply below_alloc | apply pw_below_drewN | apply below_drew1) | exact HB.out))) : w.heap.size ≤ gb674)); have n3_ := Aside0.mk ((by rw [hg]; exact (below_size (by repeat (first | (with_reducible first | exact HB.out | apply below_alloc | apply pw_below_drewN | apply below_drew1) | exact HB.out))) : w.heap.size ≤ gb674)); clear HB; have HB := n0_; have BK674 := n1_; have GW674 := n2_; have GE674 := n3_; clear n0_ n1_ n2_ n3_; clear hb hbox hg) | ((with_reducible refine gate_dst (N := 3) rfl ?_); refine box_event ?hg (N := 3) ?hd (cs := #[.int .i64 a1_0, .int .i64 a1_1, .string a1_2, .int .i64 a1_3, .string a1_4, .int .i64 a1_5, .string a1_6]) (t := 73) ?hr ?_; (case hd => rfl); (case hg => rfl); (case hr => first | (go_simp; done) | (go_simp; rfl)); intro gb675 hg w14 hbox hb; have n0_ := Aside0.mk (blk_below (g := gb674) (o := .cells #[.int .i64 a0_0, .int .i64 a0_1, .string a0_2, .int .i64 a0_3, .string a0_4, .int .i64 a0_5, .string a0_6] 73 (0, 0)) (by (with_reducible repeat (first | refine blk_drewN ?_ _ | refine blk_drew ?_ | refine blk_alloc ?_ _)); exact BK674.out) hb); have n1_ := Aside0.mk (below_step (by repeat (first | (with_reducible first | exact HB.out | apply below_alloc | apply pw_below_drewN | apply below_drew1 | refine below_set ?_ GE674.out) | exact HB.out)) hb); have n2_ := Aside0.mk (hbox); have n3_ := Aside0.mk ((by rw [hg]; exact (below_size (by repeat (first | (with_reducible first | exact HB.out | apply below_alloc | apply pw_below_drewN | apply below_drew1 | refine below_set ?_ GE674.out) | exact HB.out))) : w.heap.size ≤ gb675)); have n4_ := Aside0.mk ((by rw [hg]; exact (below_size (by repeat (first | (with_reducible first | exact HB.out | apply below_alloc | apply pw_below_drewN | apply below_drew1 | refine below_set ?_ GE674.out) | exact HB.out))) : w.heap.size ≤ gb675)); have n5_ := Aside0.mk ((by rw [hg]; exact Nat.ne_of_lt (blk_lt (g := gb674) (o := .cells #[.int .i64 a0_0, .int .i64 a0_1, .string a0_2, .int .i64 a0_3, .string a0_4, .int .i64 a0_5, .string a0_6] 73 (0, 0)) (by (with_reducible repeat (first | refine blk_drewN ?_ _ | refine blk_drew ?_ | refine blk_alloc ?_ _)); exact BK674.out)) : gb674 ≠ gb675)); have n6_ := Aside0.mk ((by rw [hg]; exact Nat.ne_of_gt (blk_lt (g := gb674) (o := .cells #[.int .i64 a0_0, .int .i64 a0_1, .string a0_2, .int .i64 a0_3, .string a0_4, .int .i64 a0_5, .string a0_6] 73 (0, 0)) (by (with_reducible repeat (first | refine blk_drewN ?_ _ | refine blk_drew ?_ | refine blk_alloc ?_ _)); exact BK674.out)) : gb675 ≠ gb674)); clear BK674; clear HB; have BK674 := n0_; have HB := n1_; have BK675 := n2_; have GW675 := n3_; have GE675 := n4_; have NB674_675 := n5_; have NB675_674 := n6_; clear n0_ n1_ n2_ n3_ n4_ n5_ n6_; clear hb hbox hg; have hnb15 := NB674_675.out; have hnc15 := NB675_674.out; have hcz16_0 : w14.cell? ⟨gb674, 0, none⟩ = some (.int .i64 a0_0) := (blk_cell BK674.out 0).trans rfl; have hcz16_1 : w14.cell? ⟨gb674, 1, none⟩ = some (.int .i64 a0_1) := (blk_cell BK674.out 1).trans rfl; have hcz16_2 : w14.cell? ⟨gb674, 2, none⟩ = some (.string a0_2) := (blk_cell BK674.out 2).trans rfl; have hcz16_3 : w14.cell? ⟨gb674, 3, none⟩ = some (.int .i64 a0_3) := (blk_cell BK674.out 3).trans rfl; have hcz16_4 : w14.cell? ⟨gb674, 4, none⟩ = some (.string a0_4) := (blk_cell BK674.out 4).trans rfl; have hcz16_5 : w14.cell? ⟨gb674, 5, none⟩ = some (.int .i64 a0_5) := (blk_cell BK674.out 5).trans rfl; have hcz16_6 : w14.cell? ⟨gb674, 6, none⟩ = some (.string a0_6) := (blk_cell BK674.out 6).trans rfl; have hfz16_0 := blk_frozen BK674.out 0; have hfz16_1 := blk_frozen BK674.out 1; have hfz16_2 := blk_frozen BK674.out 2; have hfz16_3 := blk_frozen BK674.out 3; have hfz16_4 := blk_frozen BK674.out 4; have hfz16_5 := blk_frozen BK674.out 5; have hfz16_6 := blk_frozen BK674.out 6; have hcz17_0 : w14.cell? ⟨gb675, 0, none⟩ = some (.int .i64 a1_0) := (blk_cell BK675.out 0).trans rfl; have hcz17_1 : w14.cell? ⟨gb675, 1, none⟩ = some (.int .i64 a1_1) := (blk_cell BK675.out 1).trans rfl; have hcz17_2 : w14.cell? ⟨gb675, 2, none⟩ = some (.string a1_2) := (blk_cell BK675.out 2).trans rfl; have hcz17_3 : w14.cell? ⟨gb675, 3, none⟩ = some (.int .i64 a1_3) := (blk_cell BK675.out 3).trans rfl; have hcz17_4 : w14.cell? ⟨gb675, 4, none⟩ = some (.string a1_4) := (blk_cell BK675.out 4).trans rfl; have hcz17_5 : w14.cell? ⟨gb675, 5, none⟩ = some (.int .i64 a1_5) := (blk_cell BK675.out 5).trans rfl; have hcz17_6 : w14.cell? ⟨gb675, 6, none⟩ = some (.string a1_6) := (blk_cell BK675.out 6).trans rfl; have hfz17_0 := blk_frozen BK675.out 0; have hfz17_1 := blk_frozen BK675.out 1; have hfz17_2 := blk_frozen BK675.out 2; have hfz17_3 := blk_frozen BK675.out 3; have hfz17_4 := blk_frozen BK675.out 4; have hfz17_5 := blk_frozen BK675.out 5; have hfz17_6 := blk_frozen BK675.out 6) | ((with_reducible refine gate_dst (N := 36) rfl ?_); refine Kd.R_lit k73 _ 73 ?hg (N := 36) ?hd (xs := ([(⟨a0_0, a0_1, a0_2, a1_3, a1_4, a0_5, a0_6⟩ : S73)] : List (S73))) (inner := [.int .i64 a0_0, .int .i64 a0_1, .string a0_2, .int .i64 a1_3, .string a1_4, .int .i64 a0_5, .string a0_6]) (ok := fun _ => True) (okp := fun _ => True) ?hr ?hp (fun _ hk => hk) trivial (Below.refl _ _) (Nat.le_refl _) (by simp) ?_; (case hd => rfl); (case hg => rfl); (case hr => first | (go_simp; done) | (go_simp; rfl)); (case hp => exact (Reps.c7 (show Kd.M k73 _ _ _ (⟨a0_0, a0_1, a0_2, a1_3, a1_4, a0_5, a0_6⟩ : S73) [.int .i64 a0_0, .int .i64 a0_1, .string a0_2, .int .i64 a1_3, .string a1_4, .int .i64 a0_5, .string a0_6] from (k73_mkM _ _ _ (⟨a0_0, a0_1, a0_2, a1_3, a1_4, a0_5, a0_6⟩ : S73) )) (Reps.none _ _))); intro v680 w18 ho19 hb hg_ hnew_; clear hg_ hnew_; (first | rw [← Ny679.out] at ho19 | (simp only [Int.reduceToNat] at ho19; rw [← Ny679.out] at ho19)); have n0_ := Aside0.mk (Kd.R_lower (Kd.R_newB (Kd.R_newB ho19 (g := gb674) (o := .cells #[.int .i64 a0_0, .int .i64 a0_1, .string a0_2, .int .i64 a1_3, .string a1_4, .int .i64 a0_5, .string a0_6] 73 (0, 0)) (by (with_reducible repeat (first | refine blk_drewN ?_ _ | refine blk_drew ?_ | refine blk_alloc ?_ _)); refine blk_put (cs := #[.int .i64 a0_0, .int .i64 a0_1, .string a0_2, .int .i64 a1_3, .string a0_4, .int .i64 a0_5, .string a0_6]) ?_ 4 _ rfl; (with_reducible repeat (first | refine blk_drewN ?_ _ | refine blk_drew ?_ | refine blk_alloc ?_ _)); refine blk_put (cs := #[.int .i64 a0_0, .int .i64 a0_1, .string a0_2, .int .i64 a0_3, .string a0_4, .int .i64 a0_5, .string a0_6]) ?_ 3 _ rfl; (with_reducible repeat (first | refine blk_drewN ?_ _ | refine blk_drew ?_ | refine blk_alloc ?_ _)); exact BK674.out)) (g := gb675) (o := .cells #[.int .i64 a1_0, .int .i64 a1_1, .string a1_2, .int .i64 a1_3, .string a1_4, .int .i64 a1_5, .string a1_6] 73 (0, 0)) (by (with_reducible repeat (first | refine blk_drewN ?_ _ | refine blk_drew ?_ | refine blk_alloc ?_ _)); refine blk_far ?_ NB675_674.out _; (with_reducible repeat (first | refine blk_drewN ?_ _ | refine blk_drew ?_ | refine blk_alloc ?_ _)); refine blk_far ?_ NB675_674.out _; (with_reducible repeat (first | refine blk_drewN ?_ _ | refine blk_drew ?_ | refine blk_alloc ?_ _)); exact BK675.out)) (below_size (by repeat (first | (with_reducible first | exact HB.out | apply below_alloc | apply pw_below_drewN | apply below_drew1 | refine below_set ?_ GE674.out | refine below_set ?_ GE675.out) | exact HB.out)))); have n1_ := Aside0.mk (blk_below (g := gb674) (o := .cells #[.int .i64 a0_0, .int .i64 a0_1, .string a0_2, .int .i64 a1_3, .string a1_4, .int .i64 a0_5, .string a0_6] 73 (0, 0)) (by (with_reducible repeat (first | refine blk_drewN ?_ _ | refine blk_drew ?_ | refine blk_alloc ?_ _)); refine blk_put (cs := #[.int .i64 a0_0, .int .i64 a0_1, .string a0_2, .int .i64 a1_3, .string a0_4, .int .i64 a0_5, .string a0_6]) ?_ 4 _ rfl; (with_reducible repeat (first | refine blk_drewN ?_ _ | refine blk_drew ?_ | refine blk_alloc ?_ _)); refine blk_put (cs := #[.int .i64 a0_0, .int .i64 a0_1, .string a0_2, .int .i64 a0_3, .string a0_4, .int .i64 a0_5, .string a0_6]) ?_ 3 _ rfl; (with_reducible repeat (first | refine blk_drewN ?_ _ | refine blk_drew ?_ | refine blk_alloc ?_ _)); exact BK674.out) hb); have n2_ := Aside0.mk (blk_below (g := gb675) (o := .cells #[.int .i64 a1_0, .int .i64 a1_1, .string a1_2, .int .i64 a1_3, .string a1_4, .int .i64 a1_5, .string a1_6] 73 (0, 0)) (by (with_reducible repeat (first | refine blk_drewN ?_ _ | refine blk_drew ?_ | refine blk_alloc ?_ _)); refine blk_far ?_ NB675_674.out _; (with_reducible repeat (first | refine blk_drewN ?_ _ | refine blk_drew ?_ | refine blk_alloc ?_ _)); refine blk_far ?_ NB675_674.out _; (with_reducible repeat (first | refine blk_drewN ?_ _ | refine blk_drew ?_ | refine blk_alloc ?_ _)); exact BK675.out) hb); have n3_ := Aside0.mk (below_step (by repeat (first | (with_reducible first | exact HB.out | apply below_alloc | apply pw_below_drewN | apply below_drew1 | refine below_set ?_ GE674.out | refine below_set ?_ GE675.out) | exact HB.out)) hb); clear BK674; clear BK675; clear HB; have HO681 := n0_; have BK674 := n1_; have BK675 := n2_; have HB := n3_; clear n0_ n1_ n2_ n3_; clear hb ho19))
        go_ret
        exact ⟨_, by first | rfl | (simp [errW_none, errW_some] <;> rfl) | (simp [*, errW_none, errW_some] <;> rfl), by (with_reducible repeat (first | apply Kd.R_alloc | apply Kd.R_drewN | apply Kd.R_drew)); exact Kd.R_mono HO681.out (fun _ hk => trivial), by repeat (first | (with_reducible first | exact HB.out | apply below_alloc | apply pw_below_drewN | apply below_drew1 | refine below_set ?_ GE674.out | refine below_set ?_ GE675.out) | exact HB.out)⟩
    · rw [if_neg c4] at H
      have c4b0 : (a0_1 == a1_3) = false := beq_eq_false_iff_ne.mpr c4
      have c4b1 : (a0_1 != a1_3) = true := bne_iff_ne.mpr c4
      obtain ⟨y682, hy682⟩ : ∃ y_ : List (S73), y_ = (([(⟨a0_0, a0_1, a0_2, a1_3, a1_4, a0_5, a0_6⟩ : S73)] : List (S73))) := ⟨_, rfl⟩
      replace H : (some y682) = some r := by first | (rw [hy682]; with_reducible exact H) | (have H2_ := (Option.bind_some _ _).symm.trans H; rw [hy682]; with_reducible exact H2_) | (have H2_ := (Option.bind_some _ _).symm.trans H; with_reducible exact H2_) | with_reducible exact H | (rw [hy682]; exact H) | exact H
      have Ny682 := Aside0.mk hy682
      clear hy682
      obtain rfl := Option.some.inj H
      go_enter Try.func160, Try.ntmps160
      go_wp2_with (first | ((with_reducible refine gate_dst (N := 2) rfl ?_); refine box_event ?hg (N := 2) ?hd (cs := #[.int .i64 a0_0, .int .i64 a0_1, .string a0_2, .int .i64 a0_3, .string a0_4, .int .i64 a0_5, .string a0_6]) (t := 73) ?hr ?_; (case hd => rfl); (case hg => rfl); (case hr => first | (go_simp; done) | (go_simp; rfl)); intro gb674 hg w20 hbox hb; have n0_ := Aside0.mk (below_step (by repeat (first | (with_reducible first | exact HB.out | apply below_alloc | apply pw_below_drewN | apply below_drew1) | exact HB.out)) hb); have n1_ := Aside0.mk (hbox); have n2_ := Aside0.mk ((by rw [hg]; exact (below_size (by repeat (first | (with_reducible first | exact HB.out | apply below_alloc | apply pw_below_drewN | apply below_drew1) | exact HB.out))) : w.heap.size ≤ gb674)); have n3_ := Aside0.mk ((by rw [hg]; exact (below_size (by repeat (first | (with_reducible first | exact HB.out | apply below_alloc | apply pw_below_drewN | apply below_drew1) | exact HB.out))) : w.heap.size ≤ gb674)); clear HB; have HB := n0_; have BK674 := n1_; have GW674 := n2_; have GE674 := n3_; clear n0_ n1_ n2_ n3_; clear hb hbox hg) | ((with_reducible refine gate_dst (N := 3) rfl ?_); refine box_event ?hg (N := 3) ?hd (cs := #[.int .i64 a1_0, .int .i64 a1_1, .string a1_2, .int .i64 a1_3, .string a1_4, .int .i64 a1_5, .string a1_6]) (t := 73) ?hr ?_; (case hd => rfl); (case hg => rfl); (case hr => first | (go_simp; done) | (go_simp; rfl)); intro gb675 hg w21 hbox hb; have n0_ := Aside0.mk (blk_below (g := gb674) (o := .cells #[.int .i64 a0_0, .int .i64 a0_1, .string a0_2, .int .i64 a0_3, .string a0_4, .int .i64 a0_5, .string a0_6] 73 (0, 0)) (by (with_reducible repeat (first | refine blk_drewN ?_ _ | refine blk_drew ?_ | refine blk_alloc ?_ _)); exact BK674.out) hb); have n1_ := Aside0.mk (below_step (by repeat (first | (with_reducible first | exact HB.out | apply below_alloc | apply pw_below_drewN | apply below_drew1 | refine below_set ?_ GE674.out) | exact HB.out)) hb); have n2_ := Aside0.mk (hbox); have n3_ := Aside0.mk ((by rw [hg]; exact (below_size (by repeat (first | (with_reducible first | exact HB.out | apply below_alloc | apply pw_below_drewN | apply below_drew1 | refine below_set ?_ GE674.out) | exact HB.out))) : w.heap.size ≤ gb675)); have n4_ := Aside0.mk ((by rw [hg]; exact (below_size (by repeat (first | (with_reducible first | exact HB.out | apply below_alloc | apply pw_below_drewN | apply below_drew1 | refine below_set ?_ GE674.out) | exact HB.out))) : w.heap.size ≤ gb675)); have n5_ := Aside0.mk ((by rw [hg]; exact Nat.ne_of_lt (blk_lt (g := gb674) (o := .cells #[.int .i64 a0_0, .int .i64 a0_1, .string a0_2, .int .i64 a0_3, .string a0_4, .int .i64 a0_5, .string a0_6] 73 (0, 0)) (by (with_reducible repeat (first | refine blk_drewN ?_ _ | refine blk_drew ?_ | refine blk_alloc ?_ _)); exact BK674.out)) : gb674 ≠ gb675)); have n6_ := Aside0.mk ((by rw [hg]; exact Nat.ne_of_gt (blk_lt (g := gb674) (o := .cells #[.int .i64 a0_0, .int .i64 a0_1, .string a0_2, .int .i64 a0_3, .string a0_4, .int .i64 a0_5, .string a0_6] 73 (0, 0)) (by (with_reducible repeat (first | refine blk_drewN ?_ _ | refine blk_drew ?_ | refine blk_alloc ?_ _)); exact BK674.out)) : gb675 ≠ gb674)); clear BK674; clear HB; have BK674 := n0_; have HB := n1_; have BK675 := n2_; have GW675 := n3_; have GE675 := n4_; have NB674_675 := n5_; have NB675_674 := n6_; clear n0_ n1_ n2_ n3_ n4_ n5_ n6_; clear hb hbox hg; have hnb22 := NB674_675.out; have hnc22 := NB675_674.out; have hcz23_0 : w21.cell? ⟨gb674, 0, none⟩ = some (.int .i64 a0_0) := (blk_cell BK674.out 0).trans rfl; have hcz23_1 : w21.cell? ⟨gb674, 1, none⟩ = some (.int .i64 a0_1) := (blk_cell BK674.out 1).trans rfl; have hcz23_2 : w21.cell? ⟨gb674, 2, none⟩ = some (.string a0_2) := (blk_cell BK674.out 2).trans rfl; have hcz23_3 : w21.cell? ⟨gb674, 3, none⟩ = some (.int .i64 a0_3) := (blk_cell BK674.out 3).trans rfl; have hcz23_4 : w21.cell? ⟨gb674, 4, none⟩ = some (.string a0_4) := (blk_cell BK674.out 4).trans rfl; have hcz23_5 : w21.cell? ⟨gb674, 5, none⟩ = some (.int .i64 a0_5) := (blk_cell BK674.out 5).trans rfl; have hcz23_6 : w21.cell? ⟨gb674, 6, none⟩ = some (.string a0_6) := (blk_cell BK674.out 6).trans rfl; have hfz23_0 := blk_frozen BK674.out 0; have hfz23_1 := blk_frozen BK674.out 1; have hfz23_2 := blk_frozen BK674.out 2; have hfz23_3 := blk_frozen BK674.out 3; have hfz23_4 := blk_frozen BK674.out 4; have hfz23_5 := blk_frozen BK674.out 5; have hfz23_6 := blk_frozen BK674.out 6; have hcz24_0 : w21.cell? ⟨gb675, 0, none⟩ = some (.int .i64 a1_0) := (blk_cell BK675.out 0).trans rfl; have hcz24_1 : w21.cell? ⟨gb675, 1, none⟩ = some (.int .i64 a1_1) := (blk_cell BK675.out 1).trans rfl; have hcz24_2 : w21.cell? ⟨gb675, 2, none⟩ = some (.string a1_2) := (blk_cell BK675.out 2).trans rfl; have hcz24_3 : w21.cell? ⟨gb675, 3, none⟩ = some (.int .i64 a1_3) := (blk_cell BK675.out 3).trans rfl; have hcz24_4 : w21.cell? ⟨gb675, 4, none⟩ = some (.string a1_4) := (blk_cell BK675.out 4).trans rfl; have hcz24_5 : w21.cell? ⟨gb675, 5, none⟩ = some (.int .i64 a1_5) := (blk_cell BK675.out 5).trans rfl; have hcz24_6 : w21.cell? ⟨gb675, 6, none⟩ = some (.string a1_6) := (blk_cell BK675.out 6).trans rfl; have hfz24_0 := blk_frozen BK675.out 0; have hfz24_1 := blk_frozen BK675.out 1; have hfz24_2 := blk_frozen BK675.out 2; have hfz24_3 := blk_frozen BK675.out 3; have hfz24_4 := blk_frozen BK675.out 4; have hfz24_5 := blk_frozen BK675.out 5; have hfz24_6 := blk_frozen BK675.out 6) | ((with_reducible refine gate_dst (N := 36) rfl ?_); refine Kd.R_lit k73 _ 73 ?hg (N := 36) ?hd (xs := ([(⟨a0_0, a0_1, a0_2, a1_3, a1_4, a0_5, a0_6⟩ : S73)] : List (S73))) (inner := [.int .i64 a0_0, .int .i64 a0_1, .string a0_2, .int .i64 a1_3, .string a1_4, .int .i64 a0_5, .string a0_6]) (ok := fun _ => True) (okp := fun _ => True) ?hr ?hp (fun _ hk => hk) trivial (Below.refl _ _) (Nat.le_refl _) (by simp) ?_; (case hd => rfl); (case hg => rfl); (case hr => first | (go_simp; done) | (go_simp; rfl)); (case hp => exact (Reps.c7 (show Kd.M k73 _ _ _ (⟨a0_0, a0_1, a0_2, a1_3, a1_4, a0_5, a0_6⟩ : S73) [.int .i64 a0_0, .int .i64 a0_1, .string a0_2, .int .i64 a1_3, .string a1_4, .int .i64 a0_5, .string a0_6] from (k73_mkM _ _ _ (⟨a0_0, a0_1, a0_2, a1_3, a1_4, a0_5, a0_6⟩ : S73) )) (Reps.none _ _))); intro v683 w25 ho26 hb hg_ hnew_; clear hg_ hnew_; (first | rw [← Ny682.out] at ho26 | (simp only [Int.reduceToNat] at ho26; rw [← Ny682.out] at ho26)); have n0_ := Aside0.mk (Kd.R_lower (Kd.R_newB (Kd.R_newB ho26 (g := gb674) (o := .cells #[.int .i64 a0_0, .int .i64 a0_1, .string a0_2, .int .i64 a1_3, .string a1_4, .int .i64 a0_5, .string a0_6] 73 (0, 0)) (by (with_reducible repeat (first | refine blk_drewN ?_ _ | refine blk_drew ?_ | refine blk_alloc ?_ _)); refine blk_put (cs := #[.int .i64 a0_0, .int .i64 a0_1, .string a0_2, .int .i64 a1_3, .string a0_4, .int .i64 a0_5, .string a0_6]) ?_ 4 _ rfl; (with_reducible repeat (first | refine blk_drewN ?_ _ | refine blk_drew ?_ | refine blk_alloc ?_ _)); refine blk_put (cs := #[.int .i64 a0_0, .int .i64 a0_1, .string a0_2, .int .i64 a0_3, .string a0_4, .int .i64 a0_5, .string a0_6]) ?_ 3 _ rfl; (with_reducible repeat (first | refine blk_drewN ?_ _ | refine blk_drew ?_ | refine blk_alloc ?_ _)); exact BK674.out)) (g := gb675) (o := .cells #[.int .i64 a1_0, .int .i64 a1_1, .string a1_2, .int .i64 a1_3, .string a1_4, .int .i64 a1_5, .string a1_6] 73 (0, 0)) (by (with_reducible repeat (first | refine blk_drewN ?_ _ | refine blk_drew ?_ | refine blk_alloc ?_ _)); refine blk_far ?_ NB675_674.out _; (with_reducible repeat (first | refine blk_drewN ?_ _ | refine blk_drew ?_ | refine blk_alloc ?_ _)); refine blk_far ?_ NB675_674.out _; (with_reducible repeat (first | refine blk_drewN ?_ _ | refine blk_drew ?_ | refine blk_alloc ?_ _)); exact BK675.out)) (below_size (by repeat (first | (with_reducible first | exact HB.out | apply below_alloc | apply pw_below_drewN | apply below_drew1 | refine below_set ?_ GE674.out | refine below_set ?_ GE675.out) | exact HB.out)))); have n1_ := Aside0.mk (blk_below (g := gb674) (o := .cells #[.int .i64 a0_0, .int .i64 a0_1, .string a0_2, .int .i64 a1_3, .string a1_4, .int .i64 a0_5, .string a0_6] 73 (0, 0)) (by (with_reducible repeat (first | refine blk_drewN ?_ _ | refine blk_drew ?_ | refine blk_alloc ?_ _)); refine blk_put (cs := #[.int .i64 a0_0, .int .i64 a0_1, .string a0_2, .int .i64 a1_3, .string a0_4, .int .i64 a0_5, .string a0_6]) ?_ 4 _ rfl; (with_reducible repeat (first | refine blk_drewN ?_ _ | refine blk_drew ?_ | refine blk_alloc ?_ _)); refine blk_put (cs := #[.int .i64 a0_0, .int .i64 a0_1, .string a0_2, .int .i64 a0_3, .string a0_4, .int .i64 a0_5, .string a0_6]) ?_ 3 _ rfl; (with_reducible repeat (first | refine blk_drewN ?_ _ | refine blk_drew ?_ | refine blk_alloc ?_ _)); exact BK674.out) hb); have n2_ := Aside0.mk (blk_below (g := gb675) (o := .cells #[.int .i64 a1_0, .int .i64 a1_1, .string a1_2, .int .i64 a1_3, .string a1_4, .int .i64 a1_5, .string a1_6] 73 (0, 0)) (by (with_reducible repeat (first | refine blk_drewN ?_ _ | refine blk_drew ?_ | refine blk_alloc ?_ _)); refine blk_far ?_ NB675_674.out _; (with_reducible repeat (first | refine blk_drewN ?_ _ | refine blk_drew ?_ | refine blk_alloc ?_ _)); refine blk_far ?_ NB675_674.out _; (with_reducible repeat (first | refine blk_drewN ?_ _ | refine blk_drew ?_ | refine blk_alloc ?_ _)); exact BK675.out) hb); have n3_ := Aside0.mk (below_step (by repeat (first | (with_reducible first | exact HB.out | apply below_alloc | apply pw_below_drewN | apply below_drew1 | refine below_set ?_ GE674.out | refine below_set ?_ GE675.out) | exact HB.out)) hb); clear BK674; clear BK675; clear HB; have HO684 := n0_; have BK674 := n1_; have BK675 := n2_; have HB := n3_; clear n0_ n1_ n2_ n3_; clear hb ho26))
      go_ret
      exact ⟨_, by first | rfl | (simp [errW_none, errW_some] <;> rfl) | (simp [*, errW_none, errW_some] <;> rfl), by (with_reducible repeat (first | apply Kd.R_alloc | apply Kd.R_drewN | apply Kd.R_drew)); exact Kd.R_mono HO684.out (fun _ hk => trivial), by repeat (first | (with_reducible first | exact HB.out | apply below_alloc | apply pw_below_drewN | apply below_drew1 | refine below_set ?_ GE674.out | refine below_set ?_ GE675.out) | exact HB.out)⟩
  · rw [if_neg c3] at H
    have c3b0 : (a0_0 == 4) = false := beq_eq_false_iff_ne.mpr c3
    have c3b1 : (a0_0 != 4) = true := bne_iff_ne.mpr c3
    obtain ⟨y685, hy685⟩ : ∃ y_ : List (S73), y_ = (([(⟨a0_0, a1_3, a1_4, a0_3, a0_4, a0_5, a0_6⟩ : S73)] : List (S73))) := ⟨_, rfl⟩
    replace H : (some y685) = some r := by first | (rw [hy685]; with_reducible exact H) | (have H2_ := (Option.bind_some _ _).symm.trans H; rw [hy685]; with_reducible exact H2_) | (have H2_ := (Option.bind_some _ _).symm.trans H; with_reducible exact H2_) | with_reducible exact H | (rw [hy685]; exact H) | exact H
    have Ny685 := Aside0.mk hy685
    clear hy685
    obtain rfl := Option.some.inj H
    go_enter Try.func160, Try.ntmps160
    go_wp2_with (first | ((with_reducible refine gate_dst (N := 2) rfl ?_); refine box_event ?hg (N := 2) ?hd (cs := #[.int .i64 a0_0, .int .i64 a0_1, .string a0_2, .int .i64 a0_3, .string a0_4, .int .i64 a0_5, .string a0_6]) (t := 73) ?hr ?_; (case hd => rfl); (case hg => rfl); (case hr => first | (go_simp; done) | (go_simp; rfl)); intro gb674 hg w27 hbox hb; have n0_ := Aside0.mk (below_step (by repeat (first | (with_reducible first | exact HB.out | apply below_alloc | apply pw_below_drewN | apply below_drew1) | exact HB.out)) hb); have n1_ := Aside0.mk (hbox); have n2_ := Aside0.mk ((by rw [hg]; exact (below_size (by repeat (first | (with_reducible first | exact HB.out | apply below_alloc | apply pw_below_drewN | apply below_drew1) | exact HB.out))) : w.heap.size ≤ gb674)); have n3_ := Aside0.mk ((by rw [hg]; exact (below_size (by repeat (first | (with_reducible first | exact HB.out | apply below_alloc | apply pw_below_drewN | apply below_drew1) | exact HB.out))) : w.heap.size ≤ gb674)); clear HB; have HB := n0_; have BK674 := n1_; have GW674 := n2_; have GE674 := n3_; clear n0_ n1_ n2_ n3_; clear hb hbox hg) | ((with_reducible refine gate_dst (N := 3) rfl ?_); refine box_event ?hg (N := 3) ?hd (cs := #[.int .i64 a1_0, .int .i64 a1_1, .string a1_2, .int .i64 a1_3, .string a1_4, .int .i64 a1_5, .string a1_6]) (t := 73) ?hr ?_; (case hd => rfl); (case hg => rfl); (case hr => first | (go_simp; done) | (go_simp; rfl)); intro gb675 hg w28 hbox hb; have n0_ := Aside0.mk (blk_below (g := gb674) (o := .cells #[.int .i64 a0_0, .int .i64 a0_1, .string a0_2, .int .i64 a0_3, .string a0_4, .int .i64 a0_5, .string a0_6] 73 (0, 0)) (by (with_reducible repeat (first | refine blk_drewN ?_ _ | refine blk_drew ?_ | refine blk_alloc ?_ _)); exact BK674.out) hb); have n1_ := Aside0.mk (below_step (by repeat (first | (with_reducible first | exact HB.out | apply below_alloc | apply pw_below_drewN | apply below_drew1 | refine below_set ?_ GE674.out) | exact HB.out)) hb); have n2_ := Aside0.mk (hbox); have n3_ := Aside0.mk ((by rw [hg]; exact (below_size (by repeat (first | (with_reducible first | exact HB.out | apply below_alloc | apply pw_below_drewN | apply below_drew1 | refine below_set ?_ GE674.out) | exact HB.out))) : w.heap.size ≤ gb675)); have n4_ := Aside0.mk ((by rw [hg]; exact (below_size (by repeat (first | (with_reducible first | exact HB.out | apply below_alloc | apply pw_below_drewN | apply below_drew1 | refine below_set ?_ GE674.out) | exact HB.out))) : w.heap.size ≤ gb675)); have n5_ := Aside0.mk ((by rw [hg]; exact Nat.ne_of_lt (blk_lt (g := gb674) (o := .cells #[.int .i64 a0_0, .int .i64 a0_1, .string a0_2, .int .i64 a0_3, .string a0_4, .int .i64 a0_5, .string a0_6] 73 (0, 0)) (by (with_reducible repeat (first | refine blk_drewN ?_ _ | refine blk_drew ?_ | refine blk_alloc ?_ _)); exact BK674.out)) : gb674 ≠ gb675)); have n6_ := Aside0.mk ((by rw [hg]; exact Nat.ne_of_gt (blk_lt (g := gb674) (o := .cells #[.int .i64 a0_0, .int .i64 a0_1, .string a0_2, .int .i64 a0_3, .string a0_4, .int .i64 a0_5, .string a0_6] 73 (0, 0)) (by (with_reducible repeat (first | refine blk_drewN ?_ _ | refine blk_drew ?_ | refine blk_alloc ?_ _)); exact BK674.out)) : gb675 ≠ gb674)); clear BK674; clear HB; have BK674 := n0_; have HB := n1_; have BK675 := n2_; have GW675 := n3_; have GE675 := n4_; have NB674_675 := n5_; have NB675_674 := n6_; clear n0_ n1_ n2_ n3_ n4_ n5_ n6_; clear hb hbox hg; have hnb29 := NB674_675.out; have hnc29 := NB675_674.out; have hcz30_0 : w28.cell? ⟨gb674, 0, none⟩ = some (.int .i64 a0_0) := (blk_cell BK674.out 0).trans rfl; have hcz30_1 : w28.cell? ⟨gb674, 1, none⟩ = some (.int .i64 a0_1) := (blk_cell BK674.out 1).trans rfl; have hcz30_2 : w28.cell? ⟨gb674, 2, none⟩ = some (.string a0_2) := (blk_cell BK674.out 2).trans rfl; have hcz30_3 : w28.cell? ⟨gb674, 3, none⟩ = some (.int .i64 a0_3) := (blk_cell BK674.out 3).trans rfl; have hcz30_4 : w28.cell? ⟨gb674, 4, none⟩ = some (.string a0_4) := (blk_cell BK674.out 4).trans rfl; have hcz30_5 : w28.cell? ⟨gb674, 5, none⟩ = some (.int .i64 a0_5) := (blk_cell BK674.out 5).trans rfl; have hcz30_6 : w28.cell? ⟨gb674, 6, none⟩ = some (.string a0_6) := (blk_cell BK674.out 6).trans rfl; have hfz30_0 := blk_frozen BK674.out 0; have hfz30_1 := blk_frozen BK674.out 1; have hfz30_2 := blk_frozen BK674.out 2; have hfz30_3 := blk_frozen BK674.out 3; have hfz30_4 := blk_frozen BK674.out 4; have hfz30_5 := blk_frozen BK674.out 5; have hfz30_6 := blk_frozen BK674.out 6; have hcz31_0 : w28.cell? ⟨gb675, 0, none⟩ = some (.int .i64 a1_0) := (blk_cell BK675.out 0).trans rfl; have hcz31_1 : w28.cell? ⟨gb675, 1, none⟩ = some (.int .i64 a1_1) := (blk_cell BK675.out 1).trans rfl; have hcz31_2 : w28.cell? ⟨gb675, 2, none⟩ = some (.string a1_2) := (blk_cell BK675.out 2).trans rfl; have hcz31_3 : w28.cell? ⟨gb675, 3, none⟩ = some (.int .i64 a1_3) := (blk_cell BK675.out 3).trans rfl; have hcz31_4 : w28.cell? ⟨gb675, 4, none⟩ = some (.string a1_4) := (blk_cell BK675.out 4).trans rfl; have hcz31_5 : w28.cell? ⟨gb675, 5, none⟩ = some (.int .i64 a1_5) := (blk_cell BK675.out 5).trans rfl; have hcz31_6 : w28.cell? ⟨gb675, 6, none⟩ = some (.string a1_6) := (blk_cell BK675.out 6).trans rfl; have hfz31_0 := blk_frozen BK675.out 0; have hfz31_1 := blk_frozen BK675.out 1; have hfz31_2 := blk_frozen BK675.out 2; have hfz31_3 := blk_frozen BK675.out 3; have hfz31_4 := blk_frozen BK675.out 4; have hfz31_5 := blk_frozen BK675.out 5; have hfz31_6 := blk_frozen BK675.out 6) | ((with_reducible refine gate_dst (N := 15) rfl ?_); refine Kd.R_lit k73 _ 73 ?hg (N := 15) ?hd (xs := ([(⟨a0_0, a1_3, a1_4, a0_3, a0_4, a0_5, a0_6⟩ : S73)] : List (S73))) (inner := [.int .i64 a0_0, .int .i64 a1_3, .string a1_4, .int .i64 a0_3, .string a0_4, .int .i64 a0_5, .string a0_6]) (ok := fun _ => True) (okp := fun _ => True) ?hr ?hp (fun _ hk => hk) trivial (Below.refl _ _) (Nat.le_refl _) (by simp) ?_; (case hd => rfl); (case hg => rfl); (case hr => first | (go_simp; done) | (go_simp; rfl)); (case hp => exact (Reps.c7 (show Kd.M k73 _ _ _ (⟨a0_0, a1_3, a1_4, a0_3, a0_4, a0_5, a0_6⟩ : S73) [.int .i64 a0_0, .int .i64 a1_3, .string a1_4, .int .i64 a0_3, .string a0_4, .int .i64 a0_5, .string a0_6] from (k73_mkM _ _ _ (⟨a0_0, a1_3, a1_4, a0_3, a0_4, a0_5, a0_6⟩ : S73) )) (Reps.none _ _))); intro v686 w32 ho33 hb hg_ hnew_; clear hg_ hnew_; (first | rw [← Ny685.out] at ho33 | (simp only [Int.reduceToNat] at ho33; rw [← Ny685.out] at ho33)); have n0_ := Aside0.mk (Kd.R_lower (Kd.R_newB (Kd.R_newB ho33 (g := gb674) (o := .cells #[.int .i64 a0_0, .int .i64 a1_3, .string a1_4, .int .i64 a0_3, .string a0_4, .int .i64 a0_5, .string a0_6] 73 (0, 0)) (by (with_reducible repeat (first | refine blk_drewN ?_ _ | refine blk_drew ?_ | refine blk_alloc ?_ _)); refine blk_put (cs := #[.int .i64 a0_0, .int .i64 a1_3, .string a0_2, .int .i64 a0_3, .string a0_4, .int .i64 a0_5, .string a0_6]) ?_ 2 _ rfl; (with_reducible repeat (first | refine blk_drewN ?_ _ | refine blk_drew ?_ | refine blk_alloc ?_ _)); refine blk_put (cs := #[.int .i64 a0_0, .int .i64 a0_1, .string a0_2, .int .i64 a0_3, .string a0_4, .int .i64 a0_5, .string a0_6]) ?_ 1 _ rfl; (with_reducible repeat (first | refine blk_drewN ?_ _ | refine blk_drew ?_ | refine blk_alloc ?_ _)); exact BK674.out)) (g := gb675) (o := .cells #[.int .i64 a1_0, .int .i64 a1_1, .string a1_2, .int .i64 a1_3, .string a1_4, .int .i64 a1_5, .string a1_6] 73 (0, 0)) (by (with_reducible repeat (first | refine blk_drewN ?_ _ | refine blk_drew ?_ | refine blk_alloc ?_ _)); refine blk_far ?_ NB675_674.out _; (with_reducible repeat (first | refine blk_drewN ?_ _ | refine blk_drew ?_ | refine blk_alloc ?_ _)); refine blk_far ?_ NB675_674.out _; (with_reducible repeat (first | refine blk_drewN ?_ _ | refine blk_drew ?_ | refine blk_alloc ?_ _)); exact BK675.out)) (below_size (by repeat (first | (with_reducible first | exact HB.out | apply below_alloc | apply pw_below_drewN | apply below_drew1 | refine below_set ?_ GE674.out | refine below_set ?_ GE675.out) | exact HB.out)))); have n1_ := Aside0.mk (blk_below (g := gb674) (o := .cells #[.int .i64 a0_0, .int .i64 a1_3, .string a1_4, .int .i64 a0_3, .string a0_4, .int .i64 a0_5, .string a0_6] 73 (0, 0)) (by (with_reducible repeat (first | refine blk_drewN ?_ _ | refine blk_drew ?_ | refine blk_alloc ?_ _)); refine blk_put (cs := #[.int .i64 a0_0, .int .i64 a1_3, .string a0_2, .int .i64 a0_3, .string a0_4, .int .i64 a0_5, .string a0_6]) ?_ 2 _ rfl; (with_reducible repeat (first | refine blk_drewN ?_ _ | refine blk_drew ?_ | refine blk_alloc ?_ _)); refine blk_put (cs := #[.int .i64 a0_0, .int .i64 a0_1, .string a0_2, .int .i64 a0_3, .string a0_4, .int .i64 a0_5, .string a0_6]) ?_ 1 _ rfl; (with_reducible repeat (first | refine blk_drewN ?_ _ | refine blk_drew ?_ | refine blk_alloc ?_ _)); exact BK674.out) hb); have n2_ := Aside0.mk (blk_below (g := gb675) (o := .cells #[.int .i64 a1_0, .int .i64 a1_1, .string a1_2, .int .i64 a1_3, .string a1_4, .int .i64 a1_5, .string a1_6] 73 (0, 0)) (by (with_reducible repeat (first | refine blk_drewN ?_ _ | refine blk_drew ?_ | refine blk_alloc ?_ _)); refine blk_far ?_ NB675_674.out _; (with_reducible repeat (first | refine blk_drewN ?_ _ | refine blk_drew ?_ | refine blk_alloc ?_ _)); refine blk_far ?_ NB675_674.out _; (with_reducible repeat (first | refine blk_drewN ?_ _ | refine blk_drew ?_ | refine blk_alloc ?_ _)); exact BK675.out) hb); have n3_ := Aside0.mk (below_step (by repeat (first | (with_reducible first | exact HB.out | apply below_alloc | apply pw_below_drewN | apply below_drew1 | refine below_set ?_ GE674.out | refine below_set ?_ GE675.out) | exact HB.out)) hb); clear BK674; clear BK675; clear HB; have HO687 := n0_; have BK674 := n1_; have BK675 := n2_; have HB := n3_; clear n0_ n1_ n2_ n3_; clear hb ho33))
    go_ret
    exact ⟨_, by first | rfl | (simp [errW_none, errW_some] <;> rfl) | (simp [*, errW_none, errW_some] <;> rfl), by (with_reducible repeat (first | apply Kd.R_alloc | apply Kd.R_drewN | apply Kd.R_drew)); exact Kd.R_mono HO687.out (fun _ hk => trivial), by repeat (first | (with_reducible first | exact HB.out | apply below_alloc | apply pw_below_drewN | apply below_drew1 | refine below_set ?_ GE674.out | refine below_set ?_ GE675.out) | exact HB.out)⟩
end Go.Proofs.Ytlaichooanflaaa.Q
namespace Go.Proofs.Ytlaichooanflaaa.Q
open Go.RowKit Go.Proofs.YtlaichooanflaaaW.PrintWords Go.Proofs.YtlaichooanflaaaW.PrintLast Go.Proofs.YtlaichooanflaaaW.PrintMore
attribute [local go_sem] Go.Proofs.Ytlaichooanflaaa.Mem.str_leq Go.Proofs.Ytlaichooanflaaa.Mem.str_gtr Go.Proofs.Ytlaichooanflaaa.Mem.str_geq max2_int min2_int max_two min_two max_three min_three max_four min_four   -- for this text's walks alone
set_option linter.unusedVariables false
set_option linter.unusedSimpArgs false
def spec_l4Moves.l0 : Nat → List (S73) → Int → Option ((List (S73)))
  | 0, _, _ => none
  | k + 1, x3, x4 => if (wrap64 (x4 + 1)) < (x3.length : Int) then (if 0 ≤ x4 then (if x4 < (x3.length : Int) then (if 0 ≤ (wrap64 (x4 + 1)) then ((spec_l4Joins.f k ((rd_T73 x3 x4).f0) ((rd_T73 x3 x4).f1) ((rd_T73 x3 x4).f2) ((rd_T73 x3 x4).f3) ((rd_T73 x3 x4).f4) ((rd_T73 x3 x4).f5) ((rd_T73 x3 x4).f6) ((rd_T73 x3 (wrap64 (x4 + 1))).f0) ((rd_T73 x3 (wrap64 (x4 + 1))).f1) ((rd_T73 x3 (wrap64 (x4 + 1))).f2) ((rd_T73 x3 (wrap64 (x4 + 1))).f3) ((rd_T73 x3 (wrap64 (x4 + 1))).f4) ((rd_T73 x3 (wrap64 (x4 + 1))).f5) ((rd_T73 x3 (wrap64 (x4 + 1))).f6)).bind fun t696 => (if t696 = true then ((some (([] : List (S73)) : List (S73))).bind fun y697 => (if 0 ≤ (wrap64 (x4 + 2)) then (if (wrap64 (x4 + 2)) ≤ (x3.length : Int) then ((some (x3.drop ((wrap64 (x4 + 2)) : Int).toNat : List (S73))).bind fun y700 => (if y697.length + y700.length < 1759218604441 then ((some (y697 ++ y700 : List (S73))).bind fun y704 => ((spec_l4Join.f ((rd_T73 x3 x4).f0) ((rd_T73 x3 x4).f1) ((rd_T73 x3 x4).f2) ((rd_T73 x3 x4).f3) ((rd_T73 x3 x4).f4) ((rd_T73 x3 x4).f5) ((rd_T73 x3 x4).f6) ((rd_T73 x3 (wrap64 (x4 + 1))).f0) ((rd_T73 x3 (wrap64 (x4 + 1))).f1) ((rd_T73 x3 (wrap64 (x4 + 1))).f2) ((rd_T73 x3 (wrap64 (x4 + 1))).f3) ((rd_T73 x3 (wrap64 (x4 + 1))).f4) ((rd_T73 x3 (wrap64 (x4 + 1))).f5) ((rd_T73 x3 (wrap64 (x4 + 1))).f6)).bind fun t709 => (if x4 ≤ (x3.length : Int) then ((some (x3.take (x4 : Int).toNat : List (S73))).bind fun y712 => (if y712.length + t709.length < 1759218604441 then ((some (y712 ++ t709 : List (S73))).bind fun y715 => (if y715.length + y704.length < 1759218604441 then (spec_l4Moves.l0 k (y715 ++ y704) ((-1) + 1)) else (none))) else (none))) else (none)))) else (none))) else (none)) else (none))) else (spec_l4Moves.l0 k x3 (wrap64 (x4 + 1))))) else (none)) else (none)) else (none)) else (some x3)
def spec_l4Moves.f (k : Nat) (l0 : List (S73)) : Option ((List (S73))) := (some (([] : List (S73)) : List (S73))).bind fun y688 => (if y688.length + l0.length < 1759218604441 then (spec_l4Moves.l0 k (y688 ++ l0) 0) else (none))
def spec_l4Moves.T5 : Bool × List (List Nat × List Nat) := (true, [([], []), ([], []), ([0, 1], [0, 1]), ([2], [2]), ([], []), ([], []), ([5], [5]), ([4, 6], [4, 6]), ([7], [7]), ([3, 8], [3, 8])])
def spec_l4Moves.B5 : List Nat := [0, 0, 3, 7, 0, 0, 32, 112, 240, 511]
theorem spec_l4Moves.tab5 : rtab .any (opsOf Try.f109 5) = spec_l4Moves.T5 := by kernel_rfl
theorem spec_l4Moves.bits5 : waitsOk spec_l4Moves.T5.2 spec_l4Moves.B5 = true := by kernel_rfl
def spec_l4Moves.T7 : Bool × List (List Nat × List Nat) := (true, [([], []), ([], []), ([0, 1], [0, 1]), ([], []), ([], []), ([3, 4], [3, 4]), ([5], [5]), ([], []), ([], []), ([8], [8]), ([7, 9], [7, 9]), ([10], [10]), ([6, 11], [6, 11]), ([2, 12, 12], [2, 12]), ([], []), ([13, 14, 13], [13, 14]), ([15, 15, 0, 1, 2, 3, 4, 5, 6, 7, 8, 9, 10, 11, 12, 13, 14, 15], [0, 3, 7, 15])])
def spec_l4Moves.B7 : List Nat := [0, 0, 3, 0, 0, 24, 56, 0, 0, 256, 896, 1920, 4088, 8191, 0, 32767, 65535]
theorem spec_l4Moves.tab7 : rtab .any (opsOf Try.f109 7) = spec_l4Moves.T7 := by kernel_rfl
theorem spec_l4Moves.bits7 : waitsOk spec_l4Moves.T7.2 spec_l4Moves.B7 = true := by kernel_rfl
set_option maxHeartbeats 8000000 in
set_option maxRecDepth 100000 in
theorem spec_l4Moves.calls (k : Nat) (A0 : Option Addr) (c0 : Nat) (l0 : List (S73)) (r : List (S73)) (w : World) (hr0 : Kd.C k73 w A0 l0.length l0) (hc0 : l0.length ≤ c0) (h : spec_l4Moves.f k l0 = some r) :
    Calls Try.prog 109 #[.slice A0 l0.length c0] w fun e w' => ∃ v0_ : Value, e = .returned (v0_) ∧ Kd.R k73 73 w' w.heap.size (fun _ => True) v0_ r ∧ Below w.heap.size w w' := by
  have hu73 := Try.underlying73
  have HR0 := Aside0.mk hr0
  have HC0 := Aside0.mk hc0
  clear hr0 hc0
  have HB := Aside0.mk (Below.refl w.heap.size w)
  have H : ((some (([] : List (S73)) : List (S73))).bind fun y688 => (if y688.length + l0.length < 1759218604441 then (spec_l4Moves.l0 k (y688 ++ l0) 0) else (none))) = some r := h
  clear h
  obtain ⟨y688, hy688⟩ : ∃ y_ : List (S73), y_ = (([] : List (S73))) := ⟨_, rfl⟩
  replace H : (if y688.length + l0.length < 1759218604441 then (spec_l4Moves.l0 k (y688 ++ l0) 0) else (none)) = some r := by first | (rw [hy688]; with_reducible exact H) | (have H2_ := (Option.bind_some _ _).symm.trans H; rw [hy688]; with_reducible exact H2_) | (have H2_ := (Option.bind_some _ _).symm.trans H; with_reducible exact H2_) | with_reducible exact H | (rw [hy688]; exact H) | exact H
  have Ny688 := Aside0.mk hy688
  clear hy688
  by_cases c2 : y688.length + l0.length < 1759218604441
  · rw [if_pos c2] at H
    have LMc2 := Aside0.mk c2
    clear c2
    obtain ⟨y691, hy691⟩ : ∃ y_ : List (S73), y_ = (y688 ++ l0) := ⟨_, rfl⟩
    replace H : (spec_l4Moves.l0 k y691 0) = some r := by first | (rw [hy691]; with_reducible exact H) | (have H2_ := (Option.bind_some _ _).symm.trans H; rw [hy691]; with_reducible exact H2_) | (have H2_ := (Option.bind_some _ _).symm.trans H; with_reducible exact H2_) | with_reducible exact H | (rw [hy691]; exact H) | exact H
    have Ny691 := Aside0.mk hy691
    clear hy691
    have H' := Aside0.mk H
    clear H
    go_enter Try.func109, Try.ntmps109
    go_wp2_with (first | ((with_reducible refine gate_dst (N := 6) rfl ?_); refine Kd.R_lit k73 _ 73 ?hg (N := 6) ?hd (xs := ([] : List (S73))) (inner := []) (ok := fun _ => True) (okp := fun _ => True) ?hr ?hp (fun _ hk => hk) trivial (Below.refl _ _) (Nat.le_refl _) (by simp) ?_; (case hd => rfl); (case hg => rfl); (case hr => first | (go_simp; done) | (go_simp; rfl)); (case hp => exact (Reps.none _ _)); intro v689 w3 ho4 hb hg_ hnew_; clear hg_ hnew_; (first | rw [← Ny688.out] at ho4 | (simp only [Int.reduceToNat] at ho4; rw [← Ny688.out] at ho4)); have n0_ := Aside0.mk (Kd.R_lower ho4 (below_size (by repeat (first | (with_reducible first | exact HB.out | apply below_alloc | apply pw_below_drewN | apply below_drew1) | exact HB.out)))); have n1_ := Aside0.mk (below_step (by repeat (first | (with_reducible first | exact HB.out | apply below_alloc | apply pw_below_drewN | apply below_drew1) | exact HB.out)) hb); clear HB; have HO690 := n0_; have HB := n1_; clear n0_ n1_; clear hb ho4) | ((with_reducible refine gate_builtin (b := .append) (xs := #[.tmp 6, .tmp 7]) rfl ?_); at_builtin; refine Kd.R_append_rows k73 (w0 := w) w.heap.size rfl (.tmp 6) (.tmp 7) 34 73 (.agg #[(.int .i64 0), (.int .i64 0), (.string ⟨#[]⟩), (.int .i64 0), (.string ⟨#[]⟩), (.int .i64 0), (.string ⟨#[]⟩)]) 80 rfl Try.underlying34 info73 rfl (by decide) (by omega) v689 y688 l0 _ _ _ (fun _ => True) (fun _ => False) rfl rfl ?aO ?aR (fun _ _ h => h) (fun _ h => h.elim) ?aF ?aB ?aS ?aL ?_; (case aR => repeat (first | exact (Kd.C_below HR0.out HB.out) | (with_reducible refine Kd.C_alloc ?_ _) | (with_reducible refine Kd.C_drewN ?_ _) | (with_reducible refine Kd.C_drew ?_))); (case aB => exact (by repeat (first | (with_reducible first | exact HB.out | apply below_alloc | apply pw_below_drewN | apply below_drew1) | exact HB.out))); (case aF => exact (fun _ _ => trivial)); (case aO => exact (by (with_reducible repeat (first | apply Kd.R_alloc | apply Kd.R_drewN | apply Kd.R_drew)); exact HO690.out)); (case aS => exact (below_size (by repeat (first | (with_reducible first | exact HB.out | apply below_alloc | apply pw_below_drewN | apply below_drew1) | exact HB.out)))); (case aL => have := LMc2.out; omega); intro v692 w5 ho hb hg hat; rw [← Ny691.out] at ho; have n0_ := Aside0.mk (hb); have n1_ := Aside0.mk (ho); clear HB; clear HO690; have HB := n0_; have HO693 := n1_; clear n0_ n1_; clear ho hb hg hat))
    go_loopg [3, 4] k (fun kq v3 v4 w' => ∃ (x3_1 : List (S73)) (x4_1 : Int), v4 = .int .i64 x4_1 ∧ Aside0 (spec_l4Moves.l0 kq x3_1 x4_1 = some r) ∧ Aside0 (kq ≤ k) ∧ Aside0 (Kd.R k73 73 w' w.heap.size (fun _ => True) v3 x3_1) ∧ Aside0 (Below w.heap.size w w'))
    case atStart => exact ⟨(y691), (0), (by first | rfl | (simp; done) | (simp [*]; done)), H', ⟨Nat.le_refl _⟩, ⟨by (with_reducible repeat (first | apply Kd.R_alloc | apply Kd.R_drewN | apply Kd.R_drew)); exact HO693.out⟩, ⟨by repeat (first | (with_reducible first | exact HB.out | apply below_alloc | apply pw_below_drewN | apply below_drew1) | exact HB.out)⟩⟩
    case round =>
      clear H'
      (try clear c1); (try clear c2); (try clear p2)
      obtain ⟨x3_1, x4_1, rfl, HA, HK1, HO_3, HB⟩ := hrel
      cases gk with
      | zero => exact absurd HA.out (by simp [spec_l4Moves.l0])
      | succ k1 =>
        have H := HA.out
        clear HA
        simp only [spec_l4Moves.l0] at H
        by_cases c6 : (wrap64 (x4_1 + 1)) < (x3_1.length : Int)
        · rw [if_pos c6] at H
          have c6b0 : decide ((wrap64 (x4_1 + 1)) < (x3_1.length : Int)) = true := decide_eq_true c6
          clear c6
          by_cases c7 : 0 ≤ x4_1
          · rw [if_pos c7] at H
            have c7b0 : decide (0 ≤ x4_1) = true := decide_eq_true c7
            clear c7
            by_cases c8 : x4_1 < (x3_1.length : Int)
            · rw [if_pos c8] at H
              have c8b0 : decide (x4_1 < (x3_1.length : Int)) = true := decide_eq_true c8
              clear c8
              obtain ⟨ji9, hji9⟩ : ∃ j_ : Int, (wrap64 (x4_1 + 1)) = j_ := ⟨_, rfl⟩
              replace H : (if 0 ≤ (ji9) then ((spec_l4Joins.f k1 ((rd_T73 x3_1 x4_1).f0) ((rd_T73 x3_1 x4_1).f1) ((rd_T73 x3_1 x4_1).f2) ((rd_T73 x3_1 x4_1).f3) ((rd_T73 x3_1 x4_1).f4) ((rd_T73 x3_1 x4_1).f5) ((rd_T73 x3_1 x4_1).f6) ((rd_T73 x3_1 (ji9)).f0) ((rd_T73 x3_1 (ji9)).f1) ((rd_T73 x3_1 (ji9)).f2) ((rd_T73 x3_1 (ji9)).f3) ((rd_T73 x3_1 (ji9)).f4) ((rd_T73 x3_1 (ji9)).f5) ((rd_T73 x3_1 (ji9)).f6)).bind fun t696 => (if t696 = true then ((some (([] : List (S73)) : List (S73))).bind fun y697 => (if 0 ≤ (wrap64 (x4_1 + 2)) then (if (wrap64 (x4_1 + 2)) ≤ (x3_1.length : Int) then ((some (x3_1.drop ((wrap64 (x4_1 + 2)) : Int).toNat : List (S73))).bind fun y700 => (if y697.length + y700.length < 1759218604441 then ((some (y697 ++ y700 : List (S73))).bind fun y704 => ((spec_l4Join.f ((rd_T73 x3_1 x4_1).f0) ((rd_T73 x3_1 x4_1).f1) ((rd_T73 x3_1 x4_1).f2) ((rd_T73 x3_1 x4_1).f3) ((rd_T73 x3_1 x4_1).f4) ((rd_T73 x3_1 x4_1).f5) ((rd_T73 x3_1 x4_1).f6) ((rd_T73 x3_1 (ji9)).f0) ((rd_T73 x3_1 (ji9)).f1) ((rd_T73 x3_1 (ji9)).f2) ((rd_T73 x3_1 (ji9)).f3) ((rd_T73 x3_1 (ji9)).f4) ((rd_T73 x3_1 (ji9)).f5) ((rd_T73 x3_1 (ji9)).f6)).bind fun t709 => (if x4_1 ≤ (x3_1.length : Int) then ((some (x3_1.take (x4_1 : Int).toNat : List (S73))).bind fun y712 => (if y712.length + t709.length < 1759218604441 then ((some (y712 ++ t709 : List (S73))).bind fun y715 => (if y715.length + y704.length < 1759218604441 then (spec_l4Moves.l0 k1 (y715 ++ y704) ((-1) + 1)) else (none))) else (none))) else (none)))) else (none))) else (none)) else (none))) else (spec_l4Moves.l0 k1 x3_1 ji9))) else (none)) = some r := by first | (rw [hji9] at H; exact H) | (simp only [hji9] at H ⊢; exact H)
              (try rw [hji9] at c6b0)
              have hji9w : (IntKind.i64.wrap (x4_1 + 1)) = ji9 := (i64_w _).trans hji9
              by_cases c10 : 0 ≤ (ji9)
              · rw [if_pos c10] at H
                have c10b0 : decide (0 ≤ (ji9)) = true := decide_eq_true c10
                clear c10
                replace H := Option.bind_eq_some_iff.mp H
                obtain ⟨t696, A110, H⟩ := H
                replace H : (if t696 = true then ((some (([] : List (S73)) : List (S73))).bind fun y697 => (if 0 ≤ (wrap64 (x4_1 + 2)) then (if (wrap64 (x4_1 + 2)) ≤ (x3_1.length : Int) then ((some (x3_1.drop ((wrap64 (x4_1 + 2)) : Int).toNat : List (S73))).bind fun y700 => (if y697.length + y700.length < 1759218604441 then ((some (y697 ++ y700 : List (S73))).bind fun y704 => ((spec_l4Join.f ((rd_T73 x3_1 x4_1).f0) ((rd_T73 x3_1 x4_1).f1) ((rd_T73 x3_1 x4_1).f2) ((rd_T73 x3_1 x4_1).f3) ((rd_T73 x3_1 x4_1).f4) ((rd_T73 x3_1 x4_1).f5) ((rd_T73 x3_1 x4_1).f6) ((rd_T73 x3_1 (ji9)).f0) ((rd_T73 x3_1 (ji9)).f1) ((rd_T73 x3_1 (ji9)).f2) ((rd_T73 x3_1 (ji9)).f3) ((rd_T73 x3_1 (ji9)).f4) ((rd_T73 x3_1 (ji9)).f5) ((rd_T73 x3_1 (ji9)).f6)).bind fun t709 => (if x4_1 ≤ (x3_1.length : Int) then ((some (x3_1.take (x4_1 : Int).toNat : List (S73))).bind fun y712 => (if y712.length + t709.length < 1759218604441 then ((some (y712 ++ t709 : List (S73))).bind fun y715 => (if y715.length + y704.length < 1759218604441 then (spec_l4Moves.l0 k1 (y715 ++ y704) ((-1) + 1)) else (none))) else (none))) else (none)))) else (none))) else (none)) else (none))) else (spec_l4Moves.l0 k1 x3_1 ji9)) = some r := H
                have A11 := Aside0.mk A110
                clear A110
                by_cases c12 : t696 = true
                · subst c12
                  have H1 : ((some (([] : List (S73)) : List (S73))).bind fun y697 => (if 0 ≤ (wrap64 (x4_1 + 2)) then (if (wrap64 (x4_1 + 2)) ≤ (x3_1.length : Int) then ((some (x3_1.drop ((wrap64 (x4_1 + 2)) : Int).toNat : List (S73))).bind fun y700 => (if y697.length + y700.length < 1759218604441 then ((some (y697 ++ y700 : List (S73))).bind fun y704 => ((spec_l4Join.f ((rd_T73 x3_1 x4_1).f0) ((rd_T73 x3_1 x4_1).f1) ((rd_T73 x3_1 x4_1).f2) ((rd_T73 x3_1 x4_1).f3) ((rd_T73 x3_1 x4_1).f4) ((rd_T73 x3_1 x4_1).f5) ((rd_T73 x3_1 x4_1).f6) ((rd_T73 x3_1 (ji9)).f0) ((rd_T73 x3_1 (ji9)).f1) ((rd_T73 x3_1 (ji9)).f2) ((rd_T73 x3_1 (ji9)).f3) ((rd_T73 x3_1 (ji9)).f4) ((rd_T73 x3_1 (ji9)).f5) ((rd_T73 x3_1 (ji9)).f6)).bind fun t709 => (if x4_1 ≤ (x3_1.length : Int) then ((some (x3_1.take (x4_1 : Int).toNat : List (S73))).bind fun y712 => (if y712.length + t709.length < 1759218604441 then ((some (y712 ++ t709 : List (S73))).bind fun y715 => (if y715.length + y704.length < 1759218604441 then (spec_l4Moves.l0 k1 (y715 ++ y704) ((-1) + 1)) else (none))) else (none))) else (none)))) else (none))) else (none)) else (none))) = some r := by rw [if_pos rfl] at H; exact H
                  clear H
                  have H := H1
                  clear H1
                  obtain ⟨y697, hy697⟩ : ∃ y_ : List (S73), y_ = (([] : List (S73))) := ⟨_, rfl⟩
                  replace H : (if 0 ≤ (wrap64 (x4_1 + 2)) then (if (wrap64 (x4_1 + 2)) ≤ (x3_1.length : Int) then ((some (x3_1.drop ((wrap64 (x4_1 + 2)) : Int).toNat : List (S73))).bind fun y700 => (if y697.length + y700.length < 1759218604441 then ((some (y697 ++ y700 : List (S73))).bind fun y704 => ((spec_l4Join.f ((rd_T73 x3_1 x4_1).f0) ((rd_T73 x3_1 x4_1).f1) ((rd_T73 x3_1 x4_1).f2) ((rd_T73 x3_1 x4_1).f3) ((rd_T73 x3_1 x4_1).f4) ((rd_T73 x3_1 x4_1).f5) ((rd_T73 x3_1 x4_1).f6) ((rd_T73 x3_1 (ji9)).f0) ((rd_T73 x3_1 (ji9)).f1) ((rd_T73 x3_1 (ji9)).f2) ((rd_T73 x3_1 (ji9)).f3) ((rd_T73 x3_1 (ji9)).f4) ((rd_T73 x3_1 (ji9)).f5) ((rd_T73 x3_1 (ji9)).f6)).bind fun t709 => (if x4_1 ≤ (x3_1.length : Int) then ((some (x3_1.take (x4_1 : Int).toNat : List (S73))).bind fun y712 => (if y712.length + t709.length < 1759218604441 then ((some (y712 ++ t709 : List (S73))).bind fun y715 => (if y715.length + y704.length < 1759218604441 then (spec_l4Moves.l0 k1 (y715 ++ y704) ((-1) + 1)) else (none))) else (none))) else (none)))) else (none))) else (none)) else (none)) = some r := by first | (rw [hy697]; with_reducible exact H) | (have H2_ := (Option.bind_some _ _).symm.trans H; rw [hy697]; with_reducible exact H2_) | (have H2_ := (Option.bind_some _ _).symm.trans H; with_reducible exact H2_) | with_reducible exact H | (rw [hy697]; exact H) | exact H
                  have Ny697 := Aside0.mk hy697
                  clear hy697
                  obtain ⟨ji13, hji13⟩ : ∃ j_ : Int, (wrap64 (x4_1 + 2)) = j_ := ⟨_, rfl⟩
                  replace H : (if 0 ≤ (ji13) then (if (ji13) ≤ (x3_1.length : Int) then ((some (x3_1.drop ((ji13) : Int).toNat : List (S73))).bind fun y700 => (if y697.length + y700.length < 1759218604441 then ((some (y697 ++ y700 : List (S73))).bind fun y704 => ((spec_l4Join.f ((rd_T73 x3_1 x4_1).f0) ((rd_T73 x3_1 x4_1).f1) ((rd_T73 x3_1 x4_1).f2) ((rd_T73 x3_1 x4_1).f3) ((rd_T73 x3_1 x4_1).f4) ((rd_T73 x3_1 x4_1).f5) ((rd_T73 x3_1 x4_1).f6) ((rd_T73 x3_1 (ji9)).f0) ((rd_T73 x3_1 (ji9)).f1) ((rd_T73 x3_1 (ji9)).f2) ((rd_T73 x3_1 (ji9)).f3) ((rd_T73 x3_1 (ji9)).f4) ((rd_T73 x3_1 (ji9)).f5) ((rd_T73 x3_1 (ji9)).f6)).bind fun t709 => (if x4_1 ≤ (x3_1.length : Int) then ((some (x3_1.take (x4_1 : Int).toNat : List (S73))).bind fun y712 => (if y712.length + t709.length < 1759218604441 then ((some (y712 ++ t709 : List (S73))).bind fun y715 => (if y715.length + y704.length < 1759218604441 then (spec_l4Moves.l0 k1 (y715 ++ y704) ((-1) + 1)) else (none))) else (none))) else (none)))) else (none))) else (none)) else (none)) = some r := by first | (rw [hji13] at H; exact H) | (simp only [hji13] at H ⊢; exact H)
                  (try rw [hji13] at A11)
                  have hji13w : (IntKind.i64.wrap (x4_1 + 2)) = ji13 := (i64_w _).trans hji13
                  by_cases c14 : 0 ≤ (ji13)
                  · rw [if_pos c14] at H
                    have c14b0 := eq_true c14
                    have c14b1 : decide (0 ≤ (ji13)) = true := decide_eq_true c14
                    clear c14
                    by_cases c15 : (ji13) ≤ (x3_1.length : Int)
                    · rw [if_pos c15] at H
                      have c15b0 := eq_true c15
                      have c15b1 : decide ((ji13) ≤ (x3_1.length : Int)) = true := decide_eq_true c15
                      clear c15
                      obtain ⟨y700, hy700⟩ : ∃ y_ : List (S73), y_ = (x3_1.drop ((ji13) : Int).toNat) := ⟨_, rfl⟩
                      replace H : (if y697.length + y700.length < 1759218604441 then ((some (y697 ++ y700 : List (S73))).bind fun y704 => ((spec_l4Join.f ((rd_T73 x3_1 x4_1).f0) ((rd_T73 x3_1 x4_1).f1) ((rd_T73 x3_1 x4_1).f2) ((rd_T73 x3_1 x4_1).f3) ((rd_T73 x3_1 x4_1).f4) ((rd_T73 x3_1 x4_1).f5) ((rd_T73 x3_1 x4_1).f6) ((rd_T73 x3_1 (ji9)).f0) ((rd_T73 x3_1 (ji9)).f1) ((rd_T73 x3_1 (ji9)).f2) ((rd_T73 x3_1 (ji9)).f3) ((rd_T73 x3_1 (ji9)).f4) ((rd_T73 x3_1 (ji9)).f5) ((rd_T73 x3_1 (ji9)).f6)).bind fun t709 => (if x4_1 ≤ (x3_1.length : Int) then ((some (x3_1.take (x4_1 : Int).toNat : List (S73))).bind fun y712 => (if y712.length + t709.length < 1759218604441 then ((some (y712 ++ t709 : List (S73))).bind fun y715 => (if y715.length + y704.length < 1759218604441 then (spec_l4Moves.l0 k1 (y715 ++ y704) ((-1) + 1)) else (none))) else (none))) else (none)))) else (none)) = some r := by first | (rw [hy700]; with_reducible exact H) | (have H2_ := (Option.bind_some _ _).symm.trans H; rw [hy700]; with_reducible exact H2_) | (have H2_ := (Option.bind_some _ _).symm.trans H; with_reducible exact H2_) | with_reducible exact H | (rw [hy700]; exact H) | exact H
                      have Ny700 := Aside0.mk hy700
                      clear hy700
                      by_cases c16 : y697.length + y700.length < 1759218604441
                      · rw [if_pos c16] at H
                        have LMc16 := Aside0.mk c16
                        clear c16
                        obtain ⟨y704, hy704⟩ : ∃ y_ : List (S73), y_ = (y697 ++ y700) := ⟨_, rfl⟩
                        replace H : ((spec_l4Join.f ((rd_T73 x3_1 x4_1).f0) ((rd_T73 x3_1 x4_1).f1) ((rd_T73 x3_1 x4_1).f2) ((rd_T73 x3_1 x4_1).f3) ((rd_T73 x3_1 x4_1).f4) ((rd_T73 x3_1 x4_1).f5) ((rd_T73 x3_1 x4_1).f6) ((rd_T73 x3_1 (ji9)).f0) ((rd_T73 x3_1 (ji9)).f1) ((rd_T73 x3_1 (ji9)).f2) ((rd_T73 x3_1 (ji9)).f3) ((rd_T73 x3_1 (ji9)).f4) ((rd_T73 x3_1 (ji9)).f5) ((rd_T73 x3_1 (ji9)).f6)).bind fun t709 => (if x4_1 ≤ (x3_1.length : Int) then ((some (x3_1.take (x4_1 : Int).toNat : List (S73))).bind fun y712 => (if y712.length + t709.length < 1759218604441 then ((some (y712 ++ t709 : List (S73))).bind fun y715 => (if y715.length + y704.length < 1759218604441 then (spec_l4Moves.l0 k1 (y715 ++ y704) ((-1) + 1)) else (none))) else (none))) else (none))) = some r := by first | (rw [hy704]; with_reducible exact H) | (have H2_ := (Option.bind_some _ _).symm.trans H; rw [hy704]; with_reducible exact H2_) | (have H2_ := (Option.bind_some _ _).symm.trans H; with_reducible exact H2_) | with_reducible exact H | (rw [hy704]; exact H) | exact H
                        have Ny704 := Aside0.mk hy704
                        clear hy704
                        replace H := Option.bind_eq_some_iff.mp H
                        obtain ⟨t709, A170, H⟩ := H
                        replace H : (if x4_1 ≤ (x3_1.length : Int) then ((some (x3_1.take (x4_1 : Int).toNat : List (S73))).bind fun y712 => (if y712.length + t709.length < 1759218604441 then ((some (y712 ++ t709 : List (S73))).bind fun y715 => (if y715.length + y704.length < 1759218604441 then (spec_l4Moves.l0 k1 (y715 ++ y704) ((-1) + 1)) else (none))) else (none))) else (none)) = some r := H
                        have A17 := Aside0.mk A170
                        clear A170
                        by_cases c18 : x4_1 ≤ (x3_1.length : Int)
                        · rw [if_pos c18] at H
                          have c18b0 := eq_true c18
                          have c18b1 : decide (x4_1 ≤ (x3_1.length : Int)) = true := decide_eq_true c18
                          clear c18
                          obtain ⟨y712, hy712⟩ : ∃ y_ : List (S73), y_ = (x3_1.take (x4_1 : Int).toNat) := ⟨_, rfl⟩
                          replace H : (if y712.length + t709.length < 1759218604441 then ((some (y712 ++ t709 : List (S73))).bind fun y715 => (if y715.length + y704.length < 1759218604441 then (spec_l4Moves.l0 k1 (y715 ++ y704) ((-1) + 1)) else (none))) else (none)) = some r := by first | (rw [hy712]; with_reducible exact H) | (have H2_ := (Option.bind_some _ _).symm.trans H; rw [hy712]; with_reducible exact H2_) | (have H2_ := (Option.bind_some _ _).symm.trans H; with_reducible exact H2_) | with_reducible exact H | (rw [hy712]; exact H) | exact H
                          have Ny712 := Aside0.mk hy712
                          clear hy712
                          by_cases c19 : y712.length + t709.length < 1759218604441
                          · rw [if_pos c19] at H
                            have LMc19 := Aside0.mk c19
                            clear c19
                            obtain ⟨y715, hy715⟩ : ∃ y_ : List (S73), y_ = (y712 ++ t709) := ⟨_, rfl⟩
                            replace H : (if y715.length + y704.length < 1759218604441 then (spec_l4Moves.l0 k1 (y715 ++ y704) ((-1) + 1)) else (none)) = some r := by first | (rw [hy715]; with_reducible exact H) | (have H2_ := (Option.bind_some _ _).symm.trans H; rw [hy715]; with_reducible exact H2_) | (have H2_ := (Option.bind_some _ _).symm.trans H; with_reducible exact H2_) | with_reducible exact H | (rw [hy715]; exact H) | exact H
                            have Ny715 := Aside0.mk hy715
                            clear hy715
                            by_cases c20 : y715.length + y704.length < 1759218604441
                            · rw [if_pos c20] at H
                              have LMc20 := Aside0.mk c20
                              clear c20
                              obtain ⟨y718, hy718⟩ : ∃ y_ : List (S73), y_ = (y715 ++ y704) := ⟨_, rfl⟩
                              replace H : (spec_l4Moves.l0 k1 y718 ((-1) + 1)) = some r := by first | (rw [hy718]; with_reducible exact H) | (have H2_ := (Option.bind_some _ _).symm.trans H; rw [hy718]; with_reducible exact H2_) | (have H2_ := (Option.bind_some _ _).symm.trans H; with_reducible exact H2_) | with_reducible exact H | (rw [hy718]; exact H) | exact H
                              have Ny718 := Aside0.mk hy718
                              clear hy718
                              have H' := Aside0.mk H
                              clear H
                              obtain ⟨Ao21, co21, eo21⟩ := Kd.R_slice HO_3.out
                              subst eo21
                              try go_wp2
                              have n0_ := Aside0.mk (Kd.R_drew HO_3.out)
                              have n1_ := Aside0.mk (below_drew1 HB.out)
                              clear HO_3 HB; have HO_3 := n0_; have HB := n1_; clear n0_ n1_
                              have p694 : 0 ≤ (x4_1 : Int) := of_decide_eq_true (by first | (with_reducible assumption) | assumption)
                              have q694 : x4_1 < (x3_1.length : Int) := of_decide_eq_true (by first | (with_reducible assumption) | assumption)
                              obtain ⟨ad694, e694, hx694_0, hx694_1, hx694_2, hx694_3, hx694_4, hx694_5, hx694_6⟩ := at_T73 (Kd.R_reads' HO_3.out).2.2 x4_1 p694 q694
                              cases e694
                              replace p694 := eq_true p694
                              replace q694 := eq_true q694
                              have p695 : 0 ≤ ((ji9) : Int) := of_decide_eq_true (by first | (with_reducible assumption) | assumption)
                              have q695 : (ji9) < (x3_1.length : Int) := of_decide_eq_true (by first | (with_reducible assumption) | assumption)
                              obtain ⟨ad695, e695, hx695_0, hx695_1, hx695_2, hx695_3, hx695_4, hx695_5, hx695_6⟩ := at_T73 (Kd.R_reads' HO_3.out).2.2 (ji9) p695 q695
                              obtain rfl : ad694 = ad695 := (by injection e695)
                              replace p695 := eq_true p695
                              replace q695 := eq_true q695
                              refine start_ (n := 10) (S := fun w' => w'.cell? (ad694.add ((x4_1).toNat * 7)) = some (.int .i64 ((rd_T73 x3_1 x4_1).f0)) ∧ w'.cell? ⟨(ad694.add ((x4_1).toNat * 7)).block, (ad694.add ((x4_1).toNat * 7)).off + 1, none⟩ = some (.int .i64 ((rd_T73 x3_1 x4_1).f1)) ∧ w'.cell? ⟨(ad694.add ((x4_1).toNat * 7)).block, (ad694.add ((x4_1).toNat * 7)).off + 2, none⟩ = some (.string ((rd_T73 x3_1 x4_1).f2)) ∧ w'.cell? ⟨(ad694.add ((x4_1).toNat * 7)).block, (ad694.add ((x4_1).toNat * 7)).off + 3, none⟩ = some (.int .i64 ((rd_T73 x3_1 x4_1).f3)) ∧ w'.cell? ⟨(ad694.add ((x4_1).toNat * 7)).block, (ad694.add ((x4_1).toNat * 7)).off + 4, none⟩ = some (.string ((rd_T73 x3_1 x4_1).f4)) ∧ w'.cell? ⟨(ad694.add ((x4_1).toNat * 7)).block, (ad694.add ((x4_1).toNat * 7)).off + 5, none⟩ = some (.int .i64 ((rd_T73 x3_1 x4_1).f5)) ∧ w'.cell? ⟨(ad694.add ((x4_1).toNat * 7)).block, (ad694.add ((x4_1).toNat * 7)).off + 6, none⟩ = some (.string ((rd_T73 x3_1 x4_1).f6)) ∧ w'.cell? (ad694.add (((ji9)).toNat * 7)) = some (.int .i64 ((rd_T73 x3_1 (ji9)).f0)) ∧ w'.cell? ⟨(ad694.add (((ji9)).toNat * 7)).block, (ad694.add (((ji9)).toNat * 7)).off + 1, none⟩ = some (.int .i64 ((rd_T73 x3_1 (ji9)).f1)) ∧ w'.cell? ⟨(ad694.add (((ji9)).toNat * 7)).block, (ad694.add (((ji9)).toNat * 7)).off + 2, none⟩ = some (.string ((rd_T73 x3_1 (ji9)).f2)) ∧ w'.cell? ⟨(ad694.add (((ji9)).toNat * 7)).block, (ad694.add (((ji9)).toNat * 7)).off + 3, none⟩ = some (.int .i64 ((rd_T73 x3_1 (ji9)).f3)) ∧ w'.cell? ⟨(ad694.add (((ji9)).toNat * 7)).block, (ad694.add (((ji9)).toNat * 7)).off + 4, none⟩ = some (.string ((rd_T73 x3_1 (ji9)).f4)) ∧ w'.cell? ⟨(ad694.add (((ji9)).toNat * 7)).block, (ad694.add (((ji9)).toNat * 7)).off + 5, none⟩ = some (.int .i64 ((rd_T73 x3_1 (ji9)).f5)) ∧ w'.cell? ⟨(ad694.add (((ji9)).toNat * 7)).block, (ad694.add (((ji9)).toNat * 7)).off + 6, none⟩ = some (.string ((rd_T73 x3_1 (ji9)).f6))) (ds := []) #[false, false, false, false, false, false, false, false, false, false] (by kernel_rfl) rfl rfl ⟨hx694_0, hx694_1, hx694_2, hx694_3, hx694_4, hx694_5, hx694_6, hx695_0, hx695_1, hx695_2, hx695_3, hx695_4, hx695_5, hx695_6⟩ (fun hHeld => ?_); refine with_tabW spec_l4Moves.tab5 spec_l4Moves.bits5 (fun HT_ HW_ => ?_)
                              generalize wr.drew = w22 at HO_3 HB hx694_0 hx694_1 hx694_2 hx694_3 hx694_4 hx694_5 hx694_6 hx695_0 hx695_1 hx695_2 hx695_3 hx695_4 hx695_5 hx695_6 hHeld ⊢
                              refine pure_ (i := 0) (N := some 16) (v := ?_) (a' := ?_) #[true, false, false, false, false, false, false, false, false, false] rfl rfl (any_of HT_.out (by kernel_rfl)) (fun _ _ _ h => h) (Or.inl ⟨by rfl, ?_⟩) ?_ ?_
                              rotate_left
                              · intro w'
                                go_simp
                                with_reducible rfl
                              rotate_left
                              · simp only [Act.put, List.setIfInBounds_toArray, List.set_cons_zero, List.set_cons_succ, i64_w, i32_w]
                                rfl
                              refine pure_ (i := 1) (N := some 17) (v := ?_) (a' := ?_) #[true, true, false, false, false, false, false, false, false, false] rfl rfl (any_of HT_.out (by kernel_rfl)) (fun _ _ _ h => h) (Or.inl ⟨by rfl, ?_⟩) ?_ ?_
                              rotate_left
                              · intro w'
                                go_simp
                                with_reducible rfl
                              rotate_left
                              · simp only [Act.put, List.setIfInBounds_toArray, List.set_cons_zero, List.set_cons_succ, i64_w, i32_w]
                                rfl
                              refine pure_ (i := 2) (N := some 18) (v := ?_) (a' := ?_) #[true, true, true, false, false, false, false, false, false, false] rfl rfl (any_of HT_.out (by kernel_rfl)) (fun _ _ _ h => h) (Or.inl ⟨by rfl, ?_⟩) ?_ ?_
                              rotate_left
                              · intro w'
                                go_simp
                                with_reducible rfl
                              rotate_left
                              · simp only [Act.put, List.setIfInBounds_toArray, List.set_cons_zero, List.set_cons_succ, i64_w, i32_w]
                                rfl
                              refine pure_ (i := 4) (N := some 20) (v := ?_) (a' := ?_) #[true, true, true, false, true, false, false, false, false, false] rfl rfl (any_of HT_.out (by kernel_rfl)) (fun _ _ _ h => h) (Or.inl ⟨by rfl, ?_⟩) ?_ ?_
                              rotate_left
                              · intro w'
                                go_simp
                                with_reducible rfl
                              rotate_left
                              · simp only [Act.put, List.setIfInBounds_toArray, List.set_cons_zero, List.set_cons_succ, i64_w, i32_w]
                                rfl
                              refine pure_ (i := 5) (N := some 21) (v := ?_) (a' := ?_) #[true, true, true, false, true, true, false, false, false, false] rfl rfl (any_of HT_.out (by kernel_rfl)) (fun _ _ _ h => h) (Or.inl ⟨by rfl, ?_⟩) ?_ ?_
                              rotate_left
                              · intro w'
                                go_simp
                                with_reducible rfl
                              rotate_left
                              · simp only [Act.put, List.setIfInBounds_toArray, List.set_cons_zero, List.set_cons_succ, i64_w, i32_w]
                                rfl
                              refine pure_ (i := 6) (N := some 22) (v := ?_) (a' := ?_) #[true, true, true, false, true, true, true, false, false, false] rfl rfl (any_of HT_.out (by kernel_rfl)) (fun _ _ _ h => h) (Or.inl ⟨by rfl, ?_⟩) ?_ ?_
                              rotate_left
                              · intro w'
                                go_simp
                                with_reducible rfl
                              rotate_left
                              · simp only [Act.put, List.setIfInBounds_toArray, List.set_cons_zero, List.set_cons_succ, i64_w, i32_w]
                                rfl
                              refine pure_ (i := 7) (N := some 23) (v := ?_) (a' := ?_) #[true, true, true, false, true, true, true, true, false, false] rfl rfl (any_of HT_.out (by kernel_rfl)) (fun _ _ _ h => h) (Or.inl ⟨by rfl, ?_⟩) ?_ ?_
                              rotate_left
                              · intro w'
                                go_simp
                                with_reducible rfl
                              rotate_left
                              · simp only [Act.put, List.setIfInBounds_toArray, List.set_cons_zero, List.set_cons_succ, i64_w, i32_w]
                                rfl
                              refine take_ (i := 3) (N := some 19) (v := ?_) (a' := ?_) #[true, true, true, true, true, true, true, true, false, false] rfl rfl (take_ofW HT_.out HW_.out (by kernel_rfl)) (fun _ _ _ h => h) (Or.inl ⟨by rfl, ?_⟩) hHeld ?_ ?_
                              rotate_left
                              · rintro w' ⟨s0, s1, s2, s3, s4, s5, s6, s7, s8, s9, s10, s11, s12, s13⟩
                                go_simp
                                with_reducible rfl
                              rotate_left
                              · simp only [Act.put, List.setIfInBounds_toArray, List.set_cons_zero, List.set_cons_succ, i64_w, i32_w]
                                rfl
                              refine take_ (i := 8) (N := some 24) (v := ?_) (a' := ?_) #[true, true, true, true, true, true, true, true, true, false] rfl rfl (take_ofW HT_.out HW_.out (by kernel_rfl)) (fun _ _ _ h => h) (Or.inl ⟨by rfl, ?_⟩) hHeld ?_ ?_
                              rotate_left
                              · rintro w' ⟨s0, s1, s2, s3, s4, s5, s6, s7, s8, s9, s10, s11, s12, s13⟩
                                go_simp
                                with_reducible rfl
                              rotate_left
                              · simp only [Act.put, List.setIfInBounds_toArray, List.set_cons_zero, List.set_cons_succ, i64_w, i32_w]
                                rfl
                              refine one_ (i := 9) (N := some 25) #[true, true, true, true, true, true, true, true, true, true] rfl rfl (one_of HT_.out (by kernel_rfl)) (by decide) (fun K hK => ?_)
                              refine goes_ Try.func159 (by kernel_rfl) rfl #[.agg #[.int .i64 ((rd_T73 x3_1 x4_1).f0), .int .i64 ((rd_T73 x3_1 x4_1).f1), .string ((rd_T73 x3_1 x4_1).f2), .int .i64 ((rd_T73 x3_1 x4_1).f3), .string ((rd_T73 x3_1 x4_1).f4), .int .i64 ((rd_T73 x3_1 x4_1).f5), .string ((rd_T73 x3_1 x4_1).f6)], .agg #[.int .i64 ((rd_T73 x3_1 (ji9)).f0), .int .i64 ((rd_T73 x3_1 (ji9)).f1), .string ((rd_T73 x3_1 (ji9)).f2), .int .i64 ((rd_T73 x3_1 (ji9)).f3), .string ((rd_T73 x3_1 (ji9)).f4), .int .i64 ((rd_T73 x3_1 (ji9)).f5), .string ((rd_T73 x3_1 (ji9)).f6)]] (by rfl) rfl rfl (by (try simp only [List.map_toArray, List.map_cons, List.map_nil]); first | done | (simp only [hji9]; rfl) | rfl | (simp only [List.length_drop, List.length_take]; rfl)) ?_
                              with_reducible refine (spec_l4Joins.calls k1 ((rd_T73 x3_1 x4_1).f0) ((rd_T73 x3_1 x4_1).f1) ((rd_T73 x3_1 x4_1).f2) ((rd_T73 x3_1 x4_1).f3) ((rd_T73 x3_1 x4_1).f4) ((rd_T73 x3_1 x4_1).f5) ((rd_T73 x3_1 x4_1).f6) ((rd_T73 x3_1 (ji9)).f0) ((rd_T73 x3_1 (ji9)).f1) ((rd_T73 x3_1 (ji9)).f2) ((rd_T73 x3_1 (ji9)).f3) ((rd_T73 x3_1 (ji9)).f4) ((rd_T73 x3_1 (ji9)).f5) ((rd_T73 x3_1 (ji9)).f6) true _ A11.out).mono ?_
                              rintro e w23 ⟨rfl, hb⟩
                              have HS0_ := (hb.cell (World.block_lt_of_cell? _ _ (hHeld.1))).trans (hHeld.1)
                              have HS1_ := (hb.cell (World.block_lt_of_cell? _ _ (hHeld.2.1))).trans (hHeld.2.1)
                              have HS2_ := (hb.cell (World.block_lt_of_cell? _ _ (hHeld.2.2.1))).trans (hHeld.2.2.1)
                              have HS3_ := (hb.cell (World.block_lt_of_cell? _ _ (hHeld.2.2.2.1))).trans (hHeld.2.2.2.1)
                              have HS4_ := (hb.cell (World.block_lt_of_cell? _ _ (hHeld.2.2.2.2.1))).trans (hHeld.2.2.2.2.1)
                              have HS5_ := (hb.cell (World.block_lt_of_cell? _ _ (hHeld.2.2.2.2.2.1))).trans (hHeld.2.2.2.2.2.1)
                              have HS6_ := (hb.cell (World.block_lt_of_cell? _ _ (hHeld.2.2.2.2.2.2.1))).trans (hHeld.2.2.2.2.2.2.1)
                              have HS7_ := (hb.cell (World.block_lt_of_cell? _ _ (hHeld.2.2.2.2.2.2.2.1))).trans (hHeld.2.2.2.2.2.2.2.1)
                              have HS8_ := (hb.cell (World.block_lt_of_cell? _ _ (hHeld.2.2.2.2.2.2.2.2.1))).trans (hHeld.2.2.2.2.2.2.2.2.1)
                              have HS9_ := (hb.cell (World.block_lt_of_cell? _ _ (hHeld.2.2.2.2.2.2.2.2.2.1))).trans (hHeld.2.2.2.2.2.2.2.2.2.1)
                              have HS10_ := (hb.cell (World.block_lt_of_cell? _ _ (hHeld.2.2.2.2.2.2.2.2.2.2.1))).trans (hHeld.2.2.2.2.2.2.2.2.2.2.1)
                              have HS11_ := (hb.cell (World.block_lt_of_cell? _ _ (hHeld.2.2.2.2.2.2.2.2.2.2.2.1))).trans (hHeld.2.2.2.2.2.2.2.2.2.2.2.1)
                              have HS12_ := (hb.cell (World.block_lt_of_cell? _ _ (hHeld.2.2.2.2.2.2.2.2.2.2.2.2.1))).trans (hHeld.2.2.2.2.2.2.2.2.2.2.2.2.1)
                              have HS13_ := (hb.cell (World.block_lt_of_cell? _ _ (hHeld.2.2.2.2.2.2.2.2.2.2.2.2.2))).trans (hHeld.2.2.2.2.2.2.2.2.2.2.2.2.2)
                              refine ⟨_, rfl, ?_⟩
                              have n0_ := Aside0.mk (Kd.R_below (by (with_reducible repeat (first | apply Kd.R_alloc | apply Kd.R_drewN | apply Kd.R_drew)); exact HO_3.out) hb)
                              have n1_ := Aside0.mk (below_step (by repeat (first | (with_reducible first | exact HB.out | apply below_alloc | apply pw_below_drewN | apply below_drew1) | exact HB.out)) hb)
                              clear HO_3 HB; have HO_3 := n0_; have HB := n1_; clear n0_ n1_; (try clear hb); (try clear hb2); (try clear hk); (try clear hi)
                              refine hK.out _ _ ⟨HS0_, HS1_, HS2_, HS3_, HS4_, HS5_, HS6_, HS7_, HS8_, HS9_, HS10_, HS11_, HS12_, HS13_⟩ (fun hHeld => ?_)
                              clear hK K
                              refine norm_ (a' := ?_) ?_ ?_
                              rotate_left
                              · show Act.put _ (some 25) _ = _
                                simp only [Act.put, List.setIfInBounds_toArray, List.set_cons_zero, List.set_cons_succ, i64_w, i32_w]
                                rfl
                              refine done_ (done_of HT_.out (by kernel_rfl)) ?_
                              try go_wp2_with (first | ((with_reducible refine gate_dst (N := 26) rfl ?_); refine Kd.R_lit k73 _ 73 ?hg (N := 26) ?hd (xs := ([] : List (S73))) (inner := []) (ok := fun _ => True) (okp := fun _ => True) ?hr ?hp (fun _ hk => hk) trivial (Below.refl _ _) (Nat.le_refl _) (by simp) ?_; (case hd => rfl); (case hg => rfl); (case hr => first | (go_simp; done) | (go_simp; rfl)); (case hp => exact (Reps.none _ _)); intro v698 w24 ho25 hb hg_ hnew_; clear hg_ hnew_; (first | rw [← Ny697.out] at ho25 | (simp only [Int.reduceToNat] at ho25; rw [← Ny697.out] at ho25)); have n0_ := Aside0.mk (Kd.R_elder' (by (with_reducible repeat (first | apply Kd.R_alloc | apply Kd.R_drewN | apply Kd.R_drew)); exact HO_3.out) (Kd.R_base ho25) hb); have n1_ := Aside0.mk (Kd.R_lower (Kd.R_new' ho25 (Kd.R_lt (by (with_reducible repeat (first | apply Kd.R_alloc | apply Kd.R_drewN | apply Kd.R_drew)); exact HO_3.out))) (below_size (by repeat (first | (with_reducible first | exact HB.out | apply below_alloc | apply pw_below_drewN | apply below_drew1) | exact HB.out)))); have n2_ := Aside0.mk (below_step (by repeat (first | (with_reducible first | exact HB.out | apply below_alloc | apply pw_below_drewN | apply below_drew1) | exact HB.out)) hb); clear HO_3; clear HB; have HO_3 := n0_; have HO699 := n1_; have HB := n2_; clear n0_ n1_ n2_; clear hb ho25; have q26 : ((ji13) : Int) ≤ ((x3_1.length : Int) : Int) := of_decide_eq_true (by first | (with_reducible assumption) | assumption); obtain ⟨i026, hi026, _, hsz26, _⟩ := info_parts info73; have hroom26 : x3_1.length ≤ co21 := (Kd.R_reads' HO_3.out).2.1; have hC26 : Kd.C k73 _ (some ad694) x3_1.length x3_1 := (Kd.R_reads' HO_3.out).2.2; have q026 : (0 : Int) ≤ ((ji13) : Int) := of_decide_eq_true (by first | (with_reducible assumption) | assumption); have hcut26 := cut_from (P := Try.prog) 34 73 .i64 Try.underlying34 hi026 7 hsz26 (some ad694) x3_1.length co21 (ji13) q026 q26; have hr26 := Kd.C_drop (m := ((ji13) : Int).toNat) (c := co21) hC26 (by omega) hroom26; obtain ⟨A26, hA26⟩ : ∃ A1, A1 = (if co21 = ((ji13) : Int).toNat then (some ad694) else ((some ad694) : Option Addr).map (·.add (((ji13) : Int).toNat * 7))) := ⟨_, rfl⟩; obtain ⟨c26, hc26⟩ : ∃ c1, c1 = co21 - ((ji13) : Int).toNat := ⟨_, rfl⟩; have hy26 : y700.length = x3_1.length - ((ji13) : Int).toNat := (by rw [Ny700.out, List.length_drop] <;> omega); rw [show (x3_1).drop ((ji13) : Int).toNat = y700 from Ny700.out.symm] at hr26; replace hr26 : Kd.C k73 _ A26 y700.length y700 := (by rw [hA26]; exact hr26); rw [← hy26, ← hA26, ← hc26] at hcut26; have HR703 := Aside0.mk hr26; have HC703 := Aside0.mk (show y700.length ≤ c26 from by rw [hy26, hc26]; exact Nat.sub_le_sub_right hroom26 _); clear hr26 hC26 hroom26 hi026 hsz26 hc26; have KY26 := Aside0.mk hy26; have KA26 := Aside0.mk hA26; clear hy26 hA26; have KL26 := Aside0.mk (show ((ji13) : Int).toNat ≤ x3_1.length from by omega); replace q26 := eq_true q26) | ((with_reducible refine gate_builtin (b := .append) (xs := #[.tmp 26, .tmp 30]) rfl ?_); at_builtin; refine Kd.R_append_rows k73 (w0 := w) w.heap.size rfl (.tmp 26) (.tmp 30) 34 73 (.agg #[(.int .i64 0), (.int .i64 0), (.string ⟨#[]⟩), (.int .i64 0), (.string ⟨#[]⟩), (.int .i64 0), (.string ⟨#[]⟩)]) 80 rfl Try.underlying34 info73 rfl (by decide) (by omega) v698 y697 y700 _ _ _ (fun k_ => some k_ ≠ (.slice (some ad694) x3_1.length co21 : Value).ownBlock) (fun _ => False) rfl rfl ?aO ?aR (fun _ _ h => h) (fun _ h => h.elim) ?aF ?aB ?aS ?aL ?_; (case aR => repeat (first | exact (by repeat (first | (with_reducible exact HR703.out) | (with_reducible refine Kd.C_alloc ?_ _) | (with_reducible refine Kd.C_drewN ?_ _) | (with_reducible refine Kd.C_drew ?_) | exact HR703.out)) | (with_reducible refine Kd.C_alloc ?_ _) | (with_reducible refine Kd.C_drewN ?_ _) | (with_reducible refine Kd.C_drew ?_))); (case aB => exact (by repeat (first | (with_reducible first | exact HB.out | apply below_alloc | apply pw_below_drewN | apply below_drew1) | exact HB.out))); (case aF => exact (fun k_ hk => Kd.fresh' (Kd.R_lt (by (with_reducible repeat (first | apply Kd.R_alloc | apply Kd.R_drewN | apply Kd.R_drew)); exact HO_3.out)) k_ hk)); (case aO => exact (by (with_reducible repeat (first | apply Kd.R_alloc | apply Kd.R_drewN | apply Kd.R_drew)); exact Kd.R_mono HO699.out (fun _ hk => hk.2))); (case aS => exact (below_size (by repeat (first | (with_reducible first | exact HB.out | apply below_alloc | apply pw_below_drewN | apply below_drew1) | exact HB.out)))); (case aL => have := LMc16.out; omega); intro v705 w27 ho hb hg hat; rw [← Ny704.out] at ho; have n0_ := Aside0.mk (Kd.R_after (ok := (fun _ => True)) (by (with_reducible repeat (first | apply Kd.R_alloc | apply Kd.R_drewN | apply Kd.R_drew)); first | exact HO_3.out | exact Kd.R_mono HO_3.out (fun _ hk => ⟨hk.1, fun e_ => hk.2 (e_.trans ((show ∀ (A : Option Addr) (n m c : Nat), (Value.slice A n c).ownBlock = (Value.slice A m c).ownBlock from fun A _ _ _ => by cases A <;> rfl) _ _ _ _))⟩)) hg hat); have n1_ := Aside0.mk (hb); have n2_ := Aside0.mk ((show Kd.C k73 w27 A26 y700.length y700 from by rw [Ny700.out, KA26.out]; exact Kd.C_drop (m := ((ji13) : Int).toNat) (c := co21) ((Kd.R_reads' (Kd.R_after (ok := (fun _ => True)) (by (with_reducible repeat (first | apply Kd.R_alloc | apply Kd.R_drewN | apply Kd.R_drew)); first | exact HO_3.out | exact Kd.R_mono HO_3.out (fun _ hk => ⟨hk.1, fun e_ => hk.2 (e_.trans ((show ∀ (A : Option Addr) (n m c : Nat), (Value.slice A n c).ownBlock = (Value.slice A m c).ownBlock from fun A _ _ _ => by cases A <;> rfl) _ _ _ _))⟩)) hg hat)).2.2) KL26.out ((Kd.R_reads' (Kd.R_after (ok := (fun _ => True)) (by (with_reducible repeat (first | apply Kd.R_alloc | apply Kd.R_drewN | apply Kd.R_drew)); first | exact HO_3.out | exact Kd.R_mono HO_3.out (fun _ hk => ⟨hk.1, fun e_ => hk.2 (e_.trans ((show ∀ (A : Option Addr) (n m c : Nat), (Value.slice A n c).ownBlock = (Value.slice A m c).ownBlock from fun A _ _ _ => by cases A <;> rfl) _ _ _ _))⟩)) hg hat)).2.1))); have n3_ := Aside0.mk (ho); clear HO_3; clear HB; clear HR703; clear HO699; have HO_3 := n0_; have HB := n1_; have HR703 := n2_; have HO706 := n3_; clear n0_ n1_ n2_ n3_; clear ho hb hg hat))
                              have n0_ := Aside0.mk (Kd.R_drew HO_3.out)
                              have n1_ := Aside0.mk (Kd.R_drew HO706.out)
                              have n2_ := Aside0.mk (Kd.C_drew HR703.out)
                              have n3_ := Aside0.mk (below_drew1 HB.out)
                              clear HO_3 HO706 HR703 HB; have HO_3 := n0_; have HO706 := n1_; have HR703 := n2_; have HB := n3_; clear n0_ n1_ n2_ n3_
                              have p707 : 0 ≤ (x4_1 : Int) := of_decide_eq_true (by first | (with_reducible assumption) | assumption)
                              have q707 : x4_1 < (x3_1.length : Int) := of_decide_eq_true (by first | (with_reducible assumption) | assumption)
                              obtain ⟨ad707, e707, hx707_0, hx707_1, hx707_2, hx707_3, hx707_4, hx707_5, hx707_6⟩ := at_T73 (Kd.R_reads' HO_3.out).2.2 x4_1 p707 q707
                              obtain rfl : ad694 = ad707 := (by injection e707)
                              replace p707 := eq_true p707
                              replace q707 := eq_true q707
                              have p708 : 0 ≤ ((ji9) : Int) := of_decide_eq_true (by first | (with_reducible assumption) | assumption)
                              have q708 : (ji9) < (x3_1.length : Int) := of_decide_eq_true (by first | (with_reducible assumption) | assumption)
                              obtain ⟨ad708, e708, hx708_0, hx708_1, hx708_2, hx708_3, hx708_4, hx708_5, hx708_6⟩ := at_T73 (Kd.R_reads' HO_3.out).2.2 (ji9) p708 q708
                              obtain rfl : ad694 = ad708 := (by injection e708)
                              replace p708 := eq_true p708
                              replace q708 := eq_true q708
                              have q29 : (x4_1 : Int) ≤ ((x3_1.length : Int) : Int) := of_decide_eq_true (by first | (with_reducible assumption) | assumption)
                              obtain ⟨i029, hi029, _, hsz29, _⟩ := info_parts info73
                              have hcut29 := cut_to (P := Try.prog) 34 73 .i64 Try.underlying34 hi029 (some ad694) x3_1.length co21 x4_1 (of_decide_eq_true (by first | (with_reducible assumption) | assumption)) q29 (Kd.R_reads' HO_3.out).2.1
                              have hr29 := Kd.R_take (m := (x4_1 : Int).toNat) HO_3.out (by omega)
                              have hy29 : y712.length = (x4_1 : Int).toNat := (by rw [Ny712.out, List.length_take]; omega)
                              rw [← Ny712.out] at hr29
                              rw [← hy29] at hr29 hcut29
                              clear hy29 hi029 hsz29 HO_3
                              have HO714 := Aside0.mk hr29
                              clear hr29
                              replace q29 := eq_true q29
                              refine start_ (n := 17) (S := fun w' => w'.cell? (ad694.add ((x4_1).toNat * 7)) = some (.int .i64 ((rd_T73 x3_1 x4_1).f0)) ∧ w'.cell? ⟨(ad694.add ((x4_1).toNat * 7)).block, (ad694.add ((x4_1).toNat * 7)).off + 1, none⟩ = some (.int .i64 ((rd_T73 x3_1 x4_1).f1)) ∧ w'.cell? ⟨(ad694.add ((x4_1).toNat * 7)).block, (ad694.add ((x4_1).toNat * 7)).off + 2, none⟩ = some (.string ((rd_T73 x3_1 x4_1).f2)) ∧ w'.cell? ⟨(ad694.add ((x4_1).toNat * 7)).block, (ad694.add ((x4_1).toNat * 7)).off + 3, none⟩ = some (.int .i64 ((rd_T73 x3_1 x4_1).f3)) ∧ w'.cell? ⟨(ad694.add ((x4_1).toNat * 7)).block, (ad694.add ((x4_1).toNat * 7)).off + 4, none⟩ = some (.string ((rd_T73 x3_1 x4_1).f4)) ∧ w'.cell? ⟨(ad694.add ((x4_1).toNat * 7)).block, (ad694.add ((x4_1).toNat * 7)).off + 5, none⟩ = some (.int .i64 ((rd_T73 x3_1 x4_1).f5)) ∧ w'.cell? ⟨(ad694.add ((x4_1).toNat * 7)).block, (ad694.add ((x4_1).toNat * 7)).off + 6, none⟩ = some (.string ((rd_T73 x3_1 x4_1).f6)) ∧ w'.cell? (ad694.add (((ji9)).toNat * 7)) = some (.int .i64 ((rd_T73 x3_1 (ji9)).f0)) ∧ w'.cell? ⟨(ad694.add (((ji9)).toNat * 7)).block, (ad694.add (((ji9)).toNat * 7)).off + 1, none⟩ = some (.int .i64 ((rd_T73 x3_1 (ji9)).f1)) ∧ w'.cell? ⟨(ad694.add (((ji9)).toNat * 7)).block, (ad694.add (((ji9)).toNat * 7)).off + 2, none⟩ = some (.string ((rd_T73 x3_1 (ji9)).f2)) ∧ w'.cell? ⟨(ad694.add (((ji9)).toNat * 7)).block, (ad694.add (((ji9)).toNat * 7)).off + 3, none⟩ = some (.int .i64 ((rd_T73 x3_1 (ji9)).f3)) ∧ w'.cell? ⟨(ad694.add (((ji9)).toNat * 7)).block, (ad694.add (((ji9)).toNat * 7)).off + 4, none⟩ = some (.string ((rd_T73 x3_1 (ji9)).f4)) ∧ w'.cell? ⟨(ad694.add (((ji9)).toNat * 7)).block, (ad694.add (((ji9)).toNat * 7)).off + 5, none⟩ = some (.int .i64 ((rd_T73 x3_1 (ji9)).f5)) ∧ w'.cell? ⟨(ad694.add (((ji9)).toNat * 7)).block, (ad694.add (((ji9)).toNat * 7)).off + 6, none⟩ = some (.string ((rd_T73 x3_1 (ji9)).f6))) (ds := [13, 15]) #[false, false, false, false, false, false, false, false, false, false, false, false, false, false, false, false, false] (by kernel_rfl) rfl rfl ⟨hx707_0, hx707_1, hx707_2, hx707_3, hx707_4, hx707_5, hx707_6, hx708_0, hx708_1, hx708_2, hx708_3, hx708_4, hx708_5, hx708_6⟩ (fun hHeld => ?_); refine with_tabW spec_l4Moves.tab7 spec_l4Moves.bits7 (fun HT_ HW_ => ?_)
                              generalize w27.drew = w28 at HO706 HR703 HB HO714 hx707_0 hx707_1 hx707_2 hx707_3 hx707_4 hx707_5 hx707_6 hx708_0 hx708_1 hx708_2 hx708_3 hx708_4 hx708_5 hx708_6 hHeld ⊢
                              refine pure_ (i := 0) (N := some 32) (v := ?_) (a' := ?_) #[true, false, false, false, false, false, false, false, false, false, false, false, false, false, false, false, false] rfl rfl (any_of HT_.out (by kernel_rfl)) (fun _ _ _ h => h) (Or.inl ⟨by rfl, ?_⟩) ?_ ?_
                              rotate_left
                              · intro w'
                                go_simp
                                with_reducible rfl
                              rotate_left
                              · simp only [Act.put, List.setIfInBounds_toArray, List.set_cons_zero, List.set_cons_succ, i64_w, i32_w]
                                rfl
                              refine pure_ (i := 1) (N := some 33) (v := ?_) (a' := ?_) #[true, true, false, false, false, false, false, false, false, false, false, false, false, false, false, false, false] rfl rfl (any_of HT_.out (by kernel_rfl)) (fun _ _ _ h => h) (Or.inl ⟨by rfl, ?_⟩) ?_ ?_
                              rotate_left
                              · intro w'
                                go_simp
                                with_reducible rfl
                              rotate_left
                              · simp only [Act.put, List.setIfInBounds_toArray, List.set_cons_zero, List.set_cons_succ, i64_w, i32_w]
                                rfl
                              refine pure_ (i := 2) (N := some 34) (v := ?_) (a' := ?_) #[true, true, true, false, false, false, false, false, false, false, false, false, false, false, false, false, false] rfl rfl (any_of HT_.out (by kernel_rfl)) (fun _ _ _ h => h) (Or.inl ⟨by rfl, ?_⟩) ?_ ?_
                              rotate_left
                              · intro w'
                                go_simp
                                with_reducible rfl
                              rotate_left
                              · simp only [Act.put, List.setIfInBounds_toArray, List.set_cons_zero, List.set_cons_succ, i64_w, i32_w]
                                rfl
                              refine pure_ (i := 3) (N := some 35) (v := ?_) (a' := ?_) #[true, true, true, true, false, false, false, false, false, false, false, false, false, false, false, false, false] rfl rfl (any_of HT_.out (by kernel_rfl)) (fun _ _ _ h => h) (Or.inl ⟨by rfl, ?_⟩) ?_ ?_
                              rotate_left
                              · intro w'
                                go_simp
                                with_reducible rfl
                              rotate_left
                              · simp only [Act.put, List.setIfInBounds_toArray, List.set_cons_zero, List.set_cons_succ, i64_w, i32_w]
                                rfl
                              refine pure_ (i := 4) (N := some 36) (v := ?_) (a' := ?_) #[true, true, true, true, true, false, false, false, false, false, false, false, false, false, false, false, false] rfl rfl (any_of HT_.out (by kernel_rfl)) (fun _ _ _ h => h) (Or.inl ⟨by rfl, ?_⟩) ?_ ?_
                              rotate_left
                              · intro w'
                                go_simp
                                with_reducible rfl
                              rotate_left
                              · simp only [Act.put, List.setIfInBounds_toArray, List.set_cons_zero, List.set_cons_succ, i64_w, i32_w]
                                rfl
                              refine pure_ (i := 5) (N := some 37) (v := ?_) (a' := ?_) #[true, true, true, true, true, true, false, false, false, false, false, false, false, false, false, false, false] rfl rfl (any_of HT_.out (by kernel_rfl)) (fun _ _ _ h => h) (Or.inl ⟨by rfl, ?_⟩) ?_ ?_
                              rotate_left
                              · intro w'
                                go_simp
                                with_reducible rfl
                              rotate_left
                              · simp only [Act.put, List.setIfInBounds_toArray, List.set_cons_zero, List.set_cons_succ, i64_w, i32_w]
                                rfl
                              refine pure_ (i := 7) (N := some 39) (v := ?_) (a' := ?_) #[true, true, true, true, true, true, false, true, false, false, false, false, false, false, false, false, false] rfl rfl (any_of HT_.out (by kernel_rfl)) (fun _ _ _ h => h) (Or.inl ⟨by rfl, ?_⟩) ?_ ?_
                              rotate_left
                              · intro w'
                                go_simp
                                with_reducible rfl
                              rotate_left
                              · simp only [Act.put, List.setIfInBounds_toArray, List.set_cons_zero, List.set_cons_succ, i64_w, i32_w]
                                rfl
                              refine pure_ (i := 8) (N := some 40) (v := ?_) (a' := ?_) #[true, true, true, true, true, true, false, true, true, false, false, false, false, false, false, false, false] rfl rfl (any_of HT_.out (by kernel_rfl)) (fun _ _ _ h => h) (Or.inl ⟨by rfl, ?_⟩) ?_ ?_
                              rotate_left
                              · intro w'
                                go_simp
                                with_reducible rfl
                              rotate_left
                              · simp only [Act.put, List.setIfInBounds_toArray, List.set_cons_zero, List.set_cons_succ, i64_w, i32_w]
                                rfl
                              refine pure_ (i := 9) (N := some 41) (v := ?_) (a' := ?_) #[true, true, true, true, true, true, false, true, true, true, false, false, false, false, false, false, false] rfl rfl (any_of HT_.out (by kernel_rfl)) (fun _ _ _ h => h) (Or.inl ⟨by rfl, ?_⟩) ?_ ?_
                              rotate_left
                              · intro w'
                                go_simp
                                with_reducible rfl
                              rotate_left
                              · simp only [Act.put, List.setIfInBounds_toArray, List.set_cons_zero, List.set_cons_succ, i64_w, i32_w]
                                rfl
                              refine pure_ (i := 10) (N := some 42) (v := ?_) (a' := ?_) #[true, true, true, true, true, true, false, true, true, true, true, false, false, false, false, false, false] rfl rfl (any_of HT_.out (by kernel_rfl)) (fun _ _ _ h => h) (Or.inl ⟨by rfl, ?_⟩) ?_ ?_
                              rotate_left
                              · intro w'
                                go_simp
                                with_reducible rfl
                              rotate_left
                              · simp only [Act.put, List.setIfInBounds_toArray, List.set_cons_zero, List.set_cons_succ, i64_w, i32_w]
                                rfl
                              refine pure_ (i := 14) (N := some 46) (v := ?_) (a' := ?_) #[true, true, true, true, true, true, false, true, true, true, true, false, false, false, true, false, false] rfl rfl (any_of HT_.out (by kernel_rfl)) (fun _ _ _ h => h) (Or.inl ⟨by rfl, ?_⟩) ?_ ?_
                              rotate_left
                              · intro w'
                                go_simp
                                with_reducible rfl
                              rotate_left
                              · simp only [Act.put, List.setIfInBounds_toArray, List.set_cons_zero, List.set_cons_succ, i64_w, i32_w]
                                rfl
                              refine take_ (i := 6) (N := some 38) (v := ?_) (a' := ?_) #[true, true, true, true, true, true, true, true, true, true, true, false, false, false, true, false, false] rfl rfl (take_ofW HT_.out HW_.out (by kernel_rfl)) (fun _ _ _ h => h) (Or.inl ⟨by rfl, ?_⟩) hHeld ?_ ?_
                              rotate_left
                              · rintro w' ⟨s0, s1, s2, s3, s4, s5, s6, s7, s8, s9, s10, s11, s12, s13⟩
                                go_simp
                                with_reducible rfl
                              rotate_left
                              · simp only [Act.put, List.setIfInBounds_toArray, List.set_cons_zero, List.set_cons_succ, i64_w, i32_w]
                                rfl
                              refine take_ (i := 11) (N := some 43) (v := ?_) (a' := ?_) #[true, true, true, true, true, true, true, true, true, true, true, true, false, false, true, false, false] rfl rfl (take_ofW HT_.out HW_.out (by kernel_rfl)) (fun _ _ _ h => h) (Or.inl ⟨by rfl, ?_⟩) hHeld ?_ ?_
                              rotate_left
                              · rintro w' ⟨s0, s1, s2, s3, s4, s5, s6, s7, s8, s9, s10, s11, s12, s13⟩
                                go_simp
                                with_reducible rfl
                              rotate_left
                              · simp only [Act.put, List.setIfInBounds_toArray, List.set_cons_zero, List.set_cons_succ, i64_w, i32_w]
                                rfl
                              refine one_ (i := 12) (N := some 44) #[true, true, true, true, true, true, true, true, true, true, true, true, true, false, true, false, false] rfl rfl (one_of HT_.out (by kernel_rfl)) (by decide) (fun K hK => ?_)
                              refine goes_ Try.func160 (by kernel_rfl) rfl #[.agg #[.int .i64 ((rd_T73 x3_1 x4_1).f0), .int .i64 ((rd_T73 x3_1 x4_1).f1), .string ((rd_T73 x3_1 x4_1).f2), .int .i64 ((rd_T73 x3_1 x4_1).f3), .string ((rd_T73 x3_1 x4_1).f4), .int .i64 ((rd_T73 x3_1 x4_1).f5), .string ((rd_T73 x3_1 x4_1).f6)], .agg #[.int .i64 ((rd_T73 x3_1 (ji9)).f0), .int .i64 ((rd_T73 x3_1 (ji9)).f1), .string ((rd_T73 x3_1 (ji9)).f2), .int .i64 ((rd_T73 x3_1 (ji9)).f3), .string ((rd_T73 x3_1 (ji9)).f4), .int .i64 ((rd_T73 x3_1 (ji9)).f5), .string ((rd_T73 x3_1 (ji9)).f6)]] (by rfl) rfl rfl (by (try simp only [List.map_toArray, List.map_cons, List.map_nil]); first | done | (simp only [hji9]; rfl) | rfl | (simp only [List.length_drop, List.length_take]; rfl)) ?_
                              with_reducible refine (spec_l4Join.calls ((rd_T73 x3_1 x4_1).f0) ((rd_T73 x3_1 x4_1).f1) ((rd_T73 x3_1 x4_1).f2) ((rd_T73 x3_1 x4_1).f3) ((rd_T73 x3_1 x4_1).f4) ((rd_T73 x3_1 x4_1).f5) ((rd_T73 x3_1 x4_1).f6) ((rd_T73 x3_1 (ji9)).f0) ((rd_T73 x3_1 (ji9)).f1) ((rd_T73 x3_1 (ji9)).f2) ((rd_T73 x3_1 (ji9)).f3) ((rd_T73 x3_1 (ji9)).f4) ((rd_T73 x3_1 (ji9)).f5) ((rd_T73 x3_1 (ji9)).f6) t709 _ A17.out).mono ?_
                              rintro e w30 ⟨v710, rfl, ho0, hb⟩
                              have HS0_ := (hb.cell (World.block_lt_of_cell? _ _ (hHeld.1))).trans (hHeld.1)
                              have HS1_ := (hb.cell (World.block_lt_of_cell? _ _ (hHeld.2.1))).trans (hHeld.2.1)
                              have HS2_ := (hb.cell (World.block_lt_of_cell? _ _ (hHeld.2.2.1))).trans (hHeld.2.2.1)
                              have HS3_ := (hb.cell (World.block_lt_of_cell? _ _ (hHeld.2.2.2.1))).trans (hHeld.2.2.2.1)
                              have HS4_ := (hb.cell (World.block_lt_of_cell? _ _ (hHeld.2.2.2.2.1))).trans (hHeld.2.2.2.2.1)
                              have HS5_ := (hb.cell (World.block_lt_of_cell? _ _ (hHeld.2.2.2.2.2.1))).trans (hHeld.2.2.2.2.2.1)
                              have HS6_ := (hb.cell (World.block_lt_of_cell? _ _ (hHeld.2.2.2.2.2.2.1))).trans (hHeld.2.2.2.2.2.2.1)
                              have HS7_ := (hb.cell (World.block_lt_of_cell? _ _ (hHeld.2.2.2.2.2.2.2.1))).trans (hHeld.2.2.2.2.2.2.2.1)
                              have HS8_ := (hb.cell (World.block_lt_of_cell? _ _ (hHeld.2.2.2.2.2.2.2.2.1))).trans (hHeld.2.2.2.2.2.2.2.2.1)
                              have HS9_ := (hb.cell (World.block_lt_of_cell? _ _ (hHeld.2.2.2.2.2.2.2.2.2.1))).trans (hHeld.2.2.2.2.2.2.2.2.2.1)
                              have HS10_ := (hb.cell (World.block_lt_of_cell? _ _ (hHeld.2.2.2.2.2.2.2.2.2.2.1))).trans (hHeld.2.2.2.2.2.2.2.2.2.2.1)
                              have HS11_ := (hb.cell (World.block_lt_of_cell? _ _ (hHeld.2.2.2.2.2.2.2.2.2.2.2.1))).trans (hHeld.2.2.2.2.2.2.2.2.2.2.2.1)
                              have HS12_ := (hb.cell (World.block_lt_of_cell? _ _ (hHeld.2.2.2.2.2.2.2.2.2.2.2.2.1))).trans (hHeld.2.2.2.2.2.2.2.2.2.2.2.2.1)
                              have HS13_ := (hb.cell (World.block_lt_of_cell? _ _ (hHeld.2.2.2.2.2.2.2.2.2.2.2.2.2))).trans (hHeld.2.2.2.2.2.2.2.2.2.2.2.2.2)
                              refine ⟨_, rfl, ?_⟩
                              have n0_ := Aside0.mk (Kd.R_elder' (by (with_reducible repeat (first | apply Kd.R_alloc | apply Kd.R_drewN | apply Kd.R_drew)); exact HO714.out) (Kd.R_base ho0) hb)
                              have n1_ := Aside0.mk (Kd.R_elder' (by (with_reducible repeat (first | apply Kd.R_alloc | apply Kd.R_drewN | apply Kd.R_drew)); exact HO706.out) (Kd.R_base ho0) hb)
                              have n2_ := Aside0.mk (Kd.R_lower (Kd.R_new' (Kd.R_new' ho0 (Kd.R_lt (by (with_reducible repeat (first | apply Kd.R_alloc | apply Kd.R_drewN | apply Kd.R_drew)); exact HO714.out))) (Kd.R_lt (by (with_reducible repeat (first | apply Kd.R_alloc | apply Kd.R_drewN | apply Kd.R_drew)); exact HO706.out))) (below_size (by repeat (first | (with_reducible first | exact HB.out | apply below_alloc | apply pw_below_drewN | apply below_drew1) | exact HB.out))))
                              have n3_ := Aside0.mk (Kd.C_below (by repeat (first | (with_reducible exact HR703.out) | (with_reducible refine Kd.C_alloc ?_ _) | (with_reducible refine Kd.C_drewN ?_ _) | (with_reducible refine Kd.C_drew ?_) | exact HR703.out)) hb)
                              have n4_ := Aside0.mk (below_step (by repeat (first | (with_reducible first | exact HB.out | apply below_alloc | apply pw_below_drewN | apply below_drew1) | exact HB.out)) hb)
                              clear HO714 HO706 HR703 HB; have HO714 := n0_; have HO706 := n1_; have HO711 := n2_; have HR703 := n3_; have HB := n4_; clear n0_ n1_ n2_ n3_ n4_; (try clear hb); (try clear hb2); (try clear hk); (try clear hi); (try clear ho0)
                              obtain ⟨Ao32, co32, eo32⟩ := Kd.R_slice HO711.out
                              (first | subst eo32 | (injection eo32 with f1_ f2_ f3_; have f4_ := f1_.symm; have f5_ := f3_.symm; clear f1_ f2_ f3_; subst f4_; subst f5_))
                              refine hK.out _ _ ⟨HS0_, HS1_, HS2_, HS3_, HS4_, HS5_, HS6_, HS7_, HS8_, HS9_, HS10_, HS11_, HS12_, HS13_⟩ (fun hHeld => ?_)
                              clear hK K
                              refine norm_ (a' := ?_) ?_ ?_
                              rotate_left
                              · show Act.put _ (some 44) _ = _
                                simp only [Act.put, List.setIfInBounds_toArray, List.set_cons_zero, List.set_cons_succ, i64_w, i32_w]
                                rfl
                              refine last_ (i := 13) (N := some 45) #[true, true, true, true, true, true, true, true, true, true, true, true, true, true, true, false, false] rfl rfl (one_of HT_.out (by kernel_rfl)) (by decide) (fun K hK => ?_)
                              refine Kd.R_append_rows_step k73 (w0 := w) w.heap.size (by rfl) (.tmp 34) (.tmp 44) 34 73 (.agg #[(.int .i64 0), (.int .i64 0), (.string ⟨#[]⟩), (.int .i64 0), (.string ⟨#[]⟩), (.int .i64 0), (.string ⟨#[]⟩)]) 80 rfl Try.underlying34 info73 rfl (by decide) (by omega) (.slice (some ad694) y712.length co21) y712 t709 _ _ _ (fun k_ => some k_ ≠ (v705 : Value).ownBlock ∧ some k_ ≠ (.slice Ao32 t709.length co32 : Value).ownBlock) (fun _ => False) rfl rfl ?aO ?aR (fun _ _ h => h) (fun _ h => h.elim) ?aF ?aB ?aS ?aL ?_
                              (case aR => repeat (first | exact (Kd.R_reads' HO711.out).2.2 | (with_reducible refine Kd.C_alloc ?_ _) | (with_reducible refine Kd.C_drewN ?_ _) | (with_reducible refine Kd.C_drew ?_)))
                              (case aB => exact (by repeat (first | (with_reducible first | exact HB.out | apply below_alloc | apply pw_below_drewN | apply below_drew1) | exact HB.out)))
                              (case aF => exact (fun k_ hk => ⟨Kd.fresh' (Kd.R_lt (by (with_reducible repeat (first | apply Kd.R_alloc | apply Kd.R_drewN | apply Kd.R_drew)); exact HO706.out)) k_ hk, Kd.fresh' (Kd.R_lt (by (with_reducible repeat (first | apply Kd.R_alloc | apply Kd.R_drewN | apply Kd.R_drew)); exact HO711.out)) k_ hk⟩))
                              (case aO => exact (by (with_reducible repeat (first | apply Kd.R_alloc | apply Kd.R_drewN | apply Kd.R_drew)); exact Kd.R_mono HO714.out (fun _ hk => ⟨hk.1.2, hk.2⟩)))
                              (case aS => exact (below_size (by repeat (first | (with_reducible first | exact HB.out | apply below_alloc | apply pw_below_drewN | apply below_drew1) | exact HB.out))))
                              (case aL => have := LMc19.out; omega)
                              intro v716 w31 ho hb hg hat
                              rw [← Ny715.out] at ho
                              have n0_ := Aside0.mk (Kd.R_after (ok := (fun k_ => some k_ ≠ (.slice Ao32 t709.length co32 : Value).ownBlock)) (by (with_reducible repeat (first | apply Kd.R_alloc | apply Kd.R_drewN | apply Kd.R_drew)); exact Kd.R_mono HO706.out (fun _ hk => ⟨hk.2, hk.1⟩)) hg hat)
                              have n1_ := Aside0.mk (Kd.R_after (ok := (fun k_ => some k_ ≠ (v705 : Value).ownBlock)) (by (with_reducible repeat (first | apply Kd.R_alloc | apply Kd.R_drewN | apply Kd.R_drew)); exact Kd.R_mono HO711.out (fun _ hk => ⟨hk.2, hk.1.2⟩)) hg hat)
                              have n2_ := Aside0.mk (hb)
                              have n3_ := Aside0.mk (ho)
                              clear HO706 HO711 HB HO714; have HO706 := n0_; have HO711 := n1_; have HB := n2_; have HO717 := n3_; clear n0_ n1_ n2_ n3_ ho hb hg hat
                              obtain ⟨Ao34, co34, eo34⟩ := Kd.R_slice HO706.out
                              (first | subst eo34 | (injection eo34 with f1_ f2_ f3_; have f4_ := f1_.symm; have f5_ := f3_.symm; clear f1_ f2_ f3_; subst f4_; subst f5_))
                              refine hK.out _ _ ?_
                              clear hK K
                              refine norm_ (a' := ?_) ?_ ?_
                              rotate_left
                              · show Act.put _ (some 45) _ = _
                                simp only [Act.put, List.setIfInBounds_toArray, List.set_cons_zero, List.set_cons_succ, i64_w, i32_w]
                                rfl
                              refine last_ (i := 15) (N := some 47) #[true, true, true, true, true, true, true, true, true, true, true, true, true, true, true, true, false] rfl rfl (one_of HT_.out (by kernel_rfl)) (by decide) (fun K hK => ?_)
                              refine Kd.R_append_rows_step k73 (w0 := w) w.heap.size (by rfl) (.tmp 45) (.tmp 46) 34 73 (.agg #[(.int .i64 0), (.int .i64 0), (.string ⟨#[]⟩), (.int .i64 0), (.string ⟨#[]⟩), (.int .i64 0), (.string ⟨#[]⟩)]) 80 rfl Try.underlying34 info73 rfl (by decide) (by omega) v716 y715 y704 _ _ _ (fun k_ => some k_ ≠ (.slice Ao34 y704.length co34 : Value).ownBlock ∧ some k_ ≠ (.slice Ao32 t709.length co32 : Value).ownBlock) (fun _ => False) rfl rfl ?aO ?aR (fun _ _ h => h) (fun _ h => h.elim) ?aF ?aB ?aS ?aL ?_
                              (case aR => repeat (first | exact (Kd.R_reads' HO706.out).2.2 | (with_reducible refine Kd.C_alloc ?_ _) | (with_reducible refine Kd.C_drewN ?_ _) | (with_reducible refine Kd.C_drew ?_)))
                              (case aB => exact (by repeat (first | (with_reducible first | exact HB.out | apply below_alloc | apply pw_below_drewN | apply below_drew1) | exact HB.out)))
                              (case aF => exact (fun k_ hk => ⟨Kd.fresh' (Kd.R_lt (by (with_reducible repeat (first | apply Kd.R_alloc | apply Kd.R_drewN | apply Kd.R_drew)); exact HO706.out)) k_ hk, Kd.fresh' (Kd.R_lt (by (with_reducible repeat (first | apply Kd.R_alloc | apply Kd.R_drewN | apply Kd.R_drew)); exact HO711.out)) k_ hk⟩))
                              (case aO => exact (by (with_reducible repeat (first | apply Kd.R_alloc | apply Kd.R_drewN | apply Kd.R_drew)); exact HO717.out))
                              (case aS => exact (below_size (by repeat (first | (with_reducible first | exact HB.out | apply below_alloc | apply pw_below_drewN | apply below_drew1) | exact HB.out))))
                              (case aL => have := LMc20.out; omega)
                              intro v719 w33 ho hb hg hat
                              rw [← Ny718.out] at ho
                              have n0_ := Aside0.mk (Kd.R_after (ok := (fun k_ => some k_ ≠ (.slice Ao32 t709.length co32 : Value).ownBlock)) (by (with_reducible repeat (first | apply Kd.R_alloc | apply Kd.R_drewN | apply Kd.R_drew)); first | exact HO706.out | exact Kd.R_mono HO706.out (fun _ hk => ⟨hk.1, fun e_ => hk.2 (e_.trans ((show ∀ (A : Option Addr) (n m c : Nat), (Value.slice A n c).ownBlock = (Value.slice A m c).ownBlock from fun A _ _ _ => by cases A <;> rfl) _ _ _ _))⟩)) hg hat)
                              have n1_ := Aside0.mk (Kd.R_after (ok := (fun k_ => some k_ ≠ (.slice Ao34 y704.length co34 : Value).ownBlock)) (by (with_reducible repeat (first | apply Kd.R_alloc | apply Kd.R_drewN | apply Kd.R_drew)); first | exact HO711.out | exact Kd.R_mono HO711.out (fun _ hk => ⟨hk.1, fun e_ => hk.2 (e_.trans ((show ∀ (A : Option Addr) (n m c : Nat), (Value.slice A n c).ownBlock = (Value.slice A m c).ownBlock from fun A _ _ _ => by cases A <;> rfl) _ _ _ _))⟩)) hg hat)
                              have n2_ := Aside0.mk (hb)
                              have n3_ := Aside0.mk (ho)
                              clear HO706 HO711 HB HO717; have HO706 := n0_; have HO711 := n1_; have HB := n2_; have HO720 := n3_; clear n0_ n1_ n2_ n3_ ho hb hg hat
                              refine hK.out _ _ ?_
                              clear hK K
                              refine norm_ (a' := ?_) ?_ ?_
                              rotate_left
                              · show Act.put _ (some 47) _ = _
                                simp only [Act.put, List.setIfInBounds_toArray, List.set_cons_zero, List.set_cons_succ, i64_w, i32_w]
                                rfl
                              refine pure_ (i := 16) (N := some 3) (v := ?_) (a' := ?_) #[true, true, true, true, true, true, true, true, true, true, true, true, true, true, true, true, true] rfl rfl (any_of HT_.out (by kernel_rfl)) (fun _ _ _ h => h) (Or.inl ⟨by rfl, ?_⟩) ?_ ?_
                              rotate_left
                              · intro w'
                                go_simp
                                with_reducible rfl
                              rotate_left
                              · simp only [Act.put, List.setIfInBounds_toArray, List.set_cons_zero, List.set_cons_succ, i64_w, i32_w]
                                rfl
                              refine done_ (done_of HT_.out (by kernel_rfl)) ?_
                              try go_wp2
                              go_roundg k1
                              case measure => have := HK1.out; omega
                              case rel => exact ⟨(y718), ((-1) + 1), (by first | rfl | (simp; done) | (simp [*]; done)), H', ⟨by have := HK1.out; omega⟩, ⟨by (with_reducible repeat (first | apply Kd.R_alloc | apply Kd.R_drewN | apply Kd.R_drew)); exact Kd.R_mono HO720.out (fun _ hk => trivial)⟩, ⟨by repeat (first | (with_reducible first | exact HB.out | apply below_alloc | apply pw_below_drewN | apply below_drew1) | exact HB.out)⟩⟩
                            · rw [if_neg c20] at H
                              exact absurd H (by simp)
                          · rw [if_neg c19] at H
                            exact absurd H (by simp)
                        · rw [if_neg c18] at H
                          exact absurd H (by simp)
                      · rw [if_neg c16] at H
                        exact absurd H (by simp)
                    · rw [if_neg c15] at H
                      exact absurd H (by simp)
                  · rw [if_neg c14] at H
                    exact absurd H (by simp)
                · replace c12 := Bool.eq_false_iff.mpr c12
                  subst c12
                  have H1 : (spec_l4Moves.l0 k1 x3_1 ji9) = some r := by rw [if_neg (show ¬ (false = true) by decide)] at H; exact H
                  clear H
                  have H := H1
                  clear H1
                  have H' := Aside0.mk H
                  clear H
                  obtain ⟨Ao35, co35, eo35⟩ := Kd.R_slice HO_3.out
                  subst eo35
                  try go_wp2
                  have n0_ := Aside0.mk (Kd.R_drew HO_3.out)
                  have n1_ := Aside0.mk (below_drew1 HB.out)
                  clear HO_3 HB; have HO_3 := n0_; have HB := n1_; clear n0_ n1_
                  have p694 : 0 ≤ (x4_1 : Int) := of_decide_eq_true (by first | (with_reducible assumption) | assumption)
                  have q694 : x4_1 < (x3_1.length : Int) := of_decide_eq_true (by first | (with_reducible assumption) | assumption)
                  obtain ⟨ad694, e694, hx694_0, hx694_1, hx694_2, hx694_3, hx694_4, hx694_5, hx694_6⟩ := at_T73 (Kd.R_reads' HO_3.out).2.2 x4_1 p694 q694
                  cases e694
                  replace p694 := eq_true p694
                  replace q694 := eq_true q694
                  have p695 : 0 ≤ ((ji9) : Int) := of_decide_eq_true (by first | (with_reducible assumption) | assumption)
                  have q695 : (ji9) < (x3_1.length : Int) := of_decide_eq_true (by first | (with_reducible assumption) | assumption)
                  obtain ⟨ad695, e695, hx695_0, hx695_1, hx695_2, hx695_3, hx695_4, hx695_5, hx695_6⟩ := at_T73 (Kd.R_reads' HO_3.out).2.2 (ji9) p695 q695
                  obtain rfl : ad694 = ad695 := (by injection e695)
                  replace p695 := eq_true p695
                  replace q695 := eq_true q695
                  refine start_ (n := 10) (S := fun w' => w'.cell? (ad694.add ((x4_1).toNat * 7)) = some (.int .i64 ((rd_T73 x3_1 x4_1).f0)) ∧ w'.cell? ⟨(ad694.add ((x4_1).toNat * 7)).block, (ad694.add ((x4_1).toNat * 7)).off + 1, none⟩ = some (.int .i64 ((rd_T73 x3_1 x4_1).f1)) ∧ w'.cell? ⟨(ad694.add ((x4_1).toNat * 7)).block, (ad694.add ((x4_1).toNat * 7)).off + 2, none⟩ = some (.string ((rd_T73 x3_1 x4_1).f2)) ∧ w'.cell? ⟨(ad694.add ((x4_1).toNat * 7)).block, (ad694.add ((x4_1).toNat * 7)).off + 3, none⟩ = some (.int .i64 ((rd_T73 x3_1 x4_1).f3)) ∧ w'.cell? ⟨(ad694.add ((x4_1).toNat * 7)).block, (ad694.add ((x4_1).toNat * 7)).off + 4, none⟩ = some (.string ((rd_T73 x3_1 x4_1).f4)) ∧ w'.cell? ⟨(ad694.add ((x4_1).toNat * 7)).block, (ad694.add ((x4_1).toNat * 7)).off + 5, none⟩ = some (.int .i64 ((rd_T73 x3_1 x4_1).f5)) ∧ w'.cell? ⟨(ad694.add ((x4_1).toNat * 7)).block, (ad694.add ((x4_1).toNat * 7)).off + 6, none⟩ = some (.string ((rd_T73 x3_1 x4_1).f6)) ∧ w'.cell? (ad694.add (((ji9)).toNat * 7)) = some (.int .i64 ((rd_T73 x3_1 (ji9)).f0)) ∧ w'.cell? ⟨(ad694.add (((ji9)).toNat * 7)).block, (ad694.add (((ji9)).toNat * 7)).off + 1, none⟩ = some (.int .i64 ((rd_T73 x3_1 (ji9)).f1)) ∧ w'.cell? ⟨(ad694.add (((ji9)).toNat * 7)).block, (ad694.add (((ji9)).toNat * 7)).off + 2, none⟩ = some (.string ((rd_T73 x3_1 (ji9)).f2)) ∧ w'.cell? ⟨(ad694.add (((ji9)).toNat * 7)).block, (ad694.add (((ji9)).toNat * 7)).off + 3, none⟩ = some (.int .i64 ((rd_T73 x3_1 (ji9)).f3)) ∧ w'.cell? ⟨(ad694.add (((ji9)).toNat * 7)).block, (ad694.add (((ji9)).toNat * 7)).off + 4, none⟩ = some (.string ((rd_T73 x3_1 (ji9)).f4)) ∧ w'.cell? ⟨(ad694.add (((ji9)).toNat * 7)).block, (ad694.add (((ji9)).toNat * 7)).off + 5, none⟩ = some (.int .i64 ((rd_T73 x3_1 (ji9)).f5)) ∧ w'.cell? ⟨(ad694.add (((ji9)).toNat * 7)).block, (ad694.add (((ji9)).toNat * 7)).off + 6, none⟩ = some (.string ((rd_T73 x3_1 (ji9)).f6))) (ds := []) #[false, false, false, false, false, false, false, false, false, false] (by kernel_rfl) rfl rfl ⟨hx694_0, hx694_1, hx694_2, hx694_3, hx694_4, hx694_5, hx694_6, hx695_0, hx695_1, hx695_2, hx695_3, hx695_4, hx695_5, hx695_6⟩ (fun hHeld => ?_); refine with_tabW spec_l4Moves.tab5 spec_l4Moves.bits5 (fun HT_ HW_ => ?_)
                  generalize wr.drew = w36 at HO_3 HB hx694_0 hx694_1 hx694_2 hx694_3 hx694_4 hx694_5 hx694_6 hx695_0 hx695_1 hx695_2 hx695_3 hx695_4 hx695_5 hx695_6 hHeld ⊢
                  refine pure_ (i := 0) (N := some 16) (v := ?_) (a' := ?_) #[true, false, false, false, false, false, false, false, false, false] rfl rfl (any_of HT_.out (by kernel_rfl)) (fun _ _ _ h => h) (Or.inl ⟨by rfl, ?_⟩) ?_ ?_
                  rotate_left
                  · intro w'
                    go_simp
                    with_reducible rfl
                  rotate_left
                  · simp only [Act.put, List.setIfInBounds_toArray, List.set_cons_zero, List.set_cons_succ, i64_w, i32_w]
                    rfl
                  refine pure_ (i := 1) (N := some 17) (v := ?_) (a' := ?_) #[true, true, false, false, false, false, false, false, false, false] rfl rfl (any_of HT_.out (by kernel_rfl)) (fun _ _ _ h => h) (Or.inl ⟨by rfl, ?_⟩) ?_ ?_
                  rotate_left
                  · intro w'
                    go_simp
                    with_reducible rfl
                  rotate_left
                  · simp only [Act.put, List.setIfInBounds_toArray, List.set_cons_zero, List.set_cons_succ, i64_w, i32_w]
                    rfl
                  refine pure_ (i := 2) (N := some 18) (v := ?_) (a' := ?_) #[true, true, true, false, false, false, false, false, false, false] rfl rfl (any_of HT_.out (by kernel_rfl)) (fun _ _ _ h => h) (Or.inl ⟨by rfl, ?_⟩) ?_ ?_
                  rotate_left
                  · intro w'
                    go_simp
                    with_reducible rfl
                  rotate_left
                  · simp only [Act.put, List.setIfInBounds_toArray, List.set_cons_zero, List.set_cons_succ, i64_w, i32_w]
                    rfl
                  refine pure_ (i := 4) (N := some 20) (v := ?_) (a' := ?_) #[true, true, true, false, true, false, false, false, false, false] rfl rfl (any_of HT_.out (by kernel_rfl)) (fun _ _ _ h => h) (Or.inl ⟨by rfl, ?_⟩) ?_ ?_
                  rotate_left
                  · intro w'
                    go_simp
                    with_reducible rfl
                  rotate_left
                  · simp only [Act.put, List.setIfInBounds_toArray, List.set_cons_zero, List.set_cons_succ, i64_w, i32_w]
                    rfl
                  refine pure_ (i := 5) (N := some 21) (v := ?_) (a' := ?_) #[true, true, true, false, true, true, false, false, false, false] rfl rfl (any_of HT_.out (by kernel_rfl)) (fun _ _ _ h => h) (Or.inl ⟨by rfl, ?_⟩) ?_ ?_
                  rotate_left
                  · intro w'
                    go_simp
                    with_reducible rfl
                  rotate_left
                  · simp only [Act.put, List.setIfInBounds_toArray, List.set_cons_zero, List.set_cons_succ, i64_w, i32_w]
                    rfl
                  refine pure_ (i := 6) (N := some 22) (v := ?_) (a' := ?_) #[true, true, true, false, true, true, true, false, false, false] rfl rfl (any_of HT_.out (by kernel_rfl)) (fun _ _ _ h => h) (Or.inl ⟨by rfl, ?_⟩) ?_ ?_
                  rotate_left
                  · intro w'
                    go_simp
                    with_reducible rfl
                  rotate_left
                  · simp only [Act.put, List.setIfInBounds_toArray, List.set_cons_zero, List.set_cons_succ, i64_w, i32_w]
                    rfl
                  refine pure_ (i := 7) (N := some 23) (v := ?_) (a' := ?_) #[true, true, true, false, true, true, true, true, false, false] rfl rfl (any_of HT_.out (by kernel_rfl)) (fun _ _ _ h => h) (Or.inl ⟨by rfl, ?_⟩) ?_ ?_
                  rotate_left
                  · intro w'
                    go_simp
                    with_reducible rfl
                  rotate_left
                  · simp only [Act.put, List.setIfInBounds_toArray, List.set_cons_zero, List.set_cons_succ, i64_w, i32_w]
                    rfl
                  refine take_ (i := 3) (N := some 19) (v := ?_) (a' := ?_) #[true, true, true, true, true, true, true, true, false, false] rfl rfl (take_ofW HT_.out HW_.out (by kernel_rfl)) (fun _ _ _ h => h) (Or.inl ⟨by rfl, ?_⟩) hHeld ?_ ?_
                  rotate_left
                  · rintro w' ⟨s0, s1, s2, s3, s4, s5, s6, s7, s8, s9, s10, s11, s12, s13⟩
                    go_simp
                    with_reducible rfl
                  rotate_left
                  · simp only [Act.put, List.setIfInBounds_toArray, List.set_cons_zero, List.set_cons_succ, i64_w, i32_w]
                    rfl
                  refine take_ (i := 8) (N := some 24) (v := ?_) (a' := ?_) #[true, true, true, true, true, true, true, true, true, false] rfl rfl (take_ofW HT_.out HW_.out (by kernel_rfl)) (fun _ _ _ h => h) (Or.inl ⟨by rfl, ?_⟩) hHeld ?_ ?_
                  rotate_left
                  · rintro w' ⟨s0, s1, s2, s3, s4, s5, s6, s7, s8, s9, s10, s11, s12, s13⟩
                    go_simp
                    with_reducible rfl
                  rotate_left
                  · simp only [Act.put, List.setIfInBounds_toArray, List.set_cons_zero, List.set_cons_succ, i64_w, i32_w]
                    rfl
                  refine one_ (i := 9) (N := some 25) #[true, true, true, true, true, true, true, true, true, true] rfl rfl (one_of HT_.out (by kernel_rfl)) (by decide) (fun K hK => ?_)
                  refine goes_ Try.func159 (by kernel_rfl) rfl #[.agg #[.int .i64 ((rd_T73 x3_1 x4_1).f0), .int .i64 ((rd_T73 x3_1 x4_1).f1), .string ((rd_T73 x3_1 x4_1).f2), .int .i64 ((rd_T73 x3_1 x4_1).f3), .string ((rd_T73 x3_1 x4_1).f4), .int .i64 ((rd_T73 x3_1 x4_1).f5), .string ((rd_T73 x3_1 x4_1).f6)], .agg #[.int .i64 ((rd_T73 x3_1 (ji9)).f0), .int .i64 ((rd_T73 x3_1 (ji9)).f1), .string ((rd_T73 x3_1 (ji9)).f2), .int .i64 ((rd_T73 x3_1 (ji9)).f3), .string ((rd_T73 x3_1 (ji9)).f4), .int .i64 ((rd_T73 x3_1 (ji9)).f5), .string ((rd_T73 x3_1 (ji9)).f6)]] (by rfl) rfl rfl (by (try simp only [List.map_toArray, List.map_cons, List.map_nil]); first | done | (simp only [hji9]; rfl) | rfl | (simp only [List.length_drop, List.length_take]; rfl)) ?_
                  with_reducible refine (spec_l4Joins.calls k1 ((rd_T73 x3_1 x4_1).f0) ((rd_T73 x3_1 x4_1).f1) ((rd_T73 x3_1 x4_1).f2) ((rd_T73 x3_1 x4_1).f3) ((rd_T73 x3_1 x4_1).f4) ((rd_T73 x3_1 x4_1).f5) ((rd_T73 x3_1 x4_1).f6) ((rd_T73 x3_1 (ji9)).f0) ((rd_T73 x3_1 (ji9)).f1) ((rd_T73 x3_1 (ji9)).f2) ((rd_T73 x3_1 (ji9)).f3) ((rd_T73 x3_1 (ji9)).f4) ((rd_T73 x3_1 (ji9)).f5) ((rd_T73 x3_1 (ji9)).f6) false _ A11.out).mono ?_
                  rintro e w37 ⟨rfl, hb⟩
                  have HS0_ := (hb.cell (World.block_lt_of_cell? _ _ (hHeld.1))).trans (hHeld.1)
                  have HS1_ := (hb.cell (World.block_lt_of_cell? _ _ (hHeld.2.1))).trans (hHeld.2.1)
                  have HS2_ := (hb.cell (World.block_lt_of_cell? _ _ (hHeld.2.2.1))).trans (hHeld.2.2.1)
                  have HS3_ := (hb.cell (World.block_lt_of_cell? _ _ (hHeld.2.2.2.1))).trans (hHeld.2.2.2.1)
                  have HS4_ := (hb.cell (World.block_lt_of_cell? _ _ (hHeld.2.2.2.2.1))).trans (hHeld.2.2.2.2.1)
                  have HS5_ := (hb.cell (World.block_lt_of_cell? _ _ (hHeld.2.2.2.2.2.1))).trans (hHeld.2.2.2.2.2.1)
                  have HS6_ := (hb.cell (World.block_lt_of_cell? _ _ (hHeld.2.2.2.2.2.2.1))).trans (hHeld.2.2.2.2.2.2.1)
                  have HS7_ := (hb.cell (World.block_lt_of_cell? _ _ (hHeld.2.2.2.2.2.2.2.1))).trans (hHeld.2.2.2.2.2.2.2.1)
                  have HS8_ := (hb.cell (World.block_lt_of_cell? _ _ (hHeld.2.2.2.2.2.2.2.2.1))).trans (hHeld.2.2.2.2.2.2.2.2.1)
                  have HS9_ := (hb.cell (World.block_lt_of_cell? _ _ (hHeld.2.2.2.2.2.2.2.2.2.1))).trans (hHeld.2.2.2.2.2.2.2.2.2.1)
                  have HS10_ := (hb.cell (World.block_lt_of_cell? _ _ (hHeld.2.2.2.2.2.2.2.2.2.2.1))).trans (hHeld.2.2.2.2.2.2.2.2.2.2.1)
                  have HS11_ := (hb.cell (World.block_lt_of_cell? _ _ (hHeld.2.2.2.2.2.2.2.2.2.2.2.1))).trans (hHeld.2.2.2.2.2.2.2.2.2.2.2.1)
                  have HS12_ := (hb.cell (World.block_lt_of_cell? _ _ (hHeld.2.2.2.2.2.2.2.2.2.2.2.2.1))).trans (hHeld.2.2.2.2.2.2.2.2.2.2.2.2.1)
                  have HS13_ := (hb.cell (World.block_lt_of_cell? _ _ (hHeld.2.2.2.2.2.2.2.2.2.2.2.2.2))).trans (hHeld.2.2.2.2.2.2.2.2.2.2.2.2.2)
                  refine ⟨_, rfl, ?_⟩
                  have n0_ := Aside0.mk (Kd.R_below (by (with_reducible repeat (first | apply Kd.R_alloc | apply Kd.R_drewN | apply Kd.R_drew)); exact HO_3.out) hb)
                  have n1_ := Aside0.mk (below_step (by repeat (first | (with_reducible first | exact HB.out | apply below_alloc | apply pw_below_drewN | apply below_drew1) | exact HB.out)) hb)
                  clear HO_3 HB; have HO_3 := n0_; have HB := n1_; clear n0_ n1_; (try clear hb); (try clear hb2); (try clear hk); (try clear hi)
                  refine hK.out _ _ ⟨HS0_, HS1_, HS2_, HS3_, HS4_, HS5_, HS6_, HS7_, HS8_, HS9_, HS10_, HS11_, HS12_, HS13_⟩ (fun hHeld => ?_)
                  clear hK K
                  refine norm_ (a' := ?_) ?_ ?_
                  rotate_left
                  · show Act.put _ (some 25) _ = _
                    simp only [Act.put, List.setIfInBounds_toArray, List.set_cons_zero, List.set_cons_succ, i64_w, i32_w]
                    rfl
                  refine done_ (done_of HT_.out (by kernel_rfl)) ?_
                  try go_wp2
                  go_roundg k1
                  case measure => have := HK1.out; omega
                  case rel => exact ⟨(x3_1), (ji9), (by first | rfl | (simp; done) | (simp only [← hji9] <;> (first | rfl | simp)) | (simp [*]; done)), H', ⟨by have := HK1.out; omega⟩, ⟨by (with_reducible repeat (first | apply Kd.R_alloc | apply Kd.R_drewN | apply Kd.R_drew)); exact HO_3.out⟩, ⟨by repeat (first | (with_reducible first | exact HB.out | apply below_alloc | apply pw_below_drewN | apply below_drew1) | exact HB.out)⟩⟩
              · rw [if_neg c10] at H
                exact absurd H (by simp)
            · rw [if_neg c8] at H
              exact absurd H (by simp)
          · rw [if_neg c7] at H
            exact absurd H (by simp)
        · rw [if_neg c6] at H
          have c6b0 : decide ((wrap64 (x4_1 + 1)) < (x3_1.length : Int)) = false := decide_eq_false c6
          clear c6
          obtain rfl := Option.some.inj H
          obtain ⟨Ao38, co38, eo38⟩ := Kd.R_slice HO_3.out
          subst eo38
          go_wp2
          go_ret
          exact ⟨_, by first | rfl | (simp [errW_none, errW_some] <;> rfl) | (simp [*, errW_none, errW_some] <;> rfl), by (with_reducible repeat (first | apply Kd.R_alloc | apply Kd.R_drewN | apply Kd.R_drew)); exact HO_3.out, by repeat (first | (with_reducible first | exact HB.out | apply below_alloc | apply pw_below_drewN | apply below_drew1) | exact HB.out)⟩
  · rw [if_neg c2] at H
    exact absurd H (by simp)
end Go.Proofs.Ytlaichooanflaaa.Q
namespace Go.Proofs.Ytlaichooanflaaa.Q
open Go.RowKit Go.Proofs.YtlaichooanflaaaW.PrintWords Go.Proofs.YtlaichooanflaaaW.PrintLast Go.Proofs.YtlaichooanflaaaW.PrintMore
attribute [local go_sem] Go.Proofs.Ytlaichooanflaaa.Mem.str_leq Go.Proofs.Ytlaichooanflaaa.Mem.str_gtr Go.Proofs.Ytlaichooanflaaa.Mem.str_geq max2_int min2_int max_two min_two max_three min_three max_four min_four   -- for this text's walks alone
set_option linter.unusedVariables false
set_option linter.unusedSimpArgs false
def spec_SlimMoves.f (k : Nat) (l0 : List (S73)) : Option ((List (S73))) := (spec_l3Forms.f k l0).bind fun t721 => (if t721 = true then ((spec_l4Moves.f k l0).bind fun t722 => (some t722)) else (some (([] : List (S73)))))
set_option maxHeartbeats 8000000 in
set_option maxRecDepth 100000 in
theorem spec_SlimMoves.calls (k : Nat) (A0 : Option Addr) (c0 : Nat) (l0 : List (S73)) (r : List (S73)) (w : World) (hr0 : Kd.C k73 w A0 l0.length l0) (hc0 : l0.length ≤ c0) (h : spec_SlimMoves.f k l0 = some r) :
    Calls Try.prog 50 #[.slice A0 l0.length c0] w fun e w' => ∃ v0_ : Value, e = .returned (v0_) ∧ Kd.R k73 73 w' w.heap.size (fun _ => True) v0_ r ∧ Below w.heap.size w w' := by
  have HR0 := Aside0.mk hr0
  have HC0 := Aside0.mk hc0
  clear hr0 hc0
  have HB := Aside0.mk (Below.refl w.heap.size w)
  have H : ((spec_l3Forms.f k l0).bind fun t721 => (if t721 = true then ((spec_l4Moves.f k l0).bind fun t722 => (some t722)) else (some (([] : List (S73)))))) = some r := h
  clear h
  replace H := Option.bind_eq_some_iff.mp H
  obtain ⟨t721, A20, H⟩ := H
  replace H : (if t721 = true then ((spec_l4Moves.f k l0).bind fun t722 => (some t722)) else (some (([] : List (S73))))) = some r := H
  have A2 := Aside0.mk A20
  clear A20
  by_cases c3 : t721 = true
  · subst c3
    have H1 : ((spec_l4Moves.f k l0).bind fun t722 => (some t722)) = some r := by rw [if_pos rfl] at H; exact H
    clear H
    have H := H1
    clear H1
    replace H := Option.bind_eq_some_iff.mp H
    obtain ⟨t722, A40, H⟩ := H
    replace H : (some t722) = some r := H
    have A4 := Aside0.mk A40
    clear A40
    obtain rfl := Option.some.inj H
    go_enter Try.func50, Try.ntmps50
    go_wp2_with (first | ((with_reducible refine gate_callee (f := 85) rfl ?_); refine goesL_ (some 4) rfl rfl Try.func85 (by kernel_rfl) rfl #[.slice A0 l0.length c0] rfl (by (try simp only [List.map_toArray, List.map_cons, List.map_nil]); first | done | rfl | (simp only [List.length_drop, List.length_take]; rfl)) ?_; (with_reducible refine (spec_l3Forms.calls k _ _ l0 true _ ?side1 ?side2 A2.out).mono ?_); (case side1 => repeat (first | exact HR0.out | (with_reducible refine Kd.C_alloc ?_ _) | (with_reducible refine Kd.C_drewN ?_ _) | (with_reducible refine Kd.C_drew ?_))); (case side2 => exact HC0.out); rintro e w5 ⟨rfl, hb⟩; refine ⟨_, rfl, ?_⟩; have n0_ := Aside0.mk (below_step (by repeat (first | (with_reducible first | exact HB.out | apply below_alloc | apply pw_below_drewN | apply below_drew1) | exact HB.out)) hb); clear HB; have HB := n0_; clear n0_; (try clear hb); (try clear hb2); (try clear hk); (try clear hi)) | ((with_reducible refine gate_callee (f := 109) rfl ?_); refine goesL_ (some 8) rfl rfl Try.func109 (by kernel_rfl) rfl #[.slice A0 l0.length c0] rfl (by (try simp only [List.map_toArray, List.map_cons, List.map_nil]); first | done | rfl | (simp only [List.length_drop, List.length_take]; rfl)) ?_; (with_reducible refine (spec_l4Moves.calls k _ _ l0 t722 _ ?side1 ?side2 A4.out).mono ?_); (case side1 => repeat (first | exact (Kd.C_below HR0.out HB.out) | (with_reducible refine Kd.C_alloc ?_ _) | (with_reducible refine Kd.C_drewN ?_ _) | (with_reducible refine Kd.C_drew ?_))); (case side2 => exact HC0.out); rintro e w6 ⟨v723, rfl, ho0, hb⟩; refine ⟨_, rfl, ?_⟩; have n0_ := Aside0.mk (Kd.R_lower ho0 (below_size (by repeat (first | (with_reducible first | exact HB.out | apply below_alloc | apply pw_below_drewN | apply below_drew1) | exact HB.out)))); have n1_ := Aside0.mk (below_step (by repeat (first | (with_reducible first | exact HB.out | apply below_alloc | apply pw_below_drewN | apply below_drew1) | exact HB.out)) hb); clear HB; have HO724 := n0_; have HB := n1_; clear n0_ n1_; (try clear hb); (try clear hb2); (try clear hk); (try clear hi); (try clear ho0)))
    go_ret
    exact ⟨_, by first | rfl | (simp [errW_none, errW_some] <;> rfl) | (simp [*, errW_none, errW_some] <;> rfl), by (with_reducible repeat (first | apply Kd.R_alloc | apply Kd.R_drewN | apply Kd.R_drew)); exact HO724.out, by repeat (first | (with_reducible first | exact HB.out | apply below_alloc | apply pw_below_drewN | apply below_drew1) | exact HB.out)⟩
  · replace c3 := Bool.eq_false_iff.mpr c3
    subst c3
    have H1 : (some (([] : List (S73)))) = some r := by rw [if_neg (show ¬ (false = true) by decide)] at H; exact H
    clear H
    have H := H1
    clear H1
    obtain ⟨y725, hy725⟩ : ∃ y_ : List (S73), y_ = (([] : List (S73))) := ⟨_, rfl⟩
    replace H : (some y725) = some r := by first | (rw [hy725]; with_reducible exact H) | (have H2_ := (Option.bind_some _ _).symm.trans H; rw [hy725]; with_reducible exact H2_) | (have H2_ := (Option.bind_some _ _).symm.trans H; with_reducible exact H2_) | with_reducible exact H | (rw [hy725]; exact H) | exact H
    have Ny725 := Aside0.mk hy725
    clear hy725
    obtain rfl := Option.some.inj H
    go_enter Try.func50, Try.ntmps50
    go_wp2_with (first | ((with_reducible refine gate_callee (f := 85) rfl ?_); refine goesL_ (some 4) rfl rfl Try.func85 (by kernel_rfl) rfl #[.slice A0 l0.length c0] rfl (by (try simp only [List.map_toArray, List.map_cons, List.map_nil]); first | done | rfl | (simp only [List.length_drop, List.length_take]; rfl)) ?_; (with_reducible refine (spec_l3Forms.calls k _ _ l0 false _ ?side1 ?side2 A2.out).mono ?_); (case side1 => repeat (first | exact HR0.out | (with_reducible refine Kd.C_alloc ?_ _) | (with_reducible refine Kd.C_drewN ?_ _) | (with_reducible refine Kd.C_drew ?_))); (case side2 => exact HC0.out); rintro e w7 ⟨rfl, hb⟩; refine ⟨_, rfl, ?_⟩; have n0_ := Aside0.mk (below_step (by repeat (first | (with_reducible first | exact HB.out | apply below_alloc | apply pw_below_drewN | apply below_drew1) | exact HB.out)) hb); clear HB; have HB := n0_; clear n0_; (try clear hb); (try clear hb2); (try clear hk); (try clear hi)) | ((with_reducible refine gate_dst (N := 6) rfl ?_); refine Kd.R_lit k73 _ 73 ?hg (N := 6) ?hd (xs := ([] : List (S73))) (inner := []) (ok := fun _ => True) (okp := fun _ => True) ?hr ?hp (fun _ hk => hk) trivial (Below.refl _ _) (Nat.le_refl _) (by simp) ?_; (case hd => rfl); (case hg => rfl); (case hr => first | (go_simp; done) | (go_simp; rfl)); (case hp => exact (Reps.none _ _)); intro v726 w8 ho9 hb hg_ hnew_; clear hg_ hnew_; (first | rw [← Ny725.out] at ho9 | (simp only [Int.reduceToNat] at ho9; rw [← Ny725.out] at ho9)); have n0_ := Aside0.mk (Kd.R_lower ho9 (below_size (by repeat (first | (with_reducible first | exact HB.out | apply below_alloc | apply pw_below_drewN | apply below_drew1) | exact HB.out)))); have n1_ := Aside0.mk (below_step (by repeat (first | (with_reducible first | exact HB.out | apply below_alloc | apply pw_below_drewN | apply below_drew1) | exact HB.out)) hb); clear HB; have HO727 := n0_; have HB := n1_; clear n0_ n1_; clear hb ho9))
    go_ret
    exact ⟨_, by first | rfl | (simp [errW_none, errW_some] <;> rfl) | (simp [*, errW_none, errW_some] <;> rfl), by (with_reducible repeat (first | apply Kd.R_alloc | apply Kd.R_drewN | apply Kd.R_drew)); exact HO727.out, by repeat (first | (with_reducible first | exact HB.out | apply below_alloc | apply pw_below_drewN | apply below_drew1) | exact HB.out)⟩
end Go.Proofs.Ytlaichooanflaaa.Q
namespace Go.Proofs.Ytlaichooanflaaa.Q
open Go.RowKit Go.Proofs.YtlaichooanflaaaW.PrintWords Go.Proofs.YtlaichooanflaaaW.PrintLast Go.Proofs.YtlaichooanflaaaW.PrintMore
attribute [local go_sem] Go.Proofs.Ytlaichooanflaaa.Mem.str_leq Go.Proofs.Ytlaichooanflaaa.Mem.str_gtr Go.Proofs.Ytlaichooanflaaa.Mem.str_geq max2_int min2_int max_two min_two max_three min_three max_four min_four   -- for this text's walks alone
set_option linter.unusedVariables false
set_option linter.unusedSimpArgs false
def impl_in.f (a0 : Int) (a1 : Int) (a2 : Int) : Option (Bool) := if a0 ≥ a1 then (some (decide (a0 ≤ a2))) else (some false)
set_option maxHeartbeats 8000000 in
set_option maxRecDepth 100000 in
theorem impl_in.calls (a0 : Int) (a1 : Int) (a2 : Int) (r : Bool) (w : World) (h : impl_in.f a0 a1 a2 = some r) :
    Calls Try.prog 115 #[.int .i64 a0, .int .i64 a1, .int .i64 a2] w fun e w' => e = .returned (.bool r) ∧ Drawn0 w w' := by
  have H : (if a0 ≥ a1 then (some (decide (a0 ≤ a2))) else (some false)) = some r := h
  clear h
  by_cases c4 : a0 ≥ a1
  · rw [if_pos c4] at H
    have c4b0 : decide (a1 ≤ a0) = true := decide_eq_true c4
    clear c4
    obtain rfl := Option.some.inj H
    go_enter Try.func115, Try.ntmps115
    go_wp2
    go_ret
    exact ⟨by first | rfl | (simp; done) | (simp [*]; done), by repeat (first | exact Drawn0.refl _ | apply Drawn0.step)⟩
  · rw [if_neg c4] at H
    have c4b0 : decide (a1 ≤ a0) = false := decide_eq_false c4
    clear c4
    obtain rfl := Option.some.inj H
    go_enter Try.func115, Try.ntmps115
    go_wp2
    go_ret
    exact ⟨by first | rfl | (simp; done) | (simp [*]; done), by repeat (first | exact Drawn0.refl _ | apply Drawn0.step)⟩
end Go.Proofs.Ytlaichooanflaaa.Q
namespace Go.Proofs.Ytlaichooanflaaa.Q
open Go.RowKit Go.Proofs.YtlaichooanflaaaW.PrintWords Go.Proofs.YtlaichooanflaaaW.PrintLast Go.Proofs.YtlaichooanflaaaW.PrintMore
attribute [local go_sem] Go.Proofs.Ytlaichooanflaaa.Mem.str_leq Go.Proofs.Ytlaichooanflaaa.Mem.str_gtr Go.Proofs.Ytlaichooanflaaa.Mem.str_geq max2_int min2_int max_two min_two max_three min_three max_four min_four   -- for this text's walks alone
set_option linter.unusedVariables false
set_option linter.unusedSimpArgs false
def impl_TreeBody.l0 : Nat → ByteArray → Int → Option (Bool)
  | 0, _, _ => none
  | k + 1, x0, x3 => if x3 < (x0.size : Int) then (if 0 ≤ x3 then ((impl_in.f (wrap64 (bt x0 x3)) 97 122).bind fun t406 => (if t406 = true then (impl_TreeBody.l0 k x0 (wrap64 (x3 + 1))) else ((impl_in.f (wrap64 (bt x0 x3)) 48 57).bind fun t407 => (if t407 = true then (impl_TreeBody.l0 k x0 (wrap64 (x3 + 1))) else (some false))))) else (none)) else (some (decide ((x0.size : Int) ≤ 12)))
def impl_TreeBody.f (k : Nat) (a0 : ByteArray) : Option (Bool) := impl_TreeBody.l0 k a0 0
set_option maxHeartbeats 8000000 in
set_option maxRecDepth 100000 in
theorem impl_TreeBody.calls (k : Nat) (a0 : ByteArray) (r : Bool) (w : World) (h : impl_TreeBody.f k a0 = some r) :
    Calls Try.prog 157 #[.string a0] w fun e w' => e = .returned (.bool r) ∧ Drawn0 w w' := by
  have H : (impl_TreeBody.l0 k a0 0) = some r := h
  clear h
  have H' := Aside0.mk H
  clear H
  go_enter Try.func157, Try.ntmps157
  go_wp2
  go_loopg [3] k (fun kq v3 w' => ∃ (x3_1 : Int), v3 = .int .i64 x3_1 ∧ Aside0 (impl_TreeBody.l0 kq a0 x3_1 = some r) ∧ Aside0 (kq ≤ k) ∧ Drawn0 w w')
  case atStart => exact ⟨(0), (by first | rfl | (simp; done) | (simp [*]; done)), H', ⟨Nat.le_refl _⟩, by repeat (first | exact Drawn0.refl _ | apply Drawn0.step)⟩
  case round =>
    clear H'
    (try clear c1)
    obtain ⟨x3_1, rfl, HA, HK1, ⟨m1, rfl⟩⟩ := hrel
    cases gk with
    | zero => exact absurd HA.out (by simp [impl_TreeBody.l0])
    | succ k1 =>
      have H := HA.out
      clear HA
      simp only [impl_TreeBody.l0] at H
      by_cases c2 : x3_1 < (a0.size : Int)
      · rw [if_pos c2] at H
        have c2b0 : decide (x3_1 < (a0.size : Int)) = true := decide_eq_true c2
        clear c2
        by_cases c3 : 0 ≤ x3_1
        · rw [if_pos c3] at H
          have c3b0 : decide (0 ≤ x3_1) = true := decide_eq_true c3
          clear c3
          replace H := Option.bind_eq_some_iff.mp H
          obtain ⟨t406, A50, H⟩ := H
          replace H : (if t406 = true then (impl_TreeBody.l0 k1 a0 (wrap64 (x3_1 + 1))) else ((impl_in.f (wrap64 (bt a0 x3_1)) 48 57).bind fun t407 => (if t407 = true then (impl_TreeBody.l0 k1 a0 (wrap64 (x3_1 + 1))) else (some false)))) = some r := H
          have A5 := Aside0.mk A50
          clear A50
          by_cases c6 : t406 = true
          · subst c6
            have H1 : (impl_TreeBody.l0 k1 a0 (wrap64 (x3_1 + 1))) = some r := by rw [if_pos rfl] at H; exact H
            clear H
            have H := H1
            clear H1
            have H' := Aside0.mk H
            clear H
            have p4 : 0 ≤ (x3_1 : Int) := of_decide_eq_true (by first | (with_reducible assumption) | assumption)
            have q4 : x3_1 < (a0.size : Int) := of_decide_eq_true (by first | (with_reducible assumption) | assumption)
            have hx4 := bt_at a0 x3_1
            replace p4 := eq_true p4
            replace q4 := eq_true q4
            go_wp2_with (first | ((with_reducible refine gate_callee (f := 115) rfl ?_); refine goesL_ (some 14) rfl rfl Try.func115 (by kernel_rfl) rfl #[.int .i64 (wrap64 (bt a0 x3_1)), .int .i64 97, .int .i64 122] rfl (by (try simp only [List.map_toArray, List.map_cons, List.map_nil]); first | done | rfl | (simp only [List.length_drop, List.length_take]; rfl)) ?_; (with_reducible refine (impl_in.calls (wrap64 (bt a0 x3_1)) 97 122 true _ A5.out).mono ?_); rintro e w' ⟨rfl, ⟨nd, rfl⟩⟩; refine ⟨_, rfl, ?_⟩))
            go_roundg k1
            case measure => have := HK1.out; omega
            case rel => exact ⟨(wrap64 (x3_1 + 1)), (by first | rfl | (simp; done) | (simp [*]; done)), H', ⟨by have := HK1.out; omega⟩, by repeat (first | exact Drawn0.refl _ | apply Drawn0.step)⟩
          · replace c6 := Bool.eq_false_iff.mpr c6
            subst c6
            have H1 : ((impl_in.f (wrap64 (bt a0 x3_1)) 48 57).bind fun t407 => (if t407 = true then (impl_TreeBody.l0 k1 a0 (wrap64 (x3_1 + 1))) else (some false))) = some r := by rw [if_neg (show ¬ (false = true) by decide)] at H; exact H
            clear H
            have H := H1
            clear H1
            replace H := Option.bind_eq_some_iff.mp H
            obtain ⟨t407, A80, H⟩ := H
            replace H : (if t407 = true then (impl_TreeBody.l0 k1 a0 (wrap64 (x3_1 + 1))) else (some false)) = some r := H
            have A8 := Aside0.mk A80
            clear A80
            by_cases c9 : t407 = true
            · subst c9
              have H1 : (impl_TreeBody.l0 k1 a0 (wrap64 (x3_1 + 1))) = some r := by rw [if_pos rfl] at H; exact H
              clear H
              have H := H1
              clear H1
              have H' := Aside0.mk H
              clear H
              have p4 : 0 ≤ (x3_1 : Int) := of_decide_eq_true (by first | (with_reducible assumption) | assumption)
              have q4 : x3_1 < (a0.size : Int) := of_decide_eq_true (by first | (with_reducible assumption) | assumption)
              have hx4 := bt_at a0 x3_1
              replace p4 := eq_true p4
              replace q4 := eq_true q4
              go_wp2_with (first | ((with_reducible refine gate_callee (f := 115) rfl ?_); refine goesL_ (some 14) rfl rfl Try.func115 (by kernel_rfl) rfl #[.int .i64 (wrap64 (bt a0 x3_1)), .int .i64 97, .int .i64 122] rfl (by (try simp only [List.map_toArray, List.map_cons, List.map_nil]); first | done | rfl | (simp only [List.length_drop, List.length_take]; rfl)) ?_; (with_reducible refine (impl_in.calls (wrap64 (bt a0 x3_1)) 97 122 false _ A5.out).mono ?_); rintro e w' ⟨rfl, ⟨nd, rfl⟩⟩; refine ⟨_, rfl, ?_⟩; have p7 : 0 ≤ (x3_1 : Int) := of_decide_eq_true (by first | (with_reducible assumption) | assumption); have q7 : x3_1 < (a0.size : Int) := of_decide_eq_true (by first | (with_reducible assumption) | assumption); have hx7 := bt_at a0 x3_1; replace p7 := eq_true p7; replace q7 := eq_true q7) | (go_at_call 115; (with_reducible refine (impl_in.calls (wrap64 (bt a0 x3_1)) 48 57 true _ A8.out).mono ?_); rintro e w' ⟨rfl, ⟨nd, rfl⟩⟩))
              go_roundg k1
              case measure => have := HK1.out; omega
              case rel => exact ⟨(wrap64 (x3_1 + 1)), (by first | rfl | (simp; done) | (simp [*]; done)), H', ⟨by have := HK1.out; omega⟩, by repeat (first | exact Drawn0.refl _ | apply Drawn0.step)⟩
            · replace c9 := Bool.eq_false_iff.mpr c9
              subst c9
              have H1 : (some false) = some r := by rw [if_neg (show ¬ (false = true) by decide)] at H; exact H
              clear H
              have H := H1
              clear H1
              obtain rfl := Option.some.inj H
              have p4 : 0 ≤ (x3_1 : Int) := of_decide_eq_true (by first | (with_reducible assumption) | assumption)
              have q4 : x3_1 < (a0.size : Int) := of_decide_eq_true (by first | (with_reducible assumption) | assumption)
              have hx4 := bt_at a0 x3_1
              replace p4 := eq_true p4
              replace q4 := eq_true q4
              go_wp2_with (first | ((with_reducible refine gate_callee (f := 115) rfl ?_); refine goesL_ (some 14) rfl rfl Try.func115 (by kernel_rfl) rfl #[.int .i64 (wrap64 (bt a0 x3_1)), .int .i64 97, .int .i64 122] rfl (by (try simp only [List.map_toArray, List.map_cons, List.map_nil]); first | done | rfl | (simp only [List.length_drop, List.length_take]; rfl)) ?_; (with_reducible refine (impl_in.calls (wrap64 (bt a0 x3_1)) 97 122 false _ A5.out).mono ?_); rintro e w' ⟨rfl, ⟨nd, rfl⟩⟩; refine ⟨_, rfl, ?_⟩; have p7 : 0 ≤ (x3_1 : Int) := of_decide_eq_true (by first | (with_reducible assumption) | assumption); have q7 : x3_1 < (a0.size : Int) := of_decide_eq_true (by first | (with_reducible assumption) | assumption); have hx7 := bt_at a0 x3_1; replace p7 := eq_true p7; replace q7 := eq_true q7) | (go_at_call 115; (with_reducible refine (impl_in.calls (wrap64 (bt a0 x3_1)) 48 57 false _ A8.out).mono ?_); rintro e w' ⟨rfl, ⟨nd, rfl⟩⟩))
              go_ret
              exact ⟨by first | rfl | (simp; done) | (simp [*]; done), by repeat (first | exact Drawn0.refl _ | apply Drawn0.step)⟩
        · rw [if_neg c3] at H
          exact absurd H (by simp)
      · rw [if_neg c2] at H
        have c2b0 : decide (x3_1 < (a0.size : Int)) = false := decide_eq_false c2
        clear c2
        obtain rfl := Option.some.inj H
        go_wp2
        go_ret
        exact ⟨by first | rfl | (simp; done) | (simp [*]; done), by repeat (first | exact Drawn0.refl _ | apply Drawn0.step)⟩
end Go.Proofs.Ytlaichooanflaaa.Q
