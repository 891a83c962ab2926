/- Part 1 of what the proof of FnExactLogIds uses: plain functions with the answers of the Go functions, the proofs that the calls come to them, and plain lemmas. -/
import Derived.Test.YthmmleheahkeeaaVFnExactLogIds0
namespace Go.Proofs.Ythmmleheahkeeaa.Q
open Go.RowKit Go.Proofs.YthmmleheahkeeaaW.PrintWords Go.Proofs.YthmmleheahkeeaaW.PrintLast Go.Proofs.YthmmleheahkeeaaW.PrintMore
attribute [local go_sem] max2_int min2_int max_two min_two max_three min_three max_four min_four   -- for this text's walks alone
set_option linter.unusedVariables false
set_option linter.unusedSimpArgs false
mutual
def spec_OpOk.j0 : Nat → Bool → Int → Int → ByteArray → Int → ByteArray → Int → ByteArray → Option (Bool)
  | 0, _, _, _, _, _, _, _, _ => none
  | k + 1, x3, x147000, x147001, x147002, x147003, x147004, x147005, x147006 => (spec_l1Id.f x147001).bind fun t148 => (if t148 = true then ((spec_TreeWord.f k x147002).bind fun t149 => (spec_OpOk.j1 k x3 t149 x147000 x147001 x147002 x147003 x147004 x147005 x147006)) else (spec_OpOk.j1 k x3 false x147000 x147001 x147002 x147003 x147004 x147005 x147006))
def spec_OpOk.j1 : Nat → Bool → Bool → Int → Int → ByteArray → Int → ByteArray → Int → ByteArray → Option (Bool)
  | 0, _, _, _, _, _, _, _, _, _ => none
  | k + 1, x3, x4, x147000, x147001, x147002, x147003, x147004, x147005, x147006 => (spec_l1Id.f x147003).bind fun t150 => (if t150 = true then ((spec_TreeWord.f k x147004).bind fun t151 => (spec_OpOk.j2 k x3 x4 t151 x147000 x147001 x147002 x147003 x147004 x147005 x147006)) else (spec_OpOk.j2 k x3 x4 false x147000 x147001 x147002 x147003 x147004 x147005 x147006))
def spec_OpOk.j2 : Nat → Bool → Bool → Bool → Int → Int → ByteArray → Int → ByteArray → Int → ByteArray → Option (Bool)
  | 0, _, _, _, _, _, _, _, _, _, _ => none
  | k + 1, x3, x4, x5, x147000, x147001, x147002, x147003, x147004, x147005, x147006 => if x147003 = 0 then (spec_OpOk.j3 k x3 x4 x5 (x147004.toList == ([] : List UInt8)) x147000 x147001 x147002 x147003 x147004 x147005 x147006) else (spec_OpOk.j3 k x3 x4 x5 false x147000 x147001 x147002 x147003 x147004 x147005 x147006)
def spec_OpOk.j3 : Nat → Bool → Bool → Bool → Bool → Int → Int → ByteArray → Int → ByteArray → Int → ByteArray → Option (Bool)
  | 0, _, _, _, _, _, _, _, _, _, _, _ => none
  | k + 1, x3, x4, x5, x6, x147000, x147001, x147002, x147003, x147004, x147005, x147006 => if x147000 = 1 then (spec_OpOk.j4 k x3 x4 x5 x6 x147000 (x147000 == 1) x147000 x147001 x147002 x147003 x147004 x147005 x147006) else (if x147000 = 2 then (spec_OpOk.j4 k x3 x4 x5 x6 x147000 (x147000 == 2) x147000 x147001 x147002 x147003 x147004 x147005 x147006) else (spec_OpOk.j4 k x3 x4 x5 x6 x147000 (x147000 == 3) x147000 x147001 x147002 x147003 x147004 x147005 x147006))
def spec_OpOk.j4 : Nat → Bool → Bool → Bool → Bool → Int → Bool → Int → Int → ByteArray → Int → ByteArray → Int → ByteArray → Option (Bool)
  | 0, _, _, _, _, _, _, _, _, _, _, _, _, _ => none
  | k + 1, x3, x4, x5, x6, x40, x41, x147000, x147001, x147002, x147003, x147004, x147005, x147006 => if x41 = true then (if x3 = true then (if x4 = true then (if x6 = true then (some (x147006.toList == ([] : List UInt8))) else (some false)) else (some false)) else (some false)) else (if x40 = 4 then (if x3 = true then (if x4 = true then (if x5 = true then (some (x147006.toList == ([] : List UInt8))) else (some false)) else (some false)) else (some false)) else (if x40 = 5 then (if x3 = true then (if x147001 = 0 then (if x147002.toList = ([] : List UInt8) then (if x6 = true then ((spec_TreeBody.f k x147006).bind fun t152 => (some t152)) else (some false)) else (some false)) else (some false)) else (some false)) else (some false)))
end
def spec_OpOk.f (k : Nat) (a0_0 : Int) (a0_1 : Int) (a0_2 : ByteArray) (a0_3 : Int) (a0_4 : ByteArray) (a0_5 : Int) (a0_6 : ByteArray) : Option (Bool) := if a0_5 ≥ 1 then ((spec_l1Id.f a0_5).bind fun t147 => (spec_OpOk.j0 k t147 a0_0 a0_1 a0_2 a0_3 a0_4 a0_5 a0_6)) else (spec_OpOk.j0 k false a0_0 a0_1 a0_2 a0_3 a0_4 a0_5 a0_6)
set_option maxHeartbeats 8000000 in
set_option maxRecDepth 100000 in
theorem spec_OpOk.calls (k : Nat) (a0_0 : Int) (a0_1 : Int) (a0_2 : ByteArray) (a0_3 : Int) (a0_4 : ByteArray) (a0_5 : Int) (a0_6 : ByteArray) (r : Bool) (w : World) (h : spec_OpOk.f k a0_0 a0_1 a0_2 a0_3 a0_4 a0_5 a0_6 = some r) :
    Calls Try.prog 22 #[.agg #[.int .i64 a0_0, .int .i64 a0_1, .string a0_2, .int .i64 a0_3, .string a0_4, .int .i64 a0_5, .string a0_6]] w fun e w' => e = .returned (.bool r) ∧ Below w.heap.size w w' := by
  have hu31 := Try.underlying31
  have HB := Aside0.mk (Below.refl w.heap.size w)
  have H : (if a0_5 ≥ 1 then ((spec_l1Id.f a0_5).bind fun t147 => (spec_OpOk.j0 k t147 a0_0 a0_1 a0_2 a0_3 a0_4 a0_5 a0_6)) else (spec_OpOk.j0 k false a0_0 a0_1 a0_2 a0_3 a0_4 a0_5 a0_6)) = some r := h
  clear h
  have HC2 := Aside0.mk H
  clear H
  go_enter Try.func22, Try.ntmps22
  go_upto_region 1 with (first | ((with_reducible refine gate_dst (N := 1) rfl ?_); refine box_event ?hg (N := 1) ?hd (cs := #[.int .i64 a0_0, .int .i64 a0_1, .string a0_2, .int .i64 a0_3, .string a0_4, .int .i64 a0_5, .string a0_6]) (t := 31) ?hr ?_; (case hd => rfl); (case hg => rfl); (case hr => first | (go_simp; done) | (go_simp; rfl)); intro gb146 hg w3 hbox hb; have n0_ := Aside0.mk (below_step (by repeat (first | (with_reducible first | exact HB.out | apply below_alloc | apply pw_below_drewN | apply below_drew1) | exact HB.out)) hb); have n1_ := Aside0.mk (hbox); have n2_ := Aside0.mk ((by rw [hg]; exact (below_size (by repeat (first | (with_reducible first | exact HB.out | apply below_alloc | apply pw_below_drewN | apply below_drew1) | exact HB.out))) : w.heap.size ≤ gb146)); have n3_ := Aside0.mk ((by rw [hg]; exact (below_size (by repeat (first | (with_reducible first | exact HB.out | apply below_alloc | apply pw_below_drewN | apply below_drew1) | exact HB.out))) : w.heap.size ≤ gb146)); clear HB; have HB := n0_; have BK146 := n1_; have GW146 := n2_; have GE146 := n3_; clear n0_ n1_ n2_ n3_; clear hb hbox hg))
  (try simp only [Act.put, List.setIfInBounds_toArray, List.set_cons_zero, List.set_cons_succ])
  go_cut [3] (fun v3 wc => ∃ (kq : Nat) (x3_1 : Bool), v3 = .bool x3_1 ∧ Aside0 (spec_OpOk.j0 kq x3_1 a0_0 a0_1 a0_2 a0_3 a0_4 a0_5 a0_6 = some r) ∧ Aside0 (kq ≤ k) ∧ Aside0 (wc.heap[gb146]? = some (.cells #[.int .i64 a0_0, .int .i64 a0_1, .string a0_2, .int .i64 a0_3, .string a0_4, .int .i64 a0_5, .string a0_6] 31 (0, 0))) ∧ Aside0 (Below w.heap.size w wc))
  case first =>
    have H := HC2.out
    clear HC2
    by_cases c4 : a0_5 ≥ 1
    · rw [if_pos c4] at H
      have c4b0 : decide (1 ≤ a0_5) = true := decide_eq_true c4
      clear c4
      (first | rw [c4b0] | (simp only [i64_w, i32_w]; rw [c4b0]) | skip)
      replace H := Option.bind_eq_some_iff.mp H
      obtain ⟨t147, A50, H⟩ := H
      replace H : (spec_OpOk.j0 k t147 a0_0 a0_1 a0_2 a0_3 a0_4 a0_5 a0_6) = some r := H
      have A5 := Aside0.mk A50
      clear A50
      have H' := Aside0.mk H
      clear H
      have hcz6_0 : w3.cell? ⟨gb146, 0, none⟩ = some (.int .i64 a0_0) := (blk_cell BK146.out 0).trans rfl
      have hcz6_1 : w3.cell? ⟨gb146, 1, none⟩ = some (.int .i64 a0_1) := (blk_cell BK146.out 1).trans rfl
      have hcz6_2 : w3.cell? ⟨gb146, 2, none⟩ = some (.string a0_2) := (blk_cell BK146.out 2).trans rfl
      have hcz6_3 : w3.cell? ⟨gb146, 3, none⟩ = some (.int .i64 a0_3) := (blk_cell BK146.out 3).trans rfl
      have hcz6_4 : w3.cell? ⟨gb146, 4, none⟩ = some (.string a0_4) := (blk_cell BK146.out 4).trans rfl
      have hcz6_5 : w3.cell? ⟨gb146, 5, none⟩ = some (.int .i64 a0_5) := (blk_cell BK146.out 5).trans rfl
      have hcz6_6 : w3.cell? ⟨gb146, 6, none⟩ = some (.string a0_6) := (blk_cell BK146.out 6).trans rfl
      have hfz6_0 := blk_frozen BK146.out 0
      have hfz6_1 := blk_frozen BK146.out 1
      have hfz6_2 := blk_frozen BK146.out 2
      have hfz6_3 := blk_frozen BK146.out 3
      have hfz6_4 := blk_frozen BK146.out 4
      have hfz6_5 := blk_frozen BK146.out 5
      have hfz6_6 := blk_frozen BK146.out 6
      go_wp2_with (first | (go_at_call 57; (with_reducible refine (spec_l1Id.calls a0_5 t147 _ A5.out).mono ?_); rintro e w' ⟨rfl, ⟨nd, rfl⟩⟩))
      go_meet
      case rel => exact ⟨_, (t147), (by first | rfl | (simp; done) | (simp [*]; done)), H', ⟨by first | omega | exact Nat.le_refl _⟩, ⟨by (with_reducible repeat (first | refine blk_drewN ?_ _ | refine blk_drew ?_ | refine blk_alloc ?_ _)); exact BK146.out⟩, ⟨by repeat (first | (with_reducible first | exact HB.out | apply below_alloc | apply pw_below_drewN | apply below_drew1 | refine below_set ?_ GE146.out) | exact HB.out)⟩⟩
    · rw [if_neg c4] at H
      have c4b0 : decide (1 ≤ a0_5) = false := decide_eq_false c4
      clear c4
      (first | rw [c4b0] | (simp only [i64_w, i32_w]; rw [c4b0]) | skip)
      have H' := Aside0.mk H
      clear H
      have hcz7_0 : w3.cell? ⟨gb146, 0, none⟩ = some (.int .i64 a0_0) := (blk_cell BK146.out 0).trans rfl
      have hcz7_1 : w3.cell? ⟨gb146, 1, none⟩ = some (.int .i64 a0_1) := (blk_cell BK146.out 1).trans rfl
      have hcz7_2 : w3.cell? ⟨gb146, 2, none⟩ = some (.string a0_2) := (blk_cell BK146.out 2).trans rfl
      have hcz7_3 : w3.cell? ⟨gb146, 3, none⟩ = some (.int .i64 a0_3) := (blk_cell BK146.out 3).trans rfl
      have hcz7_4 : w3.cell? ⟨gb146, 4, none⟩ = some (.string a0_4) := (blk_cell BK146.out 4).trans rfl
      have hcz7_5 : w3.cell? ⟨gb146, 5, none⟩ = some (.int .i64 a0_5) := (blk_cell BK146.out 5).trans rfl
      have hcz7_6 : w3.cell? ⟨gb146, 6, none⟩ = some (.string a0_6) := (blk_cell BK146.out 6).trans rfl
      have hfz7_0 := blk_frozen BK146.out 0
      have hfz7_1 := blk_frozen BK146.out 1
      have hfz7_2 := blk_frozen BK146.out 2
      have hfz7_3 := blk_frozen BK146.out 3
      have hfz7_4 := blk_frozen BK146.out 4
      have hfz7_5 := blk_frozen BK146.out 5
      have hfz7_6 := blk_frozen BK146.out 6
      go_wp2
      go_meet
      case rel => exact ⟨_, (false), (by first | rfl | (simp; done) | (simp [*]; done)), H', ⟨by first | omega | exact Nat.le_refl _⟩, ⟨by (with_reducible repeat (first | refine blk_drewN ?_ _ | refine blk_drew ?_ | refine blk_alloc ?_ _)); exact BK146.out⟩, ⟨by repeat (first | (with_reducible first | exact HB.out | apply below_alloc | apply pw_below_drewN | apply below_drew1 | refine below_set ?_ GE146.out) | exact HB.out)⟩⟩
  case rest =>
    clear HC2
    try clear c2
    try clear p2
    try clear c4
    try clear c4b0
    try clear hcz6_0
    try clear hcz6_1
    try clear hcz6_2
    try clear hcz6_3
    try clear hcz6_4
    try clear hcz6_5
    try clear hcz6_6
    try clear hcz7_0
    try clear hcz7_1
    try clear hcz7_2
    try clear hcz7_3
    try clear hcz7_4
    try clear hcz7_5
    try clear hcz7_6
    try clear hfz6_0
    try clear hfz6_1
    try clear hfz6_2
    try clear hfz6_3
    try clear hfz6_4
    try clear hfz6_5
    try clear hfz6_6
    try clear hfz7_0
    try clear hfz7_1
    try clear hfz7_2
    try clear hfz7_3
    try clear hfz7_4
    try clear hfz7_5
    try clear hfz7_6
    obtain ⟨kq, x3_1, rfl, HA, HJ1, BK146, HB⟩ := hcut
    cases kq with
    | zero => exact absurd HA.out (by simp [spec_OpOk.j0])
    | succ kj1 =>
      have H := HA.out
      clear HA
      simp only [spec_OpOk.j0] at H
      have HC8 := Aside0.mk H
      clear H
      go_upto_region 2 with (fail)
      go_cut [4] (fun v4 wc => ∃ (kq : Nat) (x4_7 : Bool), v4 = .bool x4_7 ∧ Aside0 (spec_OpOk.j1 kq x3_1 x4_7 a0_0 a0_1 a0_2 a0_3 a0_4 a0_5 a0_6 = some r) ∧ Aside0 (kq ≤ kj1) ∧ Aside0 (wc.heap[gb146]? = some (.cells #[.int .i64 a0_0, .int .i64 a0_1, .string a0_2, .int .i64 a0_3, .string a0_4, .int .i64 a0_5, .string a0_6] 31 (0, 0))) ∧ Aside0 (Below w.heap.size w wc))
      case first =>
        have H := HC8.out
        clear HC8
        replace H := Option.bind_eq_some_iff.mp H
        obtain ⟨t148, A90, H⟩ := H
        replace H : (if t148 = true then ((spec_TreeWord.f kj1 a0_2).bind fun t149 => (spec_OpOk.j1 kj1 x3_1 t149 a0_0 a0_1 a0_2 a0_3 a0_4 a0_5 a0_6)) else (spec_OpOk.j1 kj1 x3_1 false a0_0 a0_1 a0_2 a0_3 a0_4 a0_5 a0_6)) = some r := H
        have A9 := Aside0.mk A90
        clear A90
        by_cases c10 : t148 = true
        · subst c10
          have H1 : ((spec_TreeWord.f kj1 a0_2).bind fun t149 => (spec_OpOk.j1 kj1 x3_1 t149 a0_0 a0_1 a0_2 a0_3 a0_4 a0_5 a0_6)) = some r := by rw [if_pos rfl] at H; exact H
          clear H
          have H := H1
          clear H1
          replace H := Option.bind_eq_some_iff.mp H
          obtain ⟨t149, A110, H⟩ := H
          replace H : (spec_OpOk.j1 kj1 x3_1 t149 a0_0 a0_1 a0_2 a0_3 a0_4 a0_5 a0_6) = some r := H
          have A11 := Aside0.mk A110
          clear A110
          have H' := Aside0.mk H
          clear H
          have hcz12_0 : wc.cell? ⟨gb146, 0, none⟩ = some (.int .i64 a0_0) := (blk_cell BK146.out 0).trans rfl
          have hcz12_1 : wc.cell? ⟨gb146, 1, none⟩ = some (.int .i64 a0_1) := (blk_cell BK146.out 1).trans rfl
          have hcz12_2 : wc.cell? ⟨gb146, 2, none⟩ = some (.string a0_2) := (blk_cell BK146.out 2).trans rfl
          have hcz12_3 : wc.cell? ⟨gb146, 3, none⟩ = some (.int .i64 a0_3) := (blk_cell BK146.out 3).trans rfl
          have hcz12_4 : wc.cell? ⟨gb146, 4, none⟩ = some (.string a0_4) := (blk_cell BK146.out 4).trans rfl
          have hcz12_5 : wc.cell? ⟨gb146, 5, none⟩ = some (.int .i64 a0_5) := (blk_cell BK146.out 5).trans rfl
          have hcz12_6 : wc.cell? ⟨gb146, 6, none⟩ = some (.string a0_6) := (blk_cell BK146.out 6).trans rfl
          have hfz12_0 := blk_frozen BK146.out 0
          have hfz12_1 := blk_frozen BK146.out 1
          have hfz12_2 := blk_frozen BK146.out 2
          have hfz12_3 := blk_frozen BK146.out 3
          have hfz12_4 := blk_frozen BK146.out 4
          have hfz12_5 := blk_frozen BK146.out 5
          have hfz12_6 := blk_frozen BK146.out 6
          go_wp2_with (first | ((with_reducible refine gate_callee (f := 57) rfl ?_); refine goesL_ (some 17) rfl rfl Try.func57 (by kernel_rfl) rfl #[.int .i64 a0_1] rfl (by (try simp only [List.map_toArray, List.map_cons, List.map_nil]); first | done | rfl | (simp only [List.length_drop, List.length_take]; rfl)) ?_; (with_reducible refine (spec_l1Id.calls a0_1 true _ A9.out).mono ?_); rintro e w' ⟨rfl, ⟨nd, rfl⟩⟩; refine ⟨_, rfl, ?_⟩) | (go_at_call 17; (with_reducible refine (spec_TreeWord.calls kj1 a0_2 t149 _ A11.out).mono ?_); rintro e w' ⟨rfl, ⟨nd, rfl⟩⟩))
          go_meet
          case rel => exact ⟨_, (t149), (by first | rfl | (simp; done) | (simp [*]; done)), H', ⟨by have := HJ1.out; first | omega | exact Nat.le_refl _⟩, ⟨by (with_reducible repeat (first | refine blk_drewN ?_ _ | refine blk_drew ?_ | refine blk_alloc ?_ _)); exact BK146.out⟩, ⟨by repeat (first | (with_reducible first | exact HB.out | apply below_alloc | apply pw_below_drewN | apply below_drew1 | refine below_set ?_ GE146.out) | exact HB.out)⟩⟩
        · replace c10 := Bool.eq_false_iff.mpr c10
          subst c10
          have H1 : (spec_OpOk.j1 kj1 x3_1 false a0_0 a0_1 a0_2 a0_3 a0_4 a0_5 a0_6) = some r := by rw [if_neg (show ¬ (false = true) by decide)] at H; exact H
          clear H
          have H := H1
          clear H1
          have H' := Aside0.mk H
          clear H
          have hcz13_0 : wc.cell? ⟨gb146, 0, none⟩ = some (.int .i64 a0_0) := (blk_cell BK146.out 0).trans rfl
          have hcz13_1 : wc.cell? ⟨gb146, 1, none⟩ = some (.int .i64 a0_1) := (blk_cell BK146.out 1).trans rfl
          have hcz13_2 : wc.cell? ⟨gb146, 2, none⟩ = some (.string a0_2) := (blk_cell BK146.out 2).trans rfl
          have hcz13_3 : wc.cell? ⟨gb146, 3, none⟩ = some (.int .i64 a0_3) := (blk_cell BK146.out 3).trans rfl
          have hcz13_4 : wc.cell? ⟨gb146, 4, none⟩ = some (.string a0_4) := (blk_cell BK146.out 4).trans rfl
          have hcz13_5 : wc.cell? ⟨gb146, 5, none⟩ = some (.int .i64 a0_5) := (blk_cell BK146.out 5).trans rfl
          have hcz13_6 : wc.cell? ⟨gb146, 6, none⟩ = some (.string a0_6) := (blk_cell BK146.out 6).trans rfl
          have hfz13_0 := blk_frozen BK146.out 0
          have hfz13_1 := blk_frozen BK146.out 1
          have hfz13_2 := blk_frozen BK146.out 2
          have hfz13_3 := blk_frozen BK146.out 3
          have hfz13_4 := blk_frozen BK146.out 4
          have hfz13_5 := blk_frozen BK146.out 5
          have hfz13_6 := blk_frozen BK146.out 6
          go_wp2_with (first | ((with_reducible refine gate_callee (f := 57) rfl ?_); refine goesL_ (some 17) rfl rfl Try.func57 (by kernel_rfl) rfl #[.int .i64 a0_1] rfl (by (try simp only [List.map_toArray, List.map_cons, List.map_nil]); first | done | rfl | (simp only [List.length_drop, List.length_take]; rfl)) ?_; (with_reducible refine (spec_l1Id.calls a0_1 false _ A9.out).mono ?_); rintro e w' ⟨rfl, ⟨nd, rfl⟩⟩; refine ⟨_, rfl, ?_⟩))
          go_meet
          case rel => exact ⟨_, (false), (by first | rfl | (simp; done) | (simp [*]; done)), H', ⟨by have := HJ1.out; first | omega | exact Nat.le_refl _⟩, ⟨by (with_reducible repeat (first | refine blk_drewN ?_ _ | refine blk_drew ?_ | refine blk_alloc ?_ _)); exact BK146.out⟩, ⟨by repeat (first | (with_reducible first | exact HB.out | apply below_alloc | apply pw_below_drewN | apply below_drew1 | refine below_set ?_ GE146.out) | exact HB.out)⟩⟩
      case rest =>
        clear HC8
        try clear c1
        try clear c2
        try clear p2
        try clear c4
        try clear c4b0
        try clear c5
        try clear c10
        try clear hcz12_0
        try clear hcz12_1
        try clear hcz12_2
        try clear hcz12_3
        try clear hcz12_4
        try clear hcz12_5
        try clear hcz12_6
        try clear hcz13_0
        try clear hcz13_1
        try clear hcz13_2
        try clear hcz13_3
        try clear hcz13_4
        try clear hcz13_5
        try clear hcz13_6
        try clear hcz6_0
        try clear hcz6_1
        try clear hcz6_2
        try clear hcz6_3
        try clear hcz6_4
        try clear hcz6_5
        try clear hcz6_6
        try clear hcz7_0
        try clear hcz7_1
        try clear hcz7_2
        try clear hcz7_3
        try clear hcz7_4
        try clear hcz7_5
        try clear hcz7_6
        try clear hfz12_0
        try clear hfz12_1
        try clear hfz12_2
        try clear hfz12_3
        try clear hfz12_4
        try clear hfz12_5
        try clear hfz12_6
        try clear hfz13_0
        try clear hfz13_1
        try clear hfz13_2
        try clear hfz13_3
        try clear hfz13_4
        try clear hfz13_5
        try clear hfz13_6
        try clear hfz6_0
        try clear hfz6_1
        try clear hfz6_2
        try clear hfz6_3
        try clear hfz6_4
        try clear hfz6_5
        try clear hfz6_6
        try clear hfz7_0
        try clear hfz7_1
        try clear hfz7_2
        try clear hfz7_3
        try clear hfz7_4
        try clear hfz7_5
        try clear hfz7_6
        try clear p2
        obtain ⟨kq, x4_7, rfl, HA, HJ7, BK146, HB⟩ := hcut
        cases kq with
        | zero => exact absurd HA.out (by simp [spec_OpOk.j1])
        | succ kj7 =>
          have H := HA.out
          clear HA
          simp only [spec_OpOk.j1] at H
          have HC14 := Aside0.mk H
          clear H
          go_upto_region 3 with (fail)
          go_cut [5] (fun v5 wc => ∃ (kq : Nat) (x5_13 : Bool), v5 = .bool x5_13 ∧ Aside0 (spec_OpOk.j2 kq x3_1 x4_7 x5_13 a0_0 a0_1 a0_2 a0_3 a0_4 a0_5 a0_6 = some r) ∧ Aside0 (kq ≤ kj7) ∧ Aside0 (wc.heap[gb146]? = some (.cells #[.int .i64 a0_0, .int .i64 a0_1, .string a0_2, .int .i64 a0_3, .string a0_4, .int .i64 a0_5, .string a0_6] 31 (0, 0))) ∧ Aside0 (Below w.heap.size w wc))
          case first =>
            have H := HC14.out
            clear HC14
            replace H := Option.bind_eq_some_iff.mp H
            obtain ⟨t150, A150, H⟩ := H
            replace H : (if t150 = true then ((spec_TreeWord.f kj7 a0_4).bind fun t151 => (spec_OpOk.j2 kj7 x3_1 x4_7 t151 a0_0 a0_1 a0_2 a0_3 a0_4 a0_5 a0_6)) else (spec_OpOk.j2 kj7 x3_1 x4_7 false a0_0 a0_1 a0_2 a0_3 a0_4 a0_5 a0_6)) = some r := H
            have A15 := Aside0.mk A150
            clear A150
            by_cases c16 : t150 = true
            · subst c16
              have H1 : ((spec_TreeWord.f kj7 a0_4).bind fun t151 => (spec_OpOk.j2 kj7 x3_1 x4_7 t151 a0_0 a0_1 a0_2 a0_3 a0_4 a0_5 a0_6)) = some r := by rw [if_pos rfl] at H; exact H
              clear H
              have H := H1
              clear H1
              replace H := Option.bind_eq_some_iff.mp H
              obtain ⟨t151, A170, H⟩ := H
              replace H : (spec_OpOk.j2 kj7 x3_1 x4_7 t151 a0_0 a0_1 a0_2 a0_3 a0_4 a0_5 a0_6) = some r := H
              have A17 := Aside0.mk A170
              clear A170
              have H' := Aside0.mk H
              clear H
              have hcz18_0 : wc.cell? ⟨gb146, 0, none⟩ = some (.int .i64 a0_0) := (blk_cell BK146.out 0).trans rfl
              have hcz18_1 : wc.cell? ⟨gb146, 1, none⟩ = some (.int .i64 a0_1) := (blk_cell BK146.out 1).trans rfl
              have hcz18_2 : wc.cell? ⟨gb146, 2, none⟩ = some (.string a0_2) := (blk_cell BK146.out 2).trans rfl
              have hcz18_3 : wc.cell? ⟨gb146, 3, none⟩ = some (.int .i64 a0_3) := (blk_cell BK146.out 3).trans rfl
              have hcz18_4 : wc.cell? ⟨gb146, 4, none⟩ = some (.string a0_4) := (blk_cell BK146.out 4).trans rfl
              have hcz18_5 : wc.cell? ⟨gb146, 5, none⟩ = some (.int .i64 a0_5) := (blk_cell BK146.out 5).trans rfl
              have hcz18_6 : wc.cell? ⟨gb146, 6, none⟩ = some (.string a0_6) := (blk_cell BK146.out 6).trans rfl
              have hfz18_0 := blk_frozen BK146.out 0
              have hfz18_1 := blk_frozen BK146.out 1
              have hfz18_2 := blk_frozen BK146.out 2
              have hfz18_3 := blk_frozen BK146.out 3
              have hfz18_4 := blk_frozen BK146.out 4
              have hfz18_5 := blk_frozen BK146.out 5
              have hfz18_6 := blk_frozen BK146.out 6
              go_wp2_with (first | ((with_reducible refine gate_callee (f := 57) rfl ?_); refine goesL_ (some 25) rfl rfl Try.func57 (by kernel_rfl) rfl #[.int .i64 a0_3] rfl (by (try simp only [List.map_toArray, List.map_cons, List.map_nil]); first | done | rfl | (simp only [List.length_drop, List.length_take]; rfl)) ?_; (with_reducible refine (spec_l1Id.calls a0_3 true _ A15.out).mono ?_); rintro e w' ⟨rfl, ⟨nd, rfl⟩⟩; refine ⟨_, rfl, ?_⟩) | (go_at_call 17; (with_reducible refine (spec_TreeWord.calls kj7 a0_4 t151 _ A17.out).mono ?_); rintro e w' ⟨rfl, ⟨nd, rfl⟩⟩))
              go_meet
              case rel => exact ⟨_, (t151), (by first | rfl | (simp; done) | (simp [*]; done)), H', ⟨by have := HJ1.out; have := HJ7.out; first | omega | exact Nat.le_refl _⟩, ⟨by (with_reducible repeat (first | refine blk_drewN ?_ _ | refine blk_drew ?_ | refine blk_alloc ?_ _)); exact BK146.out⟩, ⟨by repeat (first | (with_reducible first | exact HB.out | apply below_alloc | apply pw_below_drewN | apply below_drew1 | refine below_set ?_ GE146.out) | exact HB.out)⟩⟩
            · replace c16 := Bool.eq_false_iff.mpr c16
              subst c16
              have H1 : (spec_OpOk.j2 kj7 x3_1 x4_7 false a0_0 a0_1 a0_2 a0_3 a0_4 a0_5 a0_6) = some r := by rw [if_neg (show ¬ (false = true) by decide)] at H; exact H
              clear H
              have H := H1
              clear H1
              have H' := Aside0.mk H
              clear H
              have hcz19_0 : wc.cell? ⟨gb146, 0, none⟩ = some (.int .i64 a0_0) := (blk_cell BK146.out 0).trans rfl
              have hcz19_1 : wc.cell? ⟨gb146, 1, none⟩ = some (.int .i64 a0_1) := (blk_cell BK146.out 1).trans rfl
              have hcz19_2 : wc.cell? ⟨gb146, 2, none⟩ = some (.string a0_2) := (blk_cell BK146.out 2).trans rfl
              have hcz19_3 : wc.cell? ⟨gb146, 3, none⟩ = some (.int .i64 a0_3) := (blk_cell BK146.out 3).trans rfl
              have hcz19_4 : wc.cell? ⟨gb146, 4, none⟩ = some (.string a0_4) := (blk_cell BK146.out 4).trans rfl
              have hcz19_5 : wc.cell? ⟨gb146, 5, none⟩ = some (.int .i64 a0_5) := (blk_cell BK146.out 5).trans rfl
              have hcz19_6 : wc.cell? ⟨gb146, 6, none⟩ = some (.string a0_6) := (blk_cell BK146.out 6).trans rfl
              have hfz19_0 := blk_frozen BK146.out 0
              have hfz19_1 := blk_frozen BK146.out 1
              have hfz19_2 := blk_frozen BK146.out 2
              have hfz19_3 := blk_frozen BK146.out 3
              have hfz19_4 := blk_frozen BK146.out 4
              have hfz19_5 := blk_frozen BK146.out 5
              have hfz19_6 := blk_frozen BK146.out 6
              go_wp2_with (first | ((with_reducible refine gate_callee (f := 57) rfl ?_); refine goesL_ (some 25) rfl rfl Try.func57 (by kernel_rfl) rfl #[.int .i64 a0_3] rfl (by (try simp only [List.map_toArray, List.map_cons, List.map_nil]); first | done | rfl | (simp only [List.length_drop, List.length_take]; rfl)) ?_; (with_reducible refine (spec_l1Id.calls a0_3 false _ A15.out).mono ?_); rintro e w' ⟨rfl, ⟨nd, rfl⟩⟩; refine ⟨_, rfl, ?_⟩))
              go_meet
              case rel => exact ⟨_, (false), (by first | rfl | (simp; done) | (simp [*]; done)), H', ⟨by have := HJ1.out; have := HJ7.out; first | omega | exact Nat.le_refl _⟩, ⟨by (with_reducible repeat (first | refine blk_drewN ?_ _ | refine blk_drew ?_ | refine blk_alloc ?_ _)); exact BK146.out⟩, ⟨by repeat (first | (with_reducible first | exact HB.out | apply below_alloc | apply pw_below_drewN | apply below_drew1 | refine below_set ?_ GE146.out) | exact HB.out)⟩⟩
          case rest =>
            clear HC14
            try clear c1
            try clear c2
            try clear p2
            try clear c4
            try clear c4b0
            try clear c5
            try clear c10
            try clear c16
            try clear hcz12_0
            try clear hcz12_1
            try clear hcz12_2
            try clear hcz12_3
            try clear hcz12_4
            try clear hcz12_5
            try clear hcz12_6
            try clear hcz13_0
            try clear hcz13_1
            try clear hcz13_2
            try clear hcz13_3
            try clear hcz13_4
            try clear hcz13_5
            try clear hcz13_6
            try clear hcz18_0
            try clear hcz18_1
            try clear hcz18_2
            try clear hcz18_3
            try clear hcz18_4
            try clear hcz18_5
            try clear hcz18_6
            try clear hcz19_0
            try clear hcz19_1
            try clear hcz19_2
            try clear hcz19_3
            try clear hcz19_4
            try clear hcz19_5
            try clear hcz19_6
            try clear hcz6_0
            try clear hcz6_1
            try clear hcz6_2
            try clear hcz6_3
            try clear hcz6_4
            try clear hcz6_5
            try clear hcz6_6
            try clear hcz7_0
            try clear hcz7_1
            try clear hcz7_2
            try clear hcz7_3
            try clear hcz7_4
            try clear hcz7_5
            try clear hcz7_6
            try clear hfz12_0
            try clear hfz12_1
            try clear hfz12_2
            try clear hfz12_3
            try clear hfz12_4
            try clear hfz12_5
            try clear hfz12_6
            try clear hfz13_0
            try clear hfz13_1
            try clear hfz13_2
            try clear hfz13_3
            try clear hfz13_4
            try clear hfz13_5
            try clear hfz13_6
            try clear hfz18_0
            try clear hfz18_1
            try clear hfz18_2
            try clear hfz18_3
            try clear hfz18_4
            try clear hfz18_5
            try clear hfz18_6
            try clear hfz19_0
            try clear hfz19_1
            try clear hfz19_2
            try clear hfz19_3
            try clear hfz19_4
            try clear hfz19_5
            try clear hfz19_6
            try clear hfz6_0
            try clear hfz6_1
            try clear hfz6_2
            try clear hfz6_3
            try clear hfz6_4
            try clear hfz6_5
            try clear hfz6_6
            try clear hfz7_0
            try clear hfz7_1
            try clear hfz7_2
            try clear hfz7_3
            try clear hfz7_4
            try clear hfz7_5
            try clear hfz7_6
            try clear p2
            obtain ⟨kq, x5_13, rfl, HA, HJ13, BK146, HB⟩ := hcut
            cases kq with
            | zero => exact absurd HA.out (by simp [spec_OpOk.j2])
            | succ kj13 =>
              have H := HA.out
              clear HA
              simp only [spec_OpOk.j2] at H
              have HC20 := Aside0.mk H
              clear H
              go_upto_region 4 with (fail)
              go_cut [6] (fun v6 wc => ∃ (kq : Nat) (x6_19 : Bool), v6 = .bool x6_19 ∧ Aside0 (spec_OpOk.j3 kq x3_1 x4_7 x5_13 x6_19 a0_0 a0_1 a0_2 a0_3 a0_4 a0_5 a0_6 = some r) ∧ Aside0 (kq ≤ kj13) ∧ Aside0 (wc.heap[gb146]? = some (.cells #[.int .i64 a0_0, .int .i64 a0_1, .string a0_2, .int .i64 a0_3, .string a0_4, .int .i64 a0_5, .string a0_6] 31 (0, 0))) ∧ Aside0 (Below w.heap.size w wc))
              case first =>
                have H := HC20.out
                clear HC20
                by_cases c21 : a0_3 = 0
                · rw [if_pos c21] at H
                  have c21b0 : (a0_3 == 0) = true := beq_iff_eq.mpr c21
                  have c21b1 : (a0_3 != 0) = false := bne_eq_false_iff_eq.mpr c21
                  clear c21
                  (first | rw [c21b0] | (simp only [i64_w, i32_w]; rw [c21b0]) | skip)
                  have H' := Aside0.mk H
                  clear H
                  have hcz22_0 : wc.cell? ⟨gb146, 0, none⟩ = some (.int .i64 a0_0) := (blk_cell BK146.out 0).trans rfl
                  have hcz22_1 : wc.cell? ⟨gb146, 1, none⟩ = some (.int .i64 a0_1) := (blk_cell BK146.out 1).trans rfl
                  have hcz22_2 : wc.cell? ⟨gb146, 2, none⟩ = some (.string a0_2) := (blk_cell BK146.out 2).trans rfl
                  have hcz22_3 : wc.cell? ⟨gb146, 3, none⟩ = some (.int .i64 a0_3) := (blk_cell BK146.out 3).trans rfl
                  have hcz22_4 : wc.cell? ⟨gb146, 4, none⟩ = some (.string a0_4) := (blk_cell BK146.out 4).trans rfl
                  have hcz22_5 : wc.cell? ⟨gb146, 5, none⟩ = some (.int .i64 a0_5) := (blk_cell BK146.out 5).trans rfl
                  have hcz22_6 : wc.cell? ⟨gb146, 6, none⟩ = some (.string a0_6) := (blk_cell BK146.out 6).trans rfl
                  have hfz22_0 := blk_frozen BK146.out 0
                  have hfz22_1 := blk_frozen BK146.out 1
                  have hfz22_2 := blk_frozen BK146.out 2
                  have hfz22_3 := blk_frozen BK146.out 3
                  have hfz22_4 := blk_frozen BK146.out 4
                  have hfz22_5 := blk_frozen BK146.out 5
                  have hfz22_6 := blk_frozen BK146.out 6
                  go_wp2
                  go_meet
                  case rel => exact ⟨_, ((a0_4.toList == ([] : List UInt8))), (by first | rfl | (simp; done) | (simp [*]; done)), H', ⟨by have := HJ1.out; have := HJ7.out; have := HJ13.out; first | omega | exact Nat.le_refl _⟩, ⟨by (with_reducible repeat (first | refine blk_drewN ?_ _ | refine blk_drew ?_ | refine blk_alloc ?_ _)); exact BK146.out⟩, ⟨by repeat (first | (with_reducible first | exact HB.out | apply below_alloc | apply pw_below_drewN | apply below_drew1 | refine below_set ?_ GE146.out) | exact HB.out)⟩⟩
                · rw [if_neg c21] at H
                  have c21b0 : (a0_3 == 0) = false := beq_eq_false_iff_ne.mpr c21
                  have c21b1 : (a0_3 != 0) = true := bne_iff_ne.mpr c21
                  (first | rw [c21b0] | (simp only [i64_w, i32_w]; rw [c21b0]) | skip)
                  have H' := Aside0.mk H
                  clear H
                  have hcz23_0 : wc.cell? ⟨gb146, 0, none⟩ = some (.int .i64 a0_0) := (blk_cell BK146.out 0).trans rfl
                  have hcz23_1 : wc.cell? ⟨gb146, 1, none⟩ = some (.int .i64 a0_1) := (blk_cell BK146.out 1).trans rfl
                  have hcz23_2 : wc.cell? ⟨gb146, 2, none⟩ = some (.string a0_2) := (blk_cell BK146.out 2).trans rfl
                  have hcz23_3 : wc.cell? ⟨gb146, 3, none⟩ = some (.int .i64 a0_3) := (blk_cell BK146.out 3).trans rfl
                  have hcz23_4 : wc.cell? ⟨gb146, 4, none⟩ = some (.string a0_4) := (blk_cell BK146.out 4).trans rfl
                  have hcz23_5 : wc.cell? ⟨gb146, 5, none⟩ = some (.int .i64 a0_5) := (blk_cell BK146.out 5).trans rfl
                  have hcz23_6 : wc.cell? ⟨gb146, 6, none⟩ = some (.string a0_6) := (blk_cell BK146.out 6).trans rfl
                  have hfz23_0 := blk_frozen BK146.out 0
                  have hfz23_1 := blk_frozen BK146.out 1
                  have hfz23_2 := blk_frozen BK146.out 2
                  have hfz23_3 := blk_frozen BK146.out 3
                  have hfz23_4 := blk_frozen BK146.out 4
                  have hfz23_5 := blk_frozen BK146.out 5
                  have hfz23_6 := blk_frozen BK146.out 6
                  go_wp2
                  go_meet
                  case rel => exact ⟨_, (false), (by first | rfl | (simp; done) | (simp [*]; done)), H', ⟨by have := HJ1.out; have := HJ7.out; have := HJ13.out; first | omega | exact Nat.le_refl _⟩, ⟨by (with_reducible repeat (first | refine blk_drewN ?_ _ | refine blk_drew ?_ | refine blk_alloc ?_ _)); exact BK146.out⟩, ⟨by repeat (first | (with_reducible first | exact HB.out | apply below_alloc | apply pw_below_drewN | apply below_drew1 | refine below_set ?_ GE146.out) | exact HB.out)⟩⟩
              case rest =>
                clear HC20
                try clear c1
                try clear c2
                try clear p2
                try clear c4
                try clear c4b0
                try clear c5
                try clear c10
                try clear c16
                try clear c21
                try clear c21b0
                try clear c21b1
                try clear c22
                try clear hcz12_0
                try clear hcz12_1
                try clear hcz12_2
                try clear hcz12_3
                try clear hcz12_4
                try clear hcz12_5
                try clear hcz12_6
                try clear hcz13_0
                try clear hcz13_1
                try clear hcz13_2
                try clear hcz13_3
                try clear hcz13_4
                try clear hcz13_5
                try clear hcz13_6
                try clear hcz18_0
                try clear hcz18_1
                try clear hcz18_2
                try clear hcz18_3
                try clear hcz18_4
                try clear hcz18_5
                try clear hcz18_6
                try clear hcz19_0
                try clear hcz19_1
                try clear hcz19_2
                try clear hcz19_3
                try clear hcz19_4
                try clear hcz19_5
                try clear hcz19_6
                try clear hcz22_0
                try clear hcz22_1
                try clear hcz22_2
                try clear hcz22_3
                try clear hcz22_4
                try clear hcz22_5
                try clear hcz22_6
                try clear hcz23_0
                try clear hcz23_1
                try clear hcz23_2
                try clear hcz23_3
                try clear hcz23_4
                try clear hcz23_5
                try clear hcz23_6
                try clear hcz6_0
                try clear hcz6_1
                try clear hcz6_2
                try clear hcz6_3
                try clear hcz6_4
                try clear hcz6_5
                try clear hcz6_6
                try clear hcz7_0
                try clear hcz7_1
                try clear hcz7_2
                try clear hcz7_3
                try clear hcz7_4
                try clear hcz7_5
                try clear hcz7_6
                try clear hfz12_0
                try clear hfz12_1
                try clear hfz12_2
                try clear hfz12_3
                try clear hfz12_4
                try clear hfz12_5
                try clear hfz12_6
                try clear hfz13_0
                try clear hfz13_1
                try clear hfz13_2
                try clear hfz13_3
                try clear hfz13_4
                try clear hfz13_5
                try clear hfz13_6
                try clear hfz18_0
                try clear hfz18_1
                try clear hfz18_2
                try clear hfz18_3
                try clear hfz18_4
                try clear hfz18_5
                try clear hfz18_6
                try clear hfz19_0
                try clear hfz19_1
                try clear hfz19_2
                try clear hfz19_3
                try clear hfz19_4
                try clear hfz19_5
                try clear hfz19_6
                try clear hfz22_0
                try clear hfz22_1
                try clear hfz22_2
                try clear hfz22_3
                try clear hfz22_4
                try clear hfz22_5
                try clear hfz22_6
                try clear hfz23_0
                try clear hfz23_1
                try clear hfz23_2
                try clear hfz23_3
                try clear hfz23_4
                try clear hfz23_5
                try clear hfz23_6
                try clear hfz6_0
                try clear hfz6_1
                try clear hfz6_2
                try clear hfz6_3
                try clear hfz6_4
                try clear hfz6_5
                try clear hfz6_6
                try clear hfz7_0
                try clear hfz7_1
                try clear hfz7_2
                try clear hfz7_3
                try clear hfz7_4
                try clear hfz7_5
                try clear hfz7_6
                try clear p2
                obtain ⟨kq, x6_19, rfl, HA, HJ19, BK146, HB⟩ := hcut
                cases kq with
                | zero => exact absurd HA.out (by simp [spec_OpOk.j3])
                | succ kj19 =>
                  have H := HA.out
                  clear HA
                  simp only [spec_OpOk.j3] at H
                  have HC24 := Aside0.mk H
                  clear H
                  have hcz25_0 : wc.cell? ⟨gb146, 0, none⟩ = some (.int .i64 a0_0) := (blk_cell BK146.out 0).trans rfl
                  have hcz25_1 : wc.cell? ⟨gb146, 1, none⟩ = some (.int .i64 a0_1) := (blk_cell BK146.out 1).trans rfl
                  have hcz25_2 : wc.cell? ⟨gb146, 2, none⟩ = some (.string a0_2) := (blk_cell BK146.out 2).trans rfl
                  have hcz25_3 : wc.cell? ⟨gb146, 3, none⟩ = some (.int .i64 a0_3) := (blk_cell BK146.out 3).trans rfl
                  have hcz25_4 : wc.cell? ⟨gb146, 4, none⟩ = some (.string a0_4) := (blk_cell BK146.out 4).trans rfl
                  have hcz25_5 : wc.cell? ⟨gb146, 5, none⟩ = some (.int .i64 a0_5) := (blk_cell BK146.out 5).trans rfl
                  have hcz25_6 : wc.cell? ⟨gb146, 6, none⟩ = some (.string a0_6) := (blk_cell BK146.out 6).trans rfl
                  have hfz25_0 := blk_frozen BK146.out 0
                  have hfz25_1 := blk_frozen BK146.out 1
                  have hfz25_2 := blk_frozen BK146.out 2
                  have hfz25_3 := blk_frozen BK146.out 3
                  have hfz25_4 := blk_frozen BK146.out 4
                  have hfz25_5 := blk_frozen BK146.out 5
                  have hfz25_6 := blk_frozen BK146.out 6
                  go_upto_if 41 with (fail)
                  go_cut [41] (fun v41 wc => ∃ (kq : Nat) (x41_23 : Bool), v41 = .bool x41_23 ∧ Aside0 (spec_OpOk.j4 kq x3_1 x4_7 x5_13 x6_19 a0_0 x41_23 a0_0 a0_1 a0_2 a0_3 a0_4 a0_5 a0_6 = some r) ∧ Aside0 (kq ≤ kj19) ∧ Aside0 (wc.heap[gb146]? = some (.cells #[.int .i64 a0_0, .int .i64 a0_1, .string a0_2, .int .i64 a0_3, .string a0_4, .int .i64 a0_5, .string a0_6] 31 (0, 0))) ∧ Aside0 (Below w.heap.size w wc))
                  case first =>
                    have H := HC24.out
                    clear HC24
                    by_cases c26 : a0_0 = 1
                    · rw [if_pos c26] at H
                      have c26b0 : (a0_0 == 1) = true := beq_iff_eq.mpr c26
                      have c26b1 : (a0_0 != 1) = false := bne_eq_false_iff_eq.mpr c26
                      clear c26
                      (first | rw [c26b0] | (simp only [i64_w, i32_w]; rw [c26b0]) | skip)
                      have H' := Aside0.mk H
                      clear H
                      go_wp2
                      go_meet
                      case rel => exact ⟨_, ((a0_0 == 1)), (by first | rfl | (simp; done) | (simp [*]; done)), H', ⟨by have := HJ1.out; have := HJ7.out; have := HJ13.out; have := HJ19.out; first | omega | exact Nat.le_refl _⟩, ⟨by (with_reducible repeat (first | refine blk_drewN ?_ _ | refine blk_drew ?_ | refine blk_alloc ?_ _)); exact BK146.out⟩, ⟨by repeat (first | (with_reducible first | exact HB.out | apply below_alloc | apply pw_below_drewN | apply below_drew1 | refine below_set ?_ GE146.out) | exact HB.out)⟩⟩
                    · rw [if_neg c26] at H
                      have c26b0 : (a0_0 == 1) = false := beq_eq_false_iff_ne.mpr c26
                      have c26b1 : (a0_0 != 1) = true := bne_iff_ne.mpr c26
                      (first | rw [c26b0] | (simp only [i64_w, i32_w]; rw [c26b0]) | skip)
                      by_cases c27 : a0_0 = 2
                      · rw [if_pos c27] at H
                        have c27b0 : (a0_0 == 2) = true := beq_iff_eq.mpr c27
                        have c27b1 : (a0_0 != 2) = false := bne_eq_false_iff_eq.mpr c27
                        clear c27
                        have H' := Aside0.mk H
                        clear H
                        go_wp2
                        go_meet
                        case rel => exact ⟨_, ((a0_0 == 2)), (by first | rfl | (simp; done) | (simp [*]; done)), H', ⟨by have := HJ1.out; have := HJ7.out; have := HJ13.out; have := HJ19.out; first | omega | exact Nat.le_refl _⟩, ⟨by (with_reducible repeat (first | refine blk_drewN ?_ _ | refine blk_drew ?_ | refine blk_alloc ?_ _)); exact BK146.out⟩, ⟨by repeat (first | (with_reducible first | exact HB.out | apply below_alloc | apply pw_below_drewN | apply below_drew1 | refine below_set ?_ GE146.out) | exact HB.out)⟩⟩
                      · rw [if_neg c27] at H
                        have c27b0 : (a0_0 == 2) = false := beq_eq_false_iff_ne.mpr c27
                        have c27b1 : (a0_0 != 2) = true := bne_iff_ne.mpr c27
                        have H' := Aside0.mk H
                        clear H
                        go_wp2
                        go_meet
                        case rel => exact ⟨_, ((a0_0 == 3)), (by first | rfl | (simp; done) | (simp [*]; done)), H', ⟨by have := HJ1.out; have := HJ7.out; have := HJ13.out; have := HJ19.out; first | omega | exact Nat.le_refl _⟩, ⟨by (with_reducible repeat (first | refine blk_drewN ?_ _ | refine blk_drew ?_ | refine blk_alloc ?_ _)); exact BK146.out⟩, ⟨by repeat (first | (with_reducible first | exact HB.out | apply below_alloc | apply pw_below_drewN | apply below_drew1 | refine below_set ?_ GE146.out) | exact HB.out)⟩⟩
                  case rest =>
                    clear HC24
                    try clear c1
                    try clear c2
                    try clear p2
                    try clear c4
                    try clear c4b0
                    try clear c5
                    try clear c10
                    try clear c16
                    try clear c21
                    try clear c21b0
                    try clear c21b1
                    try clear c22
                    try clear c26
                    try clear c26b0
                    try clear c26b1
                    try clear c27
                    try clear c27b0
                    try clear c27b1
                    try clear hcz12_0
                    try clear hcz12_1
                    try clear hcz12_2
                    try clear hcz12_3
                    try clear hcz12_4
                    try clear hcz12_5
                    try clear hcz12_6
                    try clear hcz13_0
                    try clear hcz13_1
                    try clear hcz13_2
                    try clear hcz13_3
                    try clear hcz13_4
                    try clear hcz13_5
                    try clear hcz13_6
                    try clear hcz18_0
                    try clear hcz18_1
                    try clear hcz18_2
                    try clear hcz18_3
                    try clear hcz18_4
                    try clear hcz18_5
                    try clear hcz18_6
                    try clear hcz19_0
                    try clear hcz19_1
                    try clear hcz19_2
                    try clear hcz19_3
                    try clear hcz19_4
                    try clear hcz19_5
                    try clear hcz19_6
                    try clear hcz22_0
                    try clear hcz22_1
                    try clear hcz22_2
                    try clear hcz22_3
                    try clear hcz22_4
                    try clear hcz22_5
                    try clear hcz22_6
                    try clear hcz23_0
                    try clear hcz23_1
                    try clear hcz23_2
                    try clear hcz23_3
                    try clear hcz23_4
                    try clear hcz23_5
                    try clear hcz23_6
                    try clear hcz25_0
                    try clear hcz25_1
                    try clear hcz25_2
                    try clear hcz25_3
                    try clear hcz25_4
                    try clear hcz25_5
                    try clear hcz25_6
                    try clear hcz6_0
                    try clear hcz6_1
                    try clear hcz6_2
                    try clear hcz6_3
                    try clear hcz6_4
                    try clear hcz6_5
                    try clear hcz6_6
                    try clear hcz7_0
                    try clear hcz7_1
                    try clear hcz7_2
                    try clear hcz7_3
                    try clear hcz7_4
                    try clear hcz7_5
                    try clear hcz7_6
                    try clear hfz12_0
                    try clear hfz12_1
                    try clear hfz12_2
                    try clear hfz12_3
                    try clear hfz12_4
                    try clear hfz12_5
                    try clear hfz12_6
                    try clear hfz13_0
                    try clear hfz13_1
                    try clear hfz13_2
                    try clear hfz13_3
                    try clear hfz13_4
                    try clear hfz13_5
                    try clear hfz13_6
                    try clear hfz18_0
                    try clear hfz18_1
                    try clear hfz18_2
                    try clear hfz18_3
                    try clear hfz18_4
                    try clear hfz18_5
                    try clear hfz18_6
                    try clear hfz19_0
                    try clear hfz19_1
                    try clear hfz19_2
                    try clear hfz19_3
                    try clear hfz19_4
                    try clear hfz19_5
                    try clear hfz19_6
                    try clear hfz22_0
                    try clear hfz22_1
                    try clear hfz22_2
                    try clear hfz22_3
                    try clear hfz22_4
                    try clear hfz22_5
                    try clear hfz22_6
                    try clear hfz23_0
                    try clear hfz23_1
                    try clear hfz23_2
                    try clear hfz23_3
                    try clear hfz23_4
                    try clear hfz23_5
                    try clear hfz23_6
                    try clear hfz25_0
                    try clear hfz25_1
                    try clear hfz25_2
                    try clear hfz25_3
                    try clear hfz25_4
                    try clear hfz25_5
                    try clear hfz25_6
                    try clear hfz6_0
                    try clear hfz6_1
                    try clear hfz6_2
                    try clear hfz6_3
                    try clear hfz6_4
                    try clear hfz6_5
                    try clear hfz6_6
                    try clear hfz7_0
                    try clear hfz7_1
                    try clear hfz7_2
                    try clear hfz7_3
                    try clear hfz7_4
                    try clear hfz7_5
                    try clear hfz7_6
                    try clear p2
                    obtain ⟨kq, x41_23, rfl, HA, HJ23, BK146, HB⟩ := hcut
                    cases kq with
                    | zero => exact absurd HA.out (by simp [spec_OpOk.j4])
                    | succ kj23 =>
                      have H := HA.out
                      clear HA
                      simp only [spec_OpOk.j4] at H
                      by_cases c28 : x41_23 = true
                      · subst c28
                        have H1 : (if x3_1 = true then (if x4_7 = true then (if x6_19 = true then (some (a0_6.toList == ([] : List UInt8))) else (some false)) else (some false)) else (some false)) = some r := by rw [if_pos rfl] at H; exact H
                        clear H
                        have H := H1
                        clear H1
                        by_cases c29 : x3_1 = true
                        · subst c29
                          have H1 : (if x4_7 = true then (if x6_19 = true then (some (a0_6.toList == ([] : List UInt8))) else (some false)) else (some false)) = some r := by rw [if_pos rfl] at H; exact H
                          clear H
                          have H := H1
                          clear H1
                          by_cases c30 : x4_7 = true
                          · subst c30
                            have H1 : (if x6_19 = true then (some (a0_6.toList == ([] : List UInt8))) else (some false)) = some r := by rw [if_pos rfl] at H; exact H
                            clear H
                            have H := H1
                            clear H1
                            by_cases c31 : x6_19 = true
                            · subst c31
                              have H1 : (some (a0_6.toList == ([] : List UInt8))) = some r := by rw [if_pos rfl] at H; exact H
                              clear H
                              have H := H1
                              clear H1
                              obtain rfl := Option.some.inj H
                              have hcz32_0 : wc.cell? ⟨gb146, 0, none⟩ = some (.int .i64 a0_0) := (blk_cell BK146.out 0).trans rfl
                              have hcz32_1 : wc.cell? ⟨gb146, 1, none⟩ = some (.int .i64 a0_1) := (blk_cell BK146.out 1).trans rfl
                              have hcz32_2 : wc.cell? ⟨gb146, 2, none⟩ = some (.string a0_2) := (blk_cell BK146.out 2).trans rfl
                              have hcz32_3 : wc.cell? ⟨gb146, 3, none⟩ = some (.int .i64 a0_3) := (blk_cell BK146.out 3).trans rfl
                              have hcz32_4 : wc.cell? ⟨gb146, 4, none⟩ = some (.string a0_4) := (blk_cell BK146.out 4).trans rfl
                              have hcz32_5 : wc.cell? ⟨gb146, 5, none⟩ = some (.int .i64 a0_5) := (blk_cell BK146.out 5).trans rfl
                              have hcz32_6 : wc.cell? ⟨gb146, 6, none⟩ = some (.string a0_6) := (blk_cell BK146.out 6).trans rfl
                              have hfz32_0 := blk_frozen BK146.out 0
                              have hfz32_1 := blk_frozen BK146.out 1
                              have hfz32_2 := blk_frozen BK146.out 2
                              have hfz32_3 := blk_frozen BK146.out 3
                              have hfz32_4 := blk_frozen BK146.out 4
                              have hfz32_5 := blk_frozen BK146.out 5
                              have hfz32_6 := blk_frozen BK146.out 6
                              go_wp2
                              go_ret
                              exact ⟨by first | rfl | (simp [errW_none, errW_some] <;> rfl) | (simp [*, errW_none, errW_some] <;> rfl), by repeat (first | (with_reducible first | exact HB.out | apply below_alloc | apply pw_below_drewN | apply below_drew1 | refine below_set ?_ GE146.out) | exact HB.out)⟩
                            · replace c31 := Bool.eq_false_iff.mpr c31
                              subst c31
                              have H1 : (some false) = some r := by rw [if_neg (show ¬ (false = true) by decide)] at H; exact H
                              clear H
                              have H := H1
                              clear H1
                              obtain rfl := Option.some.inj H
                              go_wp2
                              go_ret
                              exact ⟨by first | rfl | (simp [errW_none, errW_some] <;> rfl) | (simp [*, errW_none, errW_some] <;> rfl), by repeat (first | (with_reducible first | exact HB.out | apply below_alloc | apply pw_below_drewN | apply below_drew1 | refine below_set ?_ GE146.out) | exact HB.out)⟩
                          · replace c30 := Bool.eq_false_iff.mpr c30
                            subst c30
                            have H1 : (some false) = some r := by rw [if_neg (show ¬ (false = true) by decide)] at H; exact H
                            clear H
                            have H := H1
                            clear H1
                            obtain rfl := Option.some.inj H
                            go_wp2
                            go_ret
                            exact ⟨by first | rfl | (simp [errW_none, errW_some] <;> rfl) | (simp [*, errW_none, errW_some] <;> rfl), by repeat (first | (with_reducible first | exact HB.out | apply below_alloc | apply pw_below_drewN | apply below_drew1 | refine below_set ?_ GE146.out) | exact HB.out)⟩
                        · replace c29 := Bool.eq_false_iff.mpr c29
                          subst c29
                          have H1 : (some false) = some r := by rw [if_neg (show ¬ (false = true) by decide)] at H; exact H
                          clear H
                          have H := H1
                          clear H1
                          obtain rfl := Option.some.inj H
                          go_wp2
                          go_ret
                          exact ⟨by first | rfl | (simp [errW_none, errW_some] <;> rfl) | (simp [*, errW_none, errW_some] <;> rfl), by repeat (first | (with_reducible first | exact HB.out | apply below_alloc | apply pw_below_drewN | apply below_drew1 | refine below_set ?_ GE146.out) | exact HB.out)⟩
                      · replace c28 := Bool.eq_false_iff.mpr c28
                        subst c28
                        have H1 : (if a0_0 = 4 then (if x3_1 = true then (if x4_7 = true then (if x5_13 = true then (some (a0_6.toList == ([] : List UInt8))) else (some false)) else (some false)) else (some false)) else (if a0_0 = 5 then (if x3_1 = true then (if a0_1 = 0 then (if a0_2.toList = ([] : List UInt8) then (if x6_19 = true then ((spec_TreeBody.f kj23 a0_6).bind fun t152 => (some t152)) else (some false)) else (some false)) else (some false)) else (some false)) else (some false))) = some r := by rw [if_neg (show ¬ (false = true) by decide)] at H; exact H
                        clear H
                        have H := H1
                        clear H1
                        by_cases c33 : a0_0 = 4
                        · rw [if_pos c33] at H
                          have c33b0 : (a0_0 == 4) = true := beq_iff_eq.mpr c33
                          have c33b1 : (a0_0 != 4) = false := bne_eq_false_iff_eq.mpr c33
                          clear c33
                          by_cases c34 : x3_1 = true
                          · subst c34
                            have H1 : (if x4_7 = true then (if x5_13 = true then (some (a0_6.toList == ([] : List UInt8))) else (some false)) else (some false)) = some r := by rw [if_pos rfl] at H; exact H
                            clear H
                            have H := H1
                            clear H1
                            by_cases c35 : x4_7 = true
                            · subst c35
                              have H1 : (if x5_13 = true then (some (a0_6.toList == ([] : List UInt8))) else (some false)) = some r := by rw [if_pos rfl] at H; exact H
                              clear H
                              have H := H1
                              clear H1
                              by_cases c36 : x5_13 = true
                              · subst c36
                                have H1 : (some (a0_6.toList == ([] : List UInt8))) = some r := by rw [if_pos rfl] at H; exact H
                                clear H
                                have H := H1
                                clear H1
                                obtain rfl := Option.some.inj H
                                have hcz37_0 : wc.cell? ⟨gb146, 0, none⟩ = some (.int .i64 a0_0) := (blk_cell BK146.out 0).trans rfl
                                have hcz37_1 : wc.cell? ⟨gb146, 1, none⟩ = some (.int .i64 a0_1) := (blk_cell BK146.out 1).trans rfl
                                have hcz37_2 : wc.cell? ⟨gb146, 2, none⟩ = some (.string a0_2) := (blk_cell BK146.out 2).trans rfl
                                have hcz37_3 : wc.cell? ⟨gb146, 3, none⟩ = some (.int .i64 a0_3) := (blk_cell BK146.out 3).trans rfl
                                have hcz37_4 : wc.cell? ⟨gb146, 4, none⟩ = some (.string a0_4) := (blk_cell BK146.out 4).trans rfl
                                have hcz37_5 : wc.cell? ⟨gb146, 5, none⟩ = some (.int .i64 a0_5) := (blk_cell BK146.out 5).trans rfl
                                have hcz37_6 : wc.cell? ⟨gb146, 6, none⟩ = some (.string a0_6) := (blk_cell BK146.out 6).trans rfl
                                have hfz37_0 := blk_frozen BK146.out 0
                                have hfz37_1 := blk_frozen BK146.out 1
                                have hfz37_2 := blk_frozen BK146.out 2
                                have hfz37_3 := blk_frozen BK146.out 3
                                have hfz37_4 := blk_frozen BK146.out 4
                                have hfz37_5 := blk_frozen BK146.out 5
                                have hfz37_6 := blk_frozen BK146.out 6
                                go_wp2
                                go_ret
                                exact ⟨by first | rfl | (simp [errW_none, errW_some] <;> rfl) | (simp [*, errW_none, errW_some] <;> rfl), by repeat (first | (with_reducible first | exact HB.out | apply below_alloc | apply pw_below_drewN | apply below_drew1 | refine below_set ?_ GE146.out) | exact HB.out)⟩
                              · replace c36 := Bool.eq_false_iff.mpr c36
                                subst c36
                                have H1 : (some false) = some r := by rw [if_neg (show ¬ (false = true) by decide)] at H; exact H
                                clear H
                                have H := H1
                                clear H1
                                obtain rfl := Option.some.inj H
                                go_wp2
                                go_ret
                                exact ⟨by first | rfl | (simp [errW_none, errW_some] <;> rfl) | (simp [*, errW_none, errW_some] <;> rfl), by repeat (first | (with_reducible first | exact HB.out | apply below_alloc | apply pw_below_drewN | apply below_drew1 | refine below_set ?_ GE146.out) | exact HB.out)⟩
                            · replace c35 := Bool.eq_false_iff.mpr c35
                              subst c35
                              have H1 : (some false) = some r := by rw [if_neg (show ¬ (false = true) by decide)] at H; exact H
                              clear H
                              have H := H1
                              clear H1
                              obtain rfl := Option.some.inj H
                              go_wp2
                              go_ret
                              exact ⟨by first | rfl | (simp [errW_none, errW_some] <;> rfl) | (simp [*, errW_none, errW_some] <;> rfl), by repeat (first | (with_reducible first | exact HB.out | apply below_alloc | apply pw_below_drewN | apply below_drew1 | refine below_set ?_ GE146.out) | exact HB.out)⟩
                          · replace c34 := Bool.eq_false_iff.mpr c34
                            subst c34
                            have H1 : (some false) = some r := by rw [if_neg (show ¬ (false = true) by decide)] at H; exact H
                            clear H
                            have H := H1
                            clear H1
                            obtain rfl := Option.some.inj H
                            go_wp2
                            go_ret
                            exact ⟨by first | rfl | (simp [errW_none, errW_some] <;> rfl) | (simp [*, errW_none, errW_some] <;> rfl), by repeat (first | (with_reducible first | exact HB.out | apply below_alloc | apply pw_below_drewN | apply below_drew1 | refine below_set ?_ GE146.out) | exact HB.out)⟩
                        · rw [if_neg c33] at H
                          have c33b0 : (a0_0 == 4) = false := beq_eq_false_iff_ne.mpr c33
                          have c33b1 : (a0_0 != 4) = true := bne_iff_ne.mpr c33
                          by_cases c38 : a0_0 = 5
                          · rw [if_pos c38] at H
                            have c38b0 : (a0_0 == 5) = true := beq_iff_eq.mpr c38
                            have c38b1 : (a0_0 != 5) = false := bne_eq_false_iff_eq.mpr c38
                            clear c38
                            by_cases c39 : x3_1 = true
                            · subst c39
                              have H1 : (if a0_1 = 0 then (if a0_2.toList = ([] : List UInt8) then (if x6_19 = true then ((spec_TreeBody.f kj23 a0_6).bind fun t152 => (some t152)) else (some false)) else (some false)) else (some false)) = some r := by rw [if_pos rfl] at H; exact H
                              clear H
                              have H := H1
                              clear H1
                              by_cases c40 : a0_1 = 0
                              · rw [if_pos c40] at H
                                have c40b0 : (a0_1 == 0) = true := beq_iff_eq.mpr c40
                                have c40b1 : (a0_1 != 0) = false := bne_eq_false_iff_eq.mpr c40
                                clear c40
                                by_cases c41 : a0_2.toList = ([] : List UInt8)
                                · rw [if_pos c41] at H
                                  have c41b0 : (a0_2.toList == ([] : List UInt8)) = true := beq_iff_eq.mpr c41
                                  have c41b1 : (a0_2.toList != ([] : List UInt8)) = false := bne_eq_false_iff_eq.mpr c41
                                  clear c41
                                  by_cases c42 : x6_19 = true
                                  · subst c42
                                    have H1 : ((spec_TreeBody.f kj23 a0_6).bind fun t152 => (some t152)) = some r := by rw [if_pos rfl] at H; exact H
                                    clear H
                                    have H := H1
                                    clear H1
                                    replace H := Option.bind_eq_some_iff.mp H
                                    obtain ⟨t152, A430, H⟩ := H
                                    replace H : (some t152) = some r := H
                                    have A43 := Aside0.mk A430
                                    clear A430
                                    obtain rfl := Option.some.inj H
                                    have hcz44_0 : wc.cell? ⟨gb146, 0, none⟩ = some (.int .i64 a0_0) := (blk_cell BK146.out 0).trans rfl
                                    have hcz44_1 : wc.cell? ⟨gb146, 1, none⟩ = some (.int .i64 a0_1) := (blk_cell BK146.out 1).trans rfl
                                    have hcz44_2 : wc.cell? ⟨gb146, 2, none⟩ = some (.string a0_2) := (blk_cell BK146.out 2).trans rfl
                                    have hcz44_3 : wc.cell? ⟨gb146, 3, none⟩ = some (.int .i64 a0_3) := (blk_cell BK146.out 3).trans rfl
                                    have hcz44_4 : wc.cell? ⟨gb146, 4, none⟩ = some (.string a0_4) := (blk_cell BK146.out 4).trans rfl
                                    have hcz44_5 : wc.cell? ⟨gb146, 5, none⟩ = some (.int .i64 a0_5) := (blk_cell BK146.out 5).trans rfl
                                    have hcz44_6 : wc.cell? ⟨gb146, 6, none⟩ = some (.string a0_6) := (blk_cell BK146.out 6).trans rfl
                                    have hfz44_0 := blk_frozen BK146.out 0
                                    have hfz44_1 := blk_frozen BK146.out 1
                                    have hfz44_2 := blk_frozen BK146.out 2
                                    have hfz44_3 := blk_frozen BK146.out 3
                                    have hfz44_4 := blk_frozen BK146.out 4
                                    have hfz44_5 := blk_frozen BK146.out 5
                                    have hfz44_6 := blk_frozen BK146.out 6
                                    go_wp2_with (first | (go_at_call 15; (with_reducible refine (spec_TreeBody.calls kj23 a0_6 t152 _ A43.out).mono ?_); rintro e w' ⟨rfl, ⟨nd, rfl⟩⟩))
                                    go_ret
                                    exact ⟨by first | rfl | (simp [errW_none, errW_some] <;> rfl) | (simp [*, errW_none, errW_some] <;> rfl), by repeat (first | (with_reducible first | exact HB.out | apply below_alloc | apply pw_below_drewN | apply below_drew1 | refine below_set ?_ GE146.out) | exact HB.out)⟩
                                  · replace c42 := Bool.eq_false_iff.mpr c42
                                    subst c42
                                    have H1 : (some false) = some r := by rw [if_neg (show ¬ (false = true) by decide)] at H; exact H
                                    clear H
                                    have H := H1
                                    clear H1
                                    obtain rfl := Option.some.inj H
                                    have hcz45_0 : wc.cell? ⟨gb146, 0, none⟩ = some (.int .i64 a0_0) := (blk_cell BK146.out 0).trans rfl
                                    have hcz45_1 : wc.cell? ⟨gb146, 1, none⟩ = some (.int .i64 a0_1) := (blk_cell BK146.out 1).trans rfl
                                    have hcz45_2 : wc.cell? ⟨gb146, 2, none⟩ = some (.string a0_2) := (blk_cell BK146.out 2).trans rfl
                                    have hcz45_3 : wc.cell? ⟨gb146, 3, none⟩ = some (.int .i64 a0_3) := (blk_cell BK146.out 3).trans rfl
                                    have hcz45_4 : wc.cell? ⟨gb146, 4, none⟩ = some (.string a0_4) := (blk_cell BK146.out 4).trans rfl
                                    have hcz45_5 : wc.cell? ⟨gb146, 5, none⟩ = some (.int .i64 a0_5) := (blk_cell BK146.out 5).trans rfl
                                    have hcz45_6 : wc.cell? ⟨gb146, 6, none⟩ = some (.string a0_6) := (blk_cell BK146.out 6).trans rfl
                                    have hfz45_0 := blk_frozen BK146.out 0
                                    have hfz45_1 := blk_frozen BK146.out 1
                                    have hfz45_2 := blk_frozen BK146.out 2
                                    have hfz45_3 := blk_frozen BK146.out 3
                                    have hfz45_4 := blk_frozen BK146.out 4
                                    have hfz45_5 := blk_frozen BK146.out 5
                                    have hfz45_6 := blk_frozen BK146.out 6
                                    go_wp2
                                    go_ret
                                    exact ⟨by first | rfl | (simp [errW_none, errW_some] <;> rfl) | (simp [*, errW_none, errW_some] <;> rfl), by repeat (first | (with_reducible first | exact HB.out | apply below_alloc | apply pw_below_drewN | apply below_drew1 | refine below_set ?_ GE146.out) | exact HB.out)⟩
                                · rw [if_neg c41] at H
                                  have c41b0 : (a0_2.toList == ([] : List UInt8)) = false := beq_eq_false_iff_ne.mpr c41
                                  have c41b1 : (a0_2.toList != ([] : List UInt8)) = true := bne_iff_ne.mpr c41
                                  obtain rfl := Option.some.inj H
                                  have hcz46_0 : wc.cell? ⟨gb146, 0, none⟩ = some (.int .i64 a0_0) := (blk_cell BK146.out 0).trans rfl
                                  have hcz46_1 : wc.cell? ⟨gb146, 1, none⟩ = some (.int .i64 a0_1) := (blk_cell BK146.out 1).trans rfl
                                  have hcz46_2 : wc.cell? ⟨gb146, 2, none⟩ = some (.string a0_2) := (blk_cell BK146.out 2).trans rfl
                                  have hcz46_3 : wc.cell? ⟨gb146, 3, none⟩ = some (.int .i64 a0_3) := (blk_cell BK146.out 3).trans rfl
                                  have hcz46_4 : wc.cell? ⟨gb146, 4, none⟩ = some (.string a0_4) := (blk_cell BK146.out 4).trans rfl
                                  have hcz46_5 : wc.cell? ⟨gb146, 5, none⟩ = some (.int .i64 a0_5) := (blk_cell BK146.out 5).trans rfl
                                  have hcz46_6 : wc.cell? ⟨gb146, 6, none⟩ = some (.string a0_6) := (blk_cell BK146.out 6).trans rfl
                                  have hfz46_0 := blk_frozen BK146.out 0
                                  have hfz46_1 := blk_frozen BK146.out 1
                                  have hfz46_2 := blk_frozen BK146.out 2
                                  have hfz46_3 := blk_frozen BK146.out 3
                                  have hfz46_4 := blk_frozen BK146.out 4
                                  have hfz46_5 := blk_frozen BK146.out 5
                                  have hfz46_6 := blk_frozen BK146.out 6
                                  go_wp2
                                  go_ret
                                  exact ⟨by first | rfl | (simp [errW_none, errW_some] <;> rfl) | (simp [*, errW_none, errW_some] <;> rfl), by repeat (first | (with_reducible first | exact HB.out | apply below_alloc | apply pw_below_drewN | apply below_drew1 | refine below_set ?_ GE146.out) | exact HB.out)⟩
                              · rw [if_neg c40] at H
                                have c40b0 : (a0_1 == 0) = false := beq_eq_false_iff_ne.mpr c40
                                have c40b1 : (a0_1 != 0) = true := bne_iff_ne.mpr c40
                                obtain rfl := Option.some.inj H
                                have hcz47_0 : wc.cell? ⟨gb146, 0, none⟩ = some (.int .i64 a0_0) := (blk_cell BK146.out 0).trans rfl
                                have hcz47_1 : wc.cell? ⟨gb146, 1, none⟩ = some (.int .i64 a0_1) := (blk_cell BK146.out 1).trans rfl
                                have hcz47_2 : wc.cell? ⟨gb146, 2, none⟩ = some (.string a0_2) := (blk_cell BK146.out 2).trans rfl
                                have hcz47_3 : wc.cell? ⟨gb146, 3, none⟩ = some (.int .i64 a0_3) := (blk_cell BK146.out 3).trans rfl
                                have hcz47_4 : wc.cell? ⟨gb146, 4, none⟩ = some (.string a0_4) := (blk_cell BK146.out 4).trans rfl
                                have hcz47_5 : wc.cell? ⟨gb146, 5, none⟩ = some (.int .i64 a0_5) := (blk_cell BK146.out 5).trans rfl
                                have hcz47_6 : wc.cell? ⟨gb146, 6, none⟩ = some (.string a0_6) := (blk_cell BK146.out 6).trans rfl
                                have hfz47_0 := blk_frozen BK146.out 0
                                have hfz47_1 := blk_frozen BK146.out 1
                                have hfz47_2 := blk_frozen BK146.out 2
                                have hfz47_3 := blk_frozen BK146.out 3
                                have hfz47_4 := blk_frozen BK146.out 4
                                have hfz47_5 := blk_frozen BK146.out 5
                                have hfz47_6 := blk_frozen BK146.out 6
                                go_wp2
                                go_ret
                                exact ⟨by first | rfl | (simp [errW_none, errW_some] <;> rfl) | (simp [*, errW_none, errW_some] <;> rfl), by repeat (first | (with_reducible first | exact HB.out | apply below_alloc | apply pw_below_drewN | apply below_drew1 | refine below_set ?_ GE146.out) | exact HB.out)⟩
                            · replace c39 := Bool.eq_false_iff.mpr c39
                              subst c39
                              have H1 : (some false) = some r := by rw [if_neg (show ¬ (false = true) by decide)] at H; exact H
                              clear H
                              have H := H1
                              clear H1
                              obtain rfl := Option.some.inj H
                              go_wp2
                              go_ret
                              exact ⟨by first | rfl | (simp [errW_none, errW_some] <;> rfl) | (simp [*, errW_none, errW_some] <;> rfl), by repeat (first | (with_reducible first | exact HB.out | apply below_alloc | apply pw_below_drewN | apply below_drew1 | refine below_set ?_ GE146.out) | exact HB.out)⟩
                          · rw [if_neg c38] at H
                            have c38b0 : (a0_0 == 5) = false := beq_eq_false_iff_ne.mpr c38
                            have c38b1 : (a0_0 != 5) = true := bne_iff_ne.mpr c38
                            obtain rfl := Option.some.inj H
                            go_wp2
                            go_ret
                            exact ⟨by first | rfl | (simp [errW_none, errW_some] <;> rfl) | (simp [*, errW_none, errW_some] <;> rfl), by repeat (first | (with_reducible first | exact HB.out | apply below_alloc | apply pw_below_drewN | apply below_drew1 | refine below_set ?_ GE146.out) | exact HB.out)⟩
end Go.Proofs.Ythmmleheahkeeaa.Q
namespace Go.Proofs.Ythmmleheahkeeaa.Q
open Go.RowKit Go.Proofs.YthmmleheahkeeaaW.PrintWords Go.Proofs.YthmmleheahkeeaaW.PrintLast Go.Proofs.YthmmleheahkeeaaW.PrintMore
attribute [local go_sem] max2_int min2_int max_two min_two max_three min_three max_four min_four   -- for this text's walks alone
set_option linter.unusedVariables false
set_option linter.unusedSimpArgs false
def spec_OpIds.f (k : Nat) (a0_0 : Int) (a0_1 : Int) (a0_2 : ByteArray) (a0_3 : Int) (a0_4 : ByteArray) (a0_5 : Int) (a0_6 : ByteArray) : Option (List Int) := (spec_OpOk.f k a0_0 a0_1 a0_2 a0_3 a0_4 a0_5 a0_6).bind fun t323 => (if t323 = true then ((some (([a0_5] : List Int) : List Int)).bind fun y327 => (if a0_0 = 5 then (if a0_0 = 4 then ((spec_l2Put.f k y327 a0_3).bind fun t330 => (some t330)) else (some y327)) else ((spec_l2Put.f k y327 a0_1).bind fun t333 => (if a0_0 = 4 then ((spec_l2Put.f k t333 a0_3).bind fun t336 => (some t336)) else (some t333))))) else (some (([] : List Int))))
set_option maxHeartbeats 8000000 in
set_option maxRecDepth 100000 in
theorem spec_OpIds.calls (k : Nat) (a0_0 : Int) (a0_1 : Int) (a0_2 : ByteArray) (a0_3 : Int) (a0_4 : ByteArray) (a0_5 : Int) (a0_6 : ByteArray) (r : List Int) (w : World) (h : spec_OpIds.f k a0_0 a0_1 a0_2 a0_3 a0_4 a0_5 a0_6 = some r) :
    Calls Try.prog 35 #[.agg #[.int .i64 a0_0, .int .i64 a0_1, .string a0_2, .int .i64 a0_3, .string a0_4, .int .i64 a0_5, .string a0_6]] w fun e w' => ∃ v0_ : Value, e = .returned (v0_) ∧ Kd.R (Kd.int .i64) 3 w' w.heap.size (fun _ => True) v0_ r ∧ Below w.heap.size w w' := by
  have hu31 := Try.underlying31
  have HB := Aside0.mk (Below.refl w.heap.size w)
  have H : ((spec_OpOk.f k a0_0 a0_1 a0_2 a0_3 a0_4 a0_5 a0_6).bind fun t323 => (if t323 = true then ((some (([a0_5] : List Int) : List Int)).bind fun y327 => (if a0_0 = 5 then (if a0_0 = 4 then ((spec_l2Put.f k y327 a0_3).bind fun t330 => (some t330)) else (some y327)) else ((spec_l2Put.f k y327 a0_1).bind fun t333 => (if a0_0 = 4 then ((spec_l2Put.f k t333 a0_3).bind fun t336 => (some t336)) else (some t333))))) else (some (([] : List Int))))) = some r := h
  clear h
  replace H := Option.bind_eq_some_iff.mp H
  obtain ⟨t323, A20, H⟩ := H
  replace H : (if t323 = true then ((some (([a0_5] : List Int) : List Int)).bind fun y327 => (if a0_0 = 5 then (if a0_0 = 4 then ((spec_l2Put.f k y327 a0_3).bind fun t330 => (some t330)) else (some y327)) else ((spec_l2Put.f k y327 a0_1).bind fun t333 => (if a0_0 = 4 then ((spec_l2Put.f k t333 a0_3).bind fun t336 => (some t336)) else (some t333))))) else (some (([] : List Int)))) = some r := H
  have A2 := Aside0.mk A20
  clear A20
  by_cases c3 : t323 = true
  · subst c3
    have H1 : ((some (([a0_5] : List Int) : List Int)).bind fun y327 => (if a0_0 = 5 then (if a0_0 = 4 then ((spec_l2Put.f k y327 a0_3).bind fun t330 => (some t330)) else (some y327)) else ((spec_l2Put.f k y327 a0_1).bind fun t333 => (if a0_0 = 4 then ((spec_l2Put.f k t333 a0_3).bind fun t336 => (some t336)) else (some t333))))) = some r := by rw [if_pos rfl] at H; exact H
    clear H
    have H := H1
    clear H1
    obtain ⟨y327, hy327⟩ : ∃ y_ : List Int, y_ = (([a0_5] : List Int)) := ⟨_, rfl⟩
    replace H : (if a0_0 = 5 then (if a0_0 = 4 then ((spec_l2Put.f k y327 a0_3).bind fun t330 => (some t330)) else (some y327)) else ((spec_l2Put.f k y327 a0_1).bind fun t333 => (if a0_0 = 4 then ((spec_l2Put.f k t333 a0_3).bind fun t336 => (some t336)) else (some t333)))) = some r := by first | (rw [hy327]; with_reducible exact H) | (have H2_ := (Option.bind_some _ _).symm.trans H; rw [hy327]; with_reducible exact H2_) | (have H2_ := (Option.bind_some _ _).symm.trans H; with_reducible exact H2_) | with_reducible exact H | (rw [hy327]; exact H) | exact H
    have Ny327 := Aside0.mk hy327
    clear hy327
    by_cases c4 : a0_0 = 5
    · rw [if_pos c4] at H
      have c4b0 : (a0_0 == 5) = true := beq_iff_eq.mpr c4
      have c4b1 : (a0_0 != 5) = false := bne_eq_false_iff_eq.mpr c4
      clear c4
      by_cases c5 : a0_0 = 4
      · rw [if_pos c5] at H
        have c5b0 : (a0_0 == 4) = true := beq_iff_eq.mpr c5
        have c5b1 : (a0_0 != 4) = false := bne_eq_false_iff_eq.mpr c5
        clear c5
        replace H := Option.bind_eq_some_iff.mp H
        obtain ⟨t330, A60, H⟩ := H
        replace H : (some t330) = some r := H
        have A6 := Aside0.mk A60
        clear A60
        obtain rfl := Option.some.inj H
        go_enter Try.func35, Try.ntmps35
        go_wp2_with (first | ((with_reducible refine gate_dst (N := 1) rfl ?_); refine box_event ?hg (N := 1) ?hd (cs := #[.int .i64 a0_0, .int .i64 a0_1, .string a0_2, .int .i64 a0_3, .string a0_4, .int .i64 a0_5, .string a0_6]) (t := 31) ?hr ?_; (case hd => rfl); (case hg => rfl); (case hr => first | (go_simp; done) | (go_simp; rfl)); intro gb322 hg w7 hbox hb; have n0_ := Aside0.mk (below_step (by repeat (first | (with_reducible first | exact HB.out | apply below_alloc | apply pw_below_drewN | apply below_drew1) | exact HB.out)) hb); have n1_ := Aside0.mk (hbox); have n2_ := Aside0.mk ((by rw [hg]; exact (below_size (by repeat (first | (with_reducible first | exact HB.out | apply below_alloc | apply pw_below_drewN | apply below_drew1) | exact HB.out))) : w.heap.size ≤ gb322)); have n3_ := Aside0.mk ((by rw [hg]; exact (below_size (by repeat (first | (with_reducible first | exact HB.out | apply below_alloc | apply pw_below_drewN | apply below_drew1) | exact HB.out))) : w.heap.size ≤ gb322)); clear HB; have HB := n0_; have BK322 := n1_; have GW322 := n2_; have GE322 := n3_; clear n0_ n1_ n2_ n3_; clear hb hbox hg; have hcz8_0 : w7.cell? ⟨gb322, 0, none⟩ = some (.int .i64 a0_0) := (blk_cell BK322.out 0).trans rfl; have hcz8_1 : w7.cell? ⟨gb322, 1, none⟩ = some (.int .i64 a0_1) := (blk_cell BK322.out 1).trans rfl; have hcz8_2 : w7.cell? ⟨gb322, 2, none⟩ = some (.string a0_2) := (blk_cell BK322.out 2).trans rfl; have hcz8_3 : w7.cell? ⟨gb322, 3, none⟩ = some (.int .i64 a0_3) := (blk_cell BK322.out 3).trans rfl; have hcz8_4 : w7.cell? ⟨gb322, 4, none⟩ = some (.string a0_4) := (blk_cell BK322.out 4).trans rfl; have hcz8_5 : w7.cell? ⟨gb322, 5, none⟩ = some (.int .i64 a0_5) := (blk_cell BK322.out 5).trans rfl; have hcz8_6 : w7.cell? ⟨gb322, 6, none⟩ = some (.string a0_6) := (blk_cell BK322.out 6).trans rfl; have hfz8_0 := blk_frozen BK322.out 0; have hfz8_1 := blk_frozen BK322.out 1; have hfz8_2 := blk_frozen BK322.out 2; have hfz8_3 := blk_frozen BK322.out 3; have hfz8_4 := blk_frozen BK322.out 4; have hfz8_5 := blk_frozen BK322.out 5; have hfz8_6 := blk_frozen BK322.out 6) | ((with_reducible refine gate_callee (f := 22) rfl ?_); refine goesL_ (some 5) rfl rfl Try.func22 (by kernel_rfl) rfl #[.agg #[.int .i64 a0_0, .int .i64 a0_1, .string a0_2, .int .i64 a0_3, .string a0_4, .int .i64 a0_5, .string a0_6]] rfl (by (try simp only [List.map_toArray, List.map_cons, List.map_nil]); first | done | rfl | (simp only [List.length_drop, List.length_take]; rfl)) ?_; (with_reducible refine (spec_OpOk.calls k a0_0 a0_1 a0_2 a0_3 a0_4 a0_5 a0_6 true _ A2.out).mono ?_); rintro e w9 ⟨rfl, hb⟩; refine ⟨_, rfl, ?_⟩; have n0_ := Aside0.mk (blk_below (g := gb322) (o := .cells #[.int .i64 a0_0, .int .i64 a0_1, .string a0_2, .int .i64 a0_3, .string a0_4, .int .i64 a0_5, .string a0_6] 31 (0, 0)) (by (with_reducible repeat (first | refine blk_drewN ?_ _ | refine blk_drew ?_ | refine blk_alloc ?_ _)); exact BK322.out) hb); have n1_ := Aside0.mk (below_step (by repeat (first | (with_reducible first | exact HB.out | apply below_alloc | apply pw_below_drewN | apply below_drew1 | refine below_set ?_ GE322.out) | exact HB.out)) hb); clear BK322; clear HB; have BK322 := n0_; have HB := n1_; clear n0_ n1_; (try clear hb); (try clear hb2); (try clear hk); (try clear hi); have hcz10_0 : w9.cell? ⟨gb322, 0, none⟩ = some (.int .i64 a0_0) := (blk_cell BK322.out 0).trans rfl; have hcz10_1 : w9.cell? ⟨gb322, 1, none⟩ = some (.int .i64 a0_1) := (blk_cell BK322.out 1).trans rfl; have hcz10_2 : w9.cell? ⟨gb322, 2, none⟩ = some (.string a0_2) := (blk_cell BK322.out 2).trans rfl; have hcz10_3 : w9.cell? ⟨gb322, 3, none⟩ = some (.int .i64 a0_3) := (blk_cell BK322.out 3).trans rfl; have hcz10_4 : w9.cell? ⟨gb322, 4, none⟩ = some (.string a0_4) := (blk_cell BK322.out 4).trans rfl; have hcz10_5 : w9.cell? ⟨gb322, 5, none⟩ = some (.int .i64 a0_5) := (blk_cell BK322.out 5).trans rfl; have hcz10_6 : w9.cell? ⟨gb322, 6, none⟩ = some (.string a0_6) := (blk_cell BK322.out 6).trans rfl; have hfz10_0 := blk_frozen BK322.out 0; have hfz10_1 := blk_frozen BK322.out 1; have hfz10_2 := blk_frozen BK322.out 2; have hfz10_3 := blk_frozen BK322.out 3; have hfz10_4 := blk_frozen BK322.out 4; have hfz10_5 := blk_frozen BK322.out 5; have hfz10_6 := blk_frozen BK322.out 6) | ((with_reducible refine gate_dst (N := 10) rfl ?_); refine Kd.R_lit (Kd.int .i64) _ 3 ?hg (N := 10) ?hd (xs := ([a0_5] : List Int)) (inner := [.int .i64 a0_5]) (ok := fun _ => True) (okp := fun _ => True) ?hr ?hp (fun _ hk => hk) trivial (Below.refl _ _) (Nat.le_refl _) (by simp) ?_; (case hd => rfl); (case hg => rfl); (case hr => first | (go_simp; done) | (go_simp; rfl)); (case hp => exact (Reps.one (show Kd.M (Kd.int .i64) _ _ _ a0_5 [.int .i64 a0_5] from rfl) (Reps.none _ _))); intro v328 w11 ho12 hb hg_ hnew_; clear hg_ hnew_; (first | rw [← Ny327.out] at ho12 | (simp only [Int.reduceToNat] at ho12; rw [← Ny327.out] at ho12)); have n0_ := Aside0.mk (Kd.R_lower ho12 (below_size (by repeat (first | (with_reducible first | exact HB.out | apply below_alloc | apply pw_below_drewN | apply below_drew1 | refine below_set ?_ GE322.out) | exact HB.out)))); have n1_ := Aside0.mk (blk_below (g := gb322) (o := .cells #[.int .i64 a0_0, .int .i64 a0_1, .string a0_2, .int .i64 a0_3, .string a0_4, .int .i64 a0_5, .string a0_6] 31 (0, 0)) (by (with_reducible repeat (first | refine blk_drewN ?_ _ | refine blk_drew ?_ | refine blk_alloc ?_ _)); exact BK322.out) hb); have n2_ := Aside0.mk (below_step (by repeat (first | (with_reducible first | exact HB.out | apply below_alloc | apply pw_below_drewN | apply below_drew1 | refine below_set ?_ GE322.out) | exact HB.out)) hb); clear BK322; clear HB; have HO329 := n0_; have BK322 := n1_; have HB := n2_; clear n0_ n1_ n2_; clear hb ho12; have hcz13_0 : w11.cell? ⟨gb322, 0, none⟩ = some (.int .i64 a0_0) := (blk_cell BK322.out 0).trans rfl; have hcz13_1 : w11.cell? ⟨gb322, 1, none⟩ = some (.int .i64 a0_1) := (blk_cell BK322.out 1).trans rfl; have hcz13_2 : w11.cell? ⟨gb322, 2, none⟩ = some (.string a0_2) := (blk_cell BK322.out 2).trans rfl; have hcz13_3 : w11.cell? ⟨gb322, 3, none⟩ = some (.int .i64 a0_3) := (blk_cell BK322.out 3).trans rfl; have hcz13_4 : w11.cell? ⟨gb322, 4, none⟩ = some (.string a0_4) := (blk_cell BK322.out 4).trans rfl; have hcz13_5 : w11.cell? ⟨gb322, 5, none⟩ = some (.int .i64 a0_5) := (blk_cell BK322.out 5).trans rfl; have hcz13_6 : w11.cell? ⟨gb322, 6, none⟩ = some (.string a0_6) := (blk_cell BK322.out 6).trans rfl; have hfz13_0 := blk_frozen BK322.out 0; have hfz13_1 := blk_frozen BK322.out 1; have hfz13_2 := blk_frozen BK322.out 2; have hfz13_3 := blk_frozen BK322.out 3; have hfz13_4 := blk_frozen BK322.out 4; have hfz13_5 := blk_frozen BK322.out 5; have hfz13_6 := blk_frozen BK322.out 6; obtain ⟨Ao14, co14, eo14⟩ := Kd.R_slice HO329.out; subst eo14) | ((with_reducible refine gate_callee (f := 63) rfl ?_); refine goesL_ (some 24) rfl rfl Try.func63 (by kernel_rfl) rfl #[.slice Ao14 y327.length co14, .int .i64 a0_3] rfl (by (try simp only [List.map_toArray, List.map_cons, List.map_nil]); first | done | rfl | (simp only [List.length_drop, List.length_take]; rfl)) ?_; (with_reducible refine (spec_l2Put.calls k (fun k_ => some k_ = (.slice Ao14 y327.length co14 : Value).ownBlock) (.slice Ao14 y327.length co14) y327 a0_3 t330 w _ ?side1 ?side2 A6.out).mono ?_); (case side1 => repeat (first | (with_reducible first | exact HB.out | apply below_alloc | apply pw_below_drewN | apply below_drew1 | refine below_set ?_ GE322.out) | exact HB.out)); (case side2 => exact Kd.R_tight rfl HO329.out); rintro e w15 ⟨v331, rfl, ho0, hb, hkp⟩; refine ⟨_, rfl, ?_⟩; have n0_ := Aside0.mk (blk_kept (by (with_reducible repeat (first | refine blk_drewN ?_ _ | refine blk_drew ?_ | refine blk_alloc ?_ _)); exact BK322.out) hkp (fun hs_ => (fun e_ => (Kd.R_ne HO329.out BK322.out (by decide)) e_) hs_)); have n1_ := Aside0.mk (Kd.R_mono (ok' := fun k_ => True) ho0 (fun k_ hk_ => trivial)); have n2_ := Aside0.mk (hb); clear BK322; clear HB; clear HO329; have BK322 := n0_; have HO332 := n1_; have HB := n2_; clear n0_ n1_ n2_; (try clear hb); (try clear hkp); (try clear ho0)))
        go_ret
        exact ⟨_, by first | rfl | (simp [errW_none, errW_some] <;> rfl) | (simp [*, errW_none, errW_some] <;> rfl), by (with_reducible repeat (first | apply Kd.R_alloc | apply Kd.R_drewN | apply Kd.R_drew)); exact HO332.out, by repeat (first | (with_reducible first | exact HB.out | apply below_alloc | apply pw_below_drewN | apply below_drew1 | refine below_set ?_ GE322.out) | exact HB.out)⟩
      · rw [if_neg c5] at H
        have c5b0 : (a0_0 == 4) = false := beq_eq_false_iff_ne.mpr c5
        have c5b1 : (a0_0 != 4) = true := bne_iff_ne.mpr c5
        obtain rfl := Option.some.inj H
        go_enter Try.func35, Try.ntmps35
        go_wp2_with (first | ((with_reducible refine gate_dst (N := 1) rfl ?_); refine box_event ?hg (N := 1) ?hd (cs := #[.int .i64 a0_0, .int .i64 a0_1, .string a0_2, .int .i64 a0_3, .string a0_4, .int .i64 a0_5, .string a0_6]) (t := 31) ?hr ?_; (case hd => rfl); (case hg => rfl); (case hr => first | (go_simp; done) | (go_simp; rfl)); intro gb322 hg w16 hbox hb; have n0_ := Aside0.mk (below_step (by repeat (first | (with_reducible first | exact HB.out | apply below_alloc | apply pw_below_drewN | apply below_drew1) | exact HB.out)) hb); have n1_ := Aside0.mk (hbox); have n2_ := Aside0.mk ((by rw [hg]; exact (below_size (by repeat (first | (with_reducible first | exact HB.out | apply below_alloc | apply pw_below_drewN | apply below_drew1) | exact HB.out))) : w.heap.size ≤ gb322)); have n3_ := Aside0.mk ((by rw [hg]; exact (below_size (by repeat (first | (with_reducible first | exact HB.out | apply below_alloc | apply pw_below_drewN | apply below_drew1) | exact HB.out))) : w.heap.size ≤ gb322)); clear HB; have HB := n0_; have BK322 := n1_; have GW322 := n2_; have GE322 := n3_; clear n0_ n1_ n2_ n3_; clear hb hbox hg; have hcz17_0 : w16.cell? ⟨gb322, 0, none⟩ = some (.int .i64 a0_0) := (blk_cell BK322.out 0).trans rfl; have hcz17_1 : w16.cell? ⟨gb322, 1, none⟩ = some (.int .i64 a0_1) := (blk_cell BK322.out 1).trans rfl; have hcz17_2 : w16.cell? ⟨gb322, 2, none⟩ = some (.string a0_2) := (blk_cell BK322.out 2).trans rfl; have hcz17_3 : w16.cell? ⟨gb322, 3, none⟩ = some (.int .i64 a0_3) := (blk_cell BK322.out 3).trans rfl; have hcz17_4 : w16.cell? ⟨gb322, 4, none⟩ = some (.string a0_4) := (blk_cell BK322.out 4).trans rfl; have hcz17_5 : w16.cell? ⟨gb322, 5, none⟩ = some (.int .i64 a0_5) := (blk_cell BK322.out 5).trans rfl; have hcz17_6 : w16.cell? ⟨gb322, 6, none⟩ = some (.string a0_6) := (blk_cell BK322.out 6).trans rfl; have hfz17_0 := blk_frozen BK322.out 0; have hfz17_1 := blk_frozen BK322.out 1; have hfz17_2 := blk_frozen BK322.out 2; have hfz17_3 := blk_frozen BK322.out 3; have hfz17_4 := blk_frozen BK322.out 4; have hfz17_5 := blk_frozen BK322.out 5; have hfz17_6 := blk_frozen BK322.out 6) | ((with_reducible refine gate_callee (f := 22) rfl ?_); refine goesL_ (some 5) rfl rfl Try.func22 (by kernel_rfl) rfl #[.agg #[.int .i64 a0_0, .int .i64 a0_1, .string a0_2, .int .i64 a0_3, .string a0_4, .int .i64 a0_5, .string a0_6]] rfl (by (try simp only [List.map_toArray, List.map_cons, List.map_nil]); first | done | rfl | (simp only [List.length_drop, List.length_take]; rfl)) ?_; (with_reducible refine (spec_OpOk.calls k a0_0 a0_1 a0_2 a0_3 a0_4 a0_5 a0_6 true _ A2.out).mono ?_); rintro e w18 ⟨rfl, hb⟩; refine ⟨_, rfl, ?_⟩; have n0_ := Aside0.mk (blk_below (g := gb322) (o := .cells #[.int .i64 a0_0, .int .i64 a0_1, .string a0_2, .int .i64 a0_3, .string a0_4, .int .i64 a0_5, .string a0_6] 31 (0, 0)) (by (with_reducible repeat (first | refine blk_drewN ?_ _ | refine blk_drew ?_ | refine blk_alloc ?_ _)); exact BK322.out) hb); have n1_ := Aside0.mk (below_step (by repeat (first | (with_reducible first | exact HB.out | apply below_alloc | apply pw_below_drewN | apply below_drew1 | refine below_set ?_ GE322.out) | exact HB.out)) hb); clear BK322; clear HB; have BK322 := n0_; have HB := n1_; clear n0_ n1_; (try clear hb); (try clear hb2); (try clear hk); (try clear hi); have hcz19_0 : w18.cell? ⟨gb322, 0, none⟩ = some (.int .i64 a0_0) := (blk_cell BK322.out 0).trans rfl; have hcz19_1 : w18.cell? ⟨gb322, 1, none⟩ = some (.int .i64 a0_1) := (blk_cell BK322.out 1).trans rfl; have hcz19_2 : w18.cell? ⟨gb322, 2, none⟩ = some (.string a0_2) := (blk_cell BK322.out 2).trans rfl; have hcz19_3 : w18.cell? ⟨gb322, 3, none⟩ = some (.int .i64 a0_3) := (blk_cell BK322.out 3).trans rfl; have hcz19_4 : w18.cell? ⟨gb322, 4, none⟩ = some (.string a0_4) := (blk_cell BK322.out 4).trans rfl; have hcz19_5 : w18.cell? ⟨gb322, 5, none⟩ = some (.int .i64 a0_5) := (blk_cell BK322.out 5).trans rfl; have hcz19_6 : w18.cell? ⟨gb322, 6, none⟩ = some (.string a0_6) := (blk_cell BK322.out 6).trans rfl; have hfz19_0 := blk_frozen BK322.out 0; have hfz19_1 := blk_frozen BK322.out 1; have hfz19_2 := blk_frozen BK322.out 2; have hfz19_3 := blk_frozen BK322.out 3; have hfz19_4 := blk_frozen BK322.out 4; have hfz19_5 := blk_frozen BK322.out 5; have hfz19_6 := blk_frozen BK322.out 6) | ((with_reducible refine gate_dst (N := 10) rfl ?_); refine Kd.R_lit (Kd.int .i64) _ 3 ?hg (N := 10) ?hd (xs := ([a0_5] : List Int)) (inner := [.int .i64 a0_5]) (ok := fun _ => True) (okp := fun _ => True) ?hr ?hp (fun _ hk => hk) trivial (Below.refl _ _) (Nat.le_refl _) (by simp) ?_; (case hd => rfl); (case hg => rfl); (case hr => first | (go_simp; done) | (go_simp; rfl)); (case hp => exact (Reps.one (show Kd.M (Kd.int .i64) _ _ _ a0_5 [.int .i64 a0_5] from rfl) (Reps.none _ _))); intro v328 w20 ho21 hb hg_ hnew_; clear hg_ hnew_; (first | rw [← Ny327.out] at ho21 | (simp only [Int.reduceToNat] at ho21; rw [← Ny327.out] at ho21)); have n0_ := Aside0.mk (Kd.R_lower ho21 (below_size (by repeat (first | (with_reducible first | exact HB.out | apply below_alloc | apply pw_below_drewN | apply below_drew1 | refine below_set ?_ GE322.out) | exact HB.out)))); have n1_ := Aside0.mk (blk_below (g := gb322) (o := .cells #[.int .i64 a0_0, .int .i64 a0_1, .string a0_2, .int .i64 a0_3, .string a0_4, .int .i64 a0_5, .string a0_6] 31 (0, 0)) (by (with_reducible repeat (first | refine blk_drewN ?_ _ | refine blk_drew ?_ | refine blk_alloc ?_ _)); exact BK322.out) hb); have n2_ := Aside0.mk (below_step (by repeat (first | (with_reducible first | exact HB.out | apply below_alloc | apply pw_below_drewN | apply below_drew1 | refine below_set ?_ GE322.out) | exact HB.out)) hb); clear BK322; clear HB; have HO329 := n0_; have BK322 := n1_; have HB := n2_; clear n0_ n1_ n2_; clear hb ho21; have hcz22_0 : w20.cell? ⟨gb322, 0, none⟩ = some (.int .i64 a0_0) := (blk_cell BK322.out 0).trans rfl; have hcz22_1 : w20.cell? ⟨gb322, 1, none⟩ = some (.int .i64 a0_1) := (blk_cell BK322.out 1).trans rfl; have hcz22_2 : w20.cell? ⟨gb322, 2, none⟩ = some (.string a0_2) := (blk_cell BK322.out 2).trans rfl; have hcz22_3 : w20.cell? ⟨gb322, 3, none⟩ = some (.int .i64 a0_3) := (blk_cell BK322.out 3).trans rfl; have hcz22_4 : w20.cell? ⟨gb322, 4, none⟩ = some (.string a0_4) := (blk_cell BK322.out 4).trans rfl; have hcz22_5 : w20.cell? ⟨gb322, 5, none⟩ = some (.int .i64 a0_5) := (blk_cell BK322.out 5).trans rfl; have hcz22_6 : w20.cell? ⟨gb322, 6, none⟩ = some (.string a0_6) := (blk_cell BK322.out 6).trans rfl; have hfz22_0 := blk_frozen BK322.out 0; have hfz22_1 := blk_frozen BK322.out 1; have hfz22_2 := blk_frozen BK322.out 2; have hfz22_3 := blk_frozen BK322.out 3; have hfz22_4 := blk_frozen BK322.out 4; have hfz22_5 := blk_frozen BK322.out 5; have hfz22_6 := blk_frozen BK322.out 6))
        go_ret
        exact ⟨_, by first | rfl | (simp [errW_none, errW_some] <;> rfl) | (simp [*, errW_none, errW_some] <;> rfl), by (with_reducible repeat (first | apply Kd.R_alloc | apply Kd.R_drewN | apply Kd.R_drew)); exact HO329.out, by repeat (first | (with_reducible first | exact HB.out | apply below_alloc | apply pw_below_drewN | apply below_drew1 | refine below_set ?_ GE322.out) | exact HB.out)⟩
    · rw [if_neg c4] at H
      have c4b0 : (a0_0 == 5) = false := beq_eq_false_iff_ne.mpr c4
      have c4b1 : (a0_0 != 5) = true := bne_iff_ne.mpr c4
      replace H := Option.bind_eq_some_iff.mp H
      obtain ⟨t333, A230, H⟩ := H
      replace H : (if a0_0 = 4 then ((spec_l2Put.f k t333 a0_3).bind fun t336 => (some t336)) else (some t333)) = some r := H
      have A23 := Aside0.mk A230
      clear A230
      by_cases c24 : a0_0 = 4
      · rw [if_pos c24] at H
        have c24b0 : (a0_0 == 4) = true := beq_iff_eq.mpr c24
        have c24b1 : (a0_0 != 4) = false := bne_eq_false_iff_eq.mpr c24
        clear c24
        replace H := Option.bind_eq_some_iff.mp H
        obtain ⟨t336, A250, H⟩ := H
        replace H : (some t336) = some r := H
        have A25 := Aside0.mk A250
        clear A250
        obtain rfl := Option.some.inj H
        go_enter Try.func35, Try.ntmps35
        go_wp2_with (first | ((with_reducible refine gate_dst (N := 1) rfl ?_); refine box_event ?hg (N := 1) ?hd (cs := #[.int .i64 a0_0, .int .i64 a0_1, .string a0_2, .int .i64 a0_3, .string a0_4, .int .i64 a0_5, .string a0_6]) (t := 31) ?hr ?_; (case hd => rfl); (case hg => rfl); (case hr => first | (go_simp; done) | (go_simp; rfl)); intro gb322 hg w26 hbox hb; have n0_ := Aside0.mk (below_step (by repeat (first | (with_reducible first | exact HB.out | apply below_alloc | apply pw_below_drewN | apply below_drew1) | exact HB.out)) hb); have n1_ := Aside0.mk (hbox); have n2_ := Aside0.mk ((by rw [hg]; exact (below_size (by repeat (first | (with_reducible first | exact HB.out | apply below_alloc | apply pw_below_drewN | apply below_drew1) | exact HB.out))) : w.heap.size ≤ gb322)); have n3_ := Aside0.mk ((by rw [hg]; exact (below_size (by repeat (first | (with_reducible first | exact HB.out | apply below_alloc | apply pw_below_drewN | apply below_drew1) | exact HB.out))) : w.heap.size ≤ gb322)); clear HB; have HB := n0_; have BK322 := n1_; have GW322 := n2_; have GE322 := n3_; clear n0_ n1_ n2_ n3_; clear hb hbox hg; have hcz27_0 : w26.cell? ⟨gb322, 0, none⟩ = some (.int .i64 a0_0) := (blk_cell BK322.out 0).trans rfl; have hcz27_1 : w26.cell? ⟨gb322, 1, none⟩ = some (.int .i64 a0_1) := (blk_cell BK322.out 1).trans rfl; have hcz27_2 : w26.cell? ⟨gb322, 2, none⟩ = some (.string a0_2) := (blk_cell BK322.out 2).trans rfl; have hcz27_3 : w26.cell? ⟨gb322, 3, none⟩ = some (.int .i64 a0_3) := (blk_cell BK322.out 3).trans rfl; have hcz27_4 : w26.cell? ⟨gb322, 4, none⟩ = some (.string a0_4) := (blk_cell BK322.out 4).trans rfl; have hcz27_5 : w26.cell? ⟨gb322, 5, none⟩ = some (.int .i64 a0_5) := (blk_cell BK322.out 5).trans rfl; have hcz27_6 : w26.cell? ⟨gb322, 6, none⟩ = some (.string a0_6) := (blk_cell BK322.out 6).trans rfl; have hfz27_0 := blk_frozen BK322.out 0; have hfz27_1 := blk_frozen BK322.out 1; have hfz27_2 := blk_frozen BK322.out 2; have hfz27_3 := blk_frozen BK322.out 3; have hfz27_4 := blk_frozen BK322.out 4; have hfz27_5 := blk_frozen BK322.out 5; have hfz27_6 := blk_frozen BK322.out 6) | ((with_reducible refine gate_callee (f := 22) rfl ?_); refine goesL_ (some 5) rfl rfl Try.func22 (by kernel_rfl) rfl #[.agg #[.int .i64 a0_0, .int .i64 a0_1, .string a0_2, .int .i64 a0_3, .string a0_4, .int .i64 a0_5, .string a0_6]] rfl (by (try simp only [List.map_toArray, List.map_cons, List.map_nil]); first | done | rfl | (simp only [List.length_drop, List.length_take]; rfl)) ?_; (with_reducible refine (spec_OpOk.calls k a0_0 a0_1 a0_2 a0_3 a0_4 a0_5 a0_6 true _ A2.out).mono ?_); rintro e w28 ⟨rfl, hb⟩; refine ⟨_, rfl, ?_⟩; have n0_ := Aside0.mk (blk_below (g := gb322) (o := .cells #[.int .i64 a0_0, .int .i64 a0_1, .string a0_2, .int .i64 a0_3, .string a0_4, .int .i64 a0_5, .string a0_6] 31 (0, 0)) (by (with_reducible repeat (first | refine blk_drewN ?_ _ | refine blk_drew ?_ | refine blk_alloc ?_ _)); exact BK322.out) hb); have n1_ := Aside0.mk (below_step (by repeat (first | (with_reducible first | exact HB.out | apply below_alloc | apply pw_below_drewN | apply below_drew1 | refine below_set ?_ GE322.out) | exact HB.out)) hb); clear BK322; clear HB; have BK322 := n0_; have HB := n1_; clear n0_ n1_; (try clear hb); (try clear hb2); (try clear hk); (try clear hi); have hcz29_0 : w28.cell? ⟨gb322, 0, none⟩ = some (.int .i64 a0_0) := (blk_cell BK322.out 0).trans rfl; have hcz29_1 : w28.cell? ⟨gb322, 1, none⟩ = some (.int .i64 a0_1) := (blk_cell BK322.out 1).trans rfl; have hcz29_2 : w28.cell? ⟨gb322, 2, none⟩ = some (.string a0_2) := (blk_cell BK322.out 2).trans rfl; have hcz29_3 : w28.cell? ⟨gb322, 3, none⟩ = some (.int .i64 a0_3) := (blk_cell BK322.out 3).trans rfl; have hcz29_4 : w28.cell? ⟨gb322, 4, none⟩ = some (.string a0_4) := (blk_cell BK322.out 4).trans rfl; have hcz29_5 : w28.cell? ⟨gb322, 5, none⟩ = some (.int .i64 a0_5) := (blk_cell BK322.out 5).trans rfl; have hcz29_6 : w28.cell? ⟨gb322, 6, none⟩ = some (.string a0_6) := (blk_cell BK322.out 6).trans rfl; have hfz29_0 := blk_frozen BK322.out 0; have hfz29_1 := blk_frozen BK322.out 1; have hfz29_2 := blk_frozen BK322.out 2; have hfz29_3 := blk_frozen BK322.out 3; have hfz29_4 := blk_frozen BK322.out 4; have hfz29_5 := blk_frozen BK322.out 5; have hfz29_6 := blk_frozen BK322.out 6) | ((with_reducible refine gate_dst (N := 10) rfl ?_); refine Kd.R_lit (Kd.int .i64) _ 3 ?hg (N := 10) ?hd (xs := ([a0_5] : List Int)) (inner := [.int .i64 a0_5]) (ok := fun _ => True) (okp := fun _ => True) ?hr ?hp (fun _ hk => hk) trivial (Below.refl _ _) (Nat.le_refl _) (by simp) ?_; (case hd => rfl); (case hg => rfl); (case hr => first | (go_simp; done) | (go_simp; rfl)); (case hp => exact (Reps.one (show Kd.M (Kd.int .i64) _ _ _ a0_5 [.int .i64 a0_5] from rfl) (Reps.none _ _))); intro v328 w30 ho31 hb hg_ hnew_; clear hg_ hnew_; (first | rw [← Ny327.out] at ho31 | (simp only [Int.reduceToNat] at ho31; rw [← Ny327.out] at ho31)); have n0_ := Aside0.mk (Kd.R_lower ho31 (below_size (by repeat (first | (with_reducible first | exact HB.out | apply below_alloc | apply pw_below_drewN | apply below_drew1 | refine below_set ?_ GE322.out) | exact HB.out)))); have n1_ := Aside0.mk (blk_below (g := gb322) (o := .cells #[.int .i64 a0_0, .int .i64 a0_1, .string a0_2, .int .i64 a0_3, .string a0_4, .int .i64 a0_5, .string a0_6] 31 (0, 0)) (by (with_reducible repeat (first | refine blk_drewN ?_ _ | refine blk_drew ?_ | refine blk_alloc ?_ _)); exact BK322.out) hb); have n2_ := Aside0.mk (below_step (by repeat (first | (with_reducible first | exact HB.out | apply below_alloc | apply pw_below_drewN | apply below_drew1 | refine below_set ?_ GE322.out) | exact HB.out)) hb); clear BK322; clear HB; have HO329 := n0_; have BK322 := n1_; have HB := n2_; clear n0_ n1_ n2_; clear hb ho31; have hcz32_0 : w30.cell? ⟨gb322, 0, none⟩ = some (.int .i64 a0_0) := (blk_cell BK322.out 0).trans rfl; have hcz32_1 : w30.cell? ⟨gb322, 1, none⟩ = some (.int .i64 a0_1) := (blk_cell BK322.out 1).trans rfl; have hcz32_2 : w30.cell? ⟨gb322, 2, none⟩ = some (.string a0_2) := (blk_cell BK322.out 2).trans rfl; have hcz32_3 : w30.cell? ⟨gb322, 3, none⟩ = some (.int .i64 a0_3) := (blk_cell BK322.out 3).trans rfl; have hcz32_4 : w30.cell? ⟨gb322, 4, none⟩ = some (.string a0_4) := (blk_cell BK322.out 4).trans rfl; have hcz32_5 : w30.cell? ⟨gb322, 5, none⟩ = some (.int .i64 a0_5) := (blk_cell BK322.out 5).trans rfl; have hcz32_6 : w30.cell? ⟨gb322, 6, none⟩ = some (.string a0_6) := (blk_cell BK322.out 6).trans rfl; have hfz32_0 := blk_frozen BK322.out 0; have hfz32_1 := blk_frozen BK322.out 1; have hfz32_2 := blk_frozen BK322.out 2; have hfz32_3 := blk_frozen BK322.out 3; have hfz32_4 := blk_frozen BK322.out 4; have hfz32_5 := blk_frozen BK322.out 5; have hfz32_6 := blk_frozen BK322.out 6; obtain ⟨Ao33, co33, eo33⟩ := Kd.R_slice HO329.out; subst eo33) | ((with_reducible refine gate_callee (f := 63) rfl ?_); refine goesL_ (some 17) rfl rfl Try.func63 (by kernel_rfl) rfl #[.slice Ao33 y327.length co33, .int .i64 a0_1] rfl (by (try simp only [List.map_toArray, List.map_cons, List.map_nil]); first | done | rfl | (simp only [List.length_drop, List.length_take]; rfl)) ?_; (with_reducible refine (spec_l2Put.calls k (fun k_ => some k_ = (.slice Ao33 y327.length co33 : Value).ownBlock) (.slice Ao33 y327.length co33) y327 a0_1 t333 w _ ?side1 ?side2 A23.out).mono ?_); (case side1 => repeat (first | (with_reducible first | exact HB.out | apply below_alloc | apply pw_below_drewN | apply below_drew1 | refine below_set ?_ GE322.out) | exact HB.out)); (case side2 => exact Kd.R_tight rfl HO329.out); rintro e w34 ⟨v334, rfl, ho0, hb, hkp⟩; refine ⟨_, rfl, ?_⟩; have n0_ := Aside0.mk (blk_kept (by (with_reducible repeat (first | refine blk_drewN ?_ _ | refine blk_drew ?_ | refine blk_alloc ?_ _)); exact BK322.out) hkp (fun hs_ => (fun e_ => (Kd.R_ne HO329.out BK322.out (by decide)) e_) hs_)); have n1_ := Aside0.mk (Kd.R_mono (ok' := fun k_ => True) ho0 (fun k_ hk_ => trivial)); have n2_ := Aside0.mk (hb); clear BK322; clear HB; clear HO329; have BK322 := n0_; have HO335 := n1_; have HB := n2_; clear n0_ n1_ n2_; (try clear hb); (try clear hkp); (try clear ho0); have hcz35_0 : w34.cell? ⟨gb322, 0, none⟩ = some (.int .i64 a0_0) := (blk_cell BK322.out 0).trans rfl; have hcz35_1 : w34.cell? ⟨gb322, 1, none⟩ = some (.int .i64 a0_1) := (blk_cell BK322.out 1).trans rfl; have hcz35_2 : w34.cell? ⟨gb322, 2, none⟩ = some (.string a0_2) := (blk_cell BK322.out 2).trans rfl; have hcz35_3 : w34.cell? ⟨gb322, 3, none⟩ = some (.int .i64 a0_3) := (blk_cell BK322.out 3).trans rfl; have hcz35_4 : w34.cell? ⟨gb322, 4, none⟩ = some (.string a0_4) := (blk_cell BK322.out 4).trans rfl; have hcz35_5 : w34.cell? ⟨gb322, 5, none⟩ = some (.int .i64 a0_5) := (blk_cell BK322.out 5).trans rfl; have hcz35_6 : w34.cell? ⟨gb322, 6, none⟩ = some (.string a0_6) := (blk_cell BK322.out 6).trans rfl; have hfz35_0 := blk_frozen BK322.out 0; have hfz35_1 := blk_frozen BK322.out 1; have hfz35_2 := blk_frozen BK322.out 2; have hfz35_3 := blk_frozen BK322.out 3; have hfz35_4 := blk_frozen BK322.out 4; have hfz35_5 := blk_frozen BK322.out 5; have hfz35_6 := blk_frozen BK322.out 6; obtain ⟨Ao36, co36, eo36⟩ := Kd.R_slice HO335.out; subst eo36) | ((with_reducible refine gate_callee (f := 63) rfl ?_); refine goesL_ (some 24) rfl rfl Try.func63 (by kernel_rfl) rfl #[.slice Ao36 t333.length co36, .int .i64 a0_3] rfl (by (try simp only [List.map_toArray, List.map_cons, List.map_nil]); first | done | rfl | (simp only [List.length_drop, List.length_take]; rfl)) ?_; (with_reducible refine (spec_l2Put.calls k (fun k_ => some k_ = (.slice Ao36 t333.length co36 : Value).ownBlock) (.slice Ao36 t333.length co36) t333 a0_3 t336 w _ ?side1 ?side2 A25.out).mono ?_); (case side1 => repeat (first | (with_reducible first | exact HB.out | apply below_alloc | apply pw_below_drewN | apply below_drew1 | refine below_set ?_ GE322.out) | exact HB.out)); (case side2 => exact Kd.R_tight rfl HO335.out); rintro e w37 ⟨v337, rfl, ho0, hb, hkp⟩; refine ⟨_, rfl, ?_⟩; have n0_ := Aside0.mk (blk_kept (by (with_reducible repeat (first | refine blk_drewN ?_ _ | refine blk_drew ?_ | refine blk_alloc ?_ _)); exact BK322.out) hkp (fun hs_ => (fun e_ => (Kd.R_ne HO335.out BK322.out (by decide)) e_) hs_)); have n1_ := Aside0.mk (Kd.R_mono (ok' := fun k_ => True) ho0 (fun k_ hk_ => trivial)); have n2_ := Aside0.mk (hb); clear BK322; clear HB; clear HO335; have BK322 := n0_; have HO338 := n1_; have HB := n2_; clear n0_ n1_ n2_; (try clear hb); (try clear hkp); (try clear ho0)))
        go_ret
        exact ⟨_, by first | rfl | (simp [errW_none, errW_some] <;> rfl) | (simp [*, errW_none, errW_some] <;> rfl), by (with_reducible repeat (first | apply Kd.R_alloc | apply Kd.R_drewN | apply Kd.R_drew)); exact HO338.out, by repeat (first | (with_reducible first | exact HB.out | apply below_alloc | apply pw_below_drewN | apply below_drew1 | refine below_set ?_ GE322.out) | exact HB.out)⟩
      · rw [if_neg c24] at H
        have c24b0 : (a0_0 == 4) = false := beq_eq_false_iff_ne.mpr c24
        have c24b1 : (a0_0 != 4) = true := bne_iff_ne.mpr c24
        obtain rfl := Option.some.inj H
        go_enter Try.func35, Try.ntmps35
        go_wp2_with (first | ((with_reducible refine gate_dst (N := 1) rfl ?_); refine box_event ?hg (N := 1) ?hd (cs := #[.int .i64 a0_0, .int .i64 a0_1, .string a0_2, .int .i64 a0_3, .string a0_4, .int .i64 a0_5, .string a0_6]) (t := 31) ?hr ?_; (case hd => rfl); (case hg => rfl); (case hr => first | (go_simp; done) | (go_simp; rfl)); intro gb322 hg w38 hbox hb; have n0_ := Aside0.mk (below_step (by repeat (first | (with_reducible first | exact HB.out | apply below_alloc | apply pw_below_drewN | apply below_drew1) | exact HB.out)) hb); have n1_ := Aside0.mk (hbox); have n2_ := Aside0.mk ((by rw [hg]; exact (below_size (by repeat (first | (with_reducible first | exact HB.out | apply below_alloc | apply pw_below_drewN | apply below_drew1) | exact HB.out))) : w.heap.size ≤ gb322)); have n3_ := Aside0.mk ((by rw [hg]; exact (below_size (by repeat (first | (with_reducible first | exact HB.out | apply below_alloc | apply pw_below_drewN | apply below_drew1) | exact HB.out))) : w.heap.size ≤ gb322)); clear HB; have HB := n0_; have BK322 := n1_; have GW322 := n2_; have GE322 := n3_; clear n0_ n1_ n2_ n3_; clear hb hbox hg; have hcz39_0 : w38.cell? ⟨gb322, 0, none⟩ = some (.int .i64 a0_0) := (blk_cell BK322.out 0).trans rfl; have hcz39_1 : w38.cell? ⟨gb322, 1, none⟩ = some (.int .i64 a0_1) := (blk_cell BK322.out 1).trans rfl; have hcz39_2 : w38.cell? ⟨gb322, 2, none⟩ = some (.string a0_2) := (blk_cell BK322.out 2).trans rfl; have hcz39_3 : w38.cell? ⟨gb322, 3, none⟩ = some (.int .i64 a0_3) := (blk_cell BK322.out 3).trans rfl; have hcz39_4 : w38.cell? ⟨gb322, 4, none⟩ = some (.string a0_4) := (blk_cell BK322.out 4).trans rfl; have hcz39_5 : w38.cell? ⟨gb322, 5, none⟩ = some (.int .i64 a0_5) := (blk_cell BK322.out 5).trans rfl; have hcz39_6 : w38.cell? ⟨gb322, 6, none⟩ = some (.string a0_6) := (blk_cell BK322.out 6).trans rfl; have hfz39_0 := blk_frozen BK322.out 0; have hfz39_1 := blk_frozen BK322.out 1; have hfz39_2 := blk_frozen BK322.out 2; have hfz39_3 := blk_frozen BK322.out 3; have hfz39_4 := blk_frozen BK322.out 4; have hfz39_5 := blk_frozen BK322.out 5; have hfz39_6 := blk_frozen BK322.out 6) | ((with_reducible refine gate_callee (f := 22) rfl ?_); refine goesL_ (some 5) rfl rfl Try.func22 (by kernel_rfl) rfl #[.agg #[.int .i64 a0_0, .int .i64 a0_1, .string a0_2, .int .i64 a0_3, .string a0_4, .int .i64 a0_5, .string a0_6]] rfl (by (try simp only [List.map_toArray, List.map_cons, List.map_nil]); first | done | rfl | (simp only [List.length_drop, List.length_take]; rfl)) ?_; (with_reducible refine (spec_OpOk.calls k a0_0 a0_1 a0_2 a0_3 a0_4 a0_5 a0_6 true _ A2.out).mono ?_); rintro e w40 ⟨rfl, hb⟩; refine ⟨_, rfl, ?_⟩; have n0_ := Aside0.mk (blk_below (g := gb322) (o := .cells #[.int .i64 a0_0, .int .i64 a0_1, .string a0_2, .int .i64 a0_3, .string a0_4, .int .i64 a0_5, .string a0_6] 31 (0, 0)) (by (with_reducible repeat (first | refine blk_drewN ?_ _ | refine blk_drew ?_ | refine blk_alloc ?_ _)); exact BK322.out) hb); have n1_ := Aside0.mk (below_step (by repeat (first | (with_reducible first | exact HB.out | apply below_alloc | apply pw_below_drewN | apply below_drew1 | refine below_set ?_ GE322.out) | exact HB.out)) hb); clear BK322; clear HB; have BK322 := n0_; have HB := n1_; clear n0_ n1_; (try clear hb); (try clear hb2); (try clear hk); (try clear hi); have hcz41_0 : w40.cell? ⟨gb322, 0, none⟩ = some (.int .i64 a0_0) := (blk_cell BK322.out 0).trans rfl; have hcz41_1 : w40.cell? ⟨gb322, 1, none⟩ = some (.int .i64 a0_1) := (blk_cell BK322.out 1).trans rfl; have hcz41_2 : w40.cell? ⟨gb322, 2, none⟩ = some (.string a0_2) := (blk_cell BK322.out 2).trans rfl; have hcz41_3 : w40.cell? ⟨gb322, 3, none⟩ = some (.int .i64 a0_3) := (blk_cell BK322.out 3).trans rfl; have hcz41_4 : w40.cell? ⟨gb322, 4, none⟩ = some (.string a0_4) := (blk_cell BK322.out 4).trans rfl; have hcz41_5 : w40.cell? ⟨gb322, 5, none⟩ = some (.int .i64 a0_5) := (blk_cell BK322.out 5).trans rfl; have hcz41_6 : w40.cell? ⟨gb322, 6, none⟩ = some (.string a0_6) := (blk_cell BK322.out 6).trans rfl; have hfz41_0 := blk_frozen BK322.out 0; have hfz41_1 := blk_frozen BK322.out 1; have hfz41_2 := blk_frozen BK322.out 2; have hfz41_3 := blk_frozen BK322.out 3; have hfz41_4 := blk_frozen BK322.out 4; have hfz41_5 := blk_frozen BK322.out 5; have hfz41_6 := blk_frozen BK322.out 6) | ((with_reducible refine gate_dst (N := 10) rfl ?_); refine Kd.R_lit (Kd.int .i64) _ 3 ?hg (N := 10) ?hd (xs := ([a0_5] : List Int)) (inner := [.int .i64 a0_5]) (ok := fun _ => True) (okp := fun _ => True) ?hr ?hp (fun _ hk => hk) trivial (Below.refl _ _) (Nat.le_refl _) (by simp) ?_; (case hd => rfl); (case hg => rfl); (case hr => first | (go_simp; done) | (go_simp; rfl)); (case hp => exact (Reps.one (show Kd.M (Kd.int .i64) _ _ _ a0_5 [.int .i64 a0_5] from rfl) (Reps.none _ _))); intro v328 w42 ho43 hb hg_ hnew_; clear hg_ hnew_; (first | rw [← Ny327.out] at ho43 | (simp only [Int.reduceToNat] at ho43; rw [← Ny327.out] at ho43)); have n0_ := Aside0.mk (Kd.R_lower ho43 (below_size (by repeat (first | (with_reducible first | exact HB.out | apply below_alloc | apply pw_below_drewN | apply below_drew1 | refine below_set ?_ GE322.out) | exact HB.out)))); have n1_ := Aside0.mk (blk_below (g := gb322) (o := .cells #[.int .i64 a0_0, .int .i64 a0_1, .string a0_2, .int .i64 a0_3, .string a0_4, .int .i64 a0_5, .string a0_6] 31 (0, 0)) (by (with_reducible repeat (first | refine blk_drewN ?_ _ | refine blk_drew ?_ | refine blk_alloc ?_ _)); exact BK322.out) hb); have n2_ := Aside0.mk (below_step (by repeat (first | (with_reducible first | exact HB.out | apply below_alloc | apply pw_below_drewN | apply below_drew1 | refine below_set ?_ GE322.out) | exact HB.out)) hb); clear BK322; clear HB; have HO329 := n0_; have BK322 := n1_; have HB := n2_; clear n0_ n1_ n2_; clear hb ho43; have hcz44_0 : w42.cell? ⟨gb322, 0, none⟩ = some (.int .i64 a0_0) := (blk_cell BK322.out 0).trans rfl; have hcz44_1 : w42.cell? ⟨gb322, 1, none⟩ = some (.int .i64 a0_1) := (blk_cell BK322.out 1).trans rfl; have hcz44_2 : w42.cell? ⟨gb322, 2, none⟩ = some (.string a0_2) := (blk_cell BK322.out 2).trans rfl; have hcz44_3 : w42.cell? ⟨gb322, 3, none⟩ = some (.int .i64 a0_3) := (blk_cell BK322.out 3).trans rfl; have hcz44_4 : w42.cell? ⟨gb322, 4, none⟩ = some (.string a0_4) := (blk_cell BK322.out 4).trans rfl; have hcz44_5 : w42.cell? ⟨gb322, 5, none⟩ = some (.int .i64 a0_5) := (blk_cell BK322.out 5).trans rfl; have hcz44_6 : w42.cell? ⟨gb322, 6, none⟩ = some (.string a0_6) := (blk_cell BK322.out 6).trans rfl; have hfz44_0 := blk_frozen BK322.out 0; have hfz44_1 := blk_frozen BK322.out 1; have hfz44_2 := blk_frozen BK322.out 2; have hfz44_3 := blk_frozen BK322.out 3; have hfz44_4 := blk_frozen BK322.out 4; have hfz44_5 := blk_frozen BK322.out 5; have hfz44_6 := blk_frozen BK322.out 6; obtain ⟨Ao45, co45, eo45⟩ := Kd.R_slice HO329.out; subst eo45) | ((with_reducible refine gate_callee (f := 63) rfl ?_); refine goesL_ (some 17) rfl rfl Try.func63 (by kernel_rfl) rfl #[.slice Ao45 y327.length co45, .int .i64 a0_1] rfl (by (try simp only [List.map_toArray, List.map_cons, List.map_nil]); first | done | rfl | (simp only [List.length_drop, List.length_take]; rfl)) ?_; (with_reducible refine (spec_l2Put.calls k (fun k_ => some k_ = (.slice Ao45 y327.length co45 : Value).ownBlock) (.slice Ao45 y327.length co45) y327 a0_1 t333 w _ ?side1 ?side2 A23.out).mono ?_); (case side1 => repeat (first | (with_reducible first | exact HB.out | apply below_alloc | apply pw_below_drewN | apply below_drew1 | refine below_set ?_ GE322.out) | exact HB.out)); (case side2 => exact Kd.R_tight rfl HO329.out); rintro e w46 ⟨v334, rfl, ho0, hb, hkp⟩; refine ⟨_, rfl, ?_⟩; have n0_ := Aside0.mk (blk_kept (by (with_reducible repeat (first | refine blk_drewN ?_ _ | refine blk_drew ?_ | refine blk_alloc ?_ _)); exact BK322.out) hkp (fun hs_ => (fun e_ => (Kd.R_ne HO329.out BK322.out (by decide)) e_) hs_)); have n1_ := Aside0.mk (Kd.R_mono (ok' := fun k_ => True) ho0 (fun k_ hk_ => trivial)); have n2_ := Aside0.mk (hb); clear BK322; clear HB; clear HO329; have BK322 := n0_; have HO335 := n1_; have HB := n2_; clear n0_ n1_ n2_; (try clear hb); (try clear hkp); (try clear ho0); have hcz47_0 : w46.cell? ⟨gb322, 0, none⟩ = some (.int .i64 a0_0) := (blk_cell BK322.out 0).trans rfl; have hcz47_1 : w46.cell? ⟨gb322, 1, none⟩ = some (.int .i64 a0_1) := (blk_cell BK322.out 1).trans rfl; have hcz47_2 : w46.cell? ⟨gb322, 2, none⟩ = some (.string a0_2) := (blk_cell BK322.out 2).trans rfl; have hcz47_3 : w46.cell? ⟨gb322, 3, none⟩ = some (.int .i64 a0_3) := (blk_cell BK322.out 3).trans rfl; have hcz47_4 : w46.cell? ⟨gb322, 4, none⟩ = some (.string a0_4) := (blk_cell BK322.out 4).trans rfl; have hcz47_5 : w46.cell? ⟨gb322, 5, none⟩ = some (.int .i64 a0_5) := (blk_cell BK322.out 5).trans rfl; have hcz47_6 : w46.cell? ⟨gb322, 6, none⟩ = some (.string a0_6) := (blk_cell BK322.out 6).trans rfl; have hfz47_0 := blk_frozen BK322.out 0; have hfz47_1 := blk_frozen BK322.out 1; have hfz47_2 := blk_frozen BK322.out 2; have hfz47_3 := blk_frozen BK322.out 3; have hfz47_4 := blk_frozen BK322.out 4; have hfz47_5 := blk_frozen BK322.out 5; have hfz47_6 := blk_frozen BK322.out 6))
        go_ret
        exact ⟨_, by first | rfl | (simp [errW_none, errW_some] <;> rfl) | (simp [*, errW_none, errW_some] <;> rfl), by (with_reducible repeat (first | apply Kd.R_alloc | apply Kd.R_drewN | apply Kd.R_drew)); exact HO335.out, by repeat (first | (with_reducible first | exact HB.out | apply below_alloc | apply pw_below_drewN | apply below_drew1 | refine below_set ?_ GE322.out) | exact HB.out)⟩
  · replace c3 := Bool.eq_false_iff.mpr c3
    subst c3
    have H1 : (some (([] : List Int))) = some r := by rw [if_neg (show ¬ (false = true) by decide)] at H; exact H
    clear H
    have H := H1
    clear H1
    obtain ⟨y324, hy324⟩ : ∃ y_ : List Int, y_ = (([] : List Int)) := ⟨_, rfl⟩
    replace H : (some y324) = some r := by first | (rw [hy324]; with_reducible exact H) | (have H2_ := (Option.bind_some _ _).symm.trans H; rw [hy324]; with_reducible exact H2_) | (have H2_ := (Option.bind_some _ _).symm.trans H; with_reducible exact H2_) | with_reducible exact H | (rw [hy324]; exact H) | exact H
    have Ny324 := Aside0.mk hy324
    clear hy324
    obtain rfl := Option.some.inj H
    go_enter Try.func35, Try.ntmps35
    go_wp2_with (first | ((with_reducible refine gate_dst (N := 1) rfl ?_); refine box_event ?hg (N := 1) ?hd (cs := #[.int .i64 a0_0, .int .i64 a0_1, .string a0_2, .int .i64 a0_3, .string a0_4, .int .i64 a0_5, .string a0_6]) (t := 31) ?hr ?_; (case hd => rfl); (case hg => rfl); (case hr => first | (go_simp; done) | (go_simp; rfl)); intro gb322 hg w48 hbox hb; have n0_ := Aside0.mk (below_step (by repeat (first | (with_reducible first | exact HB.out | apply below_alloc | apply pw_below_drewN | apply below_drew1) | exact HB.out)) hb); have n1_ := Aside0.mk (hbox); have n2_ := Aside0.mk ((by rw [hg]; exact (below_size (by repeat (first | (with_reducible first | exact HB.out | apply below_alloc | apply pw_below_drewN | apply below_drew1) | exact HB.out))) : w.heap.size ≤ gb322)); have n3_ := Aside0.mk ((by rw [hg]; exact (below_size (by repeat (first | (with_reducible first | exact HB.out | apply below_alloc | apply pw_below_drewN | apply below_drew1) | exact HB.out))) : w.heap.size ≤ gb322)); clear HB; have HB := n0_; have BK322 := n1_; have GW322 := n2_; have GE322 := n3_; clear n0_ n1_ n2_ n3_; clear hb hbox hg; have hcz49_0 : w48.cell? ⟨gb322, 0, none⟩ = some (.int .i64 a0_0) := (blk_cell BK322.out 0).trans rfl; have hcz49_1 : w48.cell? ⟨gb322, 1, none⟩ = some (.int .i64 a0_1) := (blk_cell BK322.out 1).trans rfl; have hcz49_2 : w48.cell? ⟨gb322, 2, none⟩ = some (.string a0_2) := (blk_cell BK322.out 2).trans rfl; have hcz49_3 : w48.cell? ⟨gb322, 3, none⟩ = some (.int .i64 a0_3) := (blk_cell BK322.out 3).trans rfl; have hcz49_4 : w48.cell? ⟨gb322, 4, none⟩ = some (.string a0_4) := (blk_cell BK322.out 4).trans rfl; have hcz49_5 : w48.cell? ⟨gb322, 5, none⟩ = some (.int .i64 a0_5) := (blk_cell BK322.out 5).trans rfl; have hcz49_6 : w48.cell? ⟨gb322, 6, none⟩ = some (.string a0_6) := (blk_cell BK322.out 6).trans rfl; have hfz49_0 := blk_frozen BK322.out 0; have hfz49_1 := blk_frozen BK322.out 1; have hfz49_2 := blk_frozen BK322.out 2; have hfz49_3 := blk_frozen BK322.out 3; have hfz49_4 := blk_frozen BK322.out 4; have hfz49_5 := blk_frozen BK322.out 5; have hfz49_6 := blk_frozen BK322.out 6) | ((with_reducible refine gate_callee (f := 22) rfl ?_); refine goesL_ (some 5) rfl rfl Try.func22 (by kernel_rfl) rfl #[.agg #[.int .i64 a0_0, .int .i64 a0_1, .string a0_2, .int .i64 a0_3, .string a0_4, .int .i64 a0_5, .string a0_6]] rfl (by (try simp only [List.map_toArray, List.map_cons, List.map_nil]); first | done | rfl | (simp only [List.length_drop, List.length_take]; rfl)) ?_; (with_reducible refine (spec_OpOk.calls k a0_0 a0_1 a0_2 a0_3 a0_4 a0_5 a0_6 false _ A2.out).mono ?_); rintro e w50 ⟨rfl, hb⟩; refine ⟨_, rfl, ?_⟩; have n0_ := Aside0.mk (blk_below (g := gb322) (o := .cells #[.int .i64 a0_0, .int .i64 a0_1, .string a0_2, .int .i64 a0_3, .string a0_4, .int .i64 a0_5, .string a0_6] 31 (0, 0)) (by (with_reducible repeat (first | refine blk_drewN ?_ _ | refine blk_drew ?_ | refine blk_alloc ?_ _)); exact BK322.out) hb); have n1_ := Aside0.mk (below_step (by repeat (first | (with_reducible first | exact HB.out | apply below_alloc | apply pw_below_drewN | apply below_drew1 | refine below_set ?_ GE322.out) | exact HB.out)) hb); clear BK322; clear HB; have BK322 := n0_; have HB := n1_; clear n0_ n1_; (try clear hb); (try clear hb2); (try clear hk); (try clear hi)) | ((with_reducible refine gate_dst (N := 7) rfl ?_); refine Kd.R_lit (Kd.int .i64) _ 3 ?hg (N := 7) ?hd (xs := ([] : List Int)) (inner := []) (ok := fun _ => True) (okp := fun _ => True) ?hr ?hp (fun _ hk => hk) trivial (Below.refl _ _) (Nat.le_refl _) (by simp) ?_; (case hd => rfl); (case hg => rfl); (case hr => first | (go_simp; done) | (go_simp; rfl)); (case hp => exact (Reps.none _ _)); intro v325 w51 ho52 hb hg_ hnew_; clear hg_ hnew_; (first | rw [← Ny324.out] at ho52 | (simp only [Int.reduceToNat] at ho52; rw [← Ny324.out] at ho52)); have n0_ := Aside0.mk (Kd.R_lower ho52 (below_size (by repeat (first | (with_reducible first | exact HB.out | apply below_alloc | apply pw_below_drewN | apply below_drew1 | refine below_set ?_ GE322.out) | exact HB.out)))); have n1_ := Aside0.mk (blk_below (g := gb322) (o := .cells #[.int .i64 a0_0, .int .i64 a0_1, .string a0_2, .int .i64 a0_3, .string a0_4, .int .i64 a0_5, .string a0_6] 31 (0, 0)) (by (with_reducible repeat (first | refine blk_drewN ?_ _ | refine blk_drew ?_ | refine blk_alloc ?_ _)); exact BK322.out) hb); have n2_ := Aside0.mk (below_step (by repeat (first | (with_reducible first | exact HB.out | apply below_alloc | apply pw_below_drewN | apply below_drew1 | refine below_set ?_ GE322.out) | exact HB.out)) hb); clear BK322; clear HB; have HO326 := n0_; have BK322 := n1_; have HB := n2_; clear n0_ n1_ n2_; clear hb ho52))
    go_ret
    exact ⟨_, by first | rfl | (simp [errW_none, errW_some] <;> rfl) | (simp [*, errW_none, errW_some] <;> rfl), by (with_reducible repeat (first | apply Kd.R_alloc | apply Kd.R_drewN | apply Kd.R_drew)); exact HO326.out, by repeat (first | (with_reducible first | exact HB.out | apply below_alloc | apply pw_below_drewN | apply below_drew1 | refine below_set ?_ GE322.out) | exact HB.out)⟩
end Go.Proofs.Ythmmleheahkeeaa.Q
namespace Go.Proofs.Ythmmleheahkeeaa.Q
open Go.RowKit Go.Proofs.YthmmleheahkeeaaW.PrintWords Go.Proofs.YthmmleheahkeeaaW.PrintLast Go.Proofs.YthmmleheahkeeaaW.PrintMore
attribute [local go_sem] max2_int min2_int max_two min_two max_three min_three max_four min_four   -- for this text's walks alone
set_option linter.unusedVariables false
set_option linter.unusedSimpArgs false
mutual
def spec_LogIds.l0 : Nat → List (S31) → List Int → Int → Option (List Int)
  | 0, _, _, _ => none
  | k + 1, x0, x3, x4 => if x4 < (x0.length : Int) then (spec_LogIds.j1 k x0 x3 x4 (decide (x4 < 60))) else (spec_LogIds.j1 k x0 x3 x4 false)
def spec_LogIds.j1 : Nat → List (S31) → List Int → Int → Bool → Option (List Int)
  | 0, _, _, _, _ => none
  | k + 1, x0, x3, x4, x15 => if x15 = true then (if 0 ≤ x4 then (if x4 < (x0.length : Int) then ((spec_OpIds.f k ((rd_T31 x0 x4).f0) ((rd_T31 x0 x4).f1) ((rd_T31 x0 x4).f2) ((rd_T31 x0 x4).f3) ((rd_T31 x0 x4).f4) ((rd_T31 x0 x4).f5) ((rd_T31 x0 x4).f6)).bind fun t614 => (spec_LogIds.l1 k x0 x3 x4 t614 0)) else (none)) else (none)) else (some x3)
def spec_LogIds.l1 : Nat → List (S31) → List Int → Int → List Int → Int → Option (List Int)
  | 0, _, _, _, _, _ => none
  | k + 1, x0, x3, x4, x5, x6 => if x6 < (x5.length : Int) then (if 0 ≤ x6 then ((spec_l2Put.f k x3 (rd x5 x6)).bind fun t618 => (spec_LogIds.l1 k x0 t618 x4 x5 (wrap64 (x6 + 1)))) else (none)) else (spec_LogIds.l0 k x0 x3 (wrap64 (x4 + 1)))
end
def spec_LogIds.f (k : Nat) (l0 : List (S31)) : Option (List Int) := spec_LogIds.l0 k l0 (([] : List Int)) 0
set_option maxHeartbeats 8000000 in
set_option maxRecDepth 100000 in
theorem spec_LogIds.calls (k : Nat) (A0 : Option Addr) (c0 : Nat) (l0 : List (S31)) (r : List Int) (w : World) (hr0 : Kd.C k31 w A0 l0.length l0) (hc0 : l0.length ≤ c0) (h : spec_LogIds.f k l0 = some r) :
    Calls Try.prog 51 #[.slice A0 l0.length c0] w fun e w' => ∃ v0_ : Value, e = .returned (v0_) ∧ Kd.R (Kd.int .i64) 3 w' w.heap.size (fun _ => True) v0_ r ∧ Below w.heap.size w w' := by
  have hu31 := Try.underlying31
  have HR0 := Aside0.mk hr0
  have HC0 := Aside0.mk hc0
  clear hr0 hc0
  have HB := Aside0.mk (Below.refl w.heap.size w)
  have H : (spec_LogIds.l0 k l0 (([] : List Int)) 0) = some r := h
  clear h
  obtain ⟨y610, hy610⟩ : ∃ y_ : List Int, y_ = (([] : List Int)) := ⟨_, rfl⟩
  replace H : (spec_LogIds.l0 k l0 y610 0) = some r := by first | (rw [hy610]; with_reducible exact H) | (have H2_ := (Option.bind_some _ _).symm.trans H; rw [hy610]; with_reducible exact H2_) | (have H2_ := (Option.bind_some _ _).symm.trans H; with_reducible exact H2_) | with_reducible exact H | (rw [hy610]; exact H) | exact H
  have Ny610 := Aside0.mk hy610
  clear hy610
  have H' := Aside0.mk H
  clear H
  go_enter Try.func51, Try.ntmps51
  go_wp2_with (first | ((with_reducible refine gate_dst (N := 7) rfl ?_); refine Kd.R_lit (Kd.int .i64) _ 3 ?hg (N := 7) ?hd (xs := ([] : List Int)) (inner := []) (ok := fun _ => True) (okp := fun _ => True) ?hr ?hp (fun _ hk => hk) trivial (Below.refl _ _) (Nat.le_refl _) (by simp) ?_; (case hd => rfl); (case hg => rfl); (case hr => first | (go_simp; done) | (go_simp; rfl)); (case hp => exact (Reps.none _ _)); intro v611 w2 ho3 hb hg_ hnew_; clear hg_ hnew_; (first | rw [← Ny610.out] at ho3 | (simp only [Int.reduceToNat] at ho3; rw [← Ny610.out] at ho3)); have n0_ := Aside0.mk (Kd.R_lower ho3 (below_size (by repeat (first | (with_reducible first | exact HB.out | apply below_alloc | apply pw_below_drewN | apply below_drew1) | exact HB.out)))); have n1_ := Aside0.mk (below_step (by repeat (first | (with_reducible first | exact HB.out | apply below_alloc | apply pw_below_drewN | apply below_drew1) | exact HB.out)) hb); clear HB; have HO612 := n0_; have HB := n1_; clear n0_ n1_; clear hb ho3))
  go_loopg [3, 4] k (fun kq v3 v4 w' => ∃ (x3_1 : List Int) (x4_1 : Int), v4 = .int .i64 x4_1 ∧ Aside0 (spec_LogIds.l0 kq l0 x3_1 x4_1 = some r) ∧ Aside0 (kq ≤ k) ∧ Aside0 (Kd.R (Kd.int .i64) 3 w' w.heap.size (fun _ => True) v3 x3_1) ∧ Aside0 (Below w.heap.size w w'))
  case atStart => exact ⟨(y610), (0), (by first | rfl | (simp; done) | (simp [*]; done)), H', ⟨Nat.le_refl _⟩, ⟨by (with_reducible repeat (first | apply Kd.R_alloc | apply Kd.R_drewN | apply Kd.R_drew)); exact HO612.out⟩, ⟨by repeat (first | (with_reducible first | exact HB.out | apply below_alloc | apply pw_below_drewN | apply below_drew1) | exact HB.out)⟩⟩
  case round =>
    clear H'
    try clear p2
    obtain ⟨x3_1, x4_1, rfl, HA, HK1, HO_3, HB⟩ := hrel
    cases gk with
    | zero => exact absurd HA.out (by simp [spec_LogIds.l0])
    | succ k1 =>
      have H := HA.out
      clear HA
      simp only [spec_LogIds.l0] at H
      have HC4 := Aside0.mk H
      clear H
      go_upto_region 3 with (fail)
      go_cut [15] (fun v15 wc => ∃ (kq : Nat) (x15_3 : Bool), v15 = .bool x15_3 ∧ Aside0 (spec_LogIds.j1 kq l0 x3_1 x4_1 x15_3 = some r) ∧ Aside0 (kq ≤ k1) ∧ Aside0 (Kd.R (Kd.int .i64) 3 wc w.heap.size (fun _ => True) u3 x3_1) ∧ Aside0 (Below w.heap.size w wc))
      case first =>
        have H := HC4.out
        clear HC4
        by_cases c5 : x4_1 < (l0.length : Int)
        · rw [if_pos c5] at H
          have c5b0 : decide (x4_1 < (l0.length : Int)) = true := decide_eq_true c5
          clear c5
          (first | rw [c5b0] | (simp only [i64_w, i32_w]; rw [c5b0]) | skip)
          have H' := Aside0.mk H
          clear H
          go_wp2
          go_meet
          case rel => exact ⟨_, (decide (x4_1 < 60)), (by first | rfl | (simp; done) | (simp [*]; done)), H', ⟨by have := HK1.out; first | omega | exact Nat.le_refl _⟩, ⟨by (with_reducible repeat (first | apply Kd.R_alloc | apply Kd.R_drewN | apply Kd.R_drew)); exact HO_3.out⟩, ⟨by repeat (first | (with_reducible first | exact HB.out | apply below_alloc | apply pw_below_drewN | apply below_drew1) | exact HB.out)⟩⟩
        · rw [if_neg c5] at H
          have c5b0 : decide (x4_1 < (l0.length : Int)) = false := decide_eq_false c5
          clear c5
          (first | rw [c5b0] | (simp only [i64_w, i32_w]; rw [c5b0]) | skip)
          have H' := Aside0.mk H
          clear H
          go_wp2
          go_meet
          case rel => exact ⟨_, (false), (by first | rfl | (simp; done) | (simp [*]; done)), H', ⟨by have := HK1.out; first | omega | exact Nat.le_refl _⟩, ⟨by (with_reducible repeat (first | apply Kd.R_alloc | apply Kd.R_drewN | apply Kd.R_drew)); exact HO_3.out⟩, ⟨by repeat (first | (with_reducible first | exact HB.out | apply below_alloc | apply pw_below_drewN | apply below_drew1) | exact HB.out)⟩⟩
      case rest =>
        clear HC4
        try clear p2
        try clear c5
        try clear c5b0
        try clear p2
        obtain ⟨kq, x15_3, rfl, HA, HJ3, HO_3, HB⟩ := hcut
        cases kq with
        | zero => exact absurd HA.out (by simp [spec_LogIds.j1])
        | succ kj3 =>
          have H := HA.out
          clear HA
          simp only [spec_LogIds.j1] at H
          by_cases c6 : x15_3 = true
          · subst c6
            have H1 : (if 0 ≤ x4_1 then (if x4_1 < (l0.length : Int) then ((spec_OpIds.f kj3 ((rd_T31 l0 x4_1).f0) ((rd_T31 l0 x4_1).f1) ((rd_T31 l0 x4_1).f2) ((rd_T31 l0 x4_1).f3) ((rd_T31 l0 x4_1).f4) ((rd_T31 l0 x4_1).f5) ((rd_T31 l0 x4_1).f6)).bind fun t614 => (spec_LogIds.l1 kj3 l0 x3_1 x4_1 t614 0)) else (none)) else (none)) = some r := by rw [if_pos rfl] at H; exact H
            clear H
            have H := H1
            clear H1
            by_cases c7 : 0 ≤ x4_1
            · rw [if_pos c7] at H
              have c7b0 : decide (0 ≤ x4_1) = true := decide_eq_true c7
              clear c7
              by_cases c8 : x4_1 < (l0.length : Int)
              · rw [if_pos c8] at H
                have c8b0 : decide (x4_1 < (l0.length : Int)) = true := decide_eq_true c8
                clear c8
                replace H := Option.bind_eq_some_iff.mp H
                obtain ⟨t614, A90, H⟩ := H
                replace H : (spec_LogIds.l1 kj3 l0 x3_1 x4_1 t614 0) = some r := H
                have A9 := Aside0.mk A90
                clear A90
                have H' := Aside0.mk H
                clear H
                have p613 : 0 ≤ (x4_1 : Int) := of_decide_eq_true (by first | (with_reducible assumption) | assumption)
                have q613 : x4_1 < (l0.length : Int) := of_decide_eq_true (by first | (with_reducible assumption) | assumption)
                obtain ⟨ad613, e613, hx613_0, hx613_1, hx613_2, hx613_3, hx613_4, hx613_5, hx613_6⟩ := at_T31 HR0.out x4_1 p613 q613
                cases e613
                replace hx613_0 := (HB.out.cell (World.block_lt_of_cell? w _ hx613_0)).trans hx613_0
                replace hx613_1 := (HB.out.cell (World.block_lt_of_cell? w _ hx613_1)).trans hx613_1
                replace hx613_2 := (HB.out.cell (World.block_lt_of_cell? w _ hx613_2)).trans hx613_2
                replace hx613_3 := (HB.out.cell (World.block_lt_of_cell? w _ hx613_3)).trans hx613_3
                replace hx613_4 := (HB.out.cell (World.block_lt_of_cell? w _ hx613_4)).trans hx613_4
                replace hx613_5 := (HB.out.cell (World.block_lt_of_cell? w _ hx613_5)).trans hx613_5
                replace hx613_6 := (HB.out.cell (World.block_lt_of_cell? w _ hx613_6)).trans hx613_6
                replace p613 := eq_true p613
                replace q613 := eq_true q613
                go_wp2_with (first | ((with_reducible refine gate_callee (f := 35) rfl ?_); refine goesL_ (some 22) rfl rfl Try.func35 (by kernel_rfl) rfl #[.agg #[.int .i64 ((rd_T31 l0 x4_1).f0), .int .i64 ((rd_T31 l0 x4_1).f1), .string ((rd_T31 l0 x4_1).f2), .int .i64 ((rd_T31 l0 x4_1).f3), .string ((rd_T31 l0 x4_1).f4), .int .i64 ((rd_T31 l0 x4_1).f5), .string ((rd_T31 l0 x4_1).f6)]] rfl (by (try simp only [List.map_toArray, List.map_cons, List.map_nil]); first | done | rfl | (simp only [List.length_drop, List.length_take]; rfl)) ?_; (with_reducible refine (spec_OpIds.calls kj3 ((rd_T31 l0 x4_1).f0) ((rd_T31 l0 x4_1).f1) ((rd_T31 l0 x4_1).f2) ((rd_T31 l0 x4_1).f3) ((rd_T31 l0 x4_1).f4) ((rd_T31 l0 x4_1).f5) ((rd_T31 l0 x4_1).f6) t614 _ A9.out).mono ?_); rintro e w10 ⟨v615, rfl, ho0, hb⟩; refine ⟨_, rfl, ?_⟩; have n0_ := Aside0.mk (Kd.R_elder' (by (with_reducible repeat (first | apply Kd.R_alloc | apply Kd.R_drewN | apply Kd.R_drew)); exact HO_3.out) (Kd.R_base ho0) hb); have n1_ := Aside0.mk (Kd.R_lower (Kd.R_new' ho0 (Kd.R_lt (by (with_reducible repeat (first | apply Kd.R_alloc | apply Kd.R_drewN | apply Kd.R_drew)); exact HO_3.out))) (below_size (by repeat (first | (with_reducible first | exact HB.out | apply below_alloc | apply pw_below_drewN | apply below_drew1) | exact HB.out)))); have n2_ := Aside0.mk (below_step (by repeat (first | (with_reducible first | exact HB.out | apply below_alloc | apply pw_below_drewN | apply below_drew1) | exact HB.out)) hb); clear HO_3; clear HB; have HO_3 := n0_; have HO616 := n1_; have HB := n2_; clear n0_ n1_ n2_; (try clear hb); (try clear hb2); (try clear hk); (try clear hi); (try clear ho0)))
                go_loopg [3, 6] kj3 (fun kq v3 v6 w' => ∃ (x3_3 : List Int) (x6_3 : Int), v6 = .int .i64 x6_3 ∧ Aside0 (spec_LogIds.l1 kq l0 x3_3 x4_1 t614 x6_3 = some r) ∧ Aside0 (kq ≤ kj3) ∧ Aside0 (Kd.R (Kd.int .i64) 3 w' w.heap.size (fun k_ => some k_ ≠ (v615 : Value).ownBlock) v3 x3_3) ∧ Aside0 (Kd.R (Kd.int .i64) 3 w' w.heap.size (fun k_ => some k_ ≠ (v3 : Value).ownBlock) v615 t614) ∧ Aside0 (Below w.heap.size w w'))
                case atStart => exact ⟨(x3_1), (0), (by first | rfl | (simp; done) | (simp [*]; done)), H', ⟨Nat.le_refl _⟩, ⟨by (with_reducible repeat (first | apply Kd.R_alloc | apply Kd.R_drewN | apply Kd.R_drew)); exact Kd.R_mono HO_3.out (fun _ hk => hk.2)⟩, ⟨by (with_reducible repeat (first | apply Kd.R_alloc | apply Kd.R_drewN | apply Kd.R_drew)); exact Kd.R_mono HO616.out (fun _ hk => hk.2)⟩, ⟨by repeat (first | (with_reducible first | exact HB.out | apply below_alloc | apply pw_below_drewN | apply below_drew1) | exact HB.out)⟩⟩
                case round =>
                  clear H'
                  try clear p2
                  try clear c3
                  try clear c5
                  try clear c5b0
                  try clear c6
                  try clear p6
                  try clear q6
                  try clear hx6
                  try clear c7
                  try clear c7b0
                  try clear c8
                  try clear c8b0
                  try clear hx613_0
                  try clear hx613_1
                  try clear hx613_2
                  try clear hx613_3
                  try clear hx613_4
                  try clear hx613_5
                  try clear hx613_6
                  try clear p2
                  try clear p613
                  try clear q613
                  obtain ⟨x3_3, x6_3, rfl, HA, HK3, HO_3, HO_5, HB⟩ := hrel
                  cases gk with
                  | zero => exact absurd HA.out (by simp [spec_LogIds.l1])
                  | succ k3 =>
                    have H := HA.out
                    clear HA
                    simp only [spec_LogIds.l1] at H
                    by_cases c11 : x6_3 < (t614.length : Int)
                    · rw [if_pos c11] at H
                      have c11b0 : decide (x6_3 < (t614.length : Int)) = true := decide_eq_true c11
                      clear c11
                      by_cases c12 : 0 ≤ x6_3
                      · rw [if_pos c12] at H
                        have c12b0 : decide (0 ≤ x6_3) = true := decide_eq_true c12
                        clear c12
                        replace H := Option.bind_eq_some_iff.mp H
                        obtain ⟨t618, A130, H⟩ := H
                        replace H : (spec_LogIds.l1 k3 l0 t618 x4_1 t614 (wrap64 (x6_3 + 1))) = some r := H
                        have A13 := Aside0.mk A130
                        clear A130
                        have H' := Aside0.mk H
                        clear H
                        obtain ⟨Ao14, co14, eo14⟩ := Kd.R_slice HO_5.out
                        subst eo14
                        have p617 : 0 ≤ (x6_3 : Int) := of_decide_eq_true (by first | (with_reducible assumption) | assumption)
                        have q617 : x6_3 < (t614.length : Int) := of_decide_eq_true (by first | (with_reducible assumption) | assumption)
                        obtain ⟨ad617, e617, hx617_0⟩ := Kd.at_int (Kd.R_reads' HO_5.out).2.2 x6_3 p617 q617
                        cases e617
                        replace p617 := eq_true p617
                        replace q617 := eq_true q617
                        obtain ⟨Ao15, co15, eo15⟩ := Kd.R_slice HO_3.out
                        subst eo15
                        go_wp2_with (first | ((with_reducible refine gate_callee (f := 63) rfl ?_); refine goesL_ (some 34) rfl rfl Try.func63 (by kernel_rfl) rfl #[.slice Ao15 x3_3.length co15, .int .i64 (rd t614 x6_3)] rfl (by (try simp only [List.map_toArray, List.map_cons, List.map_nil]); first | done | rfl | (simp only [List.length_drop, List.length_take]; rfl)) ?_; (with_reducible refine (spec_l2Put.calls k3 (fun k_ => some k_ = (.slice Ao15 x3_3.length co15 : Value).ownBlock) (.slice Ao15 x3_3.length co15) x3_3 (rd t614 x6_3) t618 w _ ?side1 ?side2 A13.out).mono ?_); (case side1 => repeat (first | (with_reducible first | exact HB.out | apply below_alloc | apply pw_below_drewN | apply below_drew1) | exact HB.out)); (case side2 => exact Kd.R_tight rfl HO_3.out); rintro e w16 ⟨v619, rfl, ho0, hb, hkp⟩; refine ⟨_, rfl, ?_⟩; have n0_ := Aside0.mk (Kd.R_mono (ok' := fun k_ => some k_ ≠ (v619 : Value).ownBlock) (Kd.R_keptB (HO_5.out) hkp (fun k_ hk_ hs_ => (hk_) hs_)) (fun k_ hk_ => fun e_ => Or.elim (ho0.1 k_ e_.symm) (fun hs_ => hk_.2.1 hs_) (fun hn_ => Nat.not_le.2 hk_.2.2 hn_))); have n1_ := Aside0.mk (Kd.R_mono (ok' := fun k_ => some k_ ≠ (.slice (some ad617) t614.length co14 : Value).ownBlock) ho0 (fun k_ hk_ => Or.elim hk_ (fun hs_ => fun e_ => (((HO_5.out).1 k_ e_.symm)) hs_) (fun hn_ => (Kd.fresh' (Kd.R_lt (by (with_reducible repeat (first | apply Kd.R_alloc | apply Kd.R_drewN | apply Kd.R_drew)); exact HO_5.out)) k_ hn_)))); have n2_ := Aside0.mk (hb); clear HO_5; clear HB; clear HO_3; have HO_5 := n0_; have HO620 := n1_; have HB := n2_; clear n0_ n1_ n2_; (try clear hb); (try clear hkp); (try clear ho0)))
                        go_roundg k3
                        case measure => have := HK1.out; have := HJ3.out; have := HK3.out; omega
                        case rel => exact ⟨(t618), (wrap64 (x6_3 + 1)), (by first | rfl | (simp; done) | (simp [*]; done)), H', ⟨by have := HK1.out; have := HJ3.out; have := HK3.out; omega⟩, ⟨by (with_reducible repeat (first | apply Kd.R_alloc | apply Kd.R_drewN | apply Kd.R_drew)); exact HO620.out⟩, ⟨by (with_reducible repeat (first | apply Kd.R_alloc | apply Kd.R_drewN | apply Kd.R_drew)); exact HO_5.out⟩, ⟨by repeat (first | (with_reducible first | exact HB.out | apply below_alloc | apply pw_below_drewN | apply below_drew1) | exact HB.out)⟩⟩
                      · rw [if_neg c12] at H
                        exact absurd H (by simp)
                    · rw [if_neg c11] at H
                      have c11b0 : decide (x6_3 < (t614.length : Int)) = false := decide_eq_false c11
                      clear c11
                      have H' := Aside0.mk H
                      clear H
                      obtain ⟨Ao17, co17, eo17⟩ := Kd.R_slice HO_5.out
                      subst eo17
                      go_wp2
                      go_roundg k3
                      case measure => have := HK1.out; have := HJ3.out; have := HK3.out; omega
                      case rel => exact ⟨(x3_3), (wrap64 (x4_1 + 1)), (by first | rfl | (simp; done) | (simp [*]; done)), H', ⟨by have := HK1.out; have := HJ3.out; have := HK3.out; omega⟩, ⟨by (with_reducible repeat (first | apply Kd.R_alloc | apply Kd.R_drewN | apply Kd.R_drew)); exact Kd.R_mono HO_3.out (fun _ hk => trivial)⟩, ⟨by repeat (first | (with_reducible first | exact HB.out | apply below_alloc | apply pw_below_drewN | apply below_drew1) | exact HB.out)⟩⟩
              · rw [if_neg c8] at H
                exact absurd H (by simp)
            · rw [if_neg c7] at H
              exact absurd H (by simp)
          · replace c6 := Bool.eq_false_iff.mpr c6
            subst c6
            have H1 : (some x3_1) = some r := by rw [if_neg (show ¬ (false = true) by decide)] at H; exact H
            clear H
            have H := H1
            clear H1
            obtain rfl := Option.some.inj H
            go_wp2
            go_ret
            exact ⟨_, by first | rfl | (simp [errW_none, errW_some] <;> rfl) | (simp [*, errW_none, errW_some] <;> rfl), by (with_reducible repeat (first | apply Kd.R_alloc | apply Kd.R_drewN | apply Kd.R_drew)); exact HO_3.out, by repeat (first | (with_reducible first | exact HB.out | apply below_alloc | apply pw_below_drewN | apply below_drew1) | exact HB.out)⟩
end Go.Proofs.Ythmmleheahkeeaa.Q
namespace Go.Proofs.Ythmmleheahkeeaa.Q
open Go.RowKit Go.Proofs.YthmmleheahkeeaaW.PrintWords Go.Proofs.YthmmleheahkeeaaW.PrintLast Go.Proofs.YthmmleheahkeeaaW.PrintMore
attribute [local go_sem] max2_int min2_int max_two min_two max_three min_three max_four min_four   -- for this text's walks alone
set_option linter.unusedVariables false
set_option linter.unusedSimpArgs false
def impl_in.f (a0 : Int) (a1 : Int) (a2 : Int) : Option (Bool) := if a0 ≥ a1 then (some (decide (a0 ≤ a2))) else (some false)
set_option maxHeartbeats 8000000 in
set_option maxRecDepth 100000 in
theorem impl_in.calls (a0 : Int) (a1 : Int) (a2 : Int) (r : Bool) (w : World) (h : impl_in.f a0 a1 a2 = some r) :
    Calls Try.prog 54 #[.int .i64 a0, .int .i64 a1, .int .i64 a2] w fun e w' => e = .returned (.bool r) ∧ Drawn0 w w' := by
  have H : (if a0 ≥ a1 then (some (decide (a0 ≤ a2))) else (some false)) = some r := h
  clear h
  by_cases c4 : a0 ≥ a1
  · rw [if_pos c4] at H
    have c4b0 : decide (a1 ≤ a0) = true := decide_eq_true c4
    clear c4
    obtain rfl := Option.some.inj H
    go_enter Try.func54, Try.ntmps54
    go_wp2
    go_ret
    exact ⟨by first | rfl | (simp; done) | (simp [*]; done), by repeat (first | exact Drawn0.refl _ | apply Drawn0.step)⟩
  · rw [if_neg c4] at H
    have c4b0 : decide (a1 ≤ a0) = false := decide_eq_false c4
    clear c4
    obtain rfl := Option.some.inj H
    go_enter Try.func54, Try.ntmps54
    go_wp2
    go_ret
    exact ⟨by first | rfl | (simp; done) | (simp [*]; done), by repeat (first | exact Drawn0.refl _ | apply Drawn0.step)⟩
end Go.Proofs.Ythmmleheahkeeaa.Q
namespace Go.Proofs.Ythmmleheahkeeaa.Q
open Go.RowKit Go.Proofs.YthmmleheahkeeaaW.PrintWords Go.Proofs.YthmmleheahkeeaaW.PrintLast Go.Proofs.YthmmleheahkeeaaW.PrintMore
attribute [local go_sem] max2_int min2_int max_two min_two max_three min_three max_four min_four   -- for this text's walks alone
set_option linter.unusedVariables false
set_option linter.unusedSimpArgs false
def impl_TreeBody.l0 : Nat → ByteArray → Int → Option (Bool)
  | 0, _, _ => none
  | k + 1, x0, x3 => if x3 < (x0.size : Int) then (if 0 ≤ x3 then ((impl_in.f (wrap64 (bt x0 x3)) 97 122).bind fun t101 => (if t101 = true then (impl_TreeBody.l0 k x0 (wrap64 (x3 + 1))) else ((impl_in.f (wrap64 (bt x0 x3)) 48 57).bind fun t102 => (if t102 = true then (impl_TreeBody.l0 k x0 (wrap64 (x3 + 1))) else (some false))))) else (none)) else (some (decide ((x0.size : Int) ≤ 12)))
def impl_TreeBody.f (k : Nat) (a0 : ByteArray) : Option (Bool) := impl_TreeBody.l0 k a0 0
set_option maxHeartbeats 8000000 in
set_option maxRecDepth 100000 in
theorem impl_TreeBody.calls (k : Nat) (a0 : ByteArray) (r : Bool) (w : World) (h : impl_TreeBody.f k a0 = some r) :
    Calls Try.prog 16 #[.string a0] w fun e w' => e = .returned (.bool r) ∧ Drawn0 w w' := by
  have H : (impl_TreeBody.l0 k a0 0) = some r := h
  clear h
  have H' := Aside0.mk H
  clear H
  go_enter Try.func16, Try.ntmps16
  go_wp2
  go_loopg [3] k (fun kq v3 w' => ∃ (x3_1 : Int), v3 = .int .i64 x3_1 ∧ Aside0 (impl_TreeBody.l0 kq a0 x3_1 = some r) ∧ Aside0 (kq ≤ k) ∧ Drawn0 w w')
  case atStart => exact ⟨(0), (by first | rfl | (simp; done) | (simp [*]; done)), H', ⟨Nat.le_refl _⟩, by repeat (first | exact Drawn0.refl _ | apply Drawn0.step)⟩
  case round =>
    clear H'
    try clear c1
    obtain ⟨x3_1, rfl, HA, HK1, ⟨m1, rfl⟩⟩ := hrel
    cases gk with
    | zero => exact absurd HA.out (by simp [impl_TreeBody.l0])
    | succ k1 =>
      have H := HA.out
      clear HA
      simp only [impl_TreeBody.l0] at H
      by_cases c2 : x3_1 < (a0.size : Int)
      · rw [if_pos c2] at H
        have c2b0 : decide (x3_1 < (a0.size : Int)) = true := decide_eq_true c2
        clear c2
        by_cases c3 : 0 ≤ x3_1
        · rw [if_pos c3] at H
          have c3b0 : decide (0 ≤ x3_1) = true := decide_eq_true c3
          clear c3
          replace H := Option.bind_eq_some_iff.mp H
          obtain ⟨t101, A50, H⟩ := H
          replace H : (if t101 = true then (impl_TreeBody.l0 k1 a0 (wrap64 (x3_1 + 1))) else ((impl_in.f (wrap64 (bt a0 x3_1)) 48 57).bind fun t102 => (if t102 = true then (impl_TreeBody.l0 k1 a0 (wrap64 (x3_1 + 1))) else (some false)))) = some r := H
          have A5 := Aside0.mk A50
          clear A50
          by_cases c6 : t101 = true
          · subst c6
            have H1 : (impl_TreeBody.l0 k1 a0 (wrap64 (x3_1 + 1))) = some r := by rw [if_pos rfl] at H; exact H
            clear H
            have H := H1
            clear H1
            have H' := Aside0.mk H
            clear H
            have p4 : 0 ≤ (x3_1 : Int) := of_decide_eq_true (by first | (with_reducible assumption) | assumption)
            have q4 : x3_1 < (a0.size : Int) := of_decide_eq_true (by first | (with_reducible assumption) | assumption)
            have hx4 := bt_at a0 x3_1
            replace p4 := eq_true p4
            replace q4 := eq_true q4
            go_wp2_with (first | ((with_reducible refine gate_callee (f := 54) rfl ?_); refine goesL_ (some 14) rfl rfl Try.func54 (by kernel_rfl) rfl #[.int .i64 (wrap64 (bt a0 x3_1)), .int .i64 97, .int .i64 122] rfl (by (try simp only [List.map_toArray, List.map_cons, List.map_nil]); first | done | rfl | (simp only [List.length_drop, List.length_take]; rfl)) ?_; (with_reducible refine (impl_in.calls (wrap64 (bt a0 x3_1)) 97 122 true _ A5.out).mono ?_); rintro e w' ⟨rfl, ⟨nd, rfl⟩⟩; refine ⟨_, rfl, ?_⟩))
            go_roundg k1
            case measure => have := HK1.out; omega
            case rel => exact ⟨(wrap64 (x3_1 + 1)), (by first | rfl | (simp; done) | (simp [*]; done)), H', ⟨by have := HK1.out; omega⟩, by repeat (first | exact Drawn0.refl _ | apply Drawn0.step)⟩
          · replace c6 := Bool.eq_false_iff.mpr c6
            subst c6
            have H1 : ((impl_in.f (wrap64 (bt a0 x3_1)) 48 57).bind fun t102 => (if t102 = true then (impl_TreeBody.l0 k1 a0 (wrap64 (x3_1 + 1))) else (some false))) = some r := by rw [if_neg (show ¬ (false = true) by decide)] at H; exact H
            clear H
            have H := H1
            clear H1
            replace H := Option.bind_eq_some_iff.mp H
            obtain ⟨t102, A80, H⟩ := H
            replace H : (if t102 = true then (impl_TreeBody.l0 k1 a0 (wrap64 (x3_1 + 1))) else (some false)) = some r := H
            have A8 := Aside0.mk A80
            clear A80
            by_cases c9 : t102 = true
            · subst c9
              have H1 : (impl_TreeBody.l0 k1 a0 (wrap64 (x3_1 + 1))) = some r := by rw [if_pos rfl] at H; exact H
              clear H
              have H := H1
              clear H1
              have H' := Aside0.mk H
              clear H
              have p4 : 0 ≤ (x3_1 : Int) := of_decide_eq_true (by first | (with_reducible assumption) | assumption)
              have q4 : x3_1 < (a0.size : Int) := of_decide_eq_true (by first | (with_reducible assumption) | assumption)
              have hx4 := bt_at a0 x3_1
              replace p4 := eq_true p4
              replace q4 := eq_true q4
              go_wp2_with (first | ((with_reducible refine gate_callee (f := 54) rfl ?_); refine goesL_ (some 14) rfl rfl Try.func54 (by kernel_rfl) rfl #[.int .i64 (wrap64 (bt a0 x3_1)), .int .i64 97, .int .i64 122] rfl (by (try simp only [List.map_toArray, List.map_cons, List.map_nil]); first | done | rfl | (simp only [List.length_drop, List.length_take]; rfl)) ?_; (with_reducible refine (impl_in.calls (wrap64 (bt a0 x3_1)) 97 122 false _ A5.out).mono ?_); rintro e w' ⟨rfl, ⟨nd, rfl⟩⟩; refine ⟨_, rfl, ?_⟩; have p7 : 0 ≤ (x3_1 : Int) := of_decide_eq_true (by first | (with_reducible assumption) | assumption); have q7 : x3_1 < (a0.size : Int) := of_decide_eq_true (by first | (with_reducible assumption) | assumption); have hx7 := bt_at a0 x3_1; replace p7 := eq_true p7; replace q7 := eq_true q7) | (go_at_call 54; (with_reducible refine (impl_in.calls (wrap64 (bt a0 x3_1)) 48 57 true _ A8.out).mono ?_); rintro e w' ⟨rfl, ⟨nd, rfl⟩⟩))
              go_roundg k1
              case measure => have := HK1.out; omega
              case rel => exact ⟨(wrap64 (x3_1 + 1)), (by first | rfl | (simp; done) | (simp [*]; done)), H', ⟨by have := HK1.out; omega⟩, by repeat (first | exact Drawn0.refl _ | apply Drawn0.step)⟩
            · replace c9 := Bool.eq_false_iff.mpr c9
              subst c9
              have H1 : (some false) = some r := by rw [if_neg (show ¬ (false = true) by decide)] at H; exact H
              clear H
              have H := H1
              clear H1
              obtain rfl := Option.some.inj H
              have p4 : 0 ≤ (x3_1 : Int) := of_decide_eq_true (by first | (with_reducible assumption) | assumption)
              have q4 : x3_1 < (a0.size : Int) := of_decide_eq_true (by first | (with_reducible assumption) | assumption)
              have hx4 := bt_at a0 x3_1
              replace p4 := eq_true p4
              replace q4 := eq_true q4
              go_wp2_with (first | ((with_reducible refine gate_callee (f := 54) rfl ?_); refine goesL_ (some 14) rfl rfl Try.func54 (by kernel_rfl) rfl #[.int .i64 (wrap64 (bt a0 x3_1)), .int .i64 97, .int .i64 122] rfl (by (try simp only [List.map_toArray, List.map_cons, List.map_nil]); first | done | rfl | (simp only [List.length_drop, List.length_take]; rfl)) ?_; (with_reducible refine (impl_in.calls (wrap64 (bt a0 x3_1)) 97 122 false _ A5.out).mono ?_); rintro e w' ⟨rfl, ⟨nd, rfl⟩⟩; refine ⟨_, rfl, ?_⟩; have p7 : 0 ≤ (x3_1 : Int) := of_decide_eq_true (by first | (with_reducible assumption) | assumption); have q7 : x3_1 < (a0.size : Int) := of_decide_eq_true (by first | (with_reducible assumption) | assumption); have hx7 := bt_at a0 x3_1; replace p7 := eq_true p7; replace q7 := eq_true q7) | (go_at_call 54; (with_reducible refine (impl_in.calls (wrap64 (bt a0 x3_1)) 48 57 false _ A8.out).mono ?_); rintro e w' ⟨rfl, ⟨nd, rfl⟩⟩))
              go_ret
              exact ⟨by first | rfl | (simp; done) | (simp [*]; done), by repeat (first | exact Drawn0.refl _ | apply Drawn0.step)⟩
        · rw [if_neg c3] at H
          exact absurd H (by simp)
      · rw [if_neg c2] at H
        have c2b0 : decide (x3_1 < (a0.size : Int)) = false := decide_eq_false c2
        clear c2
        obtain rfl := Option.some.inj H
        go_wp2
        go_ret
        exact ⟨by first | rfl | (simp; done) | (simp [*]; done), by repeat (first | exact Drawn0.refl _ | apply Drawn0.step)⟩
end Go.Proofs.Ythmmleheahkeeaa.Q
namespace Go.Proofs.Ythmmleheahkeeaa.Q
open Go.RowKit Go.Proofs.YthmmleheahkeeaaW.PrintWords Go.Proofs.YthmmleheahkeeaaW.PrintLast Go.Proofs.YthmmleheahkeeaaW.PrintMore
attribute [local go_sem] max2_int min2_int max_two min_two max_three min_three max_four min_four   -- for this text's walks alone
set_option linter.unusedVariables false
set_option linter.unusedSimpArgs false
def impl_TreeWord.l0 : Nat → ByteArray → Int → Option (Bool)
  | 0, _, _ => none
  | k + 1, x0, x3 => if x3 < (x0.size : Int) then (if 0 ≤ x3 then ((impl_in.f (wrap64 (bt x0 x3)) 97 122).bind fun t105 => (if t105 = true then (impl_TreeWord.l0 k x0 (wrap64 (x3 + 1))) else (some false))) else (none)) else ((impl_in.f (x0.size : Int) 1 4).bind fun t106 => (some t106))
def impl_TreeWord.f (k : Nat) (a0 : ByteArray) : Option (Bool) := impl_TreeWord.l0 k a0 0
set_option maxHeartbeats 8000000 in
set_option maxRecDepth 100000 in
theorem impl_TreeWord.calls (k : Nat) (a0 : ByteArray) (r : Bool) (w : World) (h : impl_TreeWord.f k a0 = some r) :
    Calls Try.prog 18 #[.string a0] w fun e w' => e = .returned (.bool r) ∧ Drawn0 w w' := by
  have H : (impl_TreeWord.l0 k a0 0) = some r := h
  clear h
  have H' := Aside0.mk H
  clear H
  go_enter Try.func18, Try.ntmps18
  go_wp2
  go_loopg [3] k (fun kq v3 w' => ∃ (x3_1 : Int), v3 = .int .i64 x3_1 ∧ Aside0 (impl_TreeWord.l0 kq a0 x3_1 = some r) ∧ Aside0 (kq ≤ k) ∧ Drawn0 w w')
  case atStart => exact ⟨(0), (by first | rfl | (simp; done) | (simp [*]; done)), H', ⟨Nat.le_refl _⟩, by repeat (first | exact Drawn0.refl _ | apply Drawn0.step)⟩
  case round =>
    clear H'
    try clear c1
    obtain ⟨x3_1, rfl, HA, HK1, ⟨m1, rfl⟩⟩ := hrel
    cases gk with
    | zero => exact absurd HA.out (by simp [impl_TreeWord.l0])
    | succ k1 =>
      have H := HA.out
      clear HA
      simp only [impl_TreeWord.l0] at H
      by_cases c2 : x3_1 < (a0.size : Int)
      · rw [if_pos c2] at H
        have c2b0 : decide (x3_1 < (a0.size : Int)) = true := decide_eq_true c2
        clear c2
        by_cases c3 : 0 ≤ x3_1
        · rw [if_pos c3] at H
          have c3b0 : decide (0 ≤ x3_1) = true := decide_eq_true c3
          clear c3
          replace H := Option.bind_eq_some_iff.mp H
          obtain ⟨t105, A50, H⟩ := H
          replace H : (if t105 = true then (impl_TreeWord.l0 k1 a0 (wrap64 (x3_1 + 1))) else (some false)) = some r := H
          have A5 := Aside0.mk A50
          clear A50
          by_cases c6 : t105 = true
          · subst c6
            have H1 : (impl_TreeWord.l0 k1 a0 (wrap64 (x3_1 + 1))) = some r := by rw [if_pos rfl] at H; exact H
            clear H
            have H := H1
            clear H1
            have H' := Aside0.mk H
            clear H
            have p4 : 0 ≤ (x3_1 : Int) := of_decide_eq_true (by first | (with_reducible assumption) | assumption)
            have q4 : x3_1 < (a0.size : Int) := of_decide_eq_true (by first | (with_reducible assumption) | assumption)
            have hx4 := bt_at a0 x3_1
            replace p4 := eq_true p4
            replace q4 := eq_true q4
            go_wp2_with (first | ((with_reducible refine gate_callee (f := 54) rfl ?_); refine goesL_ (some 14) rfl rfl Try.func54 (by kernel_rfl) rfl #[.int .i64 (wrap64 (bt a0 x3_1)), .int .i64 97, .int .i64 122] rfl (by (try simp only [List.map_toArray, List.map_cons, List.map_nil]); first | done | rfl | (simp only [List.length_drop, List.length_take]; rfl)) ?_; (with_reducible refine (impl_in.calls (wrap64 (bt a0 x3_1)) 97 122 true _ A5.out).mono ?_); rintro e w' ⟨rfl, ⟨nd, rfl⟩⟩; refine ⟨_, rfl, ?_⟩))
            go_roundg k1
            case measure => have := HK1.out; omega
            case rel => exact ⟨(wrap64 (x3_1 + 1)), (by first | rfl | (simp; done) | (simp [*]; done)), H', ⟨by have := HK1.out; omega⟩, by repeat (first | exact Drawn0.refl _ | apply Drawn0.step)⟩
          · replace c6 := Bool.eq_false_iff.mpr c6
            subst c6
            have H1 : (some false) = some r := by rw [if_neg (show ¬ (false = true) by decide)] at H; exact H
            clear H
            have H := H1
            clear H1
            obtain rfl := Option.some.inj H
            have p4 : 0 ≤ (x3_1 : Int) := of_decide_eq_true (by first | (with_reducible assumption) | assumption)
            have q4 : x3_1 < (a0.size : Int) := of_decide_eq_true (by first | (with_reducible assumption) | assumption)
            have hx4 := bt_at a0 x3_1
            replace p4 := eq_true p4
            replace q4 := eq_true q4
            go_wp2_with (first | ((with_reducible refine gate_callee (f := 54) rfl ?_); refine goesL_ (some 14) rfl rfl Try.func54 (by kernel_rfl) rfl #[.int .i64 (wrap64 (bt a0 x3_1)), .int .i64 97, .int .i64 122] rfl (by (try simp only [List.map_toArray, List.map_cons, List.map_nil]); first | done | rfl | (simp only [List.length_drop, List.length_take]; rfl)) ?_; (with_reducible refine (impl_in.calls (wrap64 (bt a0 x3_1)) 97 122 false _ A5.out).mono ?_); rintro e w' ⟨rfl, ⟨nd, rfl⟩⟩; refine ⟨_, rfl, ?_⟩))
            go_ret
            exact ⟨by first | rfl | (simp; done) | (simp [*]; done), by repeat (first | exact Drawn0.refl _ | apply Drawn0.step)⟩
        · rw [if_neg c3] at H
          exact absurd H (by simp)
      · rw [if_neg c2] at H
        have c2b0 : decide (x3_1 < (a0.size : Int)) = false := decide_eq_false c2
        clear c2
        replace H := Option.bind_eq_some_iff.mp H
        obtain ⟨t106, A70, H⟩ := H
        replace H : (some t106) = some r := H
        have A7 := Aside0.mk A70
        clear A70
        obtain rfl := Option.some.inj H
        go_wp2_with (first | ((with_reducible refine gate_callee (f := 54) rfl ?_); refine goesL_ (some 18) rfl rfl Try.func54 (by kernel_rfl) rfl #[.int .i64 (a0.size : Int), .int .i64 1, .int .i64 4] rfl (by (try simp only [List.map_toArray, List.map_cons, List.map_nil]); first | done | rfl | (simp only [List.length_drop, List.length_take]; rfl)) ?_; (with_reducible refine (impl_in.calls (a0.size : Int) 1 4 t106 _ A7.out).mono ?_); rintro e w' ⟨rfl, ⟨nd, rfl⟩⟩; refine ⟨_, rfl, ?_⟩))
        go_ret
        exact ⟨by first | rfl | (simp; done) | (simp [*]; done), by repeat (first | exact Drawn0.refl _ | apply Drawn0.step)⟩
end Go.Proofs.Ythmmleheahkeeaa.Q
namespace Go.Proofs.Ythmmleheahkeeaa.Q
open Go.RowKit Go.Proofs.YthmmleheahkeeaaW.PrintWords Go.Proofs.YthmmleheahkeeaaW.PrintLast Go.Proofs.YthmmleheahkeeaaW.PrintMore
attribute [local go_sem] max2_int min2_int max_two min_two max_three min_three max_four min_four   -- for this text's walks alone
set_option linter.unusedVariables false
set_option linter.unusedSimpArgs false
mutual
def impl_OpOk.j0 : Nat → Bool → Int → Int → ByteArray → Int → ByteArray → Int → ByteArray → Option (Bool)
  | 0, _, _, _, _, _, _, _, _ => none
  | k + 1, x3, x157000, x157001, x157002, x157003, x157004, x157005, x157006 => if x157003 = 0 then (impl_OpOk.j1 k x3 (x157004.toList == ([] : List UInt8)) x157000 x157001 x157002 x157003 x157004 x157005 x157006) else (impl_OpOk.j1 k x3 false x157000 x157001 x157002 x157003 x157004 x157005 x157006)
def impl_OpOk.j1 : Nat → Bool → Bool → Int → Int → ByteArray → Int → ByteArray → Int → ByteArray → Option (Bool)
  | 0, _, _, _, _, _, _, _, _, _ => none
  | k + 1, x3, x4, x157000, x157001, x157002, x157003, x157004, x157005, x157006 => if x157000 = 1 then (impl_OpOk.j2 k x3 x4 x157000 (x157000 == 1) x157000 x157001 x157002 x157003 x157004 x157005 x157006) else (if x157000 = 2 then (impl_OpOk.j2 k x3 x4 x157000 (x157000 == 2) x157000 x157001 x157002 x157003 x157004 x157005 x157006) else (impl_OpOk.j2 k x3 x4 x157000 (x157000 == 3) x157000 x157001 x157002 x157003 x157004 x157005 x157006))
def impl_OpOk.j2 : Nat → Bool → Bool → Int → Bool → Int → Int → ByteArray → Int → ByteArray → Int → ByteArray → Option (Bool)
  | 0, _, _, _, _, _, _, _, _, _, _, _ => none
  | k + 1, x3, x4, x26, x27, x157000, x157001, x157002, x157003, x157004, x157005, x157006 => if x27 = true then (if x3 = true then (if x4 = true then (some (x157006.toList == ([] : List UInt8))) else (some false)) else (some false)) else (if x26 = 4 then (if x3 = true then ((impl_in.f x157003 0 31).bind fun t160 => (if t160 = true then ((impl_TreeWord.f k x157004).bind fun t161 => (if t161 = true then (some (x157006.toList == ([] : List UInt8))) else (some false))) else (some false))) else (some false)) else (if x26 = 5 then (if x157001 = 0 then (if x157002.toList = ([] : List UInt8) then (if x4 = true then ((impl_TreeBody.f k x157006).bind fun t162 => (some t162)) else (some false)) else (some false)) else (some false)) else (some false)))
end
def impl_OpOk.f (k : Nat) (a0_0 : Int) (a0_1 : Int) (a0_2 : ByteArray) (a0_3 : Int) (a0_4 : ByteArray) (a0_5 : Int) (a0_6 : ByteArray) : Option (Bool) := (impl_in.f a0_5 1 31).bind fun t157 => (if t157 = true then ((impl_in.f a0_1 0 31).bind fun t158 => (if t158 = true then ((impl_TreeWord.f k a0_2).bind fun t159 => (impl_OpOk.j0 k t159 a0_0 a0_1 a0_2 a0_3 a0_4 a0_5 a0_6)) else (impl_OpOk.j0 k false a0_0 a0_1 a0_2 a0_3 a0_4 a0_5 a0_6))) else (some false))
set_option maxHeartbeats 8000000 in
set_option maxRecDepth 100000 in
theorem impl_OpOk.calls (k : Nat) (a0_0 : Int) (a0_1 : Int) (a0_2 : ByteArray) (a0_3 : Int) (a0_4 : ByteArray) (a0_5 : Int) (a0_6 : ByteArray) (r : Bool) (w : World) (h : impl_OpOk.f k a0_0 a0_1 a0_2 a0_3 a0_4 a0_5 a0_6 = some r) :
    Calls Try.prog 24 #[.agg #[.int .i64 a0_0, .int .i64 a0_1, .string a0_2, .int .i64 a0_3, .string a0_4, .int .i64 a0_5, .string a0_6]] w fun e w' => e = .returned (.bool r) ∧ Below w.heap.size w w' := by
  have hu31 := Try.underlying31
  have HB := Aside0.mk (Below.refl w.heap.size w)
  have H : ((impl_in.f a0_5 1 31).bind fun t157 => (if t157 = true then ((impl_in.f a0_1 0 31).bind fun t158 => (if t158 = true then ((impl_TreeWord.f k a0_2).bind fun t159 => (impl_OpOk.j0 k t159 a0_0 a0_1 a0_2 a0_3 a0_4 a0_5 a0_6)) else (impl_OpOk.j0 k false a0_0 a0_1 a0_2 a0_3 a0_4 a0_5 a0_6))) else (some false))) = some r := h
  clear h
  replace H := Option.bind_eq_some_iff.mp H
  obtain ⟨t157, A20, H⟩ := H
  replace H : (if t157 = true then ((impl_in.f a0_1 0 31).bind fun t158 => (if t158 = true then ((impl_TreeWord.f k a0_2).bind fun t159 => (impl_OpOk.j0 k t159 a0_0 a0_1 a0_2 a0_3 a0_4 a0_5 a0_6)) else (impl_OpOk.j0 k false a0_0 a0_1 a0_2 a0_3 a0_4 a0_5 a0_6))) else (some false)) = some r := H
  have A2 := Aside0.mk A20
  clear A20
  by_cases c3 : t157 = true
  · subst c3
    have H1 : ((impl_in.f a0_1 0 31).bind fun t158 => (if t158 = true then ((impl_TreeWord.f k a0_2).bind fun t159 => (impl_OpOk.j0 k t159 a0_0 a0_1 a0_2 a0_3 a0_4 a0_5 a0_6)) else (impl_OpOk.j0 k false a0_0 a0_1 a0_2 a0_3 a0_4 a0_5 a0_6))) = some r := by rw [if_pos rfl] at H; exact H
    clear H
    have H := H1
    clear H1
    have HC4 := Aside0.mk H
    clear H
    go_enter Try.func24, Try.ntmps24
    go_upto_region 3 with (first | ((with_reducible refine gate_dst (N := 1) rfl ?_); refine box_event ?hg (N := 1) ?hd (cs := #[.int .i64 a0_0, .int .i64 a0_1, .string a0_2, .int .i64 a0_3, .string a0_4, .int .i64 a0_5, .string a0_6]) (t := 31) ?hr ?_; (case hd => rfl); (case hg => rfl); (case hr => first | (go_simp; done) | (go_simp; rfl)); intro gb156 hg w5 hbox hb; have n0_ := Aside0.mk (below_step (by repeat (first | (with_reducible first | exact HB.out | apply below_alloc | apply pw_below_drewN | apply below_drew1) | exact HB.out)) hb); have n1_ := Aside0.mk (hbox); have n2_ := Aside0.mk ((by rw [hg]; exact (below_size (by repeat (first | (with_reducible first | exact HB.out | apply below_alloc | apply pw_below_drewN | apply below_drew1) | exact HB.out))) : w.heap.size ≤ gb156)); have n3_ := Aside0.mk ((by rw [hg]; exact (below_size (by repeat (first | (with_reducible first | exact HB.out | apply below_alloc | apply pw_below_drewN | apply below_drew1) | exact HB.out))) : w.heap.size ≤ gb156)); clear HB; have HB := n0_; have BK156 := n1_; have GW156 := n2_; have GE156 := n3_; clear n0_ n1_ n2_ n3_; clear hb hbox hg; have hcz6_0 : w5.cell? ⟨gb156, 0, none⟩ = some (.int .i64 a0_0) := (blk_cell BK156.out 0).trans rfl; have hcz6_1 : w5.cell? ⟨gb156, 1, none⟩ = some (.int .i64 a0_1) := (blk_cell BK156.out 1).trans rfl; have hcz6_2 : w5.cell? ⟨gb156, 2, none⟩ = some (.string a0_2) := (blk_cell BK156.out 2).trans rfl; have hcz6_3 : w5.cell? ⟨gb156, 3, none⟩ = some (.int .i64 a0_3) := (blk_cell BK156.out 3).trans rfl; have hcz6_4 : w5.cell? ⟨gb156, 4, none⟩ = some (.string a0_4) := (blk_cell BK156.out 4).trans rfl; have hcz6_5 : w5.cell? ⟨gb156, 5, none⟩ = some (.int .i64 a0_5) := (blk_cell BK156.out 5).trans rfl; have hcz6_6 : w5.cell? ⟨gb156, 6, none⟩ = some (.string a0_6) := (blk_cell BK156.out 6).trans rfl; have hfz6_0 := blk_frozen BK156.out 0; have hfz6_1 := blk_frozen BK156.out 1; have hfz6_2 := blk_frozen BK156.out 2; have hfz6_3 := blk_frozen BK156.out 3; have hfz6_4 := blk_frozen BK156.out 4; have hfz6_5 := blk_frozen BK156.out 5; have hfz6_6 := blk_frozen BK156.out 6) | ((with_reducible refine gate_callee (f := 54) rfl ?_); refine goesL_ (some 7) rfl rfl Try.func54 (by kernel_rfl) rfl #[.int .i64 a0_5, .int .i64 1, .int .i64 31] rfl (by (try simp only [List.map_toArray, List.map_cons, List.map_nil]); first | done | rfl | (simp only [List.length_drop, List.length_take]; rfl)) ?_; (with_reducible refine (impl_in.calls a0_5 1 31 true _ A2.out).mono ?_); rintro e w' ⟨rfl, ⟨nd, rfl⟩⟩; refine ⟨_, rfl, ?_⟩))
    (try simp only [Act.put, List.setIfInBounds_toArray, List.set_cons_zero, List.set_cons_succ])
    go_cut [3] (fun v3 wc => ∃ (kq : Nat) (x3_3 : Bool), v3 = .bool x3_3 ∧ Aside0 (impl_OpOk.j0 kq x3_3 a0_0 a0_1 a0_2 a0_3 a0_4 a0_5 a0_6 = some r) ∧ Aside0 (kq ≤ k) ∧ Aside0 (wc.heap[gb156]? = some (.cells #[.int .i64 a0_0, .int .i64 a0_1, .string a0_2, .int .i64 a0_3, .string a0_4, .int .i64 a0_5, .string a0_6] 31 (0, 0))) ∧ Aside0 (Below w.heap.size w wc))
    case first =>
      have H := HC4.out
      clear HC4
      replace H := Option.bind_eq_some_iff.mp H
      obtain ⟨t158, A70, H⟩ := H
      replace H : (if t158 = true then ((impl_TreeWord.f k a0_2).bind fun t159 => (impl_OpOk.j0 k t159 a0_0 a0_1 a0_2 a0_3 a0_4 a0_5 a0_6)) else (impl_OpOk.j0 k false a0_0 a0_1 a0_2 a0_3 a0_4 a0_5 a0_6)) = some r := H
      have A7 := Aside0.mk A70
      clear A70
      by_cases c8 : t158 = true
      · subst c8
        have H1 : ((impl_TreeWord.f k a0_2).bind fun t159 => (impl_OpOk.j0 k t159 a0_0 a0_1 a0_2 a0_3 a0_4 a0_5 a0_6)) = some r := by rw [if_pos rfl] at H; exact H
        clear H
        have H := H1
        clear H1
        replace H := Option.bind_eq_some_iff.mp H
        obtain ⟨t159, A90, H⟩ := H
        replace H : (impl_OpOk.j0 k t159 a0_0 a0_1 a0_2 a0_3 a0_4 a0_5 a0_6) = some r := H
        have A9 := Aside0.mk A90
        clear A90
        have H' := Aside0.mk H
        clear H
        have hcz10_0 : w5.cell? ⟨gb156, 0, none⟩ = some (.int .i64 a0_0) := (blk_cell BK156.out 0).trans rfl
        have hcz10_1 : w5.cell? ⟨gb156, 1, none⟩ = some (.int .i64 a0_1) := (blk_cell BK156.out 1).trans rfl
        have hcz10_2 : w5.cell? ⟨gb156, 2, none⟩ = some (.string a0_2) := (blk_cell BK156.out 2).trans rfl
        have hcz10_3 : w5.cell? ⟨gb156, 3, none⟩ = some (.int .i64 a0_3) := (blk_cell BK156.out 3).trans rfl
        have hcz10_4 : w5.cell? ⟨gb156, 4, none⟩ = some (.string a0_4) := (blk_cell BK156.out 4).trans rfl
        have hcz10_5 : w5.cell? ⟨gb156, 5, none⟩ = some (.int .i64 a0_5) := (blk_cell BK156.out 5).trans rfl
        have hcz10_6 : w5.cell? ⟨gb156, 6, none⟩ = some (.string a0_6) := (blk_cell BK156.out 6).trans rfl
        have hfz10_0 := blk_frozen BK156.out 0
        have hfz10_1 := blk_frozen BK156.out 1
        have hfz10_2 := blk_frozen BK156.out 2
        have hfz10_3 := blk_frozen BK156.out 3
        have hfz10_4 := blk_frozen BK156.out 4
        have hfz10_5 := blk_frozen BK156.out 5
        have hfz10_6 := blk_frozen BK156.out 6
        go_wp2_with (first | ((with_reducible refine gate_callee (f := 54) rfl ?_); refine goesL_ (some 11) rfl rfl Try.func54 (by kernel_rfl) rfl #[.int .i64 a0_1, .int .i64 0, .int .i64 31] rfl (by (try simp only [List.map_toArray, List.map_cons, List.map_nil]); first | done | rfl | (simp only [List.length_drop, List.length_take]; rfl)) ?_; (with_reducible refine (impl_in.calls a0_1 0 31 true _ A7.out).mono ?_); rintro e w' ⟨rfl, ⟨nd, rfl⟩⟩; refine ⟨_, rfl, ?_⟩) | (go_at_call 18; (with_reducible refine (impl_TreeWord.calls k a0_2 t159 _ A9.out).mono ?_); rintro e w' ⟨rfl, ⟨nd, rfl⟩⟩))
        go_meet
        case rel => exact ⟨_, (t159), (by first | rfl | (simp; done) | (simp [*]; done)), H', ⟨by first | omega | exact Nat.le_refl _⟩, ⟨by (with_reducible repeat (first | refine blk_drewN ?_ _ | refine blk_drew ?_ | refine blk_alloc ?_ _)); exact BK156.out⟩, ⟨by repeat (first | (with_reducible first | exact HB.out | apply below_alloc | apply pw_below_drewN | apply below_drew1 | refine below_set ?_ GE156.out) | exact HB.out)⟩⟩
      · replace c8 := Bool.eq_false_iff.mpr c8
        subst c8
        have H1 : (impl_OpOk.j0 k false a0_0 a0_1 a0_2 a0_3 a0_4 a0_5 a0_6) = some r := by rw [if_neg (show ¬ (false = true) by decide)] at H; exact H
        clear H
        have H := H1
        clear H1
        have H' := Aside0.mk H
        clear H
        have hcz11_0 : w5.cell? ⟨gb156, 0, none⟩ = some (.int .i64 a0_0) := (blk_cell BK156.out 0).trans rfl
        have hcz11_1 : w5.cell? ⟨gb156, 1, none⟩ = some (.int .i64 a0_1) := (blk_cell BK156.out 1).trans rfl
        have hcz11_2 : w5.cell? ⟨gb156, 2, none⟩ = some (.string a0_2) := (blk_cell BK156.out 2).trans rfl
        have hcz11_3 : w5.cell? ⟨gb156, 3, none⟩ = some (.int .i64 a0_3) := (blk_cell BK156.out 3).trans rfl
        have hcz11_4 : w5.cell? ⟨gb156, 4, none⟩ = some (.string a0_4) := (blk_cell BK156.out 4).trans rfl
        have hcz11_5 : w5.cell? ⟨gb156, 5, none⟩ = some (.int .i64 a0_5) := (blk_cell BK156.out 5).trans rfl
        have hcz11_6 : w5.cell? ⟨gb156, 6, none⟩ = some (.string a0_6) := (blk_cell BK156.out 6).trans rfl
        have hfz11_0 := blk_frozen BK156.out 0
        have hfz11_1 := blk_frozen BK156.out 1
        have hfz11_2 := blk_frozen BK156.out 2
        have hfz11_3 := blk_frozen BK156.out 3
        have hfz11_4 := blk_frozen BK156.out 4
        have hfz11_5 := blk_frozen BK156.out 5
        have hfz11_6 := blk_frozen BK156.out 6
        go_wp2_with (first | ((with_reducible refine gate_callee (f := 54) rfl ?_); refine goesL_ (some 11) rfl rfl Try.func54 (by kernel_rfl) rfl #[.int .i64 a0_1, .int .i64 0, .int .i64 31] rfl (by (try simp only [List.map_toArray, List.map_cons, List.map_nil]); first | done | rfl | (simp only [List.length_drop, List.length_take]; rfl)) ?_; (with_reducible refine (impl_in.calls a0_1 0 31 false _ A7.out).mono ?_); rintro e w' ⟨rfl, ⟨nd, rfl⟩⟩; refine ⟨_, rfl, ?_⟩))
        go_meet
        case rel => exact ⟨_, (false), (by first | rfl | (simp; done) | (simp [*]; done)), H', ⟨by first | omega | exact Nat.le_refl _⟩, ⟨by (with_reducible repeat (first | refine blk_drewN ?_ _ | refine blk_drew ?_ | refine blk_alloc ?_ _)); exact BK156.out⟩, ⟨by repeat (first | (with_reducible first | exact HB.out | apply below_alloc | apply pw_below_drewN | apply below_drew1 | refine below_set ?_ GE156.out) | exact HB.out)⟩⟩
    case rest =>
      clear HC4
      try clear c2
      try clear p2
      try clear c3
      try clear c5
      try clear c8
      try clear hcz10_0
      try clear hcz10_1
      try clear hcz10_2
      try clear hcz10_3
      try clear hcz10_4
      try clear hcz10_5
      try clear hcz10_6
      try clear hcz11_0
      try clear hcz11_1
      try clear hcz11_2
      try clear hcz11_3
      try clear hcz11_4
      try clear hcz11_5
      try clear hcz11_6
      try clear hcz6_0
      try clear hcz6_1
      try clear hcz6_2
      try clear hcz6_3
      try clear hcz6_4
      try clear hcz6_5
      try clear hcz6_6
      try clear hfz10_0
      try clear hfz10_1
      try clear hfz10_2
      try clear hfz10_3
      try clear hfz10_4
      try clear hfz10_5
      try clear hfz10_6
      try clear hfz11_0
      try clear hfz11_1
      try clear hfz11_2
      try clear hfz11_3
      try clear hfz11_4
      try clear hfz11_5
      try clear hfz11_6
      try clear hfz6_0
      try clear hfz6_1
      try clear hfz6_2
      try clear hfz6_3
      try clear hfz6_4
      try clear hfz6_5
      try clear hfz6_6
      obtain ⟨kq, x3_3, rfl, HA, HJ3, BK156, HB⟩ := hcut
      cases kq with
      | zero => exact absurd HA.out (by simp [impl_OpOk.j0])
      | succ kj3 =>
        have H := HA.out
        clear HA
        simp only [impl_OpOk.j0] at H
        have HC12 := Aside0.mk H
        clear H
        go_upto_region 4 with (fail)
        go_cut [4] (fun v4 wc => ∃ (kq : Nat) (x4_11 : Bool), v4 = .bool x4_11 ∧ Aside0 (impl_OpOk.j1 kq x3_3 x4_11 a0_0 a0_1 a0_2 a0_3 a0_4 a0_5 a0_6 = some r) ∧ Aside0 (kq ≤ kj3) ∧ Aside0 (wc.heap[gb156]? = some (.cells #[.int .i64 a0_0, .int .i64 a0_1, .string a0_2, .int .i64 a0_3, .string a0_4, .int .i64 a0_5, .string a0_6] 31 (0, 0))) ∧ Aside0 (Below w.heap.size w wc))
        case first =>
          have H := HC12.out
          clear HC12
          by_cases c13 : a0_3 = 0
          · rw [if_pos c13] at H
            have c13b0 : (a0_3 == 0) = true := beq_iff_eq.mpr c13
            have c13b1 : (a0_3 != 0) = false := bne_eq_false_iff_eq.mpr c13
            clear c13
            (first | rw [c13b0] | (simp only [i64_w, i32_w]; rw [c13b0]) | skip)
            have H' := Aside0.mk H
            clear H
            have hcz14_0 : wc.cell? ⟨gb156, 0, none⟩ = some (.int .i64 a0_0) := (blk_cell BK156.out 0).trans rfl
            have hcz14_1 : wc.cell? ⟨gb156, 1, none⟩ = some (.int .i64 a0_1) := (blk_cell BK156.out 1).trans rfl
            have hcz14_2 : wc.cell? ⟨gb156, 2, none⟩ = some (.string a0_2) := (blk_cell BK156.out 2).trans rfl
            have hcz14_3 : wc.cell? ⟨gb156, 3, none⟩ = some (.int .i64 a0_3) := (blk_cell BK156.out 3).trans rfl
            have hcz14_4 : wc.cell? ⟨gb156, 4, none⟩ = some (.string a0_4) := (blk_cell BK156.out 4).trans rfl
            have hcz14_5 : wc.cell? ⟨gb156, 5, none⟩ = some (.int .i64 a0_5) := (blk_cell BK156.out 5).trans rfl
            have hcz14_6 : wc.cell? ⟨gb156, 6, none⟩ = some (.string a0_6) := (blk_cell BK156.out 6).trans rfl
            have hfz14_0 := blk_frozen BK156.out 0
            have hfz14_1 := blk_frozen BK156.out 1
            have hfz14_2 := blk_frozen BK156.out 2
            have hfz14_3 := blk_frozen BK156.out 3
            have hfz14_4 := blk_frozen BK156.out 4
            have hfz14_5 := blk_frozen BK156.out 5
            have hfz14_6 := blk_frozen BK156.out 6
            go_wp2
            go_meet
            case rel => exact ⟨_, ((a0_4.toList == ([] : List UInt8))), (by first | rfl | (simp; done) | (simp [*]; done)), H', ⟨by have := HJ3.out; first | omega | exact Nat.le_refl _⟩, ⟨by (with_reducible repeat (first | refine blk_drewN ?_ _ | refine blk_drew ?_ | refine blk_alloc ?_ _)); exact BK156.out⟩, ⟨by repeat (first | (with_reducible first | exact HB.out | apply below_alloc | apply pw_below_drewN | apply below_drew1 | refine below_set ?_ GE156.out) | exact HB.out)⟩⟩
          · rw [if_neg c13] at H
            have c13b0 : (a0_3 == 0) = false := beq_eq_false_iff_ne.mpr c13
            have c13b1 : (a0_3 != 0) = true := bne_iff_ne.mpr c13
            (first | rw [c13b0] | (simp only [i64_w, i32_w]; rw [c13b0]) | skip)
            have H' := Aside0.mk H
            clear H
            have hcz15_0 : wc.cell? ⟨gb156, 0, none⟩ = some (.int .i64 a0_0) := (blk_cell BK156.out 0).trans rfl
            have hcz15_1 : wc.cell? ⟨gb156, 1, none⟩ = some (.int .i64 a0_1) := (blk_cell BK156.out 1).trans rfl
            have hcz15_2 : wc.cell? ⟨gb156, 2, none⟩ = some (.string a0_2) := (blk_cell BK156.out 2).trans rfl
            have hcz15_3 : wc.cell? ⟨gb156, 3, none⟩ = some (.int .i64 a0_3) := (blk_cell BK156.out 3).trans rfl
            have hcz15_4 : wc.cell? ⟨gb156, 4, none⟩ = some (.string a0_4) := (blk_cell BK156.out 4).trans rfl
            have hcz15_5 : wc.cell? ⟨gb156, 5, none⟩ = some (.int .i64 a0_5) := (blk_cell BK156.out 5).trans rfl
            have hcz15_6 : wc.cell? ⟨gb156, 6, none⟩ = some (.string a0_6) := (blk_cell BK156.out 6).trans rfl
            have hfz15_0 := blk_frozen BK156.out 0
            have hfz15_1 := blk_frozen BK156.out 1
            have hfz15_2 := blk_frozen BK156.out 2
            have hfz15_3 := blk_frozen BK156.out 3
            have hfz15_4 := blk_frozen BK156.out 4
            have hfz15_5 := blk_frozen BK156.out 5
            have hfz15_6 := blk_frozen BK156.out 6
            go_wp2
            go_meet
            case rel => exact ⟨_, (false), (by first | rfl | (simp; done) | (simp [*]; done)), H', ⟨by have := HJ3.out; first | omega | exact Nat.le_refl _⟩, ⟨by (with_reducible repeat (first | refine blk_drewN ?_ _ | refine blk_drew ?_ | refine blk_alloc ?_ _)); exact BK156.out⟩, ⟨by repeat (first | (with_reducible first | exact HB.out | apply below_alloc | apply pw_below_drewN | apply below_drew1 | refine below_set ?_ GE156.out) | exact HB.out)⟩⟩
        case rest =>
          clear HC12
          try clear c1
          try clear c2
          try clear p2
          try clear c3
          try clear c5
          try clear c8
          try clear c13
          try clear c13b0
          try clear c13b1
          try clear hcz10_0
          try clear hcz10_1
          try clear hcz10_2
          try clear hcz10_3
          try clear hcz10_4
          try clear hcz10_5
          try clear hcz10_6
          try clear hcz11_0
          try clear hcz11_1
          try clear hcz11_2
          try clear hcz11_3
          try clear hcz11_4
          try clear hcz11_5
          try clear hcz11_6
          try clear hcz14_0
          try clear hcz14_1
          try clear hcz14_2
          try clear hcz14_3
          try clear hcz14_4
          try clear hcz14_5
          try clear hcz14_6
          try clear hcz15_0
          try clear hcz15_1
          try clear hcz15_2
          try clear hcz15_3
          try clear hcz15_4
          try clear hcz15_5
          try clear hcz15_6
          try clear hcz6_0
          try clear hcz6_1
          try clear hcz6_2
          try clear hcz6_3
          try clear hcz6_4
          try clear hcz6_5
          try clear hcz6_6
          try clear hfz10_0
          try clear hfz10_1
          try clear hfz10_2
          try clear hfz10_3
          try clear hfz10_4
          try clear hfz10_5
          try clear hfz10_6
          try clear hfz11_0
          try clear hfz11_1
          try clear hfz11_2
          try clear hfz11_3
          try clear hfz11_4
          try clear hfz11_5
          try clear hfz11_6
          try clear hfz14_0
          try clear hfz14_1
          try clear hfz14_2
          try clear hfz14_3
          try clear hfz14_4
          try clear hfz14_5
          try clear hfz14_6
          try clear hfz15_0
          try clear hfz15_1
          try clear hfz15_2
          try clear hfz15_3
          try clear hfz15_4
          try clear hfz15_5
          try clear hfz15_6
          try clear hfz6_0
          try clear hfz6_1
          try clear hfz6_2
          try clear hfz6_3
          try clear hfz6_4
          try clear hfz6_5
          try clear hfz6_6
          try clear p2
          obtain ⟨kq, x4_11, rfl, HA, HJ11, BK156, HB⟩ := hcut
          cases kq with
          | zero => exact absurd HA.out (by simp [impl_OpOk.j1])
          | succ kj11 =>
            have H := HA.out
            clear HA
            simp only [impl_OpOk.j1] at H
            have HC16 := Aside0.mk H
            clear H
            have hcz17_0 : wc.cell? ⟨gb156, 0, none⟩ = some (.int .i64 a0_0) := (blk_cell BK156.out 0).trans rfl
            have hcz17_1 : wc.cell? ⟨gb156, 1, none⟩ = some (.int .i64 a0_1) := (blk_cell BK156.out 1).trans rfl
            have hcz17_2 : wc.cell? ⟨gb156, 2, none⟩ = some (.string a0_2) := (blk_cell BK156.out 2).trans rfl
            have hcz17_3 : wc.cell? ⟨gb156, 3, none⟩ = some (.int .i64 a0_3) := (blk_cell BK156.out 3).trans rfl
            have hcz17_4 : wc.cell? ⟨gb156, 4, none⟩ = some (.string a0_4) := (blk_cell BK156.out 4).trans rfl
            have hcz17_5 : wc.cell? ⟨gb156, 5, none⟩ = some (.int .i64 a0_5) := (blk_cell BK156.out 5).trans rfl
            have hcz17_6 : wc.cell? ⟨gb156, 6, none⟩ = some (.string a0_6) := (blk_cell BK156.out 6).trans rfl
            have hfz17_0 := blk_frozen BK156.out 0
            have hfz17_1 := blk_frozen BK156.out 1
            have hfz17_2 := blk_frozen BK156.out 2
            have hfz17_3 := blk_frozen BK156.out 3
            have hfz17_4 := blk_frozen BK156.out 4
            have hfz17_5 := blk_frozen BK156.out 5
            have hfz17_6 := blk_frozen BK156.out 6
            go_upto_if 27 with (fail)
            go_cut [27] (fun v27 wc => ∃ (kq : Nat) (x27_15 : Bool), v27 = .bool x27_15 ∧ Aside0 (impl_OpOk.j2 kq x3_3 x4_11 a0_0 x27_15 a0_0 a0_1 a0_2 a0_3 a0_4 a0_5 a0_6 = some r) ∧ Aside0 (kq ≤ kj11) ∧ Aside0 (wc.heap[gb156]? = some (.cells #[.int .i64 a0_0, .int .i64 a0_1, .string a0_2, .int .i64 a0_3, .string a0_4, .int .i64 a0_5, .string a0_6] 31 (0, 0))) ∧ Aside0 (Below w.heap.size w wc))
            case first =>
              have H := HC16.out
              clear HC16
              by_cases c18 : a0_0 = 1
              · rw [if_pos c18] at H
                have c18b0 : (a0_0 == 1) = true := beq_iff_eq.mpr c18
                have c18b1 : (a0_0 != 1) = false := bne_eq_false_iff_eq.mpr c18
                clear c18
                (first | rw [c18b0] | (simp only [i64_w, i32_w]; rw [c18b0]) | skip)
                have H' := Aside0.mk H
                clear H
                go_wp2
                go_meet
                case rel => exact ⟨_, ((a0_0 == 1)), (by first | rfl | (simp; done) | (simp [*]; done)), H', ⟨by have := HJ3.out; have := HJ11.out; first | omega | exact Nat.le_refl _⟩, ⟨by (with_reducible repeat (first | refine blk_drewN ?_ _ | refine blk_drew ?_ | refine blk_alloc ?_ _)); exact BK156.out⟩, ⟨by repeat (first | (with_reducible first | exact HB.out | apply below_alloc | apply pw_below_drewN | apply below_drew1 | refine below_set ?_ GE156.out) | exact HB.out)⟩⟩
              · rw [if_neg c18] at H
                have c18b0 : (a0_0 == 1) = false := beq_eq_false_iff_ne.mpr c18
                have c18b1 : (a0_0 != 1) = true := bne_iff_ne.mpr c18
                (first | rw [c18b0] | (simp only [i64_w, i32_w]; rw [c18b0]) | skip)
                by_cases c19 : a0_0 = 2
                · rw [if_pos c19] at H
                  have c19b0 : (a0_0 == 2) = true := beq_iff_eq.mpr c19
                  have c19b1 : (a0_0 != 2) = false := bne_eq_false_iff_eq.mpr c19
                  clear c19
                  have H' := Aside0.mk H
                  clear H
                  go_wp2
                  go_meet
                  case rel => exact ⟨_, ((a0_0 == 2)), (by first | rfl | (simp; done) | (simp [*]; done)), H', ⟨by have := HJ3.out; have := HJ11.out; first | omega | exact Nat.le_refl _⟩, ⟨by (with_reducible repeat (first | refine blk_drewN ?_ _ | refine blk_drew ?_ | refine blk_alloc ?_ _)); exact BK156.out⟩, ⟨by repeat (first | (with_reducible first | exact HB.out | apply below_alloc | apply pw_below_drewN | apply below_drew1 | refine below_set ?_ GE156.out) | exact HB.out)⟩⟩
                · rw [if_neg c19] at H
                  have c19b0 : (a0_0 == 2) = false := beq_eq_false_iff_ne.mpr c19
                  have c19b1 : (a0_0 != 2) = true := bne_iff_ne.mpr c19
                  have H' := Aside0.mk H
                  clear H
                  go_wp2
                  go_meet
                  case rel => exact ⟨_, ((a0_0 == 3)), (by first | rfl | (simp; done) | (simp [*]; done)), H', ⟨by have := HJ3.out; have := HJ11.out; first | omega | exact Nat.le_refl _⟩, ⟨by (with_reducible repeat (first | refine blk_drewN ?_ _ | refine blk_drew ?_ | refine blk_alloc ?_ _)); exact BK156.out⟩, ⟨by repeat (first | (with_reducible first | exact HB.out | apply below_alloc | apply pw_below_drewN | apply below_drew1 | refine below_set ?_ GE156.out) | exact HB.out)⟩⟩
            case rest =>
              clear HC16
              try clear c1
              try clear c2
              try clear p2
              try clear c3
              try clear c5
              try clear c8
              try clear c13
              try clear c13b0
              try clear c13b1
              try clear c18
              try clear c18b0
              try clear c18b1
              try clear c19
              try clear c19b0
              try clear c19b1
              try clear hcz10_0
              try clear hcz10_1
              try clear hcz10_2
              try clear hcz10_3
              try clear hcz10_4
              try clear hcz10_5
              try clear hcz10_6
              try clear hcz11_0
              try clear hcz11_1
              try clear hcz11_2
              try clear hcz11_3
              try clear hcz11_4
              try clear hcz11_5
              try clear hcz11_6
              try clear hcz14_0
              try clear hcz14_1
              try clear hcz14_2
              try clear hcz14_3
              try clear hcz14_4
              try clear hcz14_5
              try clear hcz14_6
              try clear hcz15_0
              try clear hcz15_1
              try clear hcz15_2
              try clear hcz15_3
              try clear hcz15_4
              try clear hcz15_5
              try clear hcz15_6
              try clear hcz17_0
              try clear hcz17_1
              try clear hcz17_2
              try clear hcz17_3
              try clear hcz17_4
              try clear hcz17_5
              try clear hcz17_6
              try clear hcz6_0
              try clear hcz6_1
              try clear hcz6_2
              try clear hcz6_3
              try clear hcz6_4
              try clear hcz6_5
              try clear hcz6_6
              try clear hfz10_0
              try clear hfz10_1
              try clear hfz10_2
              try clear hfz10_3
              try clear hfz10_4
              try clear hfz10_5
              try clear hfz10_6
              try clear hfz11_0
              try clear hfz11_1
              try clear hfz11_2
              try clear hfz11_3
              try clear hfz11_4
              try clear hfz11_5
              try clear hfz11_6
              try clear hfz14_0
              try clear hfz14_1
              try clear hfz14_2
              try clear hfz14_3
              try clear hfz14_4
              try clear hfz14_5
              try clear hfz14_6
              try clear hfz15_0
              try clear hfz15_1
              try clear hfz15_2
              try clear hfz15_3
              try clear hfz15_4
              try clear hfz15_5
              try clear hfz15_6
              try clear hfz17_0
              try clear hfz17_1
              try clear hfz17_2
              try clear hfz17_3
              try clear hfz17_4
              try clear hfz17_5
              try clear hfz17_6
              try clear hfz6_0
              try clear hfz6_1
              try clear hfz6_2
              try clear hfz6_3
              try clear hfz6_4
              try clear hfz6_5
              try clear hfz6_6
              try clear p2
              obtain ⟨kq, x27_15, rfl, HA, HJ15, BK156, HB⟩ := hcut
              cases kq with
              | zero => exact absurd HA.out (by simp [impl_OpOk.j2])
              | succ kj15 =>
                have H := HA.out
                clear HA
                simp only [impl_OpOk.j2] at H
                by_cases c20 : x27_15 = true
                · subst c20
                  have H1 : (if x3_3 = true then (if x4_11 = true then (some (a0_6.toList == ([] : List UInt8))) else (some false)) else (some false)) = some r := by rw [if_pos rfl] at H; exact H
                  clear H
                  have H := H1
                  clear H1
                  by_cases c21 : x3_3 = true
                  · subst c21
                    have H1 : (if x4_11 = true then (some (a0_6.toList == ([] : List UInt8))) else (some false)) = some r := by rw [if_pos rfl] at H; exact H
                    clear H
                    have H := H1
                    clear H1
                    by_cases c22 : x4_11 = true
                    · subst c22
                      have H1 : (some (a0_6.toList == ([] : List UInt8))) = some r := by rw [if_pos rfl] at H; exact H
                      clear H
                      have H := H1
                      clear H1
                      obtain rfl := Option.some.inj H
                      have hcz23_0 : wc.cell? ⟨gb156, 0, none⟩ = some (.int .i64 a0_0) := (blk_cell BK156.out 0).trans rfl
                      have hcz23_1 : wc.cell? ⟨gb156, 1, none⟩ = some (.int .i64 a0_1) := (blk_cell BK156.out 1).trans rfl
                      have hcz23_2 : wc.cell? ⟨gb156, 2, none⟩ = some (.string a0_2) := (blk_cell BK156.out 2).trans rfl
                      have hcz23_3 : wc.cell? ⟨gb156, 3, none⟩ = some (.int .i64 a0_3) := (blk_cell BK156.out 3).trans rfl
                      have hcz23_4 : wc.cell? ⟨gb156, 4, none⟩ = some (.string a0_4) := (blk_cell BK156.out 4).trans rfl
                      have hcz23_5 : wc.cell? ⟨gb156, 5, none⟩ = some (.int .i64 a0_5) := (blk_cell BK156.out 5).trans rfl
                      have hcz23_6 : wc.cell? ⟨gb156, 6, none⟩ = some (.string a0_6) := (blk_cell BK156.out 6).trans rfl
                      have hfz23_0 := blk_frozen BK156.out 0
                      have hfz23_1 := blk_frozen BK156.out 1
                      have hfz23_2 := blk_frozen BK156.out 2
                      have hfz23_3 := blk_frozen BK156.out 3
                      have hfz23_4 := blk_frozen BK156.out 4
                      have hfz23_5 := blk_frozen BK156.out 5
                      have hfz23_6 := blk_frozen BK156.out 6
                      go_wp2
                      go_ret
                      exact ⟨by first | rfl | (simp [errW_none, errW_some] <;> rfl) | (simp [*, errW_none, errW_some] <;> rfl), by repeat (first | (with_reducible first | exact HB.out | apply below_alloc | apply pw_below_drewN | apply below_drew1 | refine below_set ?_ GE156.out) | exact HB.out)⟩
                    · replace c22 := Bool.eq_false_iff.mpr c22
                      subst c22
                      have H1 : (some false) = some r := by rw [if_neg (show ¬ (false = true) by decide)] at H; exact H
                      clear H
                      have H := H1
                      clear H1
                      obtain rfl := Option.some.inj H
                      go_wp2
                      go_ret
                      exact ⟨by first | rfl | (simp [errW_none, errW_some] <;> rfl) | (simp [*, errW_none, errW_some] <;> rfl), by repeat (first | (with_reducible first | exact HB.out | apply below_alloc | apply pw_below_drewN | apply below_drew1 | refine below_set ?_ GE156.out) | exact HB.out)⟩
                  · replace c21 := Bool.eq_false_iff.mpr c21
                    subst c21
                    have H1 : (some false) = some r := by rw [if_neg (show ¬ (false = true) by decide)] at H; exact H
                    clear H
                    have H := H1
                    clear H1
                    obtain rfl := Option.some.inj H
                    go_wp2
                    go_ret
                    exact ⟨by first | rfl | (simp [errW_none, errW_some] <;> rfl) | (simp [*, errW_none, errW_some] <;> rfl), by repeat (first | (with_reducible first | exact HB.out | apply below_alloc | apply pw_below_drewN | apply below_drew1 | refine below_set ?_ GE156.out) | exact HB.out)⟩
                · replace c20 := Bool.eq_false_iff.mpr c20
                  subst c20
                  have H1 : (if a0_0 = 4 then (if x3_3 = true then ((impl_in.f a0_3 0 31).bind fun t160 => (if t160 = true then ((impl_TreeWord.f kj15 a0_4).bind fun t161 => (if t161 = true then (some (a0_6.toList == ([] : List UInt8))) else (some false))) else (some false))) else (some false)) else (if a0_0 = 5 then (if a0_1 = 0 then (if a0_2.toList = ([] : List UInt8) then (if x4_11 = true then ((impl_TreeBody.f kj15 a0_6).bind fun t162 => (some t162)) else (some false)) else (some false)) else (some false)) else (some false))) = some r := by rw [if_neg (show ¬ (false = true) by decide)] at H; exact H
                  clear H
                  have H := H1
                  clear H1
                  by_cases c24 : a0_0 = 4
                  · rw [if_pos c24] at H
                    have c24b0 : (a0_0 == 4) = true := beq_iff_eq.mpr c24
                    have c24b1 : (a0_0 != 4) = false := bne_eq_false_iff_eq.mpr c24
                    clear c24
                    by_cases c25 : x3_3 = true
                    · subst c25
                      have H1 : ((impl_in.f a0_3 0 31).bind fun t160 => (if t160 = true then ((impl_TreeWord.f kj15 a0_4).bind fun t161 => (if t161 = true then (some (a0_6.toList == ([] : List UInt8))) else (some false))) else (some false))) = some r := by rw [if_pos rfl] at H; exact H
                      clear H
                      have H := H1
                      clear H1
                      replace H := Option.bind_eq_some_iff.mp H
                      obtain ⟨t160, A260, H⟩ := H
                      replace H : (if t160 = true then ((impl_TreeWord.f kj15 a0_4).bind fun t161 => (if t161 = true then (some (a0_6.toList == ([] : List UInt8))) else (some false))) else (some false)) = some r := H
                      have A26 := Aside0.mk A260
                      clear A260
                      by_cases c27 : t160 = true
                      · subst c27
                        have H1 : ((impl_TreeWord.f kj15 a0_4).bind fun t161 => (if t161 = true then (some (a0_6.toList == ([] : List UInt8))) else (some false))) = some r := by rw [if_pos rfl] at H; exact H
                        clear H
                        have H := H1
                        clear H1
                        replace H := Option.bind_eq_some_iff.mp H
                        obtain ⟨t161, A280, H⟩ := H
                        replace H : (if t161 = true then (some (a0_6.toList == ([] : List UInt8))) else (some false)) = some r := H
                        have A28 := Aside0.mk A280
                        clear A280
                        by_cases c29 : t161 = true
                        · subst c29
                          have H1 : (some (a0_6.toList == ([] : List UInt8))) = some r := by rw [if_pos rfl] at H; exact H
                          clear H
                          have H := H1
                          clear H1
                          obtain rfl := Option.some.inj H
                          have hcz30_0 : wc.cell? ⟨gb156, 0, none⟩ = some (.int .i64 a0_0) := (blk_cell BK156.out 0).trans rfl
                          have hcz30_1 : wc.cell? ⟨gb156, 1, none⟩ = some (.int .i64 a0_1) := (blk_cell BK156.out 1).trans rfl
                          have hcz30_2 : wc.cell? ⟨gb156, 2, none⟩ = some (.string a0_2) := (blk_cell BK156.out 2).trans rfl
                          have hcz30_3 : wc.cell? ⟨gb156, 3, none⟩ = some (.int .i64 a0_3) := (blk_cell BK156.out 3).trans rfl
                          have hcz30_4 : wc.cell? ⟨gb156, 4, none⟩ = some (.string a0_4) := (blk_cell BK156.out 4).trans rfl
                          have hcz30_5 : wc.cell? ⟨gb156, 5, none⟩ = some (.int .i64 a0_5) := (blk_cell BK156.out 5).trans rfl
                          have hcz30_6 : wc.cell? ⟨gb156, 6, none⟩ = some (.string a0_6) := (blk_cell BK156.out 6).trans rfl
                          have hfz30_0 := blk_frozen BK156.out 0
                          have hfz30_1 := blk_frozen BK156.out 1
                          have hfz30_2 := blk_frozen BK156.out 2
                          have hfz30_3 := blk_frozen BK156.out 3
                          have hfz30_4 := blk_frozen BK156.out 4
                          have hfz30_5 := blk_frozen BK156.out 5
                          have hfz30_6 := blk_frozen BK156.out 6
                          go_wp2_with (first | (go_at_call 54; (with_reducible refine (impl_in.calls a0_3 0 31 true _ A26.out).mono ?_); rintro e w' ⟨rfl, ⟨nd, rfl⟩⟩) | (go_at_call 18; (with_reducible refine (impl_TreeWord.calls kj15 a0_4 true _ A28.out).mono ?_); rintro e w' ⟨rfl, ⟨nd, rfl⟩⟩))
                          go_ret
                          exact ⟨by first | rfl | (simp [errW_none, errW_some] <;> rfl) | (simp [*, errW_none, errW_some] <;> rfl), by repeat (first | (with_reducible first | exact HB.out | apply below_alloc | apply pw_below_drewN | apply below_drew1 | refine below_set ?_ GE156.out) | exact HB.out)⟩
                        · replace c29 := Bool.eq_false_iff.mpr c29
                          subst c29
                          have H1 : (some false) = some r := by rw [if_neg (show ¬ (false = true) by decide)] at H; exact H
                          clear H
                          have H := H1
                          clear H1
                          obtain rfl := Option.some.inj H
                          have hcz31_0 : wc.cell? ⟨gb156, 0, none⟩ = some (.int .i64 a0_0) := (blk_cell BK156.out 0).trans rfl
                          have hcz31_1 : wc.cell? ⟨gb156, 1, none⟩ = some (.int .i64 a0_1) := (blk_cell BK156.out 1).trans rfl
                          have hcz31_2 : wc.cell? ⟨gb156, 2, none⟩ = some (.string a0_2) := (blk_cell BK156.out 2).trans rfl
                          have hcz31_3 : wc.cell? ⟨gb156, 3, none⟩ = some (.int .i64 a0_3) := (blk_cell BK156.out 3).trans rfl
                          have hcz31_4 : wc.cell? ⟨gb156, 4, none⟩ = some (.string a0_4) := (blk_cell BK156.out 4).trans rfl
                          have hcz31_5 : wc.cell? ⟨gb156, 5, none⟩ = some (.int .i64 a0_5) := (blk_cell BK156.out 5).trans rfl
                          have hcz31_6 : wc.cell? ⟨gb156, 6, none⟩ = some (.string a0_6) := (blk_cell BK156.out 6).trans rfl
                          have hfz31_0 := blk_frozen BK156.out 0
                          have hfz31_1 := blk_frozen BK156.out 1
                          have hfz31_2 := blk_frozen BK156.out 2
                          have hfz31_3 := blk_frozen BK156.out 3
                          have hfz31_4 := blk_frozen BK156.out 4
                          have hfz31_5 := blk_frozen BK156.out 5
                          have hfz31_6 := blk_frozen BK156.out 6
                          go_wp2_with (first | (go_at_call 54; (with_reducible refine (impl_in.calls a0_3 0 31 true _ A26.out).mono ?_); rintro e w' ⟨rfl, ⟨nd, rfl⟩⟩) | (go_at_call 18; (with_reducible refine (impl_TreeWord.calls kj15 a0_4 false _ A28.out).mono ?_); rintro e w' ⟨rfl, ⟨nd, rfl⟩⟩))
                          go_ret
                          exact ⟨by first | rfl | (simp [errW_none, errW_some] <;> rfl) | (simp [*, errW_none, errW_some] <;> rfl), by repeat (first | (with_reducible first | exact HB.out | apply below_alloc | apply pw_below_drewN | apply below_drew1 | refine below_set ?_ GE156.out) | exact HB.out)⟩
                      · replace c27 := Bool.eq_false_iff.mpr c27
                        subst c27
                        have H1 : (some false) = some r := by rw [if_neg (show ¬ (false = true) by decide)] at H; exact H
                        clear H
                        have H := H1
                        clear H1
                        obtain rfl := Option.some.inj H
                        have hcz32_0 : wc.cell? ⟨gb156, 0, none⟩ = some (.int .i64 a0_0) := (blk_cell BK156.out 0).trans rfl
                        have hcz32_1 : wc.cell? ⟨gb156, 1, none⟩ = some (.int .i64 a0_1) := (blk_cell BK156.out 1).trans rfl
                        have hcz32_2 : wc.cell? ⟨gb156, 2, none⟩ = some (.string a0_2) := (blk_cell BK156.out 2).trans rfl
                        have hcz32_3 : wc.cell? ⟨gb156, 3, none⟩ = some (.int .i64 a0_3) := (blk_cell BK156.out 3).trans rfl
                        have hcz32_4 : wc.cell? ⟨gb156, 4, none⟩ = some (.string a0_4) := (blk_cell BK156.out 4).trans rfl
                        have hcz32_5 : wc.cell? ⟨gb156, 5, none⟩ = some (.int .i64 a0_5) := (blk_cell BK156.out 5).trans rfl
                        have hcz32_6 : wc.cell? ⟨gb156, 6, none⟩ = some (.string a0_6) := (blk_cell BK156.out 6).trans rfl
                        have hfz32_0 := blk_frozen BK156.out 0
                        have hfz32_1 := blk_frozen BK156.out 1
                        have hfz32_2 := blk_frozen BK156.out 2
                        have hfz32_3 := blk_frozen BK156.out 3
                        have hfz32_4 := blk_frozen BK156.out 4
                        have hfz32_5 := blk_frozen BK156.out 5
                        have hfz32_6 := blk_frozen BK156.out 6
                        go_wp2_with (first | (go_at_call 54; (with_reducible refine (impl_in.calls a0_3 0 31 false _ A26.out).mono ?_); rintro e w' ⟨rfl, ⟨nd, rfl⟩⟩))
                        go_ret
                        exact ⟨by first | rfl | (simp [errW_none, errW_some] <;> rfl) | (simp [*, errW_none, errW_some] <;> rfl), by repeat (first | (with_reducible first | exact HB.out | apply below_alloc | apply pw_below_drewN | apply below_drew1 | refine below_set ?_ GE156.out) | exact HB.out)⟩
                    · replace c25 := Bool.eq_false_iff.mpr c25
                      subst c25
                      have H1 : (some false) = some r := by rw [if_neg (show ¬ (false = true) by decide)] at H; exact H
                      clear H
                      have H := H1
                      clear H1
                      obtain rfl := Option.some.inj H
                      go_wp2
                      go_ret
                      exact ⟨by first | rfl | (simp [errW_none, errW_some] <;> rfl) | (simp [*, errW_none, errW_some] <;> rfl), by repeat (first | (with_reducible first | exact HB.out | apply below_alloc | apply pw_below_drewN | apply below_drew1 | refine below_set ?_ GE156.out) | exact HB.out)⟩
                  · rw [if_neg c24] at H
                    have c24b0 : (a0_0 == 4) = false := beq_eq_false_iff_ne.mpr c24
                    have c24b1 : (a0_0 != 4) = true := bne_iff_ne.mpr c24
                    by_cases c33 : a0_0 = 5
                    · rw [if_pos c33] at H
                      have c33b0 : (a0_0 == 5) = true := beq_iff_eq.mpr c33
                      have c33b1 : (a0_0 != 5) = false := bne_eq_false_iff_eq.mpr c33
                      clear c33
                      by_cases c34 : a0_1 = 0
                      · rw [if_pos c34] at H
                        have c34b0 : (a0_1 == 0) = true := beq_iff_eq.mpr c34
                        have c34b1 : (a0_1 != 0) = false := bne_eq_false_iff_eq.mpr c34
                        clear c34
                        by_cases c35 : a0_2.toList = ([] : List UInt8)
                        · rw [if_pos c35] at H
                          have c35b0 : (a0_2.toList == ([] : List UInt8)) = true := beq_iff_eq.mpr c35
                          have c35b1 : (a0_2.toList != ([] : List UInt8)) = false := bne_eq_false_iff_eq.mpr c35
                          clear c35
                          by_cases c36 : x4_11 = true
                          · subst c36
                            have H1 : ((impl_TreeBody.f kj15 a0_6).bind fun t162 => (some t162)) = some r := by rw [if_pos rfl] at H; exact H
                            clear H
                            have H := H1
                            clear H1
                            replace H := Option.bind_eq_some_iff.mp H
                            obtain ⟨t162, A370, H⟩ := H
                            replace H : (some t162) = some r := H
                            have A37 := Aside0.mk A370
                            clear A370
                            obtain rfl := Option.some.inj H
                            have hcz38_0 : wc.cell? ⟨gb156, 0, none⟩ = some (.int .i64 a0_0) := (blk_cell BK156.out 0).trans rfl
                            have hcz38_1 : wc.cell? ⟨gb156, 1, none⟩ = some (.int .i64 a0_1) := (blk_cell BK156.out 1).trans rfl
                            have hcz38_2 : wc.cell? ⟨gb156, 2, none⟩ = some (.string a0_2) := (blk_cell BK156.out 2).trans rfl
                            have hcz38_3 : wc.cell? ⟨gb156, 3, none⟩ = some (.int .i64 a0_3) := (blk_cell BK156.out 3).trans rfl
                            have hcz38_4 : wc.cell? ⟨gb156, 4, none⟩ = some (.string a0_4) := (blk_cell BK156.out 4).trans rfl
                            have hcz38_5 : wc.cell? ⟨gb156, 5, none⟩ = some (.int .i64 a0_5) := (blk_cell BK156.out 5).trans rfl
                            have hcz38_6 : wc.cell? ⟨gb156, 6, none⟩ = some (.string a0_6) := (blk_cell BK156.out 6).trans rfl
                            have hfz38_0 := blk_frozen BK156.out 0
                            have hfz38_1 := blk_frozen BK156.out 1
                            have hfz38_2 := blk_frozen BK156.out 2
                            have hfz38_3 := blk_frozen BK156.out 3
                            have hfz38_4 := blk_frozen BK156.out 4
                            have hfz38_5 := blk_frozen BK156.out 5
                            have hfz38_6 := blk_frozen BK156.out 6
                            go_wp2_with (first | (go_at_call 16; (with_reducible refine (impl_TreeBody.calls kj15 a0_6 t162 _ A37.out).mono ?_); rintro e w' ⟨rfl, ⟨nd, rfl⟩⟩))
                            go_ret
                            exact ⟨by first | rfl | (simp [errW_none, errW_some] <;> rfl) | (simp [*, errW_none, errW_some] <;> rfl), by repeat (first | (with_reducible first | exact HB.out | apply below_alloc | apply pw_below_drewN | apply below_drew1 | refine below_set ?_ GE156.out) | exact HB.out)⟩
                          · replace c36 := Bool.eq_false_iff.mpr c36
                            subst c36
                            have H1 : (some false) = some r := by rw [if_neg (show ¬ (false = true) by decide)] at H; exact H
                            clear H
                            have H := H1
                            clear H1
                            obtain rfl := Option.some.inj H
                            have hcz39_0 : wc.cell? ⟨gb156, 0, none⟩ = some (.int .i64 a0_0) := (blk_cell BK156.out 0).trans rfl
                            have hcz39_1 : wc.cell? ⟨gb156, 1, none⟩ = some (.int .i64 a0_1) := (blk_cell BK156.out 1).trans rfl
                            have hcz39_2 : wc.cell? ⟨gb156, 2, none⟩ = some (.string a0_2) := (blk_cell BK156.out 2).trans rfl
                            have hcz39_3 : wc.cell? ⟨gb156, 3, none⟩ = some (.int .i64 a0_3) := (blk_cell BK156.out 3).trans rfl
                            have hcz39_4 : wc.cell? ⟨gb156, 4, none⟩ = some (.string a0_4) := (blk_cell BK156.out 4).trans rfl
                            have hcz39_5 : wc.cell? ⟨gb156, 5, none⟩ = some (.int .i64 a0_5) := (blk_cell BK156.out 5).trans rfl
                            have hcz39_6 : wc.cell? ⟨gb156, 6, none⟩ = some (.string a0_6) := (blk_cell BK156.out 6).trans rfl
                            have hfz39_0 := blk_frozen BK156.out 0
                            have hfz39_1 := blk_frozen BK156.out 1
                            have hfz39_2 := blk_frozen BK156.out 2
                            have hfz39_3 := blk_frozen BK156.out 3
                            have hfz39_4 := blk_frozen BK156.out 4
                            have hfz39_5 := blk_frozen BK156.out 5
                            have hfz39_6 := blk_frozen BK156.out 6
                            go_wp2
                            go_ret
                            exact ⟨by first | rfl | (simp [errW_none, errW_some] <;> rfl) | (simp [*, errW_none, errW_some] <;> rfl), by repeat (first | (with_reducible first | exact HB.out | apply below_alloc | apply pw_below_drewN | apply below_drew1 | refine below_set ?_ GE156.out) | exact HB.out)⟩
                        · rw [if_neg c35] at H
                          have c35b0 : (a0_2.toList == ([] : List UInt8)) = false := beq_eq_false_iff_ne.mpr c35
                          have c35b1 : (a0_2.toList != ([] : List UInt8)) = true := bne_iff_ne.mpr c35
                          obtain rfl := Option.some.inj H
                          have hcz40_0 : wc.cell? ⟨gb156, 0, none⟩ = some (.int .i64 a0_0) := (blk_cell BK156.out 0).trans rfl
                          have hcz40_1 : wc.cell? ⟨gb156, 1, none⟩ = some (.int .i64 a0_1) := (blk_cell BK156.out 1).trans rfl
                          have hcz40_2 : wc.cell? ⟨gb156, 2, none⟩ = some (.string a0_2) := (blk_cell BK156.out 2).trans rfl
                          have hcz40_3 : wc.cell? ⟨gb156, 3, none⟩ = some (.int .i64 a0_3) := (blk_cell BK156.out 3).trans rfl
                          have hcz40_4 : wc.cell? ⟨gb156, 4, none⟩ = some (.string a0_4) := (blk_cell BK156.out 4).trans rfl
                          have hcz40_5 : wc.cell? ⟨gb156, 5, none⟩ = some (.int .i64 a0_5) := (blk_cell BK156.out 5).trans rfl
                          have hcz40_6 : wc.cell? ⟨gb156, 6, none⟩ = some (.string a0_6) := (blk_cell BK156.out 6).trans rfl
                          have hfz40_0 := blk_frozen BK156.out 0
                          have hfz40_1 := blk_frozen BK156.out 1
                          have hfz40_2 := blk_frozen BK156.out 2
                          have hfz40_3 := blk_frozen BK156.out 3
                          have hfz40_4 := blk_frozen BK156.out 4
                          have hfz40_5 := blk_frozen BK156.out 5
                          have hfz40_6 := blk_frozen BK156.out 6
                          go_wp2
                          go_ret
                          exact ⟨by first | rfl | (simp [errW_none, errW_some] <;> rfl) | (simp [*, errW_none, errW_some] <;> rfl), by repeat (first | (with_reducible first | exact HB.out | apply below_alloc | apply pw_below_drewN | apply below_drew1 | refine below_set ?_ GE156.out) | exact HB.out)⟩
                      · rw [if_neg c34] at H
                        have c34b0 : (a0_1 == 0) = false := beq_eq_false_iff_ne.mpr c34
                        have c34b1 : (a0_1 != 0) = true := bne_iff_ne.mpr c34
                        obtain rfl := Option.some.inj H
                        have hcz41_0 : wc.cell? ⟨gb156, 0, none⟩ = some (.int .i64 a0_0) := (blk_cell BK156.out 0).trans rfl
                        have hcz41_1 : wc.cell? ⟨gb156, 1, none⟩ = some (.int .i64 a0_1) := (blk_cell BK156.out 1).trans rfl
                        have hcz41_2 : wc.cell? ⟨gb156, 2, none⟩ = some (.string a0_2) := (blk_cell BK156.out 2).trans rfl
                        have hcz41_3 : wc.cell? ⟨gb156, 3, none⟩ = some (.int .i64 a0_3) := (blk_cell BK156.out 3).trans rfl
                        have hcz41_4 : wc.cell? ⟨gb156, 4, none⟩ = some (.string a0_4) := (blk_cell BK156.out 4).trans rfl
                        have hcz41_5 : wc.cell? ⟨gb156, 5, none⟩ = some (.int .i64 a0_5) := (blk_cell BK156.out 5).trans rfl
                        have hcz41_6 : wc.cell? ⟨gb156, 6, none⟩ = some (.string a0_6) := (blk_cell BK156.out 6).trans rfl
                        have hfz41_0 := blk_frozen BK156.out 0
                        have hfz41_1 := blk_frozen BK156.out 1
                        have hfz41_2 := blk_frozen BK156.out 2
                        have hfz41_3 := blk_frozen BK156.out 3
                        have hfz41_4 := blk_frozen BK156.out 4
                        have hfz41_5 := blk_frozen BK156.out 5
                        have hfz41_6 := blk_frozen BK156.out 6
                        go_wp2
                        go_ret
                        exact ⟨by first | rfl | (simp [errW_none, errW_some] <;> rfl) | (simp [*, errW_none, errW_some] <;> rfl), by repeat (first | (with_reducible first | exact HB.out | apply below_alloc | apply pw_below_drewN | apply below_drew1 | refine below_set ?_ GE156.out) | exact HB.out)⟩
                    · rw [if_neg c33] at H
                      have c33b0 : (a0_0 == 5) = false := beq_eq_false_iff_ne.mpr c33
                      have c33b1 : (a0_0 != 5) = true := bne_iff_ne.mpr c33
                      obtain rfl := Option.some.inj H
                      go_wp2
                      go_ret
                      exact ⟨by first | rfl | (simp [errW_none, errW_some] <;> rfl) | (simp [*, errW_none, errW_some] <;> rfl), by repeat (first | (with_reducible first | exact HB.out | apply below_alloc | apply pw_below_drewN | apply below_drew1 | refine below_set ?_ GE156.out) | exact HB.out)⟩
  · replace c3 := Bool.eq_false_iff.mpr c3
    subst c3
    have H1 : (some false) = some r := by rw [if_neg (show ¬ (false = true) by decide)] at H; exact H
    clear H
    have H := H1
    clear H1
    obtain rfl := Option.some.inj H
    go_enter Try.func24, Try.ntmps24
    go_wp2_with (first | ((with_reducible refine gate_dst (N := 1) rfl ?_); refine box_event ?hg (N := 1) ?hd (cs := #[.int .i64 a0_0, .int .i64 a0_1, .string a0_2, .int .i64 a0_3, .string a0_4, .int .i64 a0_5, .string a0_6]) (t := 31) ?hr ?_; (case hd => rfl); (case hg => rfl); (case hr => first | (go_simp; done) | (go_simp; rfl)); intro gb156 hg w42 hbox hb; have n0_ := Aside0.mk (below_step (by repeat (first | (with_reducible first | exact HB.out | apply below_alloc | apply pw_below_drewN | apply below_drew1) | exact HB.out)) hb); have n1_ := Aside0.mk (hbox); have n2_ := Aside0.mk ((by rw [hg]; exact (below_size (by repeat (first | (with_reducible first | exact HB.out | apply below_alloc | apply pw_below_drewN | apply below_drew1) | exact HB.out))) : w.heap.size ≤ gb156)); have n3_ := Aside0.mk ((by rw [hg]; exact (below_size (by repeat (first | (with_reducible first | exact HB.out | apply below_alloc | apply pw_below_drewN | apply below_drew1) | exact HB.out))) : w.heap.size ≤ gb156)); clear HB; have HB := n0_; have BK156 := n1_; have GW156 := n2_; have GE156 := n3_; clear n0_ n1_ n2_ n3_; clear hb hbox hg; have hcz43_0 : w42.cell? ⟨gb156, 0, none⟩ = some (.int .i64 a0_0) := (blk_cell BK156.out 0).trans rfl; have hcz43_1 : w42.cell? ⟨gb156, 1, none⟩ = some (.int .i64 a0_1) := (blk_cell BK156.out 1).trans rfl; have hcz43_2 : w42.cell? ⟨gb156, 2, none⟩ = some (.string a0_2) := (blk_cell BK156.out 2).trans rfl; have hcz43_3 : w42.cell? ⟨gb156, 3, none⟩ = some (.int .i64 a0_3) := (blk_cell BK156.out 3).trans rfl; have hcz43_4 : w42.cell? ⟨gb156, 4, none⟩ = some (.string a0_4) := (blk_cell BK156.out 4).trans rfl; have hcz43_5 : w42.cell? ⟨gb156, 5, none⟩ = some (.int .i64 a0_5) := (blk_cell BK156.out 5).trans rfl; have hcz43_6 : w42.cell? ⟨gb156, 6, none⟩ = some (.string a0_6) := (blk_cell BK156.out 6).trans rfl; have hfz43_0 := blk_frozen BK156.out 0; have hfz43_1 := blk_frozen BK156.out 1; have hfz43_2 := blk_frozen BK156.out 2; have hfz43_3 := blk_frozen BK156.out 3; have hfz43_4 := blk_frozen BK156.out 4; have hfz43_5 := blk_frozen BK156.out 5; have hfz43_6 := blk_frozen BK156.out 6) | ((with_reducible refine gate_callee (f := 54) rfl ?_); refine goesL_ (some 7) rfl rfl Try.func54 (by kernel_rfl) rfl #[.int .i64 a0_5, .int .i64 1, .int .i64 31] rfl (by (try simp only [List.map_toArray, List.map_cons, List.map_nil]); first | done | rfl | (simp only [List.length_drop, List.length_take]; rfl)) ?_; (with_reducible refine (impl_in.calls a0_5 1 31 false _ A2.out).mono ?_); rintro e w' ⟨rfl, ⟨nd, rfl⟩⟩; refine ⟨_, rfl, ?_⟩))
    go_ret
    exact ⟨by first | rfl | (simp [errW_none, errW_some] <;> rfl) | (simp [*, errW_none, errW_some] <;> rfl), by repeat (first | (with_reducible first | exact HB.out | apply below_alloc | apply pw_below_drewN | apply below_drew1 | refine below_set ?_ GE156.out) | exact HB.out)⟩
end Go.Proofs.Ythmmleheahkeeaa.Q
namespace Go.Proofs.Ythmmleheahkeeaa.Q
open Go.RowKit Go.Proofs.YthmmleheahkeeaaW.PrintWords Go.Proofs.YthmmleheahkeeaaW.PrintLast Go.Proofs.YthmmleheahkeeaaW.PrintMore
attribute [local go_sem] max2_int min2_int max_two min_two max_three min_three max_four min_four   -- for this text's walks alone
set_option linter.unusedVariables false
set_option linter.unusedSimpArgs false
/-- The set with what an operation names. -/
def nameSet (b : List Bool) (kind dir dir2 id : Int) : Option (List Bool) :=
  if 0 ≤ id ∧ id < 32 then
    if kind = 5 then some (b.set id.toNat true)
    else if 0 ≤ dir ∧ dir < 32 then
      if kind = 4 then (if 0 ≤ dir2 ∧ dir2 < 32 then some (((b.set id.toNat true).set dir.toNat true).set dir2.toNat true) else none)
      else some ((b.set id.toNat true).set dir.toNat true)
    else none
  else none
def nameF (k : Nat) (a0 a1 : Int) (a2 : ByteArray) (a3 : Int) (a4 : ByteArray) (a5 : Int) (a6 : ByteArray) (b : List Bool) : Option (List Bool) :=
  (impl_OpOk.f k a0 a1 a2 a3 a4 a5 a6).bind fun t => if t = true then nameSet b a0 a1 a3 a5 else some b
theorem blk_bool {w : World} {g t : Nat} {b : List Bool} (h : w.heap[g]? = some (.cells (bools b).toArray t (0, 0))) (i : Int) (h0 : 0 ≤ i) (h1 : i < b.length) : w.cell? ⟨g, i.toNat, none⟩ = some (.bool (b.getD i.toNat false)) := by
  rw [blk_cell h]
  simp only [bools, List.getElem?_toArray, List.getElem?_map]
  rw [List.getElem?_eq_getElem (by omega), List.getD_eq_getElem?_getD, List.getElem?_eq_getElem (by omega)]
  rfl
theorem blk_bool_set {w : World} {g t : Nat} {b : List Bool} (h : w.heap[g]? = some (.cells (bools b).toArray t (0, 0))) (i : Nat) : (w.setCell ⟨g, i, none⟩ (.bool true)).heap[g]? = some (.cells (bools (b.set i true)).toArray t (0, 0)) := by
  rw [blk_set h]
  simp [bools, List.map_set]
theorem grown_drew {w W : World} {r : Option Nat} (h : w.grownBy W r) : w.grownBy W.drew r := ⟨h.os, h.tape, h.output, h.size, h.block⟩
theorem grown_set {w W : World} {g : Nat} (h : w.grownBy W (some g)) (i : Nat) (u : Value) : w.grownBy (W.setCell ⟨g, i, none⟩ u) (some g) :=
  ⟨h.os, h.tape, h.output, by have := h.size; simpa [World.setCell] using this, fun k hk hne => (Below.heap_setCell W ⟨g, i, none⟩ u k (fun he => hne (by rw [he]))).trans (h.block k hk hne)⟩
set_option maxHeartbeats 8000000 in
set_option maxRecDepth 100000 in
theorem name_calls (k : Nat) (a0 a1 : Int) (a2 : ByteArray) (a3 : Int) (a4 : ByteArray) (a5 : Int) (a6 : ByteArray) (g : Nat) (b b' : List Bool) (w : World) (hb : w.heap[g]? = some (.cells (bools b).toArray 82 (0, 0))) (hl : b.length = 32) (h : nameF k a0 a1 a2 a3 a4 a5 a6 b = some b') :
    Calls Try.prog 64 #[.agg #[.int .i64 a0, .int .i64 a1, .string a2, .int .i64 a3, .string a4, .int .i64 a5, .string a6], .pointer (some ⟨g, 0, none⟩)] w fun e w' => e = .returned (.tuple #[]) ∧ w'.heap[g]? = some (.cells (bools b').toArray 82 (0, 0)) ∧ w.grownBy w' (some g) := by
  unfold nameF at h
  obtain ⟨t, ht, h⟩ := Option.bind_eq_some_iff.1 h
  have HT := Aside0.mk ht
  have HG := Aside0.mk hb
  have HL := Aside0.mk hl
  have HN := Aside0.mk (show w.heap.size ≠ g from by have := blk_lt hb; omega)
  clear ht hb hl
  cases t with
  | false =>
    obtain rfl : b = b' := by simpa using h
    clear h
    go_enter Try.func64, Try.ntmps64
    go_wp2_with (go_at_call 24; refine (impl_OpOk.calls k _ _ _ _ _ _ _ false _ HT.out).mono ?_; rintro e w1 ⟨rfl, hb1⟩)
    (try simp only [Exit.inBlock, Exit.then])
    refine bodyPost_ret (results_none rfl _ _ _) rfl ?_
    exact ⟨rfl, blk_below (blk_alloc HG.out _) hb1, grown_of_below (below_step (below_alloc (Below.refl _ _) _) hb1) _⟩
  | true =>
    have hs : nameSet b a0 a1 a3 a5 = some b' := by simpa using h
    clear h
    unfold nameSet at hs
    split at hs
    case isFalse => cases hs
    rename_i hid
    obtain ⟨i0, i1⟩ := hid
    have di1 : decide (a5 < 32) = true := decide_eq_true i1
    have di0 : decide (0 ≤ a5) = true := decide_eq_true i0
    by_cases k5 : a0 = 5
    · subst k5
      obtain rfl := Option.some.inj (by simpa using hs : some (b.set a5.toNat true) = some b')
      clear hs
      go_enter Try.func64, Try.ntmps64
      go_wp2_with (go_at_call 24; refine (impl_OpOk.calls k _ _ _ _ _ _ _ true _ HT.out).mono ?_; rintro e w1 ⟨rfl, hb1⟩)
      have Xw1 := Aside0.mk (show w1.heap[w.heap.size]? = some (.cells #[.int .i64 5, .int .i64 a1, .string a2, .int .i64 a3, .string a4, .int .i64 a5, .string a6] 31 (0, 0)) from blk_below (heap_alloc_new w _) hb1)
      have Kw1 := Aside0.mk (show w1.heap[g]? = some (.cells (bools b).toArray 82 (0, 0)) from blk_below (blk_alloc HG.out _) hb1)
      have Gw1 := Aside0.mk (show w.grownBy w1 (some g) from grown_of_below (below_step (below_alloc (Below.refl _ _) _) hb1) _)
      clear hb1
      have zw1_0 : w1.cell? ⟨w.heap.size, 0, none⟩ = some (.int .i64 5) := (blk_cell Xw1.out 0).trans rfl; have zw1_1 : w1.cell? ⟨w.heap.size, 1, none⟩ = some (.int .i64 a1) := (blk_cell Xw1.out 1).trans rfl; have zw1_3 : w1.cell? ⟨w.heap.size, 3, none⟩ = some (.int .i64 a3) := (blk_cell Xw1.out 3).trans rfl; have zw1_5 : w1.cell? ⟨w.heap.size, 5, none⟩ = some (.int .i64 a5) := (blk_cell Xw1.out 5).trans rfl
      go_still_tail 5, (by kernel_rfl)
      change wpList _ _ _ _ _ w1.drew
      have Xv1 : w1.drew.heap[w.heap.size]? = some (.cells #[.int .i64 5, .int .i64 a1, .string a2, .int .i64 a3, .string a4, .int .i64 a5, .string a6] 31 (0, 0)) := Xw1.out
      have Kv1 : w1.drew.heap[g]? = some (.cells (bools b).toArray 82 (0, 0)) := Kw1.out
      have Gv1 : w.grownBy w1.drew (some g) := grown_drew Gw1.out
      clear Xw1 Kw1 Gw1 zw1_0 zw1_1 zw1_3 zw1_5
      generalize w1.drew = v1 at Xv1 Kv1 Gv1 ⊢
      have cSv1 := blk_bool Kv1 a5 i0 (by have := HL.out; (try simp only [List.length_set]); omega)
      have fSv1 := blk_frozen Kv1 a5.toNat
      have X_v1 := Aside0.mk Xv1; have K_v1 := Aside0.mk Kv1; have G_v1 := Aside0.mk Gv1; clear Xv1 Kv1 Gv1
      go_wp2_with (first | ((with_reducible refine gate_store (t := 4) (p := 11) rfl ?_); refine store_event (t := 4) (p := 11) (v := ?vo) (w1 := v1.setCell ⟨g, a5.toNat, none⟩ (.bool true)) ?hg ?ho ?hn ?hr ?_; (case ho => rfl); (case hg => rfl); (case hn => rfl); (case hr => first | (go_simp; done) | (go_simp; rfl)); intro w2 hw; have Kw2 := Aside0.mk (show w2.heap[g]? = some (.cells (bools (b.set a5.toNat true)).toArray 82 (0, 0)) from by rw [hw]; exact blk_bool_set K_v1.out _); have Xw2 := Aside0.mk (show w2.heap[w.heap.size]? = some (.cells #[.int .i64 5, .int .i64 a1, .string a2, .int .i64 a3, .string a4, .int .i64 a5, .string a6] 31 (0, 0)) from by rw [hw]; exact blk_far X_v1.out HN.out _); have Gw2 := Aside0.mk (show w.grownBy w2 (some g) from by rw [hw]; exact grown_set G_v1.out _ _); clear hw; have zw2_0 : w2.cell? ⟨w.heap.size, 0, none⟩ = some (.int .i64 5) := (blk_cell Xw2.out 0).trans rfl; have zw2_1 : w2.cell? ⟨w.heap.size, 1, none⟩ = some (.int .i64 a1) := (blk_cell Xw2.out 1).trans rfl; have zw2_3 : w2.cell? ⟨w.heap.size, 3, none⟩ = some (.int .i64 a3) := (blk_cell Xw2.out 3).trans rfl; have zw2_5 : w2.cell? ⟨w.heap.size, 5, none⟩ = some (.int .i64 a5) := (blk_cell Xw2.out 5).trans rfl))
      go_end0
      exact ⟨rfl, Kw2.out, Gw2.out⟩
    · rw [if_neg k5] at hs
      split at hs
      case isFalse => cases hs
      rename_i hd
      obtain ⟨d0, d1⟩ := hd
      have dd1 : decide (a1 < 32) = true := decide_eq_true d1
      have dd0 : decide (0 ≤ a1) = true := decide_eq_true d0
      by_cases k4 : a0 = 4
      · subst k4
        rw [if_pos rfl] at hs
        split at hs
        case isFalse => cases hs
        rename_i he
        obtain ⟨e0, e1⟩ := he
        have de1 : decide (a3 < 32) = true := decide_eq_true e1
        have de0 : decide (0 ≤ a3) = true := decide_eq_true e0
        obtain rfl := Option.some.inj hs
        clear hs k5
        go_enter Try.func64, Try.ntmps64
        go_wp2_with (go_at_call 24; refine (impl_OpOk.calls k _ _ _ _ _ _ _ true _ HT.out).mono ?_; rintro e w1 ⟨rfl, hb1⟩)
        have Xw1 := Aside0.mk (show w1.heap[w.heap.size]? = some (.cells #[.int .i64 4, .int .i64 a1, .string a2, .int .i64 a3, .string a4, .int .i64 a5, .string a6] 31 (0, 0)) from blk_below (heap_alloc_new w _) hb1)
        have Kw1 := Aside0.mk (show w1.heap[g]? = some (.cells (bools b).toArray 82 (0, 0)) from blk_below (blk_alloc HG.out _) hb1)
        have Gw1 := Aside0.mk (show w.grownBy w1 (some g) from grown_of_below (below_step (below_alloc (Below.refl _ _) _) hb1) _)
        clear hb1
        have zw1_0 : w1.cell? ⟨w.heap.size, 0, none⟩ = some (.int .i64 4) := (blk_cell Xw1.out 0).trans rfl; have zw1_1 : w1.cell? ⟨w.heap.size, 1, none⟩ = some (.int .i64 a1) := (blk_cell Xw1.out 1).trans rfl; have zw1_3 : w1.cell? ⟨w.heap.size, 3, none⟩ = some (.int .i64 a3) := (blk_cell Xw1.out 3).trans rfl; have zw1_5 : w1.cell? ⟨w.heap.size, 5, none⟩ = some (.int .i64 a5) := (blk_cell Xw1.out 5).trans rfl
        go_still_tail 5, (by kernel_rfl)
        change wpList _ _ _ _ _ w1.drew
        have Xv1 : w1.drew.heap[w.heap.size]? = some (.cells #[.int .i64 4, .int .i64 a1, .string a2, .int .i64 a3, .string a4, .int .i64 a5, .string a6] 31 (0, 0)) := Xw1.out
        have Kv1 : w1.drew.heap[g]? = some (.cells (bools b).toArray 82 (0, 0)) := Kw1.out
        have Gv1 : w.grownBy w1.drew (some g) := grown_drew Gw1.out
        clear Xw1 Kw1 Gw1 zw1_0 zw1_1 zw1_3 zw1_5
        generalize w1.drew = v1 at Xv1 Kv1 Gv1 ⊢
        have cSv1 := blk_bool Kv1 a5 i0 (by have := HL.out; (try simp only [List.length_set]); omega)
        have fSv1 := blk_frozen Kv1 a5.toNat
        have X_v1 := Aside0.mk Xv1; have K_v1 := Aside0.mk Kv1; have G_v1 := Aside0.mk Gv1; clear Xv1 Kv1 Gv1
        go_wp2_with (first | ((with_reducible refine gate_store (t := 4) (p := 11) rfl ?_); refine store_event (t := 4) (p := 11) (v := ?vo) (w1 := v1.setCell ⟨g, a5.toNat, none⟩ (.bool true)) ?hg ?ho ?hn ?hr ?_; (case ho => rfl); (case hg => rfl); (case hn => rfl); (case hr => first | (go_simp; done) | (go_simp; rfl)); intro w2 hw; have Kw2 := Aside0.mk (show w2.heap[g]? = some (.cells (bools (b.set a5.toNat true)).toArray 82 (0, 0)) from by rw [hw]; exact blk_bool_set K_v1.out _); have Xw2 := Aside0.mk (show w2.heap[w.heap.size]? = some (.cells #[.int .i64 4, .int .i64 a1, .string a2, .int .i64 a3, .string a4, .int .i64 a5, .string a6] 31 (0, 0)) from by rw [hw]; exact blk_far X_v1.out HN.out _); have Gw2 := Aside0.mk (show w.grownBy w2 (some g) from by rw [hw]; exact grown_set G_v1.out _ _); clear hw; have zw2_0 : w2.cell? ⟨w.heap.size, 0, none⟩ = some (.int .i64 4) := (blk_cell Xw2.out 0).trans rfl; have zw2_1 : w2.cell? ⟨w.heap.size, 1, none⟩ = some (.int .i64 a1) := (blk_cell Xw2.out 1).trans rfl; have zw2_3 : w2.cell? ⟨w.heap.size, 3, none⟩ = some (.int .i64 a3) := (blk_cell Xw2.out 3).trans rfl; have zw2_5 : w2.cell? ⟨w.heap.size, 5, none⟩ = some (.int .i64 a5) := (blk_cell Xw2.out 5).trans rfl))
        go_still_tail 5, (by kernel_rfl)
        change wpList _ _ _ _ _ w2.drew
        have Xv2 : w2.drew.heap[w.heap.size]? = some (.cells #[.int .i64 4, .int .i64 a1, .string a2, .int .i64 a3, .string a4, .int .i64 a5, .string a6] 31 (0, 0)) := Xw2.out
        have Kv2 : w2.drew.heap[g]? = some (.cells (bools (b.set a5.toNat true)).toArray 82 (0, 0)) := Kw2.out
        have Gv2 : w.grownBy w2.drew (some g) := grown_drew Gw2.out
        clear Xw2 Kw2 Gw2 zw2_0 zw2_1 zw2_3 zw2_5
        generalize w2.drew = v2 at Xv2 Kv2 Gv2 ⊢
        have cSv2 := blk_bool Kv2 a1 d0 (by have := HL.out; (try simp only [List.length_set]); omega)
        have fSv2 := blk_frozen Kv2 a1.toNat
        have X_v2 := Aside0.mk Xv2; have K_v2 := Aside0.mk Kv2; have G_v2 := Aside0.mk Gv2; clear Xv2 Kv2 Gv2
        go_wp2_with (first | ((with_reducible refine gate_store (t := 4) (p := 19) rfl ?_); refine store_event (t := 4) (p := 19) (v := ?vo) (w1 := v2.setCell ⟨g, a1.toNat, none⟩ (.bool true)) ?hg ?ho ?hn ?hr ?_; (case ho => rfl); (case hg => rfl); (case hn => rfl); (case hr => first | (go_simp; done) | (go_simp; rfl)); intro w3 hw; have Kw3 := Aside0.mk (show w3.heap[g]? = some (.cells (bools ((b.set a5.toNat true).set a1.toNat true)).toArray 82 (0, 0)) from by rw [hw]; exact blk_bool_set K_v2.out _); have Xw3 := Aside0.mk (show w3.heap[w.heap.size]? = some (.cells #[.int .i64 4, .int .i64 a1, .string a2, .int .i64 a3, .string a4, .int .i64 a5, .string a6] 31 (0, 0)) from by rw [hw]; exact blk_far X_v2.out HN.out _); have Gw3 := Aside0.mk (show w.grownBy w3 (some g) from by rw [hw]; exact grown_set G_v2.out _ _); clear hw; have zw3_0 : w3.cell? ⟨w.heap.size, 0, none⟩ = some (.int .i64 4) := (blk_cell Xw3.out 0).trans rfl; have zw3_1 : w3.cell? ⟨w.heap.size, 1, none⟩ = some (.int .i64 a1) := (blk_cell Xw3.out 1).trans rfl; have zw3_3 : w3.cell? ⟨w.heap.size, 3, none⟩ = some (.int .i64 a3) := (blk_cell Xw3.out 3).trans rfl; have zw3_5 : w3.cell? ⟨w.heap.size, 5, none⟩ = some (.int .i64 a5) := (blk_cell Xw3.out 5).trans rfl))
        go_still_tail 5, (by kernel_rfl)
        change wpList _ _ _ _ _ w3.drew
        have Xv3 : w3.drew.heap[w.heap.size]? = some (.cells #[.int .i64 4, .int .i64 a1, .string a2, .int .i64 a3, .string a4, .int .i64 a5, .string a6] 31 (0, 0)) := Xw3.out
        have Kv3 : w3.drew.heap[g]? = some (.cells (bools ((b.set a5.toNat true).set a1.toNat true)).toArray 82 (0, 0)) := Kw3.out
        have Gv3 : w.grownBy w3.drew (some g) := grown_drew Gw3.out
        clear Xw3 Kw3 Gw3 zw3_0 zw3_1 zw3_3 zw3_5
        generalize w3.drew = v3 at Xv3 Kv3 Gv3 ⊢
        have cSv3 := blk_bool Kv3 a3 e0 (by have := HL.out; (try simp only [List.length_set]); omega)
        have fSv3 := blk_frozen Kv3 a3.toNat
        have X_v3 := Aside0.mk Xv3; have K_v3 := Aside0.mk Kv3; have G_v3 := Aside0.mk Gv3; clear Xv3 Kv3 Gv3
        go_wp2_with (first | ((with_reducible refine gate_store (t := 4) (p := 27) rfl ?_); refine store_event (t := 4) (p := 27) (v := ?vo) (w1 := v3.setCell ⟨g, a3.toNat, none⟩ (.bool true)) ?hg ?ho ?hn ?hr ?_; (case ho => rfl); (case hg => rfl); (case hn => rfl); (case hr => first | (go_simp; done) | (go_simp; rfl)); intro w4 hw; have Kw4 := Aside0.mk (show w4.heap[g]? = some (.cells (bools (((b.set a5.toNat true).set a1.toNat true).set a3.toNat true)).toArray 82 (0, 0)) from by rw [hw]; exact blk_bool_set K_v3.out _); have Xw4 := Aside0.mk (show w4.heap[w.heap.size]? = some (.cells #[.int .i64 4, .int .i64 a1, .string a2, .int .i64 a3, .string a4, .int .i64 a5, .string a6] 31 (0, 0)) from by rw [hw]; exact blk_far X_v3.out HN.out _); have Gw4 := Aside0.mk (show w.grownBy w4 (some g) from by rw [hw]; exact grown_set G_v3.out _ _); clear hw; have zw4_0 : w4.cell? ⟨w.heap.size, 0, none⟩ = some (.int .i64 4) := (blk_cell Xw4.out 0).trans rfl; have zw4_1 : w4.cell? ⟨w.heap.size, 1, none⟩ = some (.int .i64 a1) := (blk_cell Xw4.out 1).trans rfl; have zw4_3 : w4.cell? ⟨w.heap.size, 3, none⟩ = some (.int .i64 a3) := (blk_cell Xw4.out 3).trans rfl; have zw4_5 : w4.cell? ⟨w.heap.size, 5, none⟩ = some (.int .i64 a5) := (blk_cell Xw4.out 5).trans rfl))
        go_end0
        exact ⟨rfl, Kw4.out, Gw4.out⟩
      · rw [if_neg k4] at hs
        obtain rfl := Option.some.inj hs
        clear hs
        have n5 : (a0 == 5) = false := beq_eq_false_iff_ne.mpr k5
        have m5 : (a0 != 5) = true := bne_iff_ne.mpr k5
        have n4 : (a0 == 4) = false := beq_eq_false_iff_ne.mpr k4
        have m4 : (a0 != 4) = true := bne_iff_ne.mpr k4
        clear k4 k5
        go_enter Try.func64, Try.ntmps64
        go_wp2_with (go_at_call 24; refine (impl_OpOk.calls k _ _ _ _ _ _ _ true _ HT.out).mono ?_; rintro e w1 ⟨rfl, hb1⟩)
        have Xw1 := Aside0.mk (show w1.heap[w.heap.size]? = some (.cells #[.int .i64 a0, .int .i64 a1, .string a2, .int .i64 a3, .string a4, .int .i64 a5, .string a6] 31 (0, 0)) from blk_below (heap_alloc_new w _) hb1)
        have Kw1 := Aside0.mk (show w1.heap[g]? = some (.cells (bools b).toArray 82 (0, 0)) from blk_below (blk_alloc HG.out _) hb1)
        have Gw1 := Aside0.mk (show w.grownBy w1 (some g) from grown_of_below (below_step (below_alloc (Below.refl _ _) _) hb1) _)
        clear hb1
        have zw1_0 : w1.cell? ⟨w.heap.size, 0, none⟩ = some (.int .i64 a0) := (blk_cell Xw1.out 0).trans rfl; have zw1_1 : w1.cell? ⟨w.heap.size, 1, none⟩ = some (.int .i64 a1) := (blk_cell Xw1.out 1).trans rfl; have zw1_3 : w1.cell? ⟨w.heap.size, 3, none⟩ = some (.int .i64 a3) := (blk_cell Xw1.out 3).trans rfl; have zw1_5 : w1.cell? ⟨w.heap.size, 5, none⟩ = some (.int .i64 a5) := (blk_cell Xw1.out 5).trans rfl
        go_still_tail 5, (by kernel_rfl)
        change wpList _ _ _ _ _ w1.drew
        have Xv1 : w1.drew.heap[w.heap.size]? = some (.cells #[.int .i64 a0, .int .i64 a1, .string a2, .int .i64 a3, .string a4, .int .i64 a5, .string a6] 31 (0, 0)) := Xw1.out
        have Kv1 : w1.drew.heap[g]? = some (.cells (bools b).toArray 82 (0, 0)) := Kw1.out
        have Gv1 : w.grownBy w1.drew (some g) := grown_drew Gw1.out
        clear Xw1 Kw1 Gw1 zw1_0 zw1_1 zw1_3 zw1_5
        generalize w1.drew = v1 at Xv1 Kv1 Gv1 ⊢
        have cSv1 := blk_bool Kv1 a5 i0 (by have := HL.out; (try simp only [List.length_set]); omega)
        have fSv1 := blk_frozen Kv1 a5.toNat
        have X_v1 := Aside0.mk Xv1; have K_v1 := Aside0.mk Kv1; have G_v1 := Aside0.mk Gv1; clear Xv1 Kv1 Gv1
        go_wp2_with (first | ((with_reducible refine gate_store (t := 4) (p := 11) rfl ?_); refine store_event (t := 4) (p := 11) (v := ?vo) (w1 := v1.setCell ⟨g, a5.toNat, none⟩ (.bool true)) ?hg ?ho ?hn ?hr ?_; (case ho => rfl); (case hg => rfl); (case hn => rfl); (case hr => first | (go_simp; done) | (go_simp; rfl)); intro w2 hw; have Kw2 := Aside0.mk (show w2.heap[g]? = some (.cells (bools (b.set a5.toNat true)).toArray 82 (0, 0)) from by rw [hw]; exact blk_bool_set K_v1.out _); have Xw2 := Aside0.mk (show w2.heap[w.heap.size]? = some (.cells #[.int .i64 a0, .int .i64 a1, .string a2, .int .i64 a3, .string a4, .int .i64 a5, .string a6] 31 (0, 0)) from by rw [hw]; exact blk_far X_v1.out HN.out _); have Gw2 := Aside0.mk (show w.grownBy w2 (some g) from by rw [hw]; exact grown_set G_v1.out _ _); clear hw; have zw2_0 : w2.cell? ⟨w.heap.size, 0, none⟩ = some (.int .i64 a0) := (blk_cell Xw2.out 0).trans rfl; have zw2_1 : w2.cell? ⟨w.heap.size, 1, none⟩ = some (.int .i64 a1) := (blk_cell Xw2.out 1).trans rfl; have zw2_3 : w2.cell? ⟨w.heap.size, 3, none⟩ = some (.int .i64 a3) := (blk_cell Xw2.out 3).trans rfl; have zw2_5 : w2.cell? ⟨w.heap.size, 5, none⟩ = some (.int .i64 a5) := (blk_cell Xw2.out 5).trans rfl))
        go_still_tail 5, (by kernel_rfl)
        change wpList _ _ _ _ _ w2.drew
        have Xv2 : w2.drew.heap[w.heap.size]? = some (.cells #[.int .i64 a0, .int .i64 a1, .string a2, .int .i64 a3, .string a4, .int .i64 a5, .string a6] 31 (0, 0)) := Xw2.out
        have Kv2 : w2.drew.heap[g]? = some (.cells (bools (b.set a5.toNat true)).toArray 82 (0, 0)) := Kw2.out
        have Gv2 : w.grownBy w2.drew (some g) := grown_drew Gw2.out
        clear Xw2 Kw2 Gw2 zw2_0 zw2_1 zw2_3 zw2_5
        generalize w2.drew = v2 at Xv2 Kv2 Gv2 ⊢
        have cSv2 := blk_bool Kv2 a1 d0 (by have := HL.out; (try simp only [List.length_set]); omega)
        have fSv2 := blk_frozen Kv2 a1.toNat
        have X_v2 := Aside0.mk Xv2; have K_v2 := Aside0.mk Kv2; have G_v2 := Aside0.mk Gv2; clear Xv2 Kv2 Gv2
        go_wp2_with (first | ((with_reducible refine gate_store (t := 4) (p := 19) rfl ?_); refine store_event (t := 4) (p := 19) (v := ?vo) (w1 := v2.setCell ⟨g, a1.toNat, none⟩ (.bool true)) ?hg ?ho ?hn ?hr ?_; (case ho => rfl); (case hg => rfl); (case hn => rfl); (case hr => first | (go_simp; done) | (go_simp; rfl)); intro w3 hw; have Kw3 := Aside0.mk (show w3.heap[g]? = some (.cells (bools ((b.set a5.toNat true).set a1.toNat true)).toArray 82 (0, 0)) from by rw [hw]; exact blk_bool_set K_v2.out _); have Xw3 := Aside0.mk (show w3.heap[w.heap.size]? = some (.cells #[.int .i64 a0, .int .i64 a1, .string a2, .int .i64 a3, .string a4, .int .i64 a5, .string a6] 31 (0, 0)) from by rw [hw]; exact blk_far X_v2.out HN.out _); have Gw3 := Aside0.mk (show w.grownBy w3 (some g) from by rw [hw]; exact grown_set G_v2.out _ _); clear hw; have zw3_0 : w3.cell? ⟨w.heap.size, 0, none⟩ = some (.int .i64 a0) := (blk_cell Xw3.out 0).trans rfl; have zw3_1 : w3.cell? ⟨w.heap.size, 1, none⟩ = some (.int .i64 a1) := (blk_cell Xw3.out 1).trans rfl; have zw3_3 : w3.cell? ⟨w.heap.size, 3, none⟩ = some (.int .i64 a3) := (blk_cell Xw3.out 3).trans rfl; have zw3_5 : w3.cell? ⟨w.heap.size, 5, none⟩ = some (.int .i64 a5) := (blk_cell Xw3.out 5).trans rfl))
        go_end0
        exact ⟨rfl, Kw3.out, Gw3.out⟩
end Go.Proofs.Ythmmleheahkeeaa.Q
namespace Go.Proofs.Ythmmleheahkeeaa.Q
open Go.RowKit Go.Proofs.YthmmleheahkeeaaW.PrintWords Go.Proofs.YthmmleheahkeeaaW.PrintLast Go.Proofs.YthmmleheahkeeaaW.PrintMore
attribute [local go_sem] max2_int min2_int max_two min_two max_three min_three max_four min_four   -- for this text's walks alone
set_option linter.unusedVariables false
set_option linter.unusedSimpArgs false
def impl_copied_int.f (l0 : List Int) : Option (List Int) := if l0.length ≤ 8796093022208 then some l0 else none
set_option maxHeartbeats 8000000 in
set_option maxRecDepth 100000 in
theorem impl_copied_int.calls (A0 : Option Addr) (c0 : Nat) (l0 : List Int) (r : List Int) (w : World) (hr0 : Kd.C (Kd.int .i64) w A0 l0.length l0) (hc0 : l0.length ≤ c0) (h : impl_copied_int.f l0 = some r) :
    Calls Try.prog 79 #[.slice A0 l0.length c0] w fun e w' => ∃ v0_ : Value, e = .returned (v0_) ∧ Kd.R (Kd.int .i64) 3 w' w.heap.size (fun _ => True) v0_ r ∧ Below w.heap.size w w' := by
  unfold impl_copied_int.f at h
  split at h
  case isFalse => cases h
  rename_i hlim
  obtain rfl := Option.some.inj h
  clear h
  have HB := Aside0.mk (Below.refl w.heap.size w)
  by_cases c : l0.length = 0
  · obtain rfl := List.eq_nil_of_length_eq_zero c
    clear c hr0
    go_enter Try.func79, Try.ntmps79
    go_wp2
    go_ret
    exact ⟨_, rfl, Kd.R_nil _ _ _ _ _, HB.out⟩
  · have hp : 0 < l0.length := by omega
    have b0 : ((l0.length : Int) == 0) = false := beq_eq_false_iff_ne.mpr (by omega)
    have b1 : (l0.length == 0) = false := beq_eq_false_iff_ne.mpr (by omega)
    have b2 : ¬ (l0 = []) := fun h_ => c (by rw [h_]; rfl)
    have HR0 := Aside0.mk hr0
    have HL := Aside0.mk hlim
    have HP := Aside0.mk hp
    clear hr0 c hlim hp
    go_enter Try.func79, Try.ntmps79
    go_wp2_with (first | ((with_reducible refine gate_dst (N := 9) rfl ?_); refine Kd.R_make (Kd.int .i64) _ 3 rfl (N := 9) rfl 46 _ _ rfl (l0.length : Int) rfl rfl Try.underlying46 (.int .i64 0) 8 info3 rfl (by decide) (by omega) (0 : Int) (ok := fun _ => True) (okp := fun _ => True) rfl (fun _ hk => hk) trivial (by omega) (by have := HL.out; rw [Int.toNat_natCast]; omega) HB.out (Nat.le_refl _) ?_; intro v1 w1 ho hb hg_ hnew_; have HO := Aside0.mk ho; have HR1 := Aside0.mk (Kd.C_below HR0.out (show Below w.heap.size w w1 from hb)); have HZ := Aside0.mk hb.size; clear ho hg_ hnew_; have HB1 := Aside0.mk hb; clear hb) | ((with_reducible refine gate_dst (N := 12) rfl ?_); refine Go.Proofs.Ythmmleheahkeeaa.Mem.copy_rows (Kd.int .i64) (Rr := fun x cs => cs = [.int .i64 x]) w.heap.size rfl (.tmp 10) (.tmp 11) 46 46 3 rfl Try.underlying46 (by have := info3; simp only [Option.map_eq_some_iff] at this ⊢; obtain ⟨i, h1, h2⟩ := this; exact ⟨i, h1, by have := congrArg (fun q => q.2.1) h2; exact this⟩) v1 (List.replicate (l0.length : Int).toNat (0 : Int)) l0 A0 l0.length c0 (ok := fun _ => True) (okp := fun _ => False) rfl rfl (by simp) HP.out HO.out ?hrd (by rintro w' x cs rfl; exact rfl) (fun _ hk => hk.elim) HB1.out HZ.out ?_; (case hrd => exact HR1.out.imp_ (Below.refl _ _) (fun p cs hp => hp)); intro w2 ho hb hg_; have HO2 := Aside0.mk ho; have HB2 := Aside0.mk hb; clear ho hb hg_))
    go_ret
    exact ⟨_, rfl, HO2.out, HB2.out⟩
end Go.Proofs.Ythmmleheahkeeaa.Q
namespace Go.Proofs.Ythmmleheahkeeaa.Q
open Go.RowKit Go.Proofs.YthmmleheahkeeaaW.PrintWords Go.Proofs.YthmmleheahkeeaaW.PrintLast Go.Proofs.YthmmleheahkeeaaW.PrintMore
attribute [local go_sem] max2_int min2_int max_two min_two max_three min_three max_four min_four   -- for this text's walks alone
set_option linter.unusedVariables false
set_option linter.unusedSimpArgs false
def idsU (b : List Bool) (n : Nat) : List Int := ((List.range n).filter (fun i => b.getD i false)).map (fun (i : Nat) => (i : Int))
theorem idsU_succ (b : List Bool) (n : Nat) : idsU b (n + 1) = if b.getD n false = true then idsU b n ++ [(n : Int)] else idsU b n := by
  unfold idsU
  rw [List.range_succ, List.filter_append, List.map_append]
  generalize h : b.getD n false = t
  cases t
  · simp only [List.filter_cons, List.filter_nil, h, Bool.false_eq_true, if_false, List.map_nil, List.append_nil]
  · simp only [List.filter_cons, List.filter_nil, h, if_true, List.map_cons, List.map_nil]
theorem idsU_length (b : List Bool) (n : Nat) : (idsU b n).length ≤ n := by
  unfold idsU
  rw [List.length_map]
  have := List.length_filter_le (fun i => b.getD i false) (List.range n)
  rw [List.length_range] at this
  exact this
theorem bools_index (b : List Bool) (hl : b.length = 32) (i : Nat) (hi : i < 32) (w : World) : (Instr.index 82 (.agg (bools b).toArray) (.int .i64 (i : Int))).run Try.prog w = .ok (.bool (b.getD i false)) w := by
  have hs : (Try.prog.info? 4).map (·.size) = some 1 := by kernel_rfl
  cases hq : Try.prog.info? 4 with
  | none => simp [hq] at hs
  | some x =>
    have hx : x.size = 1 := by simpa [hq] using hs
    have hlt : i < b.length := by omega
    have hu : Try.prog.underlying 82 = some (.array 32 4) := Try.underlying82
    have hb : Try.prog.underlying 4 = some .bool := Try.underlying4
    have hget : (bools b).toArray[i]? = some (.bool (b.getD i false)) := by
      simp [bools, List.getElem?_map, List.getElem?_eq_getElem hlt, List.getD_eq_getElem?_getD]
    have hget2 : (bools b)[i]? = some (.bool (b.getD i false)) := by simpa using hget
    generalize b.getD i false = u at hget2 ⊢
    unfold Instr.index
    simp [asIntOf, run_underlying hu, sizeOf, typeInfo, hq, hx, part, isAgg, run_underlying hb, hget2, hi]
set_option maxHeartbeats 8000000 in
set_option maxRecDepth 100000 in
theorem idsOf_calls (b : List Bool) (w : World) (hl : b.length = 32) :
    Calls Try.prog 65 #[.agg (bools b).toArray] w fun e w' => ∃ v0_ : Value, e = .returned (v0_) ∧ Kd.R (Kd.int .i64) 3 w' w.heap.size (fun _ => True) v0_ (idsU b 32) ∧ Below w.heap.size w w' := by
  have HL := Aside0.mk hl
  have HS := Aside0.mk (show (Try.prog.info? 82).map (·.size) = some (bools b).toArray.size from by rw [show (bools b).toArray.size = 32 by simp [bools, hl]]; kernel_rfl)
  clear hl
  have HB := Aside0.mk (Below.refl w.heap.size w)
  go_enter Try.func65, Try.ntmps65
  go_wp2_with (first | ((with_reducible refine gate_dst (N := 6) rfl ?_); refine wpList_load_row rfl 82 (.tmp 1) rfl w.heap.size rfl 82 (bools b).toArray (0, 0) _ (heap_alloc_new w _) Try.underlying82 rfl HS.out ?_))
  go_loopg [3, 7] 32 (fun m v3 v7 w' => ∃ n : Nat, v7 = .int .i64 (n : Int) ∧ Aside0 (n + m = 32) ∧ Aside0 (Kd.R (Kd.int .i64) 3 w' w.heap.size (fun _ => True) v3 (idsU b n)) ∧ Aside0 (Below w.heap.size w w'))
  case atStart => exact ⟨0, rfl, ⟨rfl⟩, ⟨Kd.R_nil _ _ _ _ _⟩, ⟨below_alloc (Below.refl _ _) _⟩⟩
  case round =>
    clear HB
    obtain ⟨n, rfl, HM, HO, HB⟩ := hrel
    have hn : n ≤ 32 := by have := HM.out; omega
    by_cases h32 : n < 32
    · have d0 : decide ((n : Int) < 32) = true := decide_eq_true (by omega)
      have hix := bools_index b HL.out n h32
      have hsu := idsU_succ b n
      generalize b.getD n false = t at hix hsu
      have n1 : (n : Int) + 1 = ((n + 1 : Nat) : Int) := by omega
      cases t with
      | true =>
        have HSU := Aside0.mk (hsu.trans (if_pos rfl))
        clear hsu
        have N1 := Aside0.mk n1
        clear n1
        go_wp2_with (first | ((with_reducible refine gate_builtin (b := .append) (xs := #[.tmp 12, .tmp 14]) rfl ?_); at_builtin; refine Kd.R_append (Kd.int .i64) (w0 := w) w.heap.size rfl (.tmp 12) (.tmp 14) 46 3 (.int .i64 0) 8 rfl Try.underlying46 info3 rfl (by decide) (by omega) u3 (idsU b n) (n : Int) [.int .i64 (n : Int)] (fun _ => True) (fun _ => False) rfl rfl ?aP (fun _ hk => hk.elim) ?aF ?aO ?aB ?aS ?aL ?_; (case aP => exact rfl); (case aB => exact (by repeat (first | (with_reducible first | exact HB.out | apply below_alloc | apply pw_below_drewN | apply below_drew1) | exact HB.out))); (case aF => exact (fun _ _ => trivial)); (case aO => exact (by (with_reducible repeat (first | apply Kd.R_alloc | apply Kd.R_drewN | apply Kd.R_drew)); exact HO.out)); (case aS => exact (below_size (by repeat (first | (with_reducible first | exact HB.out | apply below_alloc | apply pw_below_drewN | apply below_drew1) | exact HB.out)))); (case aL => have := idsU_length b n; omega); intro v845 w13 ho hb hg hat; have HO2 := Aside0.mk ho; have HB2 := Aside0.mk hb; clear ho hb hg hat))
        go_roundg (gk - 1)
        case measure => have := HM.out; omega
        case rel => exact ⟨n + 1, by first | rfl | (simp; done), ⟨by have := HM.out; omega⟩, ⟨by rw [HSU.out]; exact HO2.out⟩, ⟨HB2.out⟩⟩
      | false =>
        have HSU := Aside0.mk (hsu.trans (if_neg (by decide)))
        clear hsu
        have N1 := Aside0.mk n1
        clear n1
        go_wp2
        go_roundg (gk - 1)
        case measure => have := HM.out; omega
        case rel => exact ⟨n + 1, by first | rfl | (simp; done), ⟨by have := HM.out; omega⟩, ⟨by rw [HSU.out]; exact HO.out⟩, ⟨HB.out⟩⟩
    · obtain rfl : n = 32 := by omega
      clear hn h32
      have hA : ∃ A c, u3 = .slice A (idsU b 32).length c ∧ (idsU b 32).length ≤ c ∧ Kd.C (Kd.int .i64) wr A (idsU b 32).length (idsU b 32) := Kd.R_reads HO.out
      obtain ⟨A, c, rfl, hc, hC⟩ := hA
      have HC := Aside0.mk hC
      have HCC := Aside0.mk hc
      have HF := Aside0.mk (show impl_copied_int.f (idsU b 32) = some (idsU b 32) from if_pos (by have := idsU_length b 32; omega))
      clear hc hC
      go_wp2_with (go_at_call 79; refine (impl_copied_int.calls A c (idsU b 32) (idsU b 32) _ HC.out HCC.out HF.out).mono ?_; rintro e w2 ⟨v2, rfl, ho, hb⟩; have HO2 := Aside0.mk (Kd.R_lower ho HB.out.size); have HB2 := Aside0.mk (below_step HB.out hb); clear ho hb)
      go_ret
      exact ⟨_, rfl, HO2.out, HB2.out⟩
end Go.Proofs.Ythmmleheahkeeaa.Q
namespace Go.Proofs.Ythmmleheahkeeaa.Q
open Go.RowKit Go.Proofs.YthmmleheahkeeaaW.PrintWords Go.Proofs.YthmmleheahkeeaaW.PrintLast Go.Proofs.YthmmleheahkeeaaW.PrintMore
attribute [local go_sem] max2_int min2_int max_two min_two max_three min_three max_four min_four   -- for this text's walks alone
set_option linter.unusedVariables false
set_option linter.unusedSimpArgs false
theorem nameSet_length {b b' : List Bool} {x0 x1 x3 x5 : Int} (h : nameSet b x0 x1 x3 x5 = some b') : b'.length = b.length := by
  unfold nameSet at h
  repeat' split at h
  all_goals first | (cases h; done) | (obtain rfl := Option.some.inj h; simp)
theorem nameF_length {k : Nat} {a0 a1 : Int} {a2 : ByteArray} {a3 : Int} {a4 : ByteArray} {a5 : Int} {a6 : ByteArray} {b b' : List Bool} (h : nameF k a0 a1 a2 a3 a4 a5 a6 b = some b') : b'.length = b.length := by
  obtain ⟨t, _, h⟩ := Option.bind_eq_some_iff.1 h
  split at h
  · exact nameSet_length h
  · obtain rfl := Option.some.inj h; rfl
end Go.Proofs.Ythmmleheahkeeaa.Q
namespace Go.Proofs.Ythmmleheahkeeaa.Q
open Go.RowKit Go.Proofs.YthmmleheahkeeaaW.PrintWords Go.Proofs.YthmmleheahkeeaaW.PrintLast Go.Proofs.YthmmleheahkeeaaW.PrintMore
attribute [local go_sem] max2_int min2_int max_two min_two max_three min_three max_four min_four   -- for this text's walks alone
set_option linter.unusedVariables false
set_option linter.unusedSimpArgs false
def logSet (k : Nat) : List S31 → List Bool → Option (List Bool)
  | [], b => some b
  | x :: xs, b => (nameF k x.f0 x.f1 x.f2 x.f3 x.f4 x.f5 x.f6 b).bind fun b' => logSet k xs b'
def impl_LogIds.f (k : Nat) (l0 : List S31) : Option (List Int) := (logSet k (l0.take 60) (List.replicate 32 false)).bind fun b => some (idsU b 32)
attribute [local go_sem] max2_int min2_int max_two min_two
set_option maxHeartbeats 8000000 in
set_option maxRecDepth 100000 in
theorem impl_LogIds.calls (k : Nat) (A0 : Option Addr) (c0 : Nat) (l0 : List S31) (r : List Int) (w : World) (hr0 : Kd.C k31 w A0 l0.length l0) (hc0 : l0.length ≤ c0) (h : impl_LogIds.f k l0 = some r) :
    Calls Try.prog 52 #[.slice A0 l0.length c0] w fun e w' => ∃ v0_ : Value, e = .returned (v0_) ∧ Kd.R (Kd.int .i64) 3 w' w.heap.size (fun _ => True) v0_ r ∧ Below w.heap.size w w' := by
  unfold impl_LogIds.f at h
  obtain ⟨bf, hb, h⟩ := Option.bind_eq_some_iff.1 h
  obtain rfl := Option.some.inj h
  clear h
  obtain ⟨i0, hi0, hz0, hz1, hz2⟩ := info_parts info31
  by_cases c60 : 60 < l0.length
  · have hl60 : (l0.take 60).length = 60 := by rw [List.length_take]; omega
    have hcut := cut_to (P := Try.prog) 37 31 .i64 Try.underlying37 hi0 A0 l0.length c0 60 (by omega) (by omega) hc0
    have hrl := Kd.C_take hr0 (m := 60) (by omega)
    have m0 : (60 : Int) < (l0.length : Int) := by omega
    have m1 : decide ((60 : Int) < (l0.length : Int)) = true := decide_eq_true m0
    have m2 : decide (60 < l0.length) = true := decide_eq_true c60
    have HF := Aside0.mk hb
    have HC0 := Aside0.mk hc0
    have HC := Aside0.mk c60
    clear hb hr0 hc0 hi0 hz0 hz1 hz2 c60
    obtain ⟨L, hL⟩ : ∃ L, L = l0.take 60 := ⟨_, rfl⟩
    rw [← hL] at HF hl60 hrl
    have hcut2 : ∀ W : World, (Instr.slice 37 (.slice A0 l0.length c0) none (some (.int .i64 60)) none).run Try.prog W = .ok (.slice A0 L.length c0) W := by rw [hl60]; exact hcut
    have HRL := Aside0.mk hrl
    have H60 := Aside0.mk (show L.length ≤ 60 by omega)
    clear hL hrl hcut hl60
    go_enter Try.func52, Try.ntmps52
    go_wp2
    go_loopg [12] L.length (fun m v12 w' => ∃ (n : Nat) (b : List Bool), v12 = .int .i64 (n : Int) ∧ Aside0 (n + m = L.length) ∧ Aside0 (b.length = 32) ∧ Aside0 (logSet k (L.drop n) b = some bf) ∧ Aside0 (w'.heap[w.heap.size]? = some (.cells (bools b).toArray 82 (0, 0))) ∧ Aside0 (Below w.heap.size w w'))
    case atStart => exact ⟨0, List.replicate 32 false, rfl, ⟨Nat.zero_add _⟩, ⟨by simp⟩, ⟨HF.out⟩, ⟨heap_alloc_new w _⟩, ⟨below_alloc (Below.refl _ _) _⟩⟩
    case round =>
      obtain ⟨n, b, rfl, HM, HLb, HS, HK, HB⟩ := hrel
      by_cases hlt : n < L.length
      · have hn60 : n < 60 := by have := H60.out; omega
        have d0 : decide (n < L.length) = true := decide_eq_true hlt
        have d1 : decide ((n : Int) < (L.length : Int)) = true := decide_eq_true (by omega)
        obtain ⟨ad, e0, z0, z1, z2, z3, z4, z5, z6⟩ := at_T31 HRL.out (n : Int) (by omega) (by omega)
        have hdr : L.drop n = rd_T31 L (n : Int) :: L.drop (n + 1) := by
          rw [List.drop_eq_getElem_cons hlt]
          simp [rd_T31, List.getD_eq_getElem?_getD, List.getElem?_eq_getElem hlt]
        have hs := HS.out
        rw [hdr, logSet] at hs
        obtain ⟨b1, hb1, hs⟩ := Option.bind_eq_some_iff.1 hs
        have HF1 := Aside0.mk hb1
        have HS1 := Aside0.mk hs
        have HL1 := Aside0.mk ((nameF_length hb1).trans HLb.out)
        have HAD := Aside0.mk e0
        clear hb1 hs hdr HS
        subst_eqs
        replace z0 := pw_cell_below HB.out z0
        replace z1 := pw_cell_below HB.out z1
        replace z2 := pw_cell_below HB.out z2
        replace z3 := pw_cell_below HB.out z3
        replace z4 := pw_cell_below HB.out z4
        replace z5 := pw_cell_below HB.out z5
        replace z6 := pw_cell_below HB.out z6
        simp only [Int.toNat_natCast] at z0 z1 z2 z3 z4 z5 z6
        go_wp2_with fail
        refine (name_calls k _ _ _ _ _ _ _ w.heap.size b b1 _ (blk_alloc HK.out _) HLb.out HF1.out).mono ?_
        rintro e w1 ⟨rfl, hk, hg⟩
        have HK1 := Aside0.mk hk
        have HB1 := Aside0.mk (pw_below_grown (below_alloc HB.out _) _ (by have := HB.out.size; simp only [World.size_alloc]; omega) hg (fun q hq => by injection hq with hq; omega))
        clear hk hg HB HK z0 z1 z2 z3 z4 z5 z6
        go_wp2
        go_roundg (gk - 1)
        case measure => have := HM.out; omega
        case rel => exact ⟨n + 1, b1, by first | (rw [show wrap64 ((n : Int) + 1) = ((n + 1 : Nat) : Int) from by unfold wrap64; omega]) | rfl | (simp; done), ⟨by have := HM.out; omega⟩, HL1, HS1, HK1, HB1⟩
      · have hn : n = L.length := by have := HM.out; omega
        have hs := HS.out
        rw [hn, List.drop_length, logSet] at hs
        obtain rfl := Option.some.inj hs
        have d0 : decide (n < L.length) = false := decide_eq_false hlt
        have d1 : decide ((n : Int) < (L.length : Int)) = false := decide_eq_false (by omega)
        have HSZ := Aside0.mk (show (Try.prog.info? 82).map (·.size) = some (bools b).toArray.size from by rw [show (bools b).toArray.size = 32 by simp [bools, HLb.out]]; kernel_rfl)
        clear hs hn hlt HS
        go_wp2_with (first | ((with_reducible refine gate_dst (N := 19) rfl ?_); refine wpList_load_row rfl 82 (.tmp 3) rfl w.heap.size rfl 82 (bools b).toArray (0, 0) _ HK.out Try.underlying82 rfl HSZ.out ?_) | (go_at_call 65; refine (idsOf_calls b _ HLb.out).mono ?_; rintro e w2 ⟨v2, rfl, ho, hb⟩; have HO2 := Aside0.mk (Kd.R_lower ho HB.out.size); have HB2 := Aside0.mk (below_step HB.out hb); clear ho hb))
        go_ret
        exact ⟨_, rfl, HO2.out, HB2.out⟩
  · have hl60 : l0.take 60 = l0 := List.take_of_length_le (by omega)
    rw [hl60] at hb
    have hcut2 := cut_to (P := Try.prog) 37 31 .i64 Try.underlying37 hi0 A0 l0.length c0 (l0.length : Int) (by omega) (by omega) hc0
    simp only [Int.toNat_natCast] at hcut2
    have m0 : ¬ ((60 : Int) < (l0.length : Int)) := by omega
    have m1 : decide ((60 : Int) < (l0.length : Int)) = false := decide_eq_false m0
    have m2 : decide (60 < l0.length) = false := decide_eq_false c60
    have HF := Aside0.mk hb
    have HC0 := Aside0.mk hc0
    have HRL := Aside0.mk hr0
    have H60 := Aside0.mk (show l0.length ≤ 60 by omega)
    clear hb hr0 hc0 hi0 hz0 hz1 hz2 hl60
    go_enter Try.func52, Try.ntmps52
    go_wp2
    go_loopg [12] l0.length (fun m v12 w' => ∃ (n : Nat) (b : List Bool), v12 = .int .i64 (n : Int) ∧ Aside0 (n + m = l0.length) ∧ Aside0 (b.length = 32) ∧ Aside0 (logSet k (l0.drop n) b = some bf) ∧ Aside0 (w'.heap[w.heap.size]? = some (.cells (bools b).toArray 82 (0, 0))) ∧ Aside0 (Below w.heap.size w w'))
    case atStart => exact ⟨0, List.replicate 32 false, rfl, ⟨Nat.zero_add _⟩, ⟨by simp⟩, ⟨HF.out⟩, ⟨heap_alloc_new w _⟩, ⟨below_alloc (Below.refl _ _) _⟩⟩
    case round =>
      obtain ⟨n, b, rfl, HM, HLb, HS, HK, HB⟩ := hrel
      by_cases hlt : n < l0.length
      · have hn60 : n < 60 := by have := H60.out; omega
        have d0 : decide (n < l0.length) = true := decide_eq_true hlt
        have d1 : decide ((n : Int) < (l0.length : Int)) = true := decide_eq_true (by omega)
        obtain ⟨ad, e0, z0, z1, z2, z3, z4, z5, z6⟩ := at_T31 HRL.out (n : Int) (by omega) (by omega)
        have hdr : l0.drop n = rd_T31 l0 (n : Int) :: l0.drop (n + 1) := by
          rw [List.drop_eq_getElem_cons hlt]
          simp [rd_T31, List.getD_eq_getElem?_getD, List.getElem?_eq_getElem hlt]
        have hs := HS.out
        rw [hdr, logSet] at hs
        obtain ⟨b1, hb1, hs⟩ := Option.bind_eq_some_iff.1 hs
        have HF1 := Aside0.mk hb1
        have HS1 := Aside0.mk hs
        have HL1 := Aside0.mk ((nameF_length hb1).trans HLb.out)
        have HAD := Aside0.mk e0
        clear hb1 hs hdr HS
        subst_eqs
        replace z0 := pw_cell_below HB.out z0
        replace z1 := pw_cell_below HB.out z1
        replace z2 := pw_cell_below HB.out z2
        replace z3 := pw_cell_below HB.out z3
        replace z4 := pw_cell_below HB.out z4
        replace z5 := pw_cell_below HB.out z5
        replace z6 := pw_cell_below HB.out z6
        simp only [Int.toNat_natCast] at z0 z1 z2 z3 z4 z5 z6
        go_wp2_with fail
        refine (name_calls k _ _ _ _ _ _ _ w.heap.size b b1 _ (blk_alloc HK.out _) HLb.out HF1.out).mono ?_
        rintro e w1 ⟨rfl, hk, hg⟩
        have HK1 := Aside0.mk hk
        have HB1 := Aside0.mk (pw_below_grown (below_alloc HB.out _) _ (by have := HB.out.size; simp only [World.size_alloc]; omega) hg (fun q hq => by injection hq with hq; omega))
        clear hk hg HB HK z0 z1 z2 z3 z4 z5 z6
        go_wp2
        go_roundg (gk - 1)
        case measure => have := HM.out; omega
        case rel => exact ⟨n + 1, b1, by first | (rw [show wrap64 ((n : Int) + 1) = ((n + 1 : Nat) : Int) from by unfold wrap64; omega]) | rfl | (simp; done), ⟨by have := HM.out; omega⟩, HL1, HS1, HK1, HB1⟩
      · have hn : n = l0.length := by have := HM.out; omega
        have hs := HS.out
        rw [hn, List.drop_length, logSet] at hs
        obtain rfl := Option.some.inj hs
        have d0 : decide (n < l0.length) = false := decide_eq_false hlt
        have d1 : decide ((n : Int) < (l0.length : Int)) = false := decide_eq_false (by omega)
        have HSZ := Aside0.mk (show (Try.prog.info? 82).map (·.size) = some (bools b).toArray.size from by rw [show (bools b).toArray.size = 32 by simp [bools, HLb.out]]; kernel_rfl)
        clear hs hn hlt HS
        go_wp2_with (first | ((with_reducible refine gate_dst (N := 19) rfl ?_); refine wpList_load_row rfl 82 (.tmp 3) rfl w.heap.size rfl 82 (bools b).toArray (0, 0) _ HK.out Try.underlying82 rfl HSZ.out ?_) | (go_at_call 65; refine (idsOf_calls b _ HLb.out).mono ?_; rintro e w2 ⟨v2, rfl, ho, hb⟩; have HO2 := Aside0.mk (Kd.R_lower ho HB.out.size); have HB2 := Aside0.mk (below_step HB.out hb); clear ho hb))
        go_ret
        exact ⟨_, rfl, HO2.out, HB2.out⟩
end Go.Proofs.Ythmmleheahkeeaa.Q
namespace Go.Proofs.Ythmmleheahkeeaa.Q
open Go.RowKit Go.Proofs.YthmmleheahkeeaaW.PrintWords Go.Proofs.YthmmleheahkeeaaW.PrintLast Go.Proofs.YthmmleheahkeeaaW.PrintMore
attribute [local go_sem] max2_int min2_int max_two min_two max_three min_three max_four min_four   -- for this text's walks alone
set_option linter.unusedVariables false
set_option linter.unusedSimpArgs false
def laws_markText.l0 : Nat → Int → ByteArray → Option (ByteArray)
  | 0, _, _ => none
  | k + 1, x0, x3 => if x0 > 0 then ((some (([(wrap64 (48 + (Int.tmod x0 10))) % 256] : List Int) : List Int)).bind fun y255 => (if (strOfNums y255).size + x3.size ≤ 9223372036854775807 then (laws_markText.l0 k (wrap64 (Int.tdiv x0 10)) ((strOfNums y255) ++ x3)) else (none))) else (if 1 + x3.size ≤ 9223372036854775807 then (some ((⟨#[109]⟩ : ByteArray) ++ x3)) else (none))
def laws_markText.f (k : Nat) (a0 : Int) : Option (ByteArray) := if a0 ≤ 0 then (some (⟨#[109, 48]⟩ : ByteArray)) else (laws_markText.l0 k a0 (⟨#[]⟩ : ByteArray))
set_option maxHeartbeats 8000000 in
set_option maxRecDepth 100000 in
theorem laws_markText.calls (k : Nat) (a0 : Int) (r : ByteArray) (w : World) (h : laws_markText.f k a0 = some r) :
    Calls Try.prog 74 #[.int .i64 a0] w fun e w' => e = .returned (.string r) ∧ Below w.heap.size w w' := by
  have HB := Aside0.mk (Below.refl w.heap.size w)
  have H : (if a0 ≤ 0 then (some (⟨#[109, 48]⟩ : ByteArray)) else (laws_markText.l0 k a0 (⟨#[]⟩ : ByteArray))) = some r := h
  clear h
  by_cases c2 : a0 ≤ 0
  · rw [if_pos c2] at H
    have c2b0 : decide (a0 ≤ 0) = true := decide_eq_true c2
    clear c2
    obtain rfl := Option.some.inj H
    go_enter Try.func74, Try.ntmps74
    go_wp2
    go_ret
    exact ⟨by first | rfl | (simp [errW_none, errW_some] <;> rfl) | (simp [*, errW_none, errW_some] <;> rfl), by repeat (first | (with_reducible first | exact HB.out | apply below_alloc | apply pw_below_drewN | apply below_drew1) | exact HB.out)⟩
  · rw [if_neg c2] at H
    have c2b0 : decide (a0 ≤ 0) = false := decide_eq_false c2
    clear c2
    have H' := Aside0.mk H
    clear H
    go_enter Try.func74, Try.ntmps74
    go_wp2
    go_loopg [0, 3] k (fun kq v0 v3 w' => ∃ (x0_1 : Int) (x3_1 : ByteArray), v0 = .int .i64 x0_1 ∧ v3 = .string x3_1 ∧ Aside0 (laws_markText.l0 kq x0_1 x3_1 = some r) ∧ Aside0 (kq ≤ k) ∧ Aside0 (Below w.heap.size w w'))
    case atStart => exact ⟨(a0), ((⟨#[]⟩ : ByteArray)), (by first | rfl | (simp; done) | (simp [*]; done)), (by first | rfl | (simp; done) | (simp [*]; done)), H', ⟨Nat.le_refl _⟩, ⟨by repeat (first | (with_reducible first | exact HB.out | apply below_alloc | apply pw_below_drewN | apply below_drew1) | exact HB.out)⟩⟩
    case round =>
      clear H'
      try clear c2
      try clear c2b0
      try clear p2
      obtain ⟨x0_1, x3_1, rfl, rfl, HA, HK1, HB⟩ := hrel
      cases gk with
      | zero => exact absurd HA.out (by simp [laws_markText.l0])
      | succ k1 =>
        have H := HA.out
        clear HA
        simp only [laws_markText.l0] at H
        by_cases c3 : x0_1 > 0
        · rw [if_pos c3] at H
          have c3b0 : decide (0 < x0_1) = true := decide_eq_true c3
          clear c3
          obtain ⟨y255, hy255⟩ : ∃ y_ : List Int, y_ = (([(wrap64 (48 + (Int.tmod x0_1 10))) % 256] : List Int)) := ⟨_, rfl⟩
          replace H : (if (strOfNums y255).size + x3_1.size ≤ 9223372036854775807 then (laws_markText.l0 k1 (wrap64 (Int.tdiv x0_1 10)) ((strOfNums y255) ++ x3_1)) else (none)) = some r := by first | (rw [hy255]; with_reducible exact H) | (have H2_ := (Option.bind_some _ _).symm.trans H; rw [hy255]; with_reducible exact H2_) | (have H2_ := (Option.bind_some _ _).symm.trans H; with_reducible exact H2_) | with_reducible exact H | (rw [hy255]; exact H) | exact H
          have Ny255 := Aside0.mk hy255
          clear hy255
          by_cases c4 : (strOfNums y255).size + x3_1.size ≤ 9223372036854775807
          · rw [if_pos c4] at H
            have c4b0 := eq_true c4
            have c4b1 : decide ((strOfNums y255).size + x3_1.size ≤ 9223372036854775807) = true := decide_eq_true c4
            try have c4b2 : (9223372036854775807 < (strOfNums y255).size + x3_1.size) = False := eq_false (Nat.not_lt.2 c4)
            have H' := Aside0.mk H
            clear H
            go_wp2_with (first | ((with_reducible refine gate_dst (N := 12) rfl ?_); refine Kd.R_lit (Kd.int .u8) _ 5 ?hg (N := 12) ?hd (xs := ([(wrap64 (48 + (Int.tmod x0_1 10))) % 256] : List Int)) (inner := [.int .u8 ((wrap64 (48 + (Int.tmod x0_1 10))) % 256)]) (ok := fun _ => True) (okp := fun _ => True) ?hr ?hp (fun _ hk => hk) trivial (Below.refl _ _) (Nat.le_refl _) (by simp) ?_; (case hd => rfl); (case hg => rfl); (case hr => first | (go_simp; done) | (go_simp; rfl)); (case hp => exact (Reps.one (show Kd.M (Kd.int .u8) _ _ _ ((wrap64 (48 + (Int.tmod x0_1 10))) % 256) [.int .u8 ((wrap64 (48 + (Int.tmod x0_1 10))) % 256)] from rfl) (Reps.none _ _))); intro v256 w5 ho6 hb hg_ hnew_; clear hg_ hnew_; (first | rw [← Ny255.out] at ho6 | (simp only [Int.reduceToNat] at ho6; rw [← Ny255.out] at ho6)); have n0_ := Aside0.mk (Kd.R_lower ho6 (below_size (by repeat (first | (with_reducible first | exact HB.out | apply below_alloc | apply pw_below_drewN | apply below_drew1) | exact HB.out)))); have n1_ := Aside0.mk (below_step (by repeat (first | (with_reducible first | exact HB.out | apply below_alloc | apply pw_below_drewN | apply below_drew1) | exact HB.out)) hb); clear HB; have HO257 := n0_; have HB := n1_; clear n0_ n1_; clear hb ho6; have hcv7 := own_string (P := Try.prog) Try.underlying24 Try.underlying5 Try.underlying9 (Kd.own_of_R HO257.out)))
            go_roundg k1
            case measure => have := HK1.out; omega
            case rel => exact ⟨(wrap64 (Int.tdiv x0_1 10)), ((strOfNums y255) ++ x3_1), (by first | rfl | (simp; done) | (simp [*]; done)), (by first | rfl | (simp; done) | (simp [*]; done)), H', ⟨by have := HK1.out; omega⟩, ⟨by repeat (first | (with_reducible first | exact HB.out | apply below_alloc | apply pw_below_drewN | apply below_drew1) | exact HB.out)⟩⟩
          · rw [if_neg c4] at H
            exact absurd H (by simp)
        · rw [if_neg c3] at H
          have c3b0 : decide (0 < x0_1) = false := decide_eq_false c3
          clear c3
          by_cases c8 : 1 + x3_1.size ≤ 9223372036854775807
          · rw [if_pos c8] at H
            have c8b0 := eq_true c8
            have c8b1 : decide (1 + x3_1.size ≤ 9223372036854775807) = true := decide_eq_true c8
            try have c8b2 : (9223372036854775807 < 1 + x3_1.size) = False := eq_false (Nat.not_lt.2 c8)
            obtain rfl := Option.some.inj H
            go_wp2
            go_ret
            exact ⟨by first | rfl | (simp [errW_none, errW_some] <;> rfl) | (simp [*, errW_none, errW_some] <;> rfl), by repeat (first | (with_reducible first | exact HB.out | apply below_alloc | apply pw_below_drewN | apply below_drew1) | exact HB.out)⟩
          · rw [if_neg c8] at H
            exact absurd H (by simp)
end Go.Proofs.Ythmmleheahkeeaa.Q
