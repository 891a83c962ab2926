/- Part 2 of what the proof of FnExactSlimMoves uses: plain functions with the answers of the Go functions, the proofs that the calls come to them, and plain lemmas. -/
import Derived.Test.YtlaichooanflaaaVFnExactSlimMoves0
import Derived.Test.YtlaichooanflaaaVFnExactSlimMoves1
namespace Go.Proofs.Ytlaichooanflaaa.Q
open Go.RowKit Go.Proofs.YtlaichooanflaaaW.PrintWords Go.Proofs.YtlaichooanflaaaW.PrintLast Go.Proofs.YtlaichooanflaaaW.PrintMore
attribute [local go_sem] Go.Proofs.Ytlaichooanflaaa.Mem.str_leq Go.Proofs.Ytlaichooanflaaa.Mem.str_gtr Go.Proofs.Ytlaichooanflaaa.Mem.str_geq max2_int min2_int max_two min_two max_three min_three max_four min_four   -- for this text's walks alone
set_option linter.unusedVariables false
set_option linter.unusedSimpArgs false
def impl_TreeWord.l0 : Nat → ByteArray → Int → Option (Bool)
  | 0, _, _ => none
  | k + 1, x0, x3 => if x3 < (x0.size : Int) then (if 0 ≤ x3 then ((impl_in.f (wrap64 (bt x0 x3)) 97 122).bind fun t408 => (if t408 = true then (impl_TreeWord.l0 k x0 (wrap64 (x3 + 1))) else (some false))) else (none)) else ((impl_in.f (x0.size : Int) 1 4).bind fun t409 => (some t409))
def impl_TreeWord.f (k : Nat) (a0 : ByteArray) : Option (Bool) := impl_TreeWord.l0 k a0 0
set_option maxHeartbeats 8000000 in
set_option maxRecDepth 100000 in
theorem impl_TreeWord.calls (k : Nat) (a0 : ByteArray) (r : Bool) (w : World) (h : impl_TreeWord.f k a0 = some r) :
    Calls Try.prog 158 #[.string a0] w fun e w' => e = .returned (.bool r) ∧ Drawn0 w w' := by
  have H : (impl_TreeWord.l0 k a0 0) = some r := h
  clear h
  have H' := Aside0.mk H
  clear H
  go_enter Try.func158, Try.ntmps158
  go_wp2
  go_loopg [3] k (fun kq v3 w' => ∃ (x3_1 : Int), v3 = .int .i64 x3_1 ∧ Aside0 (impl_TreeWord.l0 kq a0 x3_1 = some r) ∧ Aside0 (kq ≤ k) ∧ Drawn0 w w')
  case atStart => exact ⟨(0), (by first | rfl | (simp; done) | (simp [*]; done)), H', ⟨Nat.le_refl _⟩, by repeat (first | exact Drawn0.refl _ | apply Drawn0.step)⟩
  case round =>
    clear H'
    (try clear c1)
    obtain ⟨x3_1, rfl, HA, HK1, ⟨m1, rfl⟩⟩ := hrel
    cases gk with
    | zero => exact absurd HA.out (by simp [impl_TreeWord.l0])
    | succ k1 =>
      have H := HA.out
      clear HA
      simp only [impl_TreeWord.l0] at H
      by_cases c2 : x3_1 < (a0.size : Int)
      · rw [if_pos c2] at H
        have c2b0 : decide (x3_1 < (a0.size : Int)) = true := decide_eq_true c2
        clear c2
        by_cases c3 : 0 ≤ x3_1
        · rw [if_pos c3] at H
          have c3b0 : decide (0 ≤ x3_1) = true := decide_eq_true c3
          clear c3
          replace H := Option.bind_eq_some_iff.mp H
          obtain ⟨t408, A50, H⟩ := H
          replace H : (if t408 = true then (impl_TreeWord.l0 k1 a0 (wrap64 (x3_1 + 1))) else (some false)) = some r := H
          have A5 := Aside0.mk A50
          clear A50
          by_cases c6 : t408 = true
          · subst c6
            have H1 : (impl_TreeWord.l0 k1 a0 (wrap64 (x3_1 + 1))) = some r := by rw [if_pos rfl] at H; exact H
            clear H
            have H := H1
            clear H1
            have H' := Aside0.mk H
            clear H
            have p4 : 0 ≤ (x3_1 : Int) := of_decide_eq_true (by first | (with_reducible assumption) | assumption)
            have q4 : x3_1 < (a0.size : Int) := of_decide_eq_true (by first | (with_reducible assumption) | assumption)
            have hx4 := bt_at a0 x3_1
            replace p4 := eq_true p4
            replace q4 := eq_true q4
            go_wp2_with (first | ((with_reducible refine gate_callee (f := 115) rfl ?_); refine goesL_ (some 14) rfl rfl Try.func115 (by kernel_rfl) rfl #[.int .i64 (wrap64 (bt a0 x3_1)), .int .i64 97, .int .i64 122] rfl (by (try simp only [List.map_toArray, List.map_cons, List.map_nil]); first | done | rfl | (simp only [List.length_drop, List.length_take]; rfl)) ?_; (with_reducible refine (impl_in.calls (wrap64 (bt a0 x3_1)) 97 122 true _ A5.out).mono ?_); rintro e w' ⟨rfl, ⟨nd, rfl⟩⟩; refine ⟨_, rfl, ?_⟩))
            go_roundg k1
            case measure => have := HK1.out; omega
            case rel => exact ⟨(wrap64 (x3_1 + 1)), (by first | rfl | (simp; done) | (simp [*]; done)), H', ⟨by have := HK1.out; omega⟩, by repeat (first | exact Drawn0.refl _ | apply Drawn0.step)⟩
          · replace c6 := Bool.eq_false_iff.mpr c6
            subst c6
            have H1 : (some false) = some r := by rw [if_neg (show ¬ (false = true) by decide)] at H; exact H
            clear H
            have H := H1
            clear H1
            obtain rfl := Option.some.inj H
            have p4 : 0 ≤ (x3_1 : Int) := of_decide_eq_true (by first | (with_reducible assumption) | assumption)
            have q4 : x3_1 < (a0.size : Int) := of_decide_eq_true (by first | (with_reducible assumption) | assumption)
            have hx4 := bt_at a0 x3_1
            replace p4 := eq_true p4
            replace q4 := eq_true q4
            go_wp2_with (first | ((with_reducible refine gate_callee (f := 115) rfl ?_); refine goesL_ (some 14) rfl rfl Try.func115 (by kernel_rfl) rfl #[.int .i64 (wrap64 (bt a0 x3_1)), .int .i64 97, .int .i64 122] rfl (by (try simp only [List.map_toArray, List.map_cons, List.map_nil]); first | done | rfl | (simp only [List.length_drop, List.length_take]; rfl)) ?_; (with_reducible refine (impl_in.calls (wrap64 (bt a0 x3_1)) 97 122 false _ A5.out).mono ?_); rintro e w' ⟨rfl, ⟨nd, rfl⟩⟩; refine ⟨_, rfl, ?_⟩))
            go_ret
            exact ⟨by first | rfl | (simp; done) | (simp [*]; done), by repeat (first | exact Drawn0.refl _ | apply Drawn0.step)⟩
        · rw [if_neg c3] at H
          exact absurd H (by simp)
      · rw [if_neg c2] at H
        have c2b0 : decide (x3_1 < (a0.size : Int)) = false := decide_eq_false c2
        clear c2
        replace H := Option.bind_eq_some_iff.mp H
        obtain ⟨t409, A70, H⟩ := H
        replace H : (some t409) = some r := H
        have A7 := Aside0.mk A70
        clear A70
        obtain rfl := Option.some.inj H
        go_wp2_with (first | ((with_reducible refine gate_callee (f := 115) rfl ?_); refine goesL_ (some 18) rfl rfl Try.func115 (by kernel_rfl) rfl #[.int .i64 (a0.size : Int), .int .i64 1, .int .i64 4] rfl (by (try simp only [List.map_toArray, List.map_cons, List.map_nil]); first | done | rfl | (simp only [List.length_drop, List.length_take]; rfl)) ?_; (with_reducible refine (impl_in.calls (a0.size : Int) 1 4 t409 _ A7.out).mono ?_); rintro e w' ⟨rfl, ⟨nd, rfl⟩⟩; refine ⟨_, rfl, ?_⟩))
        go_ret
        exact ⟨by first | rfl | (simp; done) | (simp [*]; done), by repeat (first | exact Drawn0.refl _ | apply Drawn0.step)⟩
end Go.Proofs.Ytlaichooanflaaa.Q
namespace Go.Proofs.Ytlaichooanflaaa.Q
open Go.RowKit Go.Proofs.YtlaichooanflaaaW.PrintWords Go.Proofs.YtlaichooanflaaaW.PrintLast Go.Proofs.YtlaichooanflaaaW.PrintMore
attribute [local go_sem] Go.Proofs.Ytlaichooanflaaa.Mem.str_leq Go.Proofs.Ytlaichooanflaaa.Mem.str_gtr Go.Proofs.Ytlaichooanflaaa.Mem.str_geq max2_int min2_int max_two min_two max_three min_three max_four min_four   -- for this text's walks alone
set_option linter.unusedVariables false
set_option linter.unusedSimpArgs false
mutual
def impl_OpOk.j0 : Nat → Bool → Int → Int → ByteArray → Int → ByteArray → Int → ByteArray → Option (Bool)
  | 0, _, _, _, _, _, _, _, _ => none
  | k + 1, x3, x420000, x420001, x420002, x420003, x420004, x420005, x420006 => if x420003 = 0 then (impl_OpOk.j1 k x3 (x420004.toList == ([] : List UInt8)) x420000 x420001 x420002 x420003 x420004 x420005 x420006) else (impl_OpOk.j1 k x3 false x420000 x420001 x420002 x420003 x420004 x420005 x420006)
def impl_OpOk.j1 : Nat → Bool → Bool → Int → Int → ByteArray → Int → ByteArray → Int → ByteArray → Option (Bool)
  | 0, _, _, _, _, _, _, _, _, _ => none
  | k + 1, x3, x4, x420000, x420001, x420002, x420003, x420004, x420005, x420006 => if x420000 = 1 then (impl_OpOk.j2 k x3 x4 x420000 (x420000 == 1) x420000 x420001 x420002 x420003 x420004 x420005 x420006) else (if x420000 = 2 then (impl_OpOk.j2 k x3 x4 x420000 (x420000 == 2) x420000 x420001 x420002 x420003 x420004 x420005 x420006) else (impl_OpOk.j2 k x3 x4 x420000 (x420000 == 3) x420000 x420001 x420002 x420003 x420004 x420005 x420006))
def impl_OpOk.j2 : Nat → Bool → Bool → Int → Bool → Int → Int → ByteArray → Int → ByteArray → Int → ByteArray → Option (Bool)
  | 0, _, _, _, _, _, _, _, _, _, _, _ => none
  | k + 1, x3, x4, x26, x27, x420000, x420001, x420002, x420003, x420004, x420005, x420006 => if x27 = true then (if x3 = true then (if x4 = true then (some (x420006.toList == ([] : List UInt8))) else (some false)) else (some false)) else (if x26 = 4 then (if x3 = true then ((impl_in.f x420003 0 31).bind fun t423 => (if t423 = true then ((impl_TreeWord.f k x420004).bind fun t424 => (if t424 = true then (some (x420006.toList == ([] : List UInt8))) else (some false))) else (some false))) else (some false)) else (if x26 = 5 then (if x420001 = 0 then (if x420002.toList = ([] : List UInt8) then (if x4 = true then ((impl_TreeBody.f k x420006).bind fun t425 => (some t425)) else (some false)) else (some false)) else (some false)) else (some false)))
end
def impl_OpOk.f (k : Nat) (a0_0 : Int) (a0_1 : Int) (a0_2 : ByteArray) (a0_3 : Int) (a0_4 : ByteArray) (a0_5 : Int) (a0_6 : ByteArray) : Option (Bool) := (impl_in.f a0_5 1 31).bind fun t420 => (if t420 = true then ((impl_in.f a0_1 0 31).bind fun t421 => (if t421 = true then ((impl_TreeWord.f k a0_2).bind fun t422 => (impl_OpOk.j0 k t422 a0_0 a0_1 a0_2 a0_3 a0_4 a0_5 a0_6)) else (impl_OpOk.j0 k false a0_0 a0_1 a0_2 a0_3 a0_4 a0_5 a0_6))) else (some false))
set_option maxHeartbeats 8000000 in
set_option maxRecDepth 100000 in
theorem impl_OpOk.calls (k : Nat) (a0_0 : Int) (a0_1 : Int) (a0_2 : ByteArray) (a0_3 : Int) (a0_4 : ByteArray) (a0_5 : Int) (a0_6 : ByteArray) (r : Bool) (w : World) (h : impl_OpOk.f k a0_0 a0_1 a0_2 a0_3 a0_4 a0_5 a0_6 = some r) :
    Calls Try.prog 145 #[.agg #[.int .i64 a0_0, .int .i64 a0_1, .string a0_2, .int .i64 a0_3, .string a0_4, .int .i64 a0_5, .string a0_6]] w fun e w' => e = .returned (.bool r) ∧ Below w.heap.size w w' := by
  have hu73 := Try.underlying73
  have HB := Aside0.mk (Below.refl w.heap.size w)
  have H : ((impl_in.f a0_5 1 31).bind fun t420 => (if t420 = true then ((impl_in.f a0_1 0 31).bind fun t421 => (if t421 = true then ((impl_TreeWord.f k a0_2).bind fun t422 => (impl_OpOk.j0 k t422 a0_0 a0_1 a0_2 a0_3 a0_4 a0_5 a0_6)) else (impl_OpOk.j0 k false a0_0 a0_1 a0_2 a0_3 a0_4 a0_5 a0_6))) else (some false))) = some r := h
  clear h
  replace H := Option.bind_eq_some_iff.mp H
  obtain ⟨t420, A20, H⟩ := H
  replace H : (if t420 = true then ((impl_in.f a0_1 0 31).bind fun t421 => (if t421 = true then ((impl_TreeWord.f k a0_2).bind fun t422 => (impl_OpOk.j0 k t422 a0_0 a0_1 a0_2 a0_3 a0_4 a0_5 a0_6)) else (impl_OpOk.j0 k false a0_0 a0_1 a0_2 a0_3 a0_4 a0_5 a0_6))) else (some false)) = some r := H
  have A2 := Aside0.mk A20
  clear A20
  by_cases c3 : t420 = true
  · subst c3
    have H1 : ((impl_in.f a0_1 0 31).bind fun t421 => (if t421 = true then ((impl_TreeWord.f k a0_2).bind fun t422 => (impl_OpOk.j0 k t422 a0_0 a0_1 a0_2 a0_3 a0_4 a0_5 a0_6)) else (impl_OpOk.j0 k false a0_0 a0_1 a0_2 a0_3 a0_4 a0_5 a0_6))) = some r := by rw [if_pos rfl] at H; exact H
    clear H
    have H := H1
    clear H1
    have HC4 := Aside0.mk H
    clear H
    go_enter Try.func145, Try.ntmps145
    go_upto_region 3 with (first | ((with_reducible refine gate_dst (N := 1) rfl ?_); refine box_event ?hg (N := 1) ?hd (cs := #[.int .i64 a0_0, .int .i64 a0_1, .string a0_2, .int .i64 a0_3, .string a0_4, .int .i64 a0_5, .string a0_6]) (t := 73) ?hr ?_; (case hd => rfl); (case hg => rfl); (case hr => first | (go_simp; done) | (go_simp; rfl)); intro gb419 hg w5 hbox hb; have n0_ := Aside0.mk (below_step (by repeat (first | (with_reducible first | exact HB.out | apply below_alloc | apply pw_below_drewN | apply below_drew1) | exact HB.out)) hb); have n1_ := Aside0.mk (hbox); have n2_ := Aside0.mk ((by rw [hg]; exact (below_size (by repeat (first | (with_reducible first | exact HB.out | apply below_alloc | apply pw_below_drewN | apply below_drew1) | exact HB.out))) : w.heap.size ≤ gb419)); have n3_ := Aside0.mk ((by rw [hg]; exact (below_size (by repeat (first | (with_reducible first | exact HB.out | apply below_alloc | apply pw_below_drewN | apply below_drew1) | exact HB.out))) : w.heap.size ≤ gb419)); clear HB; have HB := n0_; have BK419 := n1_; have GW419 := n2_; have GE419 := n3_; clear n0_ n1_ n2_ n3_; clear hb hbox hg; have hcz6_0 : w5.cell? ⟨gb419, 0, none⟩ = some (.int .i64 a0_0) := (blk_cell BK419.out 0).trans rfl; have hcz6_1 : w5.cell? ⟨gb419, 1, none⟩ = some (.int .i64 a0_1) := (blk_cell BK419.out 1).trans rfl; have hcz6_2 : w5.cell? ⟨gb419, 2, none⟩ = some (.string a0_2) := (blk_cell BK419.out 2).trans rfl; have hcz6_3 : w5.cell? ⟨gb419, 3, none⟩ = some (.int .i64 a0_3) := (blk_cell BK419.out 3).trans rfl; have hcz6_4 : w5.cell? ⟨gb419, 4, none⟩ = some (.string a0_4) := (blk_cell BK419.out 4).trans rfl; have hcz6_5 : w5.cell? ⟨gb419, 5, none⟩ = some (.int .i64 a0_5) := (blk_cell BK419.out 5).trans rfl; have hcz6_6 : w5.cell? ⟨gb419, 6, none⟩ = some (.string a0_6) := (blk_cell BK419.out 6).trans rfl; have hfz6_0 := blk_frozen BK419.out 0; have hfz6_1 := blk_frozen BK419.out 1; have hfz6_2 := blk_frozen BK419.out 2; have hfz6_3 := blk_frozen BK419.out 3; have hfz6_4 := blk_frozen BK419.out 4; have hfz6_5 := blk_frozen BK419.out 5; have hfz6_6 := blk_frozen BK419.out 6) | ((with_reducible refine gate_callee (f := 115) rfl ?_); refine goesL_ (some 7) rfl rfl Try.func115 (by kernel_rfl) rfl #[.int .i64 a0_5, .int .i64 1, .int .i64 31] rfl (by (try simp only [List.map_toArray, List.map_cons, List.map_nil]); first | done | rfl | (simp only [List.length_drop, List.length_take]; rfl)) ?_; (with_reducible refine (impl_in.calls a0_5 1 31 true _ A2.out).mono ?_); rintro e w' ⟨rfl, ⟨nd, rfl⟩⟩; refine ⟨_, rfl, ?_⟩))
    (try simp only [Act.put, List.setIfInBounds_toArray, List.set_cons_zero, List.set_cons_succ])
    go_cut [3] (fun v3 wc => ∃ (kq : Nat) (x3_3 : Bool), v3 = .bool x3_3 ∧ Aside0 (impl_OpOk.j0 kq x3_3 a0_0 a0_1 a0_2 a0_3 a0_4 a0_5 a0_6 = some r) ∧ Aside0 (kq ≤ k) ∧ Aside0 (wc.heap[gb419]? = some (.cells #[.int .i64 a0_0, .int .i64 a0_1, .string a0_2, .int .i64 a0_3, .string a0_4, .int .i64 a0_5, .string a0_6] 73 (0, 0))) ∧ Aside0 (Below w.heap.size w wc))
    case first =>
      have H := HC4.out
      clear HC4
      replace H := Option.bind_eq_some_iff.mp H
      obtain ⟨t421, A70, H⟩ := H
      replace H : (if t421 = true then ((impl_TreeWord.f k a0_2).bind fun t422 => (impl_OpOk.j0 k t422 a0_0 a0_1 a0_2 a0_3 a0_4 a0_5 a0_6)) else (impl_OpOk.j0 k false a0_0 a0_1 a0_2 a0_3 a0_4 a0_5 a0_6)) = some r := H
      have A7 := Aside0.mk A70
      clear A70
      by_cases c8 : t421 = true
      · subst c8
        have H1 : ((impl_TreeWord.f k a0_2).bind fun t422 => (impl_OpOk.j0 k t422 a0_0 a0_1 a0_2 a0_3 a0_4 a0_5 a0_6)) = some r := by rw [if_pos rfl] at H; exact H
        clear H
        have H := H1
        clear H1
        replace H := Option.bind_eq_some_iff.mp H
        obtain ⟨t422, A90, H⟩ := H
        replace H : (impl_OpOk.j0 k t422 a0_0 a0_1 a0_2 a0_3 a0_4 a0_5 a0_6) = some r := H
        have A9 := Aside0.mk A90
        clear A90
        have H' := Aside0.mk H
        clear H
        have hcz10_0 : w5.cell? ⟨gb419, 0, none⟩ = some (.int .i64 a0_0) := (blk_cell BK419.out 0).trans rfl
        have hcz10_1 : w5.cell? ⟨gb419, 1, none⟩ = some (.int .i64 a0_1) := (blk_cell BK419.out 1).trans rfl
        have hcz10_2 : w5.cell? ⟨gb419, 2, none⟩ = some (.string a0_2) := (blk_cell BK419.out 2).trans rfl
        have hcz10_3 : w5.cell? ⟨gb419, 3, none⟩ = some (.int .i64 a0_3) := (blk_cell BK419.out 3).trans rfl
        have hcz10_4 : w5.cell? ⟨gb419, 4, none⟩ = some (.string a0_4) := (blk_cell BK419.out 4).trans rfl
        have hcz10_5 : w5.cell? ⟨gb419, 5, none⟩ = some (.int .i64 a0_5) := (blk_cell BK419.out 5).trans rfl
        have hcz10_6 : w5.cell? ⟨gb419, 6, none⟩ = some (.string a0_6) := (blk_cell BK419.out 6).trans rfl
        have hfz10_0 := blk_frozen BK419.out 0
        have hfz10_1 := blk_frozen BK419.out 1
        have hfz10_2 := blk_frozen BK419.out 2
        have hfz10_3 := blk_frozen BK419.out 3
        have hfz10_4 := blk_frozen BK419.out 4
        have hfz10_5 := blk_frozen BK419.out 5
        have hfz10_6 := blk_frozen BK419.out 6
        go_wp2_with (first | ((with_reducible refine gate_callee (f := 115) rfl ?_); refine goesL_ (some 11) rfl rfl Try.func115 (by kernel_rfl) rfl #[.int .i64 a0_1, .int .i64 0, .int .i64 31] rfl (by (try simp only [List.map_toArray, List.map_cons, List.map_nil]); first | done | rfl | (simp only [List.length_drop, List.length_take]; rfl)) ?_; (with_reducible refine (impl_in.calls a0_1 0 31 true _ A7.out).mono ?_); rintro e w' ⟨rfl, ⟨nd, rfl⟩⟩; refine ⟨_, rfl, ?_⟩) | (go_at_call 158; (with_reducible refine (impl_TreeWord.calls k a0_2 t422 _ A9.out).mono ?_); rintro e w' ⟨rfl, ⟨nd, rfl⟩⟩))
        go_meet
        case rel => exact ⟨_, (t422), (by first | rfl | (simp; done) | (simp [*]; done)), H', ⟨by first | omega | exact Nat.le_refl _⟩, ⟨by (with_reducible repeat (first | refine blk_drewN ?_ _ | refine blk_drew ?_ | refine blk_alloc ?_ _)); exact BK419.out⟩, ⟨by repeat (first | (with_reducible first | exact HB.out | apply below_alloc | apply pw_below_drewN | apply below_drew1 | refine below_set ?_ GE419.out) | exact HB.out)⟩⟩
      · replace c8 := Bool.eq_false_iff.mpr c8
        subst c8
        have H1 : (impl_OpOk.j0 k false a0_0 a0_1 a0_2 a0_3 a0_4 a0_5 a0_6) = some r := by rw [if_neg (show ¬ (false = true) by decide)] at H; exact H
        clear H
        have H := H1
        clear H1
        have H' := Aside0.mk H
        clear H
        have hcz11_0 : w5.cell? ⟨gb419, 0, none⟩ = some (.int .i64 a0_0) := (blk_cell BK419.out 0).trans rfl
        have hcz11_1 : w5.cell? ⟨gb419, 1, none⟩ = some (.int .i64 a0_1) := (blk_cell BK419.out 1).trans rfl
        have hcz11_2 : w5.cell? ⟨gb419, 2, none⟩ = some (.string a0_2) := (blk_cell BK419.out 2).trans rfl
        have hcz11_3 : w5.cell? ⟨gb419, 3, none⟩ = some (.int .i64 a0_3) := (blk_cell BK419.out 3).trans rfl
        have hcz11_4 : w5.cell? ⟨gb419, 4, none⟩ = some (.string a0_4) := (blk_cell BK419.out 4).trans rfl
        have hcz11_5 : w5.cell? ⟨gb419, 5, none⟩ = some (.int .i64 a0_5) := (blk_cell BK419.out 5).trans rfl
        have hcz11_6 : w5.cell? ⟨gb419, 6, none⟩ = some (.string a0_6) := (blk_cell BK419.out 6).trans rfl
        have hfz11_0 := blk_frozen BK419.out 0
        have hfz11_1 := blk_frozen BK419.out 1
        have hfz11_2 := blk_frozen BK419.out 2
        have hfz11_3 := blk_frozen BK419.out 3
        have hfz11_4 := blk_frozen BK419.out 4
        have hfz11_5 := blk_frozen BK419.out 5
        have hfz11_6 := blk_frozen BK419.out 6
        go_wp2_with (first | ((with_reducible refine gate_callee (f := 115) rfl ?_); refine goesL_ (some 11) rfl rfl Try.func115 (by kernel_rfl) rfl #[.int .i64 a0_1, .int .i64 0, .int .i64 31] rfl (by (try simp only [List.map_toArray, List.map_cons, List.map_nil]); first | done | rfl | (simp only [List.length_drop, List.length_take]; rfl)) ?_; (with_reducible refine (impl_in.calls a0_1 0 31 false _ A7.out).mono ?_); rintro e w' ⟨rfl, ⟨nd, rfl⟩⟩; refine ⟨_, rfl, ?_⟩))
        go_meet
        case rel => exact ⟨_, (false), (by first | rfl | (simp; done) | (simp [*]; done)), H', ⟨by first | omega | exact Nat.le_refl _⟩, ⟨by (with_reducible repeat (first | refine blk_drewN ?_ _ | refine blk_drew ?_ | refine blk_alloc ?_ _)); exact BK419.out⟩, ⟨by repeat (first | (with_reducible first | exact HB.out | apply below_alloc | apply pw_below_drewN | apply below_drew1 | refine below_set ?_ GE419.out) | exact HB.out)⟩⟩
    case rest =>
      clear HC4; (try clear c1); (try clear p2); (try clear c3); (try clear c8); (try clear c11); (try clear hcz10_0); (try clear hcz10_1); (try clear hcz10_2); (try clear hcz10_3); (try clear hcz10_4); (try clear hcz10_5); (try clear hcz10_6); (try clear hcz11_0); (try clear hcz11_1); (try clear hcz11_2); (try clear hcz11_3); (try clear hcz11_4); (try clear hcz11_5); (try clear hcz11_6); (try clear hcz6_0); (try clear hcz6_1); (try clear hcz6_2); (try clear hcz6_3); (try clear hcz6_4); (try clear hcz6_5); (try clear hcz6_6); (try clear hfz10_0); (try clear hfz10_1); (try clear hfz10_2); (try clear hfz10_3); (try clear hfz10_4); (try clear hfz10_5); (try clear hfz10_6); (try clear hfz11_0); (try clear hfz11_1); (try clear hfz11_2); (try clear hfz11_3); (try clear hfz11_4); (try clear hfz11_5); (try clear hfz11_6); (try clear hfz6_0); (try clear hfz6_1); (try clear hfz6_2); (try clear hfz6_3); (try clear hfz6_4); (try clear hfz6_5); (try clear hfz6_6)
      obtain ⟨kq, x3_3, rfl, HA, HJ3, BK419, HB⟩ := hcut
      cases kq with
      | zero => exact absurd HA.out (by simp [impl_OpOk.j0])
      | succ kj3 =>
        have H := HA.out
        clear HA
        simp only [impl_OpOk.j0] at H
        have HC12 := Aside0.mk H
        clear H
        go_upto_region 4 with (fail)
        go_cut [4] (fun v4 wc => ∃ (kq : Nat) (x4_11 : Bool), v4 = .bool x4_11 ∧ Aside0 (impl_OpOk.j1 kq x3_3 x4_11 a0_0 a0_1 a0_2 a0_3 a0_4 a0_5 a0_6 = some r) ∧ Aside0 (kq ≤ kj3) ∧ Aside0 (wc.heap[gb419]? = some (.cells #[.int .i64 a0_0, .int .i64 a0_1, .string a0_2, .int .i64 a0_3, .string a0_4, .int .i64 a0_5, .string a0_6] 73 (0, 0))) ∧ Aside0 (Below w.heap.size w wc))
        case first =>
          have H := HC12.out
          clear HC12
          by_cases c13 : a0_3 = 0
          · rw [if_pos c13] at H
            have c13b0 : (a0_3 == 0) = true := beq_iff_eq.mpr c13
            have c13b1 : (a0_3 != 0) = false := bne_eq_false_iff_eq.mpr c13
            clear c13
            (first | rw [c13b0] | (simp only [i64_w, i32_w]; rw [c13b0]) | skip)
            have H' := Aside0.mk H
            clear H
            have hcz14_0 : wc.cell? ⟨gb419, 0, none⟩ = some (.int .i64 a0_0) := (blk_cell BK419.out 0).trans rfl
            have hcz14_1 : wc.cell? ⟨gb419, 1, none⟩ = some (.int .i64 a0_1) := (blk_cell BK419.out 1).trans rfl
            have hcz14_2 : wc.cell? ⟨gb419, 2, none⟩ = some (.string a0_2) := (blk_cell BK419.out 2).trans rfl
            have hcz14_3 : wc.cell? ⟨gb419, 3, none⟩ = some (.int .i64 a0_3) := (blk_cell BK419.out 3).trans rfl
            have hcz14_4 : wc.cell? ⟨gb419, 4, none⟩ = some (.string a0_4) := (blk_cell BK419.out 4).trans rfl
            have hcz14_5 : wc.cell? ⟨gb419, 5, none⟩ = some (.int .i64 a0_5) := (blk_cell BK419.out 5).trans rfl
            have hcz14_6 : wc.cell? ⟨gb419, 6, none⟩ = some (.string a0_6) := (blk_cell BK419.out 6).trans rfl
            have hfz14_0 := blk_frozen BK419.out 0
            have hfz14_1 := blk_frozen BK419.out 1
            have hfz14_2 := blk_frozen BK419.out 2
            have hfz14_3 := blk_frozen BK419.out 3
            have hfz14_4 := blk_frozen BK419.out 4
            have hfz14_5 := blk_frozen BK419.out 5
            have hfz14_6 := blk_frozen BK419.out 6
            go_wp2
            go_meet
            case rel => exact ⟨_, ((a0_4.toList == ([] : List UInt8))), (by first | rfl | (simp; done) | (simp [*]; done)), H', ⟨by have := HJ3.out; first | omega | exact Nat.le_refl _⟩, ⟨by (with_reducible repeat (first | refine blk_drewN ?_ _ | refine blk_drew ?_ | refine blk_alloc ?_ _)); exact BK419.out⟩, ⟨by repeat (first | (with_reducible first | exact HB.out | apply below_alloc | apply pw_below_drewN | apply below_drew1 | refine below_set ?_ GE419.out) | exact HB.out)⟩⟩
          · rw [if_neg c13] at H
            have c13b0 : (a0_3 == 0) = false := beq_eq_false_iff_ne.mpr c13
            have c13b1 : (a0_3 != 0) = true := bne_iff_ne.mpr c13
            (first | rw [c13b0] | (simp only [i64_w, i32_w]; rw [c13b0]) | skip)
            have H' := Aside0.mk H
            clear H
            have hcz15_0 : wc.cell? ⟨gb419, 0, none⟩ = some (.int .i64 a0_0) := (blk_cell BK419.out 0).trans rfl
            have hcz15_1 : wc.cell? ⟨gb419, 1, none⟩ = some (.int .i64 a0_1) := (blk_cell BK419.out 1).trans rfl
            have hcz15_2 : wc.cell? ⟨gb419, 2, none⟩ = some (.string a0_2) := (blk_cell BK419.out 2).trans rfl
            have hcz15_3 : wc.cell? ⟨gb419, 3, none⟩ = some (.int .i64 a0_3) := (blk_cell BK419.out 3).trans rfl
            have hcz15_4 : wc.cell? ⟨gb419, 4, none⟩ = some (.string a0_4) := (blk_cell BK419.out 4).trans rfl
            have hcz15_5 : wc.cell? ⟨gb419, 5, none⟩ = some (.int .i64 a0_5) := (blk_cell BK419.out 5).trans rfl
            have hcz15_6 : wc.cell? ⟨gb419, 6, none⟩ = some (.string a0_6) := (blk_cell BK419.out 6).trans rfl
            have hfz15_0 := blk_frozen BK419.out 0
            have hfz15_1 := blk_frozen BK419.out 1
            have hfz15_2 := blk_frozen BK419.out 2
            have hfz15_3 := blk_frozen BK419.out 3
            have hfz15_4 := blk_frozen BK419.out 4
            have hfz15_5 := blk_frozen BK419.out 5
            have hfz15_6 := blk_frozen BK419.out 6
            go_wp2
            go_meet
            case rel => exact ⟨_, (false), (by first | rfl | (simp; done) | (simp [*]; done)), H', ⟨by have := HJ3.out; first | omega | exact Nat.le_refl _⟩, ⟨by (with_reducible repeat (first | refine blk_drewN ?_ _ | refine blk_drew ?_ | refine blk_alloc ?_ _)); exact BK419.out⟩, ⟨by repeat (first | (with_reducible first | exact HB.out | apply below_alloc | apply pw_below_drewN | apply below_drew1 | refine below_set ?_ GE419.out) | exact HB.out)⟩⟩
        case rest =>
          clear HC12; (try clear c1); (try clear p2); (try clear c3); (try clear c8); (try clear c11); (try clear c13); (try clear c13b0); (try clear c13b1); (try clear c14); (try clear hcz10_0); (try clear hcz10_1); (try clear hcz10_2); (try clear hcz10_3); (try clear hcz10_4); (try clear hcz10_5); (try clear hcz10_6); (try clear hcz11_0); (try clear hcz11_1); (try clear hcz11_2); (try clear hcz11_3); (try clear hcz11_4); (try clear hcz11_5); (try clear hcz11_6); (try clear hcz14_0); (try clear hcz14_1); (try clear hcz14_2); (try clear hcz14_3); (try clear hcz14_4); (try clear hcz14_5); (try clear hcz14_6); (try clear hcz15_0); (try clear hcz15_1); (try clear hcz15_2); (try clear hcz15_3); (try clear hcz15_4); (try clear hcz15_5); (try clear hcz15_6); (try clear hcz6_0); (try clear hcz6_1); (try clear hcz6_2); (try clear hcz6_3); (try clear hcz6_4); (try clear hcz6_5); (try clear hcz6_6); (try clear hfz10_0); (try clear hfz10_1); (try clear hfz10_2); (try clear hfz10_3); (try clear hfz10_4); (try clear hfz10_5); (try clear hfz10_6); (try clear hfz11_0); (try clear hfz11_1); (try clear hfz11_2); (try clear hfz11_3); (try clear hfz11_4); (try clear hfz11_5); (try clear hfz11_6); (try clear hfz14_0); (try clear hfz14_1); (try clear hfz14_2); (try clear hfz14_3); (try clear hfz14_4); (try clear hfz14_5); (try clear hfz14_6); (try clear hfz15_0); (try clear hfz15_1); (try clear hfz15_2); (try clear hfz15_3); (try clear hfz15_4); (try clear hfz15_5); (try clear hfz15_6); (try clear hfz6_0); (try clear hfz6_1); (try clear hfz6_2); (try clear hfz6_3); (try clear hfz6_4); (try clear hfz6_5); (try clear hfz6_6); (try clear p2)
          obtain ⟨kq, x4_11, rfl, HA, HJ11, BK419, HB⟩ := hcut
          cases kq with
          | zero => exact absurd HA.out (by simp [impl_OpOk.j1])
          | succ kj11 =>
            have H := HA.out
            clear HA
            simp only [impl_OpOk.j1] at H
            have HC16 := Aside0.mk H
            clear H
            have hcz17_0 : wc.cell? ⟨gb419, 0, none⟩ = some (.int .i64 a0_0) := (blk_cell BK419.out 0).trans rfl
            have hcz17_1 : wc.cell? ⟨gb419, 1, none⟩ = some (.int .i64 a0_1) := (blk_cell BK419.out 1).trans rfl
            have hcz17_2 : wc.cell? ⟨gb419, 2, none⟩ = some (.string a0_2) := (blk_cell BK419.out 2).trans rfl
            have hcz17_3 : wc.cell? ⟨gb419, 3, none⟩ = some (.int .i64 a0_3) := (blk_cell BK419.out 3).trans rfl
            have hcz17_4 : wc.cell? ⟨gb419, 4, none⟩ = some (.string a0_4) := (blk_cell BK419.out 4).trans rfl
            have hcz17_5 : wc.cell? ⟨gb419, 5, none⟩ = some (.int .i64 a0_5) := (blk_cell BK419.out 5).trans rfl
            have hcz17_6 : wc.cell? ⟨gb419, 6, none⟩ = some (.string a0_6) := (blk_cell BK419.out 6).trans rfl
            have hfz17_0 := blk_frozen BK419.out 0
            have hfz17_1 := blk_frozen BK419.out 1
            have hfz17_2 := blk_frozen BK419.out 2
            have hfz17_3 := blk_frozen BK419.out 3
            have hfz17_4 := blk_frozen BK419.out 4
            have hfz17_5 := blk_frozen BK419.out 5
            have hfz17_6 := blk_frozen BK419.out 6
            go_upto_if 27 with (fail)
            go_cut [27] (fun v27 wc => ∃ (kq : Nat) (x27_15 : Bool), v27 = .bool x27_15 ∧ Aside0 (impl_OpOk.j2 kq x3_3 x4_11 a0_0 x27_15 a0_0 a0_1 a0_2 a0_3 a0_4 a0_5 a0_6 = some r) ∧ Aside0 (kq ≤ kj11) ∧ Aside0 (wc.heap[gb419]? = some (.cells #[.int .i64 a0_0, .int .i64 a0_1, .string a0_2, .int .i64 a0_3, .string a0_4, .int .i64 a0_5, .string a0_6] 73 (0, 0))) ∧ Aside0 (Below w.heap.size w wc))
            case first =>
              have H := HC16.out
              clear HC16
              by_cases c18 : a0_0 = 1
              · rw [if_pos c18] at H
                have c18b0 : (a0_0 == 1) = true := beq_iff_eq.mpr c18
                have c18b1 : (a0_0 != 1) = false := bne_eq_false_iff_eq.mpr c18
                clear c18
                (first | rw [c18b0] | (simp only [i64_w, i32_w]; rw [c18b0]) | skip)
                have H' := Aside0.mk H
                clear H
                go_wp2
                go_meet
                case rel => exact ⟨_, ((a0_0 == 1)), (by first | rfl | (simp; done) | (simp [*]; done)), H', ⟨by have := HJ3.out; have := HJ11.out; first | omega | exact Nat.le_refl _⟩, ⟨by (with_reducible repeat (first | refine blk_drewN ?_ _ | refine blk_drew ?_ | refine blk_alloc ?_ _)); exact BK419.out⟩, ⟨by repeat (first | (with_reducible first | exact HB.out | apply below_alloc | apply pw_below_drewN | apply below_drew1 | refine below_set ?_ GE419.out) | exact HB.out)⟩⟩
              · rw [if_neg c18] at H
                have c18b0 : (a0_0 == 1) = false := beq_eq_false_iff_ne.mpr c18
                have c18b1 : (a0_0 != 1) = true := bne_iff_ne.mpr c18
                (first | rw [c18b0] | (simp only [i64_w, i32_w]; rw [c18b0]) | skip)
                by_cases c19 : a0_0 = 2
                · rw [if_pos c19] at H
                  have c19b0 : (a0_0 == 2) = true := beq_iff_eq.mpr c19
                  have c19b1 : (a0_0 != 2) = false := bne_eq_false_iff_eq.mpr c19
                  clear c19
                  have H' := Aside0.mk H
                  clear H
                  go_wp2
                  go_meet
                  case rel => exact ⟨_, ((a0_0 == 2)), (by first | rfl | (simp; done) | (simp [*]; done)), H', ⟨by have := HJ3.out; have := HJ11.out; first | omega | exact Nat.le_refl _⟩, ⟨by (with_reducible repeat (first | refine blk_drewN ?_ _ | refine blk_drew ?_ | refine blk_alloc ?_ _)); exact BK419.out⟩, ⟨by repeat (first | (with_reducible first | exact HB.out | apply below_alloc | apply pw_below_drewN | apply below_drew1 | refine below_set ?_ GE419.out) | exact HB.out)⟩⟩
                · rw [if_neg c19] at H
                  have c19b0 : (a0_0 == 2) = false := beq_eq_false_iff_ne.mpr c19
                  have c19b1 : (a0_0 != 2) = true := bne_iff_ne.mpr c19
                  have H' := Aside0.mk H
                  clear H
                  go_wp2
                  go_meet
                  case rel => exact ⟨_, ((a0_0 == 3)), (by first | rfl | (simp; done) | (simp [*]; done)), H', ⟨by have := HJ3.out; have := HJ11.out; first | omega | exact Nat.le_refl _⟩, ⟨by (with_reducible repeat (first | refine blk_drewN ?_ _ | refine blk_drew ?_ | refine blk_alloc ?_ _)); exact BK419.out⟩, ⟨by repeat (first | (with_reducible first | exact HB.out | apply below_alloc | apply pw_below_drewN | apply below_drew1 | refine below_set ?_ GE419.out) | exact HB.out)⟩⟩
            case rest =>
              clear HC16; (try clear c1); (try clear p2); (try clear c3); (try clear c8); (try clear c11); (try clear c13); (try clear c13b0); (try clear c13b1); (try clear c14); (try clear c18); (try clear c18b0); (try clear c18b1); (try clear c19); (try clear c19b0); (try clear c19b1); (try clear hcz10_0); (try clear hcz10_1); (try clear hcz10_2); (try clear hcz10_3); (try clear hcz10_4); (try clear hcz10_5); (try clear hcz10_6); (try clear hcz11_0); (try clear hcz11_1); (try clear hcz11_2); (try clear hcz11_3); (try clear hcz11_4); (try clear hcz11_5); (try clear hcz11_6); (try clear hcz14_0); (try clear hcz14_1); (try clear hcz14_2); (try clear hcz14_3); (try clear hcz14_4); (try clear hcz14_5); (try clear hcz14_6); (try clear hcz15_0); (try clear hcz15_1); (try clear hcz15_2); (try clear hcz15_3); (try clear hcz15_4); (try clear hcz15_5); (try clear hcz15_6); (try clear hcz17_0); (try clear hcz17_1); (try clear hcz17_2); (try clear hcz17_3); (try clear hcz17_4); (try clear hcz17_5); (try clear hcz17_6); (try clear hcz6_0); (try clear hcz6_1); (try clear hcz6_2); (try clear hcz6_3); (try clear hcz6_4); (try clear hcz6_5); (try clear hcz6_6); (try clear hfz10_0); (try clear hfz10_1); (try clear hfz10_2); (try clear hfz10_3); (try clear hfz10_4); (try clear hfz10_5); (try clear hfz10_6); (try clear hfz11_0); (try clear hfz11_1); (try clear hfz11_2); (try clear hfz11_3); (try clear hfz11_4); (try clear hfz11_5); (try clear hfz11_6); (try clear hfz14_0); (try clear hfz14_1); (try clear hfz14_2); (try clear hfz14_3); (try clear hfz14_4); (try clear hfz14_5); (try clear hfz14_6); (try clear hfz15_0); (try clear hfz15_1); (try clear hfz15_2); (try clear hfz15_3); (try clear hfz15_4); (try clear hfz15_5); (try clear hfz15_6); (try clear hfz17_0); (try clear hfz17_1); (try clear hfz17_2); (try clear hfz17_3); (try clear hfz17_4); (try clear hfz17_5); (try clear hfz17_6); (try clear hfz6_0); (try clear hfz6_1); (try clear hfz6_2); (try clear hfz6_3); (try clear hfz6_4); (try clear hfz6_5)
              (try clear hfz6_6); (try clear p2)
              obtain ⟨kq, x27_15, rfl, HA, HJ15, BK419, HB⟩ := hcut
              cases kq with
              | zero => exact absurd HA.out (by simp [impl_OpOk.j2])
              | succ kj15 =>
                have H := HA.out
                clear HA
                simp only [impl_OpOk.j2] at H
                by_cases c20 : x27_15 = true
                · subst c20
                  have H1 : (if x3_3 = true then (if x4_11 = true then (some (a0_6.toList == ([] : List UInt8))) else (some false)) else (some false)) = some r := by rw [if_pos rfl] at H; exact H
                  clear H
                  have H := H1
                  clear H1
                  by_cases c21 : x3_3 = true
                  · subst c21
                    have H1 : (if x4_11 = true then (some (a0_6.toList == ([] : List UInt8))) else (some false)) = some r := by rw [if_pos rfl] at H; exact H
                    clear H
                    have H := H1
                    clear H1
                    by_cases c22 : x4_11 = true
                    · subst c22
                      have H1 : (some (a0_6.toList == ([] : List UInt8))) = some r := by rw [if_pos rfl] at H; exact H
                      clear H
                      have H := H1
                      clear H1
                      obtain rfl := Option.some.inj H
                      have hcz23_0 : wc.cell? ⟨gb419, 0, none⟩ = some (.int .i64 a0_0) := (blk_cell BK419.out 0).trans rfl
                      have hcz23_1 : wc.cell? ⟨gb419, 1, none⟩ = some (.int .i64 a0_1) := (blk_cell BK419.out 1).trans rfl
                      have hcz23_2 : wc.cell? ⟨gb419, 2, none⟩ = some (.string a0_2) := (blk_cell BK419.out 2).trans rfl
                      have hcz23_3 : wc.cell? ⟨gb419, 3, none⟩ = some (.int .i64 a0_3) := (blk_cell BK419.out 3).trans rfl
                      have hcz23_4 : wc.cell? ⟨gb419, 4, none⟩ = some (.string a0_4) := (blk_cell BK419.out 4).trans rfl
                      have hcz23_5 : wc.cell? ⟨gb419, 5, none⟩ = some (.int .i64 a0_5) := (blk_cell BK419.out 5).trans rfl
                      have hcz23_6 : wc.cell? ⟨gb419, 6, none⟩ = some (.string a0_6) := (blk_cell BK419.out 6).trans rfl
                      have hfz23_0 := blk_frozen BK419.out 0
                      have hfz23_1 := blk_frozen BK419.out 1
                      have hfz23_2 := blk_frozen BK419.out 2
                      have hfz23_3 := blk_frozen BK419.out 3
                      have hfz23_4 := blk_frozen BK419.out 4
                      have hfz23_5 := blk_frozen BK419.out 5
                      have hfz23_6 := blk_frozen BK419.out 6
                      go_wp2
                      go_ret
                      exact ⟨by first | rfl | (simp [errW_none, errW_some] <;> rfl) | (simp [*, errW_none, errW_some] <;> rfl), by repeat (first | (with_reducible first | exact HB.out | apply below_alloc | apply pw_below_drewN | apply below_drew1 | refine below_set ?_ GE419.out) | exact HB.out)⟩
                    · replace c22 := Bool.eq_false_iff.mpr c22
                      subst c22
                      have H1 : (some false) = some r := by rw [if_neg (show ¬ (false = true) by decide)] at H; exact H
                      clear H
                      have H := H1
                      clear H1
                      obtain rfl := Option.some.inj H
                      go_wp2
                      go_ret
                      exact ⟨by first | rfl | (simp [errW_none, errW_some] <;> rfl) | (simp [*, errW_none, errW_some] <;> rfl), by repeat (first | (with_reducible first | exact HB.out | apply below_alloc | apply pw_below_drewN | apply below_drew1 | refine below_set ?_ GE419.out) | exact HB.out)⟩
                  · replace c21 := Bool.eq_false_iff.mpr c21
                    subst c21
                    have H1 : (some false) = some r := by rw [if_neg (show ¬ (false = true) by decide)] at H; exact H
                    clear H
                    have H := H1
                    clear H1
                    obtain rfl := Option.some.inj H
                    go_wp2
                    go_ret
                    exact ⟨by first | rfl | (simp [errW_none, errW_some] <;> rfl) | (simp [*, errW_none, errW_some] <;> rfl), by repeat (first | (with_reducible first | exact HB.out | apply below_alloc | apply pw_below_drewN | apply below_drew1 | refine below_set ?_ GE419.out) | exact HB.out)⟩
                · replace c20 := Bool.eq_false_iff.mpr c20
                  subst c20
                  have H1 : (if a0_0 = 4 then (if x3_3 = true then ((impl_in.f a0_3 0 31).bind fun t423 => (if t423 = true then ((impl_TreeWord.f kj15 a0_4).bind fun t424 => (if t424 = true then (some (a0_6.toList == ([] : List UInt8))) else (some false))) else (some false))) else (some false)) else (if a0_0 = 5 then (if a0_1 = 0 then (if a0_2.toList = ([] : List UInt8) then (if x4_11 = true then ((impl_TreeBody.f kj15 a0_6).bind fun t425 => (some t425)) else (some false)) else (some false)) else (some false)) else (some false))) = some r := by rw [if_neg (show ¬ (false = true) by decide)] at H; exact H
                  clear H
                  have H := H1
                  clear H1
                  by_cases c24 : a0_0 = 4
                  · rw [if_pos c24] at H
                    have c24b0 : (a0_0 == 4) = true := beq_iff_eq.mpr c24
                    have c24b1 : (a0_0 != 4) = false := bne_eq_false_iff_eq.mpr c24
                    clear c24
                    by_cases c25 : x3_3 = true
                    · subst c25
                      have H1 : ((impl_in.f a0_3 0 31).bind fun t423 => (if t423 = true then ((impl_TreeWord.f kj15 a0_4).bind fun t424 => (if t424 = true then (some (a0_6.toList == ([] : List UInt8))) else (some false))) else (some false))) = some r := by rw [if_pos rfl] at H; exact H
                      clear H
                      have H := H1
                      clear H1
                      replace H := Option.bind_eq_some_iff.mp H
                      obtain ⟨t423, A260, H⟩ := H
                      replace H : (if t423 = true then ((impl_TreeWord.f kj15 a0_4).bind fun t424 => (if t424 = true then (some (a0_6.toList == ([] : List UInt8))) else (some false))) else (some false)) = some r := H
                      have A26 := Aside0.mk A260
                      clear A260
                      by_cases c27 : t423 = true
                      · subst c27
                        have H1 : ((impl_TreeWord.f kj15 a0_4).bind fun t424 => (if t424 = true then (some (a0_6.toList == ([] : List UInt8))) else (some false))) = some r := by rw [if_pos rfl] at H; exact H
                        clear H
                        have H := H1
                        clear H1
                        replace H := Option.bind_eq_some_iff.mp H
                        obtain ⟨t424, A280, H⟩ := H
                        replace H : (if t424 = true then (some (a0_6.toList == ([] : List UInt8))) else (some false)) = some r := H
                        have A28 := Aside0.mk A280
                        clear A280
                        by_cases c29 : t424 = true
                        · subst c29
                          have H1 : (some (a0_6.toList == ([] : List UInt8))) = some r := by rw [if_pos rfl] at H; exact H
                          clear H
                          have H := H1
                          clear H1
                          obtain rfl := Option.some.inj H
                          have hcz30_0 : wc.cell? ⟨gb419, 0, none⟩ = some (.int .i64 a0_0) := (blk_cell BK419.out 0).trans rfl
                          have hcz30_1 : wc.cell? ⟨gb419, 1, none⟩ = some (.int .i64 a0_1) := (blk_cell BK419.out 1).trans rfl
                          have hcz30_2 : wc.cell? ⟨gb419, 2, none⟩ = some (.string a0_2) := (blk_cell BK419.out 2).trans rfl
                          have hcz30_3 : wc.cell? ⟨gb419, 3, none⟩ = some (.int .i64 a0_3) := (blk_cell BK419.out 3).trans rfl
                          have hcz30_4 : wc.cell? ⟨gb419, 4, none⟩ = some (.string a0_4) := (blk_cell BK419.out 4).trans rfl
                          have hcz30_5 : wc.cell? ⟨gb419, 5, none⟩ = some (.int .i64 a0_5) := (blk_cell BK419.out 5).trans rfl
                          have hcz30_6 : wc.cell? ⟨gb419, 6, none⟩ = some (.string a0_6) := (blk_cell BK419.out 6).trans rfl
                          have hfz30_0 := blk_frozen BK419.out 0
                          have hfz30_1 := blk_frozen BK419.out 1
                          have hfz30_2 := blk_frozen BK419.out 2
                          have hfz30_3 := blk_frozen BK419.out 3
                          have hfz30_4 := blk_frozen BK419.out 4
                          have hfz30_5 := blk_frozen BK419.out 5
                          have hfz30_6 := blk_frozen BK419.out 6
                          go_wp2_with (first | (go_at_call 115; (with_reducible refine (impl_in.calls a0_3 0 31 true _ A26.out).mono ?_); rintro e w' ⟨rfl, ⟨nd, rfl⟩⟩) | (go_at_call 158; (with_reducible refine (impl_TreeWord.calls kj15 a0_4 true _ A28.out).mono ?_); rintro e w' ⟨rfl, ⟨nd, rfl⟩⟩))
                          go_ret
                          exact ⟨by first | rfl | (simp [errW_none, errW_some] <;> rfl) | (simp [*, errW_none, errW_some] <;> rfl), by repeat (first | (with_reducible first | exact HB.out | apply below_alloc | apply pw_below_drewN | apply below_drew1 | refine below_set ?_ GE419.out) | exact HB.out)⟩
                        · replace c29 := Bool.eq_false_iff.mpr c29
                          subst c29
                          have H1 : (some false) = some r := by rw [if_neg (show ¬ (false = true) by decide)] at H; exact H
                          clear H
                          have H := H1
                          clear H1
                          obtain rfl := Option.some.inj H
                          have hcz31_0 : wc.cell? ⟨gb419, 0, none⟩ = some (.int .i64 a0_0) := (blk_cell BK419.out 0).trans rfl
                          have hcz31_1 : wc.cell? ⟨gb419, 1, none⟩ = some (.int .i64 a0_1) := (blk_cell BK419.out 1).trans rfl
                          have hcz31_2 : wc.cell? ⟨gb419, 2, none⟩ = some (.string a0_2) := (blk_cell BK419.out 2).trans rfl
                          have hcz31_3 : wc.cell? ⟨gb419, 3, none⟩ = some (.int .i64 a0_3) := (blk_cell BK419.out 3).trans rfl
                          have hcz31_4 : wc.cell? ⟨gb419, 4, none⟩ = some (.string a0_4) := (blk_cell BK419.out 4).trans rfl
                          have hcz31_5 : wc.cell? ⟨gb419, 5, none⟩ = some (.int .i64 a0_5) := (blk_cell BK419.out 5).trans rfl
                          have hcz31_6 : wc.cell? ⟨gb419, 6, none⟩ = some (.string a0_6) := (blk_cell BK419.out 6).trans rfl
                          have hfz31_0 := blk_frozen BK419.out 0
                          have hfz31_1 := blk_frozen BK419.out 1
                          have hfz31_2 := blk_frozen BK419.out 2
                          have hfz31_3 := blk_frozen BK419.out 3
                          have hfz31_4 := blk_frozen BK419.out 4
                          have hfz31_5 := blk_frozen BK419.out 5
                          have hfz31_6 := blk_frozen BK419.out 6
                          go_wp2_with (first | (go_at_call 115; (with_reducible refine (impl_in.calls a0_3 0 31 true _ A26.out).mono ?_); rintro e w' ⟨rfl, ⟨nd, rfl⟩⟩) | (go_at_call 158; (with_reducible refine (impl_TreeWord.calls kj15 a0_4 false _ A28.out).mono ?_); rintro e w' ⟨rfl, ⟨nd, rfl⟩⟩))
                          go_ret
                          exact ⟨by first | rfl | (simp [errW_none, errW_some] <;> rfl) | (simp [*, errW_none, errW_some] <;> rfl), by repeat (first | (with_reducible first | exact HB.out | apply below_alloc | apply pw_below_drewN | apply below_drew1 | refine below_set ?_ GE419.out) | exact HB.out)⟩
                      · replace c27 := Bool.eq_false_iff.mpr c27
                        subst c27
                        have H1 : (some false) = some r := by rw [if_neg (show ¬ (false = true) by decide)] at H; exact H
                        clear H
                        have H := H1
                        clear H1
                        obtain rfl := Option.some.inj H
                        have hcz32_0 : wc.cell? ⟨gb419, 0, none⟩ = some (.int .i64 a0_0) := (blk_cell BK419.out 0).trans rfl
                        have hcz32_1 : wc.cell? ⟨gb419, 1, none⟩ = some (.int .i64 a0_1) := (blk_cell BK419.out 1).trans rfl
                        have hcz32_2 : wc.cell? ⟨gb419, 2, none⟩ = some (.string a0_2) := (blk_cell BK419.out 2).trans rfl
                        have hcz32_3 : wc.cell? ⟨gb419, 3, none⟩ = some (.int .i64 a0_3) := (blk_cell BK419.out 3).trans rfl
                        have hcz32_4 : wc.cell? ⟨gb419, 4, none⟩ = some (.string a0_4) := (blk_cell BK419.out 4).trans rfl
                        have hcz32_5 : wc.cell? ⟨gb419, 5, none⟩ = some (.int .i64 a0_5) := (blk_cell BK419.out 5).trans rfl
                        have hcz32_6 : wc.cell? ⟨gb419, 6, none⟩ = some (.string a0_6) := (blk_cell BK419.out 6).trans rfl
                        have hfz32_0 := blk_frozen BK419.out 0
                        have hfz32_1 := blk_frozen BK419.out 1
                        have hfz32_2 := blk_frozen BK419.out 2
                        have hfz32_3 := blk_frozen BK419.out 3
                        have hfz32_4 := blk_frozen BK419.out 4
                        have hfz32_5 := blk_frozen BK419.out 5
                        have hfz32_6 := blk_frozen BK419.out 6
                        go_wp2_with (first | (go_at_call 115; (with_reducible refine (impl_in.calls a0_3 0 31 false _ A26.out).mono ?_); rintro e w' ⟨rfl, ⟨nd, rfl⟩⟩))
                        go_ret
                        exact ⟨by first | rfl | (simp [errW_none, errW_some] <;> rfl) | (simp [*, errW_none, errW_some] <;> rfl), by repeat (first | (with_reducible first | exact HB.out | apply below_alloc | apply pw_below_drewN | apply below_drew1 | refine below_set ?_ GE419.out) | exact HB.out)⟩
                    · replace c25 := Bool.eq_false_iff.mpr c25
                      subst c25
                      have H1 : (some false) = some r := by rw [if_neg (show ¬ (false = true) by decide)] at H; exact H
                      clear H
                      have H := H1
                      clear H1
                      obtain rfl := Option.some.inj H
                      go_wp2
                      go_ret
                      exact ⟨by first | rfl | (simp [errW_none, errW_some] <;> rfl) | (simp [*, errW_none, errW_some] <;> rfl), by repeat (first | (with_reducible first | exact HB.out | apply below_alloc | apply pw_below_drewN | apply below_drew1 | refine below_set ?_ GE419.out) | exact HB.out)⟩
                  · rw [if_neg c24] at H
                    have c24b0 : (a0_0 == 4) = false := beq_eq_false_iff_ne.mpr c24
                    have c24b1 : (a0_0 != 4) = true := bne_iff_ne.mpr c24
                    by_cases c33 : a0_0 = 5
                    · rw [if_pos c33] at H
                      have c33b0 : (a0_0 == 5) = true := beq_iff_eq.mpr c33
                      have c33b1 : (a0_0 != 5) = false := bne_eq_false_iff_eq.mpr c33
                      clear c33
                      by_cases c34 : a0_1 = 0
                      · rw [if_pos c34] at H
                        have c34b0 : (a0_1 == 0) = true := beq_iff_eq.mpr c34
                        have c34b1 : (a0_1 != 0) = false := bne_eq_false_iff_eq.mpr c34
                        clear c34
                        by_cases c35 : a0_2.toList = ([] : List UInt8)
                        · rw [if_pos c35] at H
                          have c35b0 : (a0_2.toList == ([] : List UInt8)) = true := beq_iff_eq.mpr c35
                          have c35b1 : (a0_2.toList != ([] : List UInt8)) = false := bne_eq_false_iff_eq.mpr c35
                          clear c35
                          by_cases c36 : x4_11 = true
                          · subst c36
                            have H1 : ((impl_TreeBody.f kj15 a0_6).bind fun t425 => (some t425)) = some r := by rw [if_pos rfl] at H; exact H
                            clear H
                            have H := H1
                            clear H1
                            replace H := Option.bind_eq_some_iff.mp H
                            obtain ⟨t425, A370, H⟩ := H
                            replace H : (some t425) = some r := H
                            have A37 := Aside0.mk A370
                            clear A370
                            obtain rfl := Option.some.inj H
                            have hcz38_0 : wc.cell? ⟨gb419, 0, none⟩ = some (.int .i64 a0_0) := (blk_cell BK419.out 0).trans rfl
                            have hcz38_1 : wc.cell? ⟨gb419, 1, none⟩ = some (.int .i64 a0_1) := (blk_cell BK419.out 1).trans rfl
                            have hcz38_2 : wc.cell? ⟨gb419, 2, none⟩ = some (.string a0_2) := (blk_cell BK419.out 2).trans rfl
                            have hcz38_3 : wc.cell? ⟨gb419, 3, none⟩ = some (.int .i64 a0_3) := (blk_cell BK419.out 3).trans rfl
                            have hcz38_4 : wc.cell? ⟨gb419, 4, none⟩ = some (.string a0_4) := (blk_cell BK419.out 4).trans rfl
                            have hcz38_5 : wc.cell? ⟨gb419, 5, none⟩ = some (.int .i64 a0_5) := (blk_cell BK419.out 5).trans rfl
                            have hcz38_6 : wc.cell? ⟨gb419, 6, none⟩ = some (.string a0_6) := (blk_cell BK419.out 6).trans rfl
                            have hfz38_0 := blk_frozen BK419.out 0
                            have hfz38_1 := blk_frozen BK419.out 1
                            have hfz38_2 := blk_frozen BK419.out 2
                            have hfz38_3 := blk_frozen BK419.out 3
                            have hfz38_4 := blk_frozen BK419.out 4
                            have hfz38_5 := blk_frozen BK419.out 5
                            have hfz38_6 := blk_frozen BK419.out 6
                            go_wp2_with (first | (go_at_call 157; (with_reducible refine (impl_TreeBody.calls kj15 a0_6 t425 _ A37.out).mono ?_); rintro e w' ⟨rfl, ⟨nd, rfl⟩⟩))
                            go_ret
                            exact ⟨by first | rfl | (simp [errW_none, errW_some] <;> rfl) | (simp [*, errW_none, errW_some] <;> rfl), by repeat (first | (with_reducible first | exact HB.out | apply below_alloc | apply pw_below_drewN | apply below_drew1 | refine below_set ?_ GE419.out) | exact HB.out)⟩
                          · replace c36 := Bool.eq_false_iff.mpr c36
                            subst c36
                            have H1 : (some false) = some r := by rw [if_neg (show ¬ (false = true) by decide)] at H; exact H
                            clear H
                            have H := H1
                            clear H1
                            obtain rfl := Option.some.inj H
                            have hcz39_0 : wc.cell? ⟨gb419, 0, none⟩ = some (.int .i64 a0_0) := (blk_cell BK419.out 0).trans rfl
                            have hcz39_1 : wc.cell? ⟨gb419, 1, none⟩ = some (.int .i64 a0_1) := (blk_cell BK419.out 1).trans rfl
                            have hcz39_2 : wc.cell? ⟨gb419, 2, none⟩ = some (.string a0_2) := (blk_cell BK419.out 2).trans rfl
                            have hcz39_3 : wc.cell? ⟨gb419, 3, none⟩ = some (.int .i64 a0_3) := (blk_cell BK419.out 3).trans rfl
                            have hcz39_4 : wc.cell? ⟨gb419, 4, none⟩ = some (.string a0_4) := (blk_cell BK419.out 4).trans rfl
                            have hcz39_5 : wc.cell? ⟨gb419, 5, none⟩ = some (.int .i64 a0_5) := (blk_cell BK419.out 5).trans rfl
                            have hcz39_6 : wc.cell? ⟨gb419, 6, none⟩ = some (.string a0_6) := (blk_cell BK419.out 6).trans rfl
                            have hfz39_0 := blk_frozen BK419.out 0
                            have hfz39_1 := blk_frozen BK419.out 1
                            have hfz39_2 := blk_frozen BK419.out 2
                            have hfz39_3 := blk_frozen BK419.out 3
                            have hfz39_4 := blk_frozen BK419.out 4
                            have hfz39_5 := blk_frozen BK419.out 5
                            have hfz39_6 := blk_frozen BK419.out 6
                            go_wp2
                            go_ret
                            exact ⟨by first | rfl | (simp [errW_none, errW_some] <;> rfl) | (simp [*, errW_none, errW_some] <;> rfl), by repeat (first | (with_reducible first | exact HB.out | apply below_alloc | apply pw_below_drewN | apply below_drew1 | refine below_set ?_ GE419.out) | exact HB.out)⟩
                        · rw [if_neg c35] at H
                          have c35b0 : (a0_2.toList == ([] : List UInt8)) = false := beq_eq_false_iff_ne.mpr c35
                          have c35b1 : (a0_2.toList != ([] : List UInt8)) = true := bne_iff_ne.mpr c35
                          obtain rfl := Option.some.inj H
                          have hcz40_0 : wc.cell? ⟨gb419, 0, none⟩ = some (.int .i64 a0_0) := (blk_cell BK419.out 0).trans rfl
                          have hcz40_1 : wc.cell? ⟨gb419, 1, none⟩ = some (.int .i64 a0_1) := (blk_cell BK419.out 1).trans rfl
                          have hcz40_2 : wc.cell? ⟨gb419, 2, none⟩ = some (.string a0_2) := (blk_cell BK419.out 2).trans rfl
                          have hcz40_3 : wc.cell? ⟨gb419, 3, none⟩ = some (.int .i64 a0_3) := (blk_cell BK419.out 3).trans rfl
                          have hcz40_4 : wc.cell? ⟨gb419, 4, none⟩ = some (.string a0_4) := (blk_cell BK419.out 4).trans rfl
                          have hcz40_5 : wc.cell? ⟨gb419, 5, none⟩ = some (.int .i64 a0_5) := (blk_cell BK419.out 5).trans rfl
                          have hcz40_6 : wc.cell? ⟨gb419, 6, none⟩ = some (.string a0_6) := (blk_cell BK419.out 6).trans rfl
                          have hfz40_0 := blk_frozen BK419.out 0
                          have hfz40_1 := blk_frozen BK419.out 1
                          have hfz40_2 := blk_frozen BK419.out 2
                          have hfz40_3 := blk_frozen BK419.out 3
                          have hfz40_4 := blk_frozen BK419.out 4
                          have hfz40_5 := blk_frozen BK419.out 5
                          have hfz40_6 := blk_frozen BK419.out 6
                          go_wp2
                          go_ret
                          exact ⟨by first | rfl | (simp [errW_none, errW_some] <;> rfl) | (simp [*, errW_none, errW_some] <;> rfl), by repeat (first | (with_reducible first | exact HB.out | apply below_alloc | apply pw_below_drewN | apply below_drew1 | refine below_set ?_ GE419.out) | exact HB.out)⟩
                      · rw [if_neg c34] at H
                        have c34b0 : (a0_1 == 0) = false := beq_eq_false_iff_ne.mpr c34
                        have c34b1 : (a0_1 != 0) = true := bne_iff_ne.mpr c34
                        obtain rfl := Option.some.inj H
                        have hcz41_0 : wc.cell? ⟨gb419, 0, none⟩ = some (.int .i64 a0_0) := (blk_cell BK419.out 0).trans rfl
                        have hcz41_1 : wc.cell? ⟨gb419, 1, none⟩ = some (.int .i64 a0_1) := (blk_cell BK419.out 1).trans rfl
                        have hcz41_2 : wc.cell? ⟨gb419, 2, none⟩ = some (.string a0_2) := (blk_cell BK419.out 2).trans rfl
                        have hcz41_3 : wc.cell? ⟨gb419, 3, none⟩ = some (.int .i64 a0_3) := (blk_cell BK419.out 3).trans rfl
                        have hcz41_4 : wc.cell? ⟨gb419, 4, none⟩ = some (.string a0_4) := (blk_cell BK419.out 4).trans rfl
                        have hcz41_5 : wc.cell? ⟨gb419, 5, none⟩ = some (.int .i64 a0_5) := (blk_cell BK419.out 5).trans rfl
                        have hcz41_6 : wc.cell? ⟨gb419, 6, none⟩ = some (.string a0_6) := (blk_cell BK419.out 6).trans rfl
                        have hfz41_0 := blk_frozen BK419.out 0
                        have hfz41_1 := blk_frozen BK419.out 1
                        have hfz41_2 := blk_frozen BK419.out 2
                        have hfz41_3 := blk_frozen BK419.out 3
                        have hfz41_4 := blk_frozen BK419.out 4
                        have hfz41_5 := blk_frozen BK419.out 5
                        have hfz41_6 := blk_frozen BK419.out 6
                        go_wp2
                        go_ret
                        exact ⟨by first | rfl | (simp [errW_none, errW_some] <;> rfl) | (simp [*, errW_none, errW_some] <;> rfl), by repeat (first | (with_reducible first | exact HB.out | apply below_alloc | apply pw_below_drewN | apply below_drew1 | refine below_set ?_ GE419.out) | exact HB.out)⟩
                    · rw [if_neg c33] at H
                      have c33b0 : (a0_0 == 5) = false := beq_eq_false_iff_ne.mpr c33
                      have c33b1 : (a0_0 != 5) = true := bne_iff_ne.mpr c33
                      obtain rfl := Option.some.inj H
                      go_wp2
                      go_ret
                      exact ⟨by first | rfl | (simp [errW_none, errW_some] <;> rfl) | (simp [*, errW_none, errW_some] <;> rfl), by repeat (first | (with_reducible first | exact HB.out | apply below_alloc | apply pw_below_drewN | apply below_drew1 | refine below_set ?_ GE419.out) | exact HB.out)⟩
  · replace c3 := Bool.eq_false_iff.mpr c3
    subst c3
    have H1 : (some false) = some r := by rw [if_neg (show ¬ (false = true) by decide)] at H; exact H
    clear H
    have H := H1
    clear H1
    obtain rfl := Option.some.inj H
    go_enter Try.func145, Try.ntmps145
    go_wp2_with (first | ((with_reducible refine gate_dst (N := 1) rfl ?_); refine box_event ?hg (N := 1) ?hd (cs := #[.int .i64 a0_0, .int .i64 a0_1, .string a0_2, .int .i64 a0_3, .string a0_4, .int .i64 a0_5, .string a0_6]) (t := 73) ?hr ?_; (case hd => rfl); (case hg => rfl); (case hr => first | (go_simp; done) | (go_simp; rfl)); intro gb419 hg w42 hbox hb; have n0_ := Aside0.mk (below_step (by repeat (first | (with_reducible first | exact HB.out | apply below_alloc | apply pw_below_drewN | apply below_drew1) | exact HB.out)) hb); have n1_ := Aside0.mk (hbox); have n2_ := Aside0.mk ((by rw [hg]; exact (below_size (by repeat (first | (with_reducible first | exact HB.out | apply below_alloc | apply pw_below_drewN | apply below_drew1) | exact HB.out))) : w.heap.size ≤ gb419)); have n3_ := Aside0.mk ((by rw [hg]; exact (below_size (by repeat (first | (with_reducible first | exact HB.out | apply below_alloc | apply pw_below_drewN | apply below_drew1) | exact HB.out))) : w.heap.size ≤ gb419)); clear HB; have HB := n0_; have BK419 := n1_; have GW419 := n2_; have GE419 := n3_; clear n0_ n1_ n2_ n3_; clear hb hbox hg; have hcz43_0 : w42.cell? ⟨gb419, 0, none⟩ = some (.int .i64 a0_0) := (blk_cell BK419.out 0).trans rfl; have hcz43_1 : w42.cell? ⟨gb419, 1, none⟩ = some (.int .i64 a0_1) := (blk_cell BK419.out 1).trans rfl; have hcz43_2 : w42.cell? ⟨gb419, 2, none⟩ = some (.string a0_2) := (blk_cell BK419.out 2).trans rfl; have hcz43_3 : w42.cell? ⟨gb419, 3, none⟩ = some (.int .i64 a0_3) := (blk_cell BK419.out 3).trans rfl; have hcz43_4 : w42.cell? ⟨gb419, 4, none⟩ = some (.string a0_4) := (blk_cell BK419.out 4).trans rfl; have hcz43_5 : w42.cell? ⟨gb419, 5, none⟩ = some (.int .i64 a0_5) := (blk_cell BK419.out 5).trans rfl; have hcz43_6 : w42.cell? ⟨gb419, 6, none⟩ = some (.string a0_6) := (blk_cell BK419.out 6).trans rfl; have hfz43_0 := blk_frozen BK419.out 0; have hfz43_1 := blk_frozen BK419.out 1; have hfz43_2 := blk_frozen BK419.out 2; have hfz43_3 := blk_frozen BK419.out 3; have hfz43_4 := blk_frozen BK419.out 4; have hfz43_5 := blk_frozen BK419.out 5; have hfz43_6 := blk_frozen BK419.out 6) | ((with_reducible refine gate_callee (f := 115) rfl ?_); refine goesL_ (some 7) rfl rfl Try.func115 (by kernel_rfl) rfl #[.int .i64 a0_5, .int .i64 1, .int .i64 31] rfl (by (try simp only [List.map_toArray, List.map_cons, List.map_nil]); first | done | rfl | (simp only [List.length_drop, List.length_take]; rfl)) ?_; (with_reducible refine (impl_in.calls a0_5 1 31 false _ A2.out).mono ?_); rintro e w' ⟨rfl, ⟨nd, rfl⟩⟩; refine ⟨_, rfl, ?_⟩))
    go_ret
    exact ⟨by first | rfl | (simp [errW_none, errW_some] <;> rfl) | (simp [*, errW_none, errW_some] <;> rfl), by repeat (first | (with_reducible first | exact HB.out | apply below_alloc | apply pw_below_drewN | apply below_drew1 | refine below_set ?_ GE419.out) | exact HB.out)⟩
end Go.Proofs.Ytlaichooanflaaa.Q
namespace Go.Proofs.Ytlaichooanflaaa.Q
open Go.RowKit Go.Proofs.YtlaichooanflaaaW.PrintWords Go.Proofs.YtlaichooanflaaaW.PrintLast Go.Proofs.YtlaichooanflaaaW.PrintMore
attribute [local go_sem] Go.Proofs.Ytlaichooanflaaa.Mem.str_leq Go.Proofs.Ytlaichooanflaaa.Mem.str_gtr Go.Proofs.Ytlaichooanflaaa.Mem.str_geq max2_int min2_int max_two min_two max_three min_three max_four min_four   -- for this text's walks alone
set_option linter.unusedVariables false
set_option linter.unusedSimpArgs false
def impl_opsOk.l0 : Nat → List (S73) → Int → List (S73) → Int → Int → Option (Bool)
  | 0, _, _, _, _, _ => none
  | k + 1, x0, x1, x7, x8, x9 => if x9 < x8 then (if 0 ≤ x9 then (if x9 < (x7.length : Int) then ((impl_OpOk.f k ((rd_T73 x7 x9).f0) ((rd_T73 x7 x9).f1) ((rd_T73 x7 x9).f2) ((rd_T73 x7 x9).f3) ((rd_T73 x7 x9).f4) ((rd_T73 x7 x9).f5) ((rd_T73 x7 x9).f6)).bind fun t428 => (if t428 = true then (impl_opsOk.l0 k x0 x1 x7 x8 (wrap64 (x9 + 1))) else (some false))) else (none)) else (none)) else (some (decide ((x0.length : Int) ≤ x1)))
def impl_opsOk.f (k : Nat) (l0 : List (S73)) (a1 : Int) : Option (Bool) := impl_opsOk.l0 k l0 a1 l0 (l0.length : Int) 0
set_option maxHeartbeats 8000000 in
set_option maxRecDepth 100000 in
theorem impl_opsOk.calls (k : Nat) (A0 : Option Addr) (c0 : Nat) (l0 : List (S73)) (a1 : Int) (r : Bool) (w : World) (hr0 : Kd.C k73 w A0 l0.length l0) (hc0 : l0.length ≤ c0) (h : impl_opsOk.f k l0 a1 = some r) :
    Calls Try.prog 88 #[.slice A0 l0.length c0, .int .i64 a1] w fun e w' => e = .returned (.bool r) ∧ Below w.heap.size w w' := by
  have hu73 := Try.underlying73
  have HR0 := Aside0.mk hr0
  have HC0 := Aside0.mk hc0
  clear hr0 hc0
  have HB := Aside0.mk (Below.refl w.heap.size w)
  have H : (impl_opsOk.l0 k l0 a1 l0 (l0.length : Int) 0) = some r := h
  clear h
  have H' := Aside0.mk H
  clear H
  go_enter Try.func88, Try.ntmps88
  go_wp2
  go_loopg [9] k (fun kq v9 w' => ∃ (x9_1 : Int), v9 = .int .i64 x9_1 ∧ Aside0 (impl_opsOk.l0 kq l0 a1 l0 (l0.length : Int) x9_1 = some r) ∧ Aside0 (kq ≤ k) ∧ Aside0 (Below w.heap.size w w'))
  case atStart => exact ⟨(0), (by first | rfl | (simp; done) | (simp [*]; done)), H', ⟨Nat.le_refl _⟩, ⟨by repeat (first | (with_reducible first | exact HB.out | apply below_alloc | apply pw_below_drewN | apply below_drew1) | exact HB.out)⟩⟩
  case round =>
    clear H'
    (try clear p2)
    obtain ⟨x9_1, rfl, HA, HK1, HB⟩ := hrel
    cases gk with
    | zero => exact absurd HA.out (by simp [impl_opsOk.l0])
    | succ k1 =>
      have H := HA.out
      clear HA
      simp only [impl_opsOk.l0] at H
      by_cases c3 : x9_1 < (l0.length : Int)
      · rw [if_pos c3] at H
        have c3b0 : decide (x9_1 < (l0.length : Int)) = true := decide_eq_true c3
        clear c3
        by_cases c4 : 0 ≤ x9_1
        · rw [if_pos c4] at H
          have c4b0 : decide (0 ≤ x9_1) = true := decide_eq_true c4
          clear c4
          by_cases c5 : x9_1 < (l0.length : Int)
          · rw [if_pos c5] at H
            have c5b0 : decide (x9_1 < (l0.length : Int)) = true := decide_eq_true c5
            clear c5
            replace H := Option.bind_eq_some_iff.mp H
            obtain ⟨t428, A60, H⟩ := H
            replace H : (if t428 = true then (impl_opsOk.l0 k1 l0 a1 l0 (l0.length : Int) (wrap64 (x9_1 + 1))) else (some false)) = some r := H
            have A6 := Aside0.mk A60
            clear A60
            by_cases c7 : t428 = true
            · subst c7
              have H1 : (impl_opsOk.l0 k1 l0 a1 l0 (l0.length : Int) (wrap64 (x9_1 + 1))) = some r := by rw [if_pos rfl] at H; exact H
              clear H
              have H := H1
              clear H1
              have H' := Aside0.mk H
              clear H
              have p426 : 0 ≤ (x9_1 : Int) := of_decide_eq_true (by first | (with_reducible assumption) | assumption)
              have q426 : x9_1 < (l0.length : Int) := of_decide_eq_true (by first | (with_reducible assumption) | assumption)
              obtain ⟨ad426, e426, hx426_0, hx426_1, hx426_2, hx426_3, hx426_4, hx426_5, hx426_6⟩ := at_T73 HR0.out x9_1 p426 q426
              cases e426
              replace hx426_0 := (HB.out.cell (World.block_lt_of_cell? w _ hx426_0)).trans hx426_0
              replace hx426_1 := (HB.out.cell (World.block_lt_of_cell? w _ hx426_1)).trans hx426_1
              replace hx426_2 := (HB.out.cell (World.block_lt_of_cell? w _ hx426_2)).trans hx426_2
              replace hx426_3 := (HB.out.cell (World.block_lt_of_cell? w _ hx426_3)).trans hx426_3
              replace hx426_4 := (HB.out.cell (World.block_lt_of_cell? w _ hx426_4)).trans hx426_4
              replace hx426_5 := (HB.out.cell (World.block_lt_of_cell? w _ hx426_5)).trans hx426_5
              replace hx426_6 := (HB.out.cell (World.block_lt_of_cell? w _ hx426_6)).trans hx426_6
              replace p426 := eq_true p426
              replace q426 := eq_true q426
              go_wp2_with (first | ((with_reducible refine gate_dst (N := 6) rfl ?_); refine box_event ?hg (N := 6) ?hd (cs := #[.int .i64 0, .int .i64 0, .string (⟨#[]⟩ : ByteArray), .int .i64 0, .string (⟨#[]⟩ : ByteArray), .int .i64 0, .string (⟨#[]⟩ : ByteArray)]) (t := 73) ?hr ?_; (case hd => rfl); (case hg => rfl); (case hr => first | (go_simp; done) | (go_simp; rfl)); intro gb427 hg w8 hbox hb; have n0_ := Aside0.mk (below_step (by repeat (first | (with_reducible first | exact HB.out | apply below_alloc | apply pw_below_drewN | apply below_drew1) | exact HB.out)) hb); have n1_ := Aside0.mk (hbox); have n2_ := Aside0.mk ((by rw [hg]; exact (below_size (by repeat (first | (with_reducible first | exact HB.out | apply below_alloc | apply pw_below_drewN | apply below_drew1) | exact HB.out))) : w.heap.size ≤ gb427)); have n3_ := Aside0.mk ((by rw [hg]; exact (below_size (by repeat (first | (with_reducible first | exact HB.out | apply below_alloc | apply pw_below_drewN | apply below_drew1) | exact HB.out))) : w.heap.size ≤ gb427)); clear HB; have HB := n0_; have BK427 := n1_; have GW427 := n2_; have GE427 := n3_; clear n0_ n1_ n2_ n3_; clear hb hbox hg; have hcz9_0 : w8.cell? ⟨gb427, 0, none⟩ = some (.int .i64 0) := (blk_cell BK427.out 0).trans rfl; have hcz9_1 : w8.cell? ⟨gb427, 1, none⟩ = some (.int .i64 0) := (blk_cell BK427.out 1).trans rfl; have hcz9_2 : w8.cell? ⟨gb427, 2, none⟩ = some (.string (⟨#[]⟩ : ByteArray)) := (blk_cell BK427.out 2).trans rfl; have hcz9_3 : w8.cell? ⟨gb427, 3, none⟩ = some (.int .i64 0) := (blk_cell BK427.out 3).trans rfl; have hcz9_4 : w8.cell? ⟨gb427, 4, none⟩ = some (.string (⟨#[]⟩ : ByteArray)) := (blk_cell BK427.out 4).trans rfl; have hcz9_5 : w8.cell? ⟨gb427, 5, none⟩ = some (.int .i64 0) := (blk_cell BK427.out 5).trans rfl; have hcz9_6 : w8.cell? ⟨gb427, 6, none⟩ = some (.string (⟨#[]⟩ : ByteArray)) := (blk_cell BK427.out 6).trans rfl; have hfz9_0 := blk_frozen BK427.out 0; have hfz9_1 := blk_frozen BK427.out 1; have hfz9_2 := blk_frozen BK427.out 2; have hfz9_3 := blk_frozen BK427.out 3; have hfz9_4 := blk_frozen BK427.out 4; have hfz9_5 := blk_frozen BK427.out 5; have hfz9_6 := blk_frozen BK427.out 6) | ((with_reducible refine gate_callee (f := 145) rfl ?_); refine goesL_ (some 14) rfl rfl Try.func145 (by kernel_rfl) rfl #[.agg #[.int .i64 ((rd_T73 l0 x9_1).f0), .int .i64 ((rd_T73 l0 x9_1).f1), .string ((rd_T73 l0 x9_1).f2), .int .i64 ((rd_T73 l0 x9_1).f3), .string ((rd_T73 l0 x9_1).f4), .int .i64 ((rd_T73 l0 x9_1).f5), .string ((rd_T73 l0 x9_1).f6)]] rfl (by (try simp only [List.map_toArray, List.map_cons, List.map_nil]); first | done | rfl | (simp only [List.length_drop, List.length_take]; rfl)) ?_; (with_reducible refine (impl_OpOk.calls k1 ((rd_T73 l0 x9_1).f0) ((rd_T73 l0 x9_1).f1) ((rd_T73 l0 x9_1).f2) ((rd_T73 l0 x9_1).f3) ((rd_T73 l0 x9_1).f4) ((rd_T73 l0 x9_1).f5) ((rd_T73 l0 x9_1).f6) true _ A6.out).mono ?_); rintro e w10 ⟨rfl, hb⟩; refine ⟨_, rfl, ?_⟩; have n0_ := Aside0.mk (blk_below (g := gb427) (o := .cells #[.int .i64 ((rd_T73 l0 x9_1).f0), .int .i64 ((rd_T73 l0 x9_1).f1), .string ((rd_T73 l0 x9_1).f2), .int .i64 ((rd_T73 l0 x9_1).f3), .string ((rd_T73 l0 x9_1).f4), .int .i64 ((rd_T73 l0 x9_1).f5), .string ((rd_T73 l0 x9_1).f6)] 73 (0, 0)) (by (with_reducible repeat (first | refine blk_drewN ?_ _ | refine blk_drew ?_ | refine blk_alloc ?_ _)); refine blk_put (cs := #[.int .i64 ((rd_T73 l0 x9_1).f0), .int .i64 ((rd_T73 l0 x9_1).f1), .string ((rd_T73 l0 x9_1).f2), .int .i64 ((rd_T73 l0 x9_1).f3), .string ((rd_T73 l0 x9_1).f4), .int .i64 ((rd_T73 l0 x9_1).f5), .string (⟨#[]⟩ : ByteArray)]) ?_ 6 _ rfl; (with_reducible repeat (first | refine blk_drewN ?_ _ | refine blk_drew ?_ | refine blk_alloc ?_ _)); refine blk_put (cs := #[.int .i64 ((rd_T73 l0 x9_1).f0), .int .i64 ((rd_T73 l0 x9_1).f1), .string ((rd_T73 l0 x9_1).f2), .int .i64 ((rd_T73 l0 x9_1).f3), .string ((rd_T73 l0 x9_1).f4), .int .i64 0, .string (⟨#[]⟩ : ByteArray)]) ?_ 5 _ rfl; (with_reducible repeat (first | refine blk_drewN ?_ _ | refine blk_drew ?_ | refine blk_alloc ?_ _)); refine blk_put (cs := #[.int .i64 ((rd_T73 l0 x9_1).f0), .int .i64 ((rd_T73 l0 x9_1).f1), .string ((rd_T73 l0 x9_1).f2), .int .i64 ((rd_T73 l0 x9_1).f3), .string (⟨#[]⟩ : ByteArray), .int .i64 0, .string (⟨#[]⟩ : ByteArray)]) ?_ 4 _ rfl; (with_reducible repeat (first | refine blk_drewN ?_ _ | refine blk_drew ?_ | refine blk_alloc ?_ _)); refine blk_put (cs := #[.int .i64 ((rd_T73 l0 x9_1).f0), .int .i64 ((rd_T73 l0 x9_1).f1), .string ((rd_T73 l0 x9_1).f2), .int .i64 0, .string (⟨#[]⟩ : ByteArray), .int .i64 0, .string (⟨#[]⟩ : ByteArray)]) ?_ 3 _ rfl; (with_reducible repeat (first | refine blk_drewN ?_ _ | refine blk_drew ?_ | refine blk_alloc ?_ _)); refine blk_put (cs := #[.int .i64 ((rd_T73 l0 x9_1).f0), .int .i64 ((rd_T73 l0 x9_1).f1), .string (⟨#[]⟩ : ByteArray), .int .i64 0, .string (⟨#[]⟩ : ByteArray), .int .i64 0, .string (⟨#[]⟩ : ByteArray)]) ?_ 2 _ rfl; (with_reducible repeat (first | refine blk_drewN ?_ _ | refine blk_drew ?_ | refine blk_alloc ?_ _)); refine blk_put (cs := #[.int .i64 ((rd_T73 l0 x9_1).f0), .int .i64 0, .string (⟨#[]⟩ : ByteArray), .int .i64 0, .string (⟨#[]⟩ : ByteArray), .int .i64 0, .string (⟨#[]⟩ : ByteArray)]) ?_ 1 _ rfl; (with_reducible repeat (first | refine blk_drewN ?_ _ | refine blk_drew ?_ | refine blk_alloc ?_ _)); refine blk_put (cs := #[.int .i64 0, .int .i64 0, .string (⟨#[]⟩ : ByteArray), .int .i64 0, .string (⟨#[]⟩ : ByteArray), .int .i64 0, .string (⟨#[]⟩ : ByteArray)]) ?_ 0 _ rfl; (with_reducible repeat (first | refine blk_drewN ?_ _ | refine blk_drew ?_ | refine blk_alloc ?_ _)); exact BK427.out) hb); have n1_ := Aside0.mk (below_step (by repeat (first | (with_reducible first | exact HB.out | apply below_alloc | apply pw_below_drewN | apply below_drew1 | refine below_set ?_ GE427.out) | exact HB.out)) hb); clear BK427; clear HB; have BK427 := n0_; have HB := n1_; clear n0_ n1_; (try clear hb); (try clear hb2); (try clear hk); (try clear hi)))
              go_roundg k1
              case measure => have := HK1.out; omega
              case rel => exact ⟨(wrap64 (x9_1 + 1)), (by first | rfl | (simp; done) | (simp [*]; done)), H', ⟨by have := HK1.out; omega⟩, ⟨by repeat (first | (with_reducible first | exact HB.out | apply below_alloc | apply pw_below_drewN | apply below_drew1 | refine below_set ?_ GE427.out) | exact HB.out)⟩⟩
            · replace c7 := Bool.eq_false_iff.mpr c7
              subst c7
              have H1 : (some false) = some r := by rw [if_neg (show ¬ (false = true) by decide)] at H; exact H
              clear H
              have H := H1
              clear H1
              obtain rfl := Option.some.inj H
              have p426 : 0 ≤ (x9_1 : Int) := of_decide_eq_true (by first | (with_reducible assumption) | assumption)
              have q426 : x9_1 < (l0.length : Int) := of_decide_eq_true (by first | (with_reducible assumption) | assumption)
              obtain ⟨ad426, e426, hx426_0, hx426_1, hx426_2, hx426_3, hx426_4, hx426_5, hx426_6⟩ := at_T73 HR0.out x9_1 p426 q426
              cases e426
              replace hx426_0 := (HB.out.cell (World.block_lt_of_cell? w _ hx426_0)).trans hx426_0
              replace hx426_1 := (HB.out.cell (World.block_lt_of_cell? w _ hx426_1)).trans hx426_1
              replace hx426_2 := (HB.out.cell (World.block_lt_of_cell? w _ hx426_2)).trans hx426_2
              replace hx426_3 := (HB.out.cell (World.block_lt_of_cell? w _ hx426_3)).trans hx426_3
              replace hx426_4 := (HB.out.cell (World.block_lt_of_cell? w _ hx426_4)).trans hx426_4
              replace hx426_5 := (HB.out.cell (World.block_lt_of_cell? w _ hx426_5)).trans hx426_5
              replace hx426_6 := (HB.out.cell (World.block_lt_of_cell? w _ hx426_6)).trans hx426_6
              replace p426 := eq_true p426
              replace q426 := eq_true q426
              go_wp2_with (first | ((with_reducible refine gate_dst (N := 6) rfl ?_); refine box_event ?hg (N := 6) ?hd (cs := #[.int .i64 0, .int .i64 0, .string (⟨#[]⟩ : ByteArray), .int .i64 0, .string (⟨#[]⟩ : ByteArray), .int .i64 0, .string (⟨#[]⟩ : ByteArray)]) (t := 73) ?hr ?_; (case hd => rfl); (case hg => rfl); (case hr => first | (go_simp; done) | (go_simp; rfl)); intro gb427 hg w11 hbox hb; have n0_ := Aside0.mk (below_step (by repeat (first | (with_reducible first | exact HB.out | apply below_alloc | apply pw_below_drewN | apply below_drew1) | exact HB.out)) hb); have n1_ := Aside0.mk (hbox); have n2_ := Aside0.mk ((by rw [hg]; exact (below_size (by repeat (first | (with_reducible first | exact HB.out | apply below_alloc | apply pw_below_drewN | apply below_drew1) | exact HB.out))) : w.heap.size ≤ gb427)); have n3_ := Aside0.mk ((by rw [hg]; exact (below_size (by repeat (first | (with_reducible first | exact HB.out | apply below_alloc | apply pw_below_drewN | apply below_drew1) | exact HB.out))) : w.heap.size ≤ gb427)); clear HB; have HB := n0_; have BK427 := n1_; have GW427 := n2_; have GE427 := n3_; clear n0_ n1_ n2_ n3_; clear hb hbox hg; have hcz12_0 : w11.cell? ⟨gb427, 0, none⟩ = some (.int .i64 0) := (blk_cell BK427.out 0).trans rfl; have hcz12_1 : w11.cell? ⟨gb427, 1, none⟩ = some (.int .i64 0) := (blk_cell BK427.out 1).trans rfl; have hcz12_2 : w11.cell? ⟨gb427, 2, none⟩ = some (.string (⟨#[]⟩ : ByteArray)) := (blk_cell BK427.out 2).trans rfl; have hcz12_3 : w11.cell? ⟨gb427, 3, none⟩ = some (.int .i64 0) := (blk_cell BK427.out 3).trans rfl; have hcz12_4 : w11.cell? ⟨gb427, 4, none⟩ = some (.string (⟨#[]⟩ : ByteArray)) := (blk_cell BK427.out 4).trans rfl; have hcz12_5 : w11.cell? ⟨gb427, 5, none⟩ = some (.int .i64 0) := (blk_cell BK427.out 5).trans rfl; have hcz12_6 : w11.cell? ⟨gb427, 6, none⟩ = some (.string (⟨#[]⟩ : ByteArray)) := (blk_cell BK427.out 6).trans rfl; have hfz12_0 := blk_frozen BK427.out 0; have hfz12_1 := blk_frozen BK427.out 1; have hfz12_2 := blk_frozen BK427.out 2; have hfz12_3 := blk_frozen BK427.out 3; have hfz12_4 := blk_frozen BK427.out 4; have hfz12_5 := blk_frozen BK427.out 5; have hfz12_6 := blk_frozen BK427.out 6) | ((with_reducible refine gate_callee (f := 145) rfl ?_); refine goesL_ (some 14) rfl rfl Try.func145 (by kernel_rfl) rfl #[.agg #[.int .i64 ((rd_T73 l0 x9_1).f0), .int .i64 ((rd_T73 l0 x9_1).f1), .string ((rd_T73 l0 x9_1).f2), .int .i64 ((rd_T73 l0 x9_1).f3), .string ((rd_T73 l0 x9_1).f4), .int .i64 ((rd_T73 l0 x9_1).f5), .string ((rd_T73 l0 x9_1).f6)]] rfl (by (try simp only [List.map_toArray, List.map_cons, List.map_nil]); first | done | rfl | (simp only [List.length_drop, List.length_take]; rfl)) ?_; (with_reducible refine (impl_OpOk.calls k1 ((rd_T73 l0 x9_1).f0) ((rd_T73 l0 x9_1).f1) ((rd_T73 l0 x9_1).f2) ((rd_T73 l0 x9_1).f3) ((rd_T73 l0 x9_1).f4) ((rd_T73 l0 x9_1).f5) ((rd_T73 l0 x9_1).f6) false _ A6.out).mono ?_); rintro e w13 ⟨rfl, hb⟩; refine ⟨_, rfl, ?_⟩; have n0_ := Aside0.mk (blk_below (g := gb427) (o := .cells #[.int .i64 ((rd_T73 l0 x9_1).f0), .int .i64 ((rd_T73 l0 x9_1).f1), .string ((rd_T73 l0 x9_1).f2), .int .i64 ((rd_T73 l0 x9_1).f3), .string ((rd_T73 l0 x9_1).f4), .int .i64 ((rd_T73 l0 x9_1).f5), .string ((rd_T73 l0 x9_1).f6)] 73 (0, 0)) (by (with_reducible repeat (first | refine blk_drewN ?_ _ | refine blk_drew ?_ | refine blk_alloc ?_ _)); refine blk_put (cs := #[.int .i64 ((rd_T73 l0 x9_1).f0), .int .i64 ((rd_T73 l0 x9_1).f1), .string ((rd_T73 l0 x9_1).f2), .int .i64 ((rd_T73 l0 x9_1).f3), .string ((rd_T73 l0 x9_1).f4), .int .i64 ((rd_T73 l0 x9_1).f5), .string (⟨#[]⟩ : ByteArray)]) ?_ 6 _ rfl; (with_reducible repeat (first | refine blk_drewN ?_ _ | refine blk_drew ?_ | refine blk_alloc ?_ _)); refine blk_put (cs := #[.int .i64 ((rd_T73 l0 x9_1).f0), .int .i64 ((rd_T73 l0 x9_1).f1), .string ((rd_T73 l0 x9_1).f2), .int .i64 ((rd_T73 l0 x9_1).f3), .string ((rd_T73 l0 x9_1).f4), .int .i64 0, .string (⟨#[]⟩ : ByteArray)]) ?_ 5 _ rfl; (with_reducible repeat (first | refine blk_drewN ?_ _ | refine blk_drew ?_ | refine blk_alloc ?_ _)); refine blk_put (cs := #[.int .i64 ((rd_T73 l0 x9_1).f0), .int .i64 ((rd_T73 l0 x9_1).f1), .string ((rd_T73 l0 x9_1).f2), .int .i64 ((rd_T73 l0 x9_1).f3), .string (⟨#[]⟩ : ByteArray), .int .i64 0, .string (⟨#[]⟩ : ByteArray)]) ?_ 4 _ rfl; (with_reducible repeat (first | refine blk_drewN ?_ _ | refine blk_drew ?_ | refine blk_alloc ?_ _)); refine blk_put (cs := #[.int .i64 ((rd_T73 l0 x9_1).f0), .int .i64 ((rd_T73 l0 x9_1).f1), .string ((rd_T73 l0 x9_1).f2), .int .i64 0, .string (⟨#[]⟩ : ByteArray), .int .i64 0, .string (⟨#[]⟩ : ByteArray)]) ?_ 3 _ rfl; (with_reducible repeat (first | refine blk_drewN ?_ _ | refine blk_drew ?_ | refine blk_alloc ?_ _)); refine blk_put (cs := #[.int .i64 ((rd_T73 l0 x9_1).f0), .int .i64 ((rd_T73 l0 x9_1).f1), .string (⟨#[]⟩ : ByteArray), .int .i64 0, .string (⟨#[]⟩ : ByteArray), .int .i64 0, .string (⟨#[]⟩ : ByteArray)]) ?_ 2 _ rfl; (with_reducible repeat (first | refine blk_drewN ?_ _ | refine blk_drew ?_ | refine blk_alloc ?_ _)); refine blk_put (cs := #[.int .i64 ((rd_T73 l0 x9_1).f0), .int .i64 0, .string (⟨#[]⟩ : ByteArray), .int .i64 0, .string (⟨#[]⟩ : ByteArray), .int .i64 0, .string (⟨#[]⟩ : ByteArray)]) ?_ 1 _ rfl; (with_reducible repeat (first | refine blk_drewN ?_ _ | refine blk_drew ?_ | refine blk_alloc ?_ _)); refine blk_put (cs := #[.int .i64 0, .int .i64 0, .string (⟨#[]⟩ : ByteArray), .int .i64 0, .string (⟨#[]⟩ : ByteArray), .int .i64 0, .string (⟨#[]⟩ : ByteArray)]) ?_ 0 _ rfl; (with_reducible repeat (first | refine blk_drewN ?_ _ | refine blk_drew ?_ | refine blk_alloc ?_ _)); exact BK427.out) hb); have n1_ := Aside0.mk (below_step (by repeat (first | (with_reducible first | exact HB.out | apply below_alloc | apply pw_below_drewN | apply below_drew1 | refine below_set ?_ GE427.out) | exact HB.out)) hb); clear BK427; clear HB; have BK427 := n0_; have HB := n1_; clear n0_ n1_; (try clear hb); (try clear hb2); (try clear hk); (try clear hi)))
              go_ret
              exact ⟨by first | rfl | (simp [errW_none, errW_some] <;> rfl) | (simp [*, errW_none, errW_some] <;> rfl), by repeat (first | (with_reducible first | exact HB.out | apply below_alloc | apply pw_below_drewN | apply below_drew1 | refine below_set ?_ GE427.out) | exact HB.out)⟩
          · rw [if_neg c5] at H
            exact absurd H (by simp)
        · rw [if_neg c4] at H
          exact absurd H (by simp)
      · rw [if_neg c3] at H
        have c3b0 : decide (x9_1 < (l0.length : Int)) = false := decide_eq_false c3
        clear c3
        obtain rfl := Option.some.inj H
        go_wp2
        go_ret
        exact ⟨by first | rfl | (simp [errW_none, errW_some] <;> rfl) | (simp [*, errW_none, errW_some] <;> rfl), by repeat (first | (with_reducible first | exact HB.out | apply below_alloc | apply pw_below_drewN | apply below_drew1) | exact HB.out)⟩
end Go.Proofs.Ytlaichooanflaaa.Q
namespace Go.Proofs.Ytlaichooanflaaa.Q
open Go.RowKit Go.Proofs.YtlaichooanflaaaW.PrintWords Go.Proofs.YtlaichooanflaaaW.PrintLast Go.Proofs.YtlaichooanflaaaW.PrintMore
attribute [local go_sem] Go.Proofs.Ytlaichooanflaaa.Mem.str_leq Go.Proofs.Ytlaichooanflaaa.Mem.str_gtr Go.Proofs.Ytlaichooanflaaa.Mem.str_geq max2_int min2_int max_two min_two max_three min_three max_four min_four   -- for this text's walks alone
set_option linter.unusedVariables false
set_option linter.unusedSimpArgs false
def impl_Op_110.f (l0 : List S73) : Option (List S73) := if l0.length ≤ 879609302220 then some l0 else none
set_option maxHeartbeats 8000000 in
set_option maxRecDepth 100000 in
theorem impl_Op_110.calls (A0 : Option Addr) (c0 : Nat) (l0 : List S73) (r : List S73) (w : World) (hr0 : Kd.C k73 w A0 l0.length l0) (hc0 : l0.length ≤ c0) (h : impl_Op_110.f l0 = some r) :
    Calls Try.prog 110 #[.slice A0 l0.length c0] w fun e w' => ∃ v0_ : Value, e = .returned (v0_) ∧ Kd.R k73 73 w' w.heap.size (fun _ => True) v0_ r ∧ Below w.heap.size w w' := by
  unfold impl_Op_110.f at h
  split at h
  case isFalse => cases h
  rename_i hlim
  obtain rfl := Option.some.inj h
  clear h
  have HB := Aside0.mk (Below.refl w.heap.size w)
  by_cases c : l0.length = 0
  · obtain rfl := List.eq_nil_of_length_eq_zero c
    clear c hr0
    go_enter Try.func110, Try.ntmps110
    go_wp2
    go_ret
    exact ⟨_, rfl, Kd.R_nil _ _ _ _ _, HB.out⟩
  · have hp : 0 < l0.length := by omega
    have b0 : ((l0.length : Int) == 0) = false := beq_eq_false_iff_ne.mpr (by omega)
    have b1 : (l0.length == 0) = false := beq_eq_false_iff_ne.mpr (by omega)
    have b2 : ¬ (l0 = []) := fun h_ => c (by rw [h_]; rfl)
    have HR0 := Aside0.mk hr0
    have HL := Aside0.mk hlim
    have HP := Aside0.mk hp
    clear hr0 c hlim hp
    go_enter Try.func110, Try.ntmps110
    go_wp2_with (first | ((with_reducible refine gate_dst (N := 9) rfl ?_); refine Kd.R_make k73 _ 73 rfl (N := 9) rfl 34 _ _ rfl (l0.length : Int) rfl rfl Try.underlying34 (.agg #[(.int .i64 0), (.int .i64 0), (.string ⟨#[]⟩), (.int .i64 0), (.string ⟨#[]⟩), (.int .i64 0), (.string ⟨#[]⟩)]) 80 info73 rfl (by decide) (by omega) z73 (ok := fun _ => True) (okp := fun _ => True) (k73_mkM _ _ _ z73) (fun _ hk => hk) trivial (by omega) (by have := HL.out; rw [Int.toNat_natCast]; omega) HB.out (Nat.le_refl _) ?_; intro v1 w1 ho hb hg_ hnew_; have HO := Aside0.mk ho; have HR1 := Aside0.mk (Kd.C_below HR0.out (show Below w.heap.size w w1 from hb)); have HZ := Aside0.mk hb.size; clear ho hg_ hnew_; have HB1 := Aside0.mk hb; clear hb) | ((with_reducible refine gate_dst (N := 12) rfl ?_); refine Go.Proofs.Ytlaichooanflaaa.Mem.copy_rows k73 (Rr := fun x cs => cs = [.int .i64 x.f0, .int .i64 x.f1, .string x.f2, .int .i64 x.f3, .string x.f4, .int .i64 x.f5, .string x.f6]) w.heap.size rfl (.tmp 10) (.tmp 11) 34 34 73 rfl Try.underlying34 (by have := info73; simp only [Option.map_eq_some_iff] at this ⊢; obtain ⟨i, h1, h2⟩ := this; exact ⟨i, h1, by have := congrArg (fun q => q.2.1) h2; exact this⟩) v1 (List.replicate (l0.length : Int).toNat z73) l0 A0 l0.length c0 (ok := fun _ => True) (okp := fun _ => False) rfl rfl (by simp) HP.out HO.out ?hrd (by rintro w' x cs rfl; exact (k73_mkM _ _ _ x)) (fun _ hk => hk.elim) HB1.out HZ.out ?_; (case hrd => exact HR1.out.imp_ (Below.refl _ _) (fun p cs hp => k73_open hp)); intro w2 ho hb hg_; have HO2 := Aside0.mk ho; have HB2 := Aside0.mk hb; clear ho hb hg_))
    go_ret
    exact ⟨_, rfl, HO2.out, HB2.out⟩
end Go.Proofs.Ytlaichooanflaaa.Q
