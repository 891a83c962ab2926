/- Part 1 of what the proof of FnExactLogOk uses: plain functions with the answers of the Go functions, the proofs that the calls come to them, and plain lemmas. -/
import Derived.Test.YtjcpkplneflleaaVFnExactLogOk0
namespace Go.Proofs.Ytjcpkplneflleaa.Q
open Go.RowKit Go.Proofs.YtjcpkplneflleaaW.PrintWords Go.Proofs.YtjcpkplneflleaaW.PrintLast Go.Proofs.YtjcpkplneflleaaW.PrintMore
attribute [local go_sem] max2_int min2_int max_two min_two max_three min_three max_four min_four   -- for this text's walks alone
set_option linter.unusedVariables false
set_option linter.unusedSimpArgs false
mutual
def spec_LogIds.l0 : Nat → List (S72) → List Int → Int → Option (List Int)
  | 0, _, _, _ => none
  | k + 1, x0, x3, x4 => if x4 < (x0.length : Int) then (spec_LogIds.j1 k x0 x3 x4 (decide (x4 < 60))) else (spec_LogIds.j1 k x0 x3 x4 false)
def spec_LogIds.j1 : Nat → List (S72) → List Int → Int → Bool → Option (List Int)
  | 0, _, _, _, _ => none
  | k + 1, x0, x3, x4, x15 => if x15 = true then (if 0 ≤ x4 then (if x4 < (x0.length : Int) then ((spec_OpIds.f k ((rd_T72 x0 x4).f0) ((rd_T72 x0 x4).f1) ((rd_T72 x0 x4).f2) ((rd_T72 x0 x4).f3) ((rd_T72 x0 x4).f4) ((rd_T72 x0 x4).f5) ((rd_T72 x0 x4).f6)).bind fun t794 => (spec_LogIds.l1 k x0 x3 x4 t794 0)) else (none)) else (none)) else (some x3)
def spec_LogIds.l1 : Nat → List (S72) → List Int → Int → List Int → Int → Option (List Int)
  | 0, _, _, _, _, _ => none
  | k + 1, x0, x3, x4, x5, x6 => if x6 < (x5.length : Int) then (if 0 ≤ x6 then ((spec_l2Put.f k x3 (rd x5 x6)).bind fun t798 => (spec_LogIds.l1 k x0 t798 x4 x5 (wrap64 (x6 + 1)))) else (none)) else (spec_LogIds.l0 k x0 x3 (wrap64 (x4 + 1)))
end
def spec_LogIds.f (k : Nat) (l0 : List (S72)) : Option (List Int) := spec_LogIds.l0 k l0 (([] : List Int)) 0
set_option maxHeartbeats 8000000 in
set_option maxRecDepth 100000 in
theorem spec_LogIds.calls (k : Nat) (A0 : Option Addr) (c0 : Nat) (l0 : List (S72)) (r : List Int) (w : World) (hr0 : Kd.C k72 w A0 l0.length l0) (hc0 : l0.length ≤ c0) (h : spec_LogIds.f k l0 = some r) :
    Calls Try.prog 114 #[.slice A0 l0.length c0] w fun e w' => ∃ v0_ : Value, e = .returned (v0_) ∧ Kd.R (Kd.int .i64) 3 w' w.heap.size (fun _ => True) v0_ r ∧ Below w.heap.size w w' := by
  have hu72 := Try.underlying72
  have HR0 := Aside0.mk hr0
  have HC0 := Aside0.mk hc0
  clear hr0 hc0
  have HB := Aside0.mk (Below.refl w.heap.size w)
  have H : (spec_LogIds.l0 k l0 (([] : List Int)) 0) = some r := h
  clear h
  obtain ⟨y790, hy790⟩ : ∃ y_ : List Int, y_ = (([] : List Int)) := ⟨_, rfl⟩
  replace H : (spec_LogIds.l0 k l0 y790 0) = some r := by first | (rw [hy790]; with_reducible exact H) | (have H2_ := (Option.bind_some _ _).symm.trans H; rw [hy790]; with_reducible exact H2_) | (have H2_ := (Option.bind_some _ _).symm.trans H; with_reducible exact H2_) | with_reducible exact H | (rw [hy790]; exact H) | exact H
  have Ny790 := Aside0.mk hy790
  clear hy790
  have H' := Aside0.mk H
  clear H
  go_enter Try.func114, Try.ntmps114
  go_wp2_with (first | ((with_reducible refine gate_dst (N := 7) rfl ?_); refine Kd.R_lit (Kd.int .i64) _ 3 ?hg (N := 7) ?hd (xs := ([] : List Int)) (inner := []) (ok := fun _ => True) (okp := fun _ => True) ?hr ?hp (fun _ hk => hk) trivial (Below.refl _ _) (Nat.le_refl _) (by simp) ?_; (case hd => rfl); (case hg => rfl); (case hr => first | (go_simp; done) | (go_simp; rfl)); (case hp => exact (Reps.none _ _)); intro v791 w2 ho3 hb hg_ hnew_; clear hg_ hnew_; (first | rw [← Ny790.out] at ho3 | (simp only [Int.reduceToNat] at ho3; rw [← Ny790.out] at ho3)); have n0_ := Aside0.mk (Kd.R_lower ho3 (below_size (by repeat (first | (with_reducible first | exact HB.out | apply below_alloc | apply pw_below_drewN | apply below_drew1) | exact HB.out)))); have n1_ := Aside0.mk (below_step (by repeat (first | (with_reducible first | exact HB.out | apply below_alloc | apply pw_below_drewN | apply below_drew1) | exact HB.out)) hb); clear HB; have HO792 := n0_; have HB := n1_; clear n0_ n1_; clear hb ho3))
  go_loopg [3, 4] k (fun kq v3 v4 w' => ∃ (x3_1 : List Int) (x4_1 : Int), v4 = .int .i64 x4_1 ∧ Aside0 (spec_LogIds.l0 kq l0 x3_1 x4_1 = some r) ∧ Aside0 (kq ≤ k) ∧ Aside0 (Kd.R (Kd.int .i64) 3 w' w.heap.size (fun _ => True) v3 x3_1) ∧ Aside0 (Below w.heap.size w w'))
  case atStart => exact ⟨(y790), (0), (by first | rfl | (simp; done) | (simp [*]; done)), H', ⟨Nat.le_refl _⟩, ⟨by (with_reducible repeat (first | apply Kd.R_alloc | apply Kd.R_drewN | apply Kd.R_drew)); exact HO792.out⟩, ⟨by repeat (first | (with_reducible first | exact HB.out | apply below_alloc | apply pw_below_drewN | apply below_drew1) | exact HB.out)⟩⟩
  case round =>
    clear H'
    try clear c1
    try clear p2
    obtain ⟨x3_1, x4_1, rfl, HA, HK1, HO_3, HB⟩ := hrel
    cases gk with
    | zero => exact absurd HA.out (by simp [spec_LogIds.l0])
    | succ k1 =>
      have H := HA.out
      clear HA
      simp only [spec_LogIds.l0] at H
      have HC4 := Aside0.mk H
      clear H
      go_upto_region 3 with (fail)
      go_cut [15] (fun v15 wc => ∃ (kq : Nat) (x15_3 : Bool), v15 = .bool x15_3 ∧ Aside0 (spec_LogIds.j1 kq l0 x3_1 x4_1 x15_3 = some r) ∧ Aside0 (kq ≤ k1) ∧ Aside0 (Kd.R (Kd.int .i64) 3 wc w.heap.size (fun _ => True) u3 x3_1) ∧ Aside0 (Below w.heap.size w wc))
      case first =>
        have H := HC4.out
        clear HC4
        by_cases c5 : x4_1 < (l0.length : Int)
        · rw [if_pos c5] at H
          have c5b0 : decide (x4_1 < (l0.length : Int)) = true := decide_eq_true c5
          clear c5
          (first | rw [c5b0] | (simp only [i64_w, i32_w]; rw [c5b0]) | skip)
          have H' := Aside0.mk H
          clear H
          go_wp2
          go_meet
          case rel => exact ⟨_, (decide (x4_1 < 60)), (by first | rfl | (simp; done) | (simp [*]; done)), H', ⟨by have := HK1.out; first | omega | exact Nat.le_refl _⟩, ⟨by (with_reducible repeat (first | apply Kd.R_alloc | apply Kd.R_drewN | apply Kd.R_drew)); exact HO_3.out⟩, ⟨by repeat (first | (with_reducible first | exact HB.out | apply below_alloc | apply pw_below_drewN | apply below_drew1) | exact HB.out)⟩⟩
        · rw [if_neg c5] at H
          have c5b0 : decide (x4_1 < (l0.length : Int)) = false := decide_eq_false c5
          clear c5
          (first | rw [c5b0] | (simp only [i64_w, i32_w]; rw [c5b0]) | skip)
          have H' := Aside0.mk H
          clear H
          go_wp2
          go_meet
          case rel => exact ⟨_, (false), (by first | rfl | (simp; done) | (simp [*]; done)), H', ⟨by have := HK1.out; first | omega | exact Nat.le_refl _⟩, ⟨by (with_reducible repeat (first | apply Kd.R_alloc | apply Kd.R_drewN | apply Kd.R_drew)); exact HO_3.out⟩, ⟨by repeat (first | (with_reducible first | exact HB.out | apply below_alloc | apply pw_below_drewN | apply below_drew1) | exact HB.out)⟩⟩
      case rest =>
        clear HC4
        try clear c1
        try clear p2
        try clear c5
        try clear c5b0
        try clear p2
        obtain ⟨kq, x15_3, rfl, HA, HJ3, HO_3, HB⟩ := hcut
        cases kq with
        | zero => exact absurd HA.out (by simp [spec_LogIds.j1])
        | succ kj3 =>
          have H := HA.out
          clear HA
          simp only [spec_LogIds.j1] at H
          by_cases c6 : x15_3 = true
          · subst c6
            have H1 : (if 0 ≤ x4_1 then (if x4_1 < (l0.length : Int) then ((spec_OpIds.f kj3 ((rd_T72 l0 x4_1).f0) ((rd_T72 l0 x4_1).f1) ((rd_T72 l0 x4_1).f2) ((rd_T72 l0 x4_1).f3) ((rd_T72 l0 x4_1).f4) ((rd_T72 l0 x4_1).f5) ((rd_T72 l0 x4_1).f6)).bind fun t794 => (spec_LogIds.l1 kj3 l0 x3_1 x4_1 t794 0)) else (none)) else (none)) = some r := by rw [if_pos rfl] at H; exact H
            clear H
            have H := H1
            clear H1
            by_cases c7 : 0 ≤ x4_1
            · rw [if_pos c7] at H
              have c7b0 : decide (0 ≤ x4_1) = true := decide_eq_true c7
              clear c7
              by_cases c8 : x4_1 < (l0.length : Int)
              · rw [if_pos c8] at H
                have c8b0 : decide (x4_1 < (l0.length : Int)) = true := decide_eq_true c8
                clear c8
                replace H := Option.bind_eq_some_iff.mp H
                obtain ⟨t794, A90, H⟩ := H
                replace H : (spec_LogIds.l1 kj3 l0 x3_1 x4_1 t794 0) = some r := H
                have A9 := Aside0.mk A90
                clear A90
                have H' := Aside0.mk H
                clear H
                have p793 : 0 ≤ (x4_1 : Int) := of_decide_eq_true (by first | (with_reducible assumption) | assumption)
                have q793 : x4_1 < (l0.length : Int) := of_decide_eq_true (by first | (with_reducible assumption) | assumption)
                obtain ⟨ad793, e793, hx793_0, hx793_1, hx793_2, hx793_3, hx793_4, hx793_5, hx793_6⟩ := at_T72 HR0.out x4_1 p793 q793
                cases e793
                replace hx793_0 := (HB.out.cell (World.block_lt_of_cell? w _ hx793_0)).trans hx793_0
                replace hx793_1 := (HB.out.cell (World.block_lt_of_cell? w _ hx793_1)).trans hx793_1
                replace hx793_2 := (HB.out.cell (World.block_lt_of_cell? w _ hx793_2)).trans hx793_2
                replace hx793_3 := (HB.out.cell (World.block_lt_of_cell? w _ hx793_3)).trans hx793_3
                replace hx793_4 := (HB.out.cell (World.block_lt_of_cell? w _ hx793_4)).trans hx793_4
                replace hx793_5 := (HB.out.cell (World.block_lt_of_cell? w _ hx793_5)).trans hx793_5
                replace hx793_6 := (HB.out.cell (World.block_lt_of_cell? w _ hx793_6)).trans hx793_6
                replace p793 := eq_true p793
                replace q793 := eq_true q793
                go_wp2_with (first | ((with_reducible refine gate_callee (f := 161) rfl ?_); refine goesL_ (some 22) rfl rfl Try.func161 (by kernel_rfl) rfl #[.agg #[.int .i64 ((rd_T72 l0 x4_1).f0), .int .i64 ((rd_T72 l0 x4_1).f1), .string ((rd_T72 l0 x4_1).f2), .int .i64 ((rd_T72 l0 x4_1).f3), .string ((rd_T72 l0 x4_1).f4), .int .i64 ((rd_T72 l0 x4_1).f5), .string ((rd_T72 l0 x4_1).f6)]] rfl (by (try simp only [List.map_toArray, List.map_cons, List.map_nil]); first | done | rfl | (simp only [List.length_drop, List.length_take]; rfl)) ?_; (with_reducible refine (spec_OpIds.calls kj3 ((rd_T72 l0 x4_1).f0) ((rd_T72 l0 x4_1).f1) ((rd_T72 l0 x4_1).f2) ((rd_T72 l0 x4_1).f3) ((rd_T72 l0 x4_1).f4) ((rd_T72 l0 x4_1).f5) ((rd_T72 l0 x4_1).f6) t794 _ A9.out).mono ?_); rintro e w10 ⟨v795, rfl, ho0, hb⟩; refine ⟨_, rfl, ?_⟩; have n0_ := Aside0.mk (Kd.R_elder' (by (with_reducible repeat (first | apply Kd.R_alloc | apply Kd.R_drewN | apply Kd.R_drew)); exact HO_3.out) (Kd.R_base ho0) hb); have n1_ := Aside0.mk (Kd.R_lower (Kd.R_new' ho0 (Kd.R_lt (by (with_reducible repeat (first | apply Kd.R_alloc | apply Kd.R_drewN | apply Kd.R_drew)); exact HO_3.out))) (below_size (by repeat (first | (with_reducible first | exact HB.out | apply below_alloc | apply pw_below_drewN | apply below_drew1) | exact HB.out)))); have n2_ := Aside0.mk (below_step (by repeat (first | (with_reducible first | exact HB.out | apply below_alloc | apply pw_below_drewN | apply below_drew1) | exact HB.out)) hb); clear HO_3; clear HB; have HO_3 := n0_; have HO796 := n1_; have HB := n2_; clear n0_ n1_ n2_; (try clear hb); (try clear hb2); (try clear hk); (try clear hi); (try clear ho0)))
                go_loopg [3, 6] kj3 (fun kq v3 v6 w' => ∃ (x3_3 : List Int) (x6_3 : Int), v6 = .int .i64 x6_3 ∧ Aside0 (spec_LogIds.l1 kq l0 x3_3 x4_1 t794 x6_3 = some r) ∧ Aside0 (kq ≤ kj3) ∧ Aside0 (Kd.R (Kd.int .i64) 3 w' w.heap.size (fun k_ => some k_ ≠ (v795 : Value).ownBlock) v3 x3_3) ∧ Aside0 (Kd.R (Kd.int .i64) 3 w' w.heap.size (fun k_ => some k_ ≠ (v3 : Value).ownBlock) v795 t794) ∧ Aside0 (Below w.heap.size w w'))
                case atStart => exact ⟨(x3_1), (0), (by first | rfl | (simp; done) | (simp [*]; done)), H', ⟨Nat.le_refl _⟩, ⟨by (with_reducible repeat (first | apply Kd.R_alloc | apply Kd.R_drewN | apply Kd.R_drew)); exact Kd.R_mono HO_3.out (fun _ hk => hk.2)⟩, ⟨by (with_reducible repeat (first | apply Kd.R_alloc | apply Kd.R_drewN | apply Kd.R_drew)); exact Kd.R_mono HO796.out (fun _ hk => hk.2)⟩, ⟨by repeat (first | (with_reducible first | exact HB.out | apply below_alloc | apply pw_below_drewN | apply below_drew1) | exact HB.out)⟩⟩
                case round =>
                  clear H'
                  try clear c1
                  try clear p2
                  try clear c5
                  try clear c5b0
                  try clear c6
                  try clear c7
                  try clear c7b0
                  try clear p7
                  try clear q7
                  try clear hx7
                  try clear c8
                  try clear c8b0
                  try clear hx793_0
                  try clear hx793_1
                  try clear hx793_2
                  try clear hx793_3
                  try clear hx793_4
                  try clear hx793_5
                  try clear hx793_6
                  try clear p2
                  try clear p793
                  try clear q793
                  obtain ⟨x3_3, x6_3, rfl, HA, HK3, HO_3, HO_5, HB⟩ := hrel
                  cases gk with
                  | zero => exact absurd HA.out (by simp [spec_LogIds.l1])
                  | succ k3 =>
                    have H := HA.out
                    clear HA
                    simp only [spec_LogIds.l1] at H
                    by_cases c11 : x6_3 < (t794.length : Int)
                    · rw [if_pos c11] at H
                      have c11b0 : decide (x6_3 < (t794.length : Int)) = true := decide_eq_true c11
                      clear c11
                      by_cases c12 : 0 ≤ x6_3
                      · rw [if_pos c12] at H
                        have c12b0 : decide (0 ≤ x6_3) = true := decide_eq_true c12
                        clear c12
                        replace H := Option.bind_eq_some_iff.mp H
                        obtain ⟨t798, A130, H⟩ := H
                        replace H : (spec_LogIds.l1 k3 l0 t798 x4_1 t794 (wrap64 (x6_3 + 1))) = some r := H
                        have A13 := Aside0.mk A130
                        clear A130
                        have H' := Aside0.mk H
                        clear H
                        obtain ⟨Ao14, co14, eo14⟩ := Kd.R_slice HO_5.out
                        subst eo14
                        have p797 : 0 ≤ (x6_3 : Int) := of_decide_eq_true (by first | (with_reducible assumption) | assumption)
                        have q797 : x6_3 < (t794.length : Int) := of_decide_eq_true (by first | (with_reducible assumption) | assumption)
                        obtain ⟨ad797, e797, hx797_0⟩ := Kd.at_int (Kd.R_reads' HO_5.out).2.2 x6_3 p797 q797
                        cases e797
                        replace p797 := eq_true p797
                        replace q797 := eq_true q797
                        obtain ⟨Ao15, co15, eo15⟩ := Kd.R_slice HO_3.out
                        subst eo15
                        go_wp2_with (first | ((with_reducible refine gate_callee (f := 162) rfl ?_); refine goesL_ (some 34) rfl rfl Try.func162 (by kernel_rfl) rfl #[.slice Ao15 x3_3.length co15, .int .i64 (rd t794 x6_3)] rfl (by (try simp only [List.map_toArray, List.map_cons, List.map_nil]); first | done | rfl | (simp only [List.length_drop, List.length_take]; rfl)) ?_; (with_reducible refine (spec_l2Put.calls k3 (fun k_ => some k_ = (.slice Ao15 x3_3.length co15 : Value).ownBlock) (.slice Ao15 x3_3.length co15) x3_3 (rd t794 x6_3) t798 w _ ?side1 ?side2 A13.out).mono ?_); (case side1 => repeat (first | (with_reducible first | exact HB.out | apply below_alloc | apply pw_below_drewN | apply below_drew1) | exact HB.out)); (case side2 => exact Kd.R_tight rfl HO_3.out); rintro e w16 ⟨v799, rfl, ho0, hb, hkp⟩; refine ⟨_, rfl, ?_⟩; have n0_ := Aside0.mk (Kd.R_mono (ok' := fun k_ => some k_ ≠ (v799 : Value).ownBlock) (Kd.R_keptB (HO_5.out) hkp (fun k_ hk_ hs_ => (hk_) hs_)) (fun k_ hk_ => fun e_ => Or.elim (ho0.1 k_ e_.symm) (fun hs_ => hk_.2.1 hs_) (fun hn_ => Nat.not_le.2 hk_.2.2 hn_))); have n1_ := Aside0.mk (Kd.R_mono (ok' := fun k_ => some k_ ≠ (.slice (some ad797) t794.length co14 : Value).ownBlock) ho0 (fun k_ hk_ => Or.elim hk_ (fun hs_ => fun e_ => (((HO_5.out).1 k_ e_.symm)) hs_) (fun hn_ => (Kd.fresh' (Kd.R_lt (by (with_reducible repeat (first | apply Kd.R_alloc | apply Kd.R_drewN | apply Kd.R_drew)); exact HO_5.out)) k_ hn_)))); have n2_ := Aside0.mk (hb); clear HO_5; clear HB; clear HO_3; have HO_5 := n0_; have HO800 := n1_; have HB := n2_; clear n0_ n1_ n2_; (try clear hb); (try clear hkp); (try clear ho0)))
                        go_roundg k3
                        case measure => have := HK1.out; have := HJ3.out; have := HK3.out; omega
                        case rel => exact ⟨(t798), (wrap64 (x6_3 + 1)), (by first | rfl | (simp; done) | (simp [*]; done)), H', ⟨by have := HK1.out; have := HJ3.out; have := HK3.out; omega⟩, ⟨by (with_reducible repeat (first | apply Kd.R_alloc | apply Kd.R_drewN | apply Kd.R_drew)); exact HO800.out⟩, ⟨by (with_reducible repeat (first | apply Kd.R_alloc | apply Kd.R_drewN | apply Kd.R_drew)); exact HO_5.out⟩, ⟨by repeat (first | (with_reducible first | exact HB.out | apply below_alloc | apply pw_below_drewN | apply below_drew1) | exact HB.out)⟩⟩
                      · rw [if_neg c12] at H
                        exact absurd H (by simp)
                    · rw [if_neg c11] at H
                      have c11b0 : decide (x6_3 < (t794.length : Int)) = false := decide_eq_false c11
                      clear c11
                      have H' := Aside0.mk H
                      clear H
                      obtain ⟨Ao17, co17, eo17⟩ := Kd.R_slice HO_5.out
                      subst eo17
                      go_wp2
                      go_roundg k3
                      case measure => have := HK1.out; have := HJ3.out; have := HK3.out; omega
                      case rel => exact ⟨(x3_3), (wrap64 (x4_1 + 1)), (by first | rfl | (simp; done) | (simp [*]; done)), H', ⟨by have := HK1.out; have := HJ3.out; have := HK3.out; omega⟩, ⟨by (with_reducible repeat (first | apply Kd.R_alloc | apply Kd.R_drewN | apply Kd.R_drew)); exact Kd.R_mono HO_3.out (fun _ hk => trivial)⟩, ⟨by repeat (first | (with_reducible first | exact HB.out | apply below_alloc | apply pw_below_drewN | apply below_drew1) | exact HB.out)⟩⟩
              · rw [if_neg c8] at H
                exact absurd H (by simp)
            · rw [if_neg c7] at H
              exact absurd H (by simp)
          · replace c6 := Bool.eq_false_iff.mpr c6
            subst c6
            have H1 : (some x3_1) = some r := by rw [if_neg (show ¬ (false = true) by decide)] at H; exact H
            clear H
            have H := H1
            clear H1
            obtain rfl := Option.some.inj H
            go_wp2
            go_ret
            exact ⟨_, by first | rfl | (simp [errW_none, errW_some] <;> rfl) | (simp [*, errW_none, errW_some] <;> rfl), by (with_reducible repeat (first | apply Kd.R_alloc | apply Kd.R_drewN | apply Kd.R_drew)); exact HO_3.out, by repeat (first | (with_reducible first | exact HB.out | apply below_alloc | apply pw_below_drewN | apply below_drew1) | exact HB.out)⟩
end Go.Proofs.Ytjcpkplneflleaa.Q
namespace Go.Proofs.Ytjcpkplneflleaa.Q
open Go.RowKit Go.Proofs.YtjcpkplneflleaaW.PrintWords Go.Proofs.YtjcpkplneflleaaW.PrintLast Go.Proofs.YtjcpkplneflleaaW.PrintMore
attribute [local go_sem] max2_int min2_int max_two min_two max_three min_three max_four min_four   -- for this text's walks alone
set_option linter.unusedVariables false
set_option linter.unusedSimpArgs false
mutual
def spec_LogOk.j0 : Nat → Bool → Int → Int → List (S115) → List (S72) → Option (Bool)
  | 0, _, _, _, _, _ => none
  | k + 1, x28, x802000, x802001, x802002, x802003 => if x28 = true then (some false) else ((spec_LogIds.f k x802003).bind fun t803 => (if (t803.length : Int) = (x802002.length : Int) then (spec_LogOk.l0 k t803 0 x802000 x802001 x802002 x802003) else (some false)))
def spec_LogOk.l0 : Nat → List Int → Int → Int → Int → List (S115) → List (S72) → Option (Bool)
  | 0, _, _, _, _, _, _ => none
  | k + 1, x3, x4, x802000, x802001, x802002, x802003 => if x4 < (x3.length : Int) then (if 0 ≤ x4 then (if x4 < (x802002.length : Int) then (if ((rd_T115 x802002 x4).f0) = (rd x3 x4) then (if ((rd_T115 x802002 x4).f1) < 0 then (some false) else (if ((rd_T115 x802002 x4).f1) > 1000000 then (some false) else (spec_LogOk.l0 k x3 (wrap64 (x4 + 1)) x802000 x802001 x802002 x802003))) else (some false)) else (none)) else (none)) else (some true)
end
def spec_LogOk.f (k : Nat) (a0_0 : Int) (a0_1 : Int) (l0_2 : List (S115)) (l0_3 : List (S72)) : Option (Bool) := if a0_0 < 0 then (spec_LogOk.j0 k true a0_0 a0_1 l0_2 l0_3) else (if a0_0 ≥ 3 then (spec_LogOk.j0 k true a0_0 a0_1 l0_2 l0_3) else (if a0_1 < 1 then (spec_LogOk.j0 k true a0_0 a0_1 l0_2 l0_3) else (if a0_1 > 1000 then (spec_LogOk.j0 k true a0_0 a0_1 l0_2 l0_3) else ((spec_l3Forms.f k l0_3).bind fun t802 => (spec_LogOk.j0 k (!t802) a0_0 a0_1 l0_2 l0_3)))))
set_option maxHeartbeats 8000000 in
set_option maxRecDepth 100000 in
theorem spec_LogOk.calls (k : Nat) (a0_0 : Int) (a0_1 : Int) (A0_2 : Option Addr) (c0_2 : Nat) (l0_2 : List (S115)) (A0_3 : Option Addr) (c0_3 : Nat) (l0_3 : List (S72)) (r : Bool) (w : World) (hr0_2 : Kd.C k115 w A0_2 l0_2.length l0_2) (hc0_2 : l0_2.length ≤ c0_2) (hr0_3 : Kd.C k72 w A0_3 l0_3.length l0_3) (hc0_3 : l0_3.length ≤ c0_3) (h : spec_LogOk.f k a0_0 a0_1 l0_2 l0_3 = some r) :
    Calls Try.prog 55 #[.agg #[.int .i64 a0_0, .int .i64 a0_1, .slice A0_2 l0_2.length c0_2, .slice A0_3 l0_3.length c0_3]] w fun e w' => e = .returned (.bool r) ∧ Below w.heap.size w w' := by
  have hu58 := Try.underlying58
  have HR0_2 := Aside0.mk hr0_2
  have HC0_2 := Aside0.mk hc0_2
  clear hr0_2 hc0_2
  have HR0_3 := Aside0.mk hr0_3
  have HC0_3 := Aside0.mk hc0_3
  clear hr0_3 hc0_3
  have HB := Aside0.mk (Below.refl w.heap.size w)
  have H : (if a0_0 < 0 then (spec_LogOk.j0 k true a0_0 a0_1 l0_2 l0_3) else (if a0_0 ≥ 3 then (spec_LogOk.j0 k true a0_0 a0_1 l0_2 l0_3) else (if a0_1 < 1 then (spec_LogOk.j0 k true a0_0 a0_1 l0_2 l0_3) else (if a0_1 > 1000 then (spec_LogOk.j0 k true a0_0 a0_1 l0_2 l0_3) else ((spec_l3Forms.f k l0_3).bind fun t802 => (spec_LogOk.j0 k (!t802) a0_0 a0_1 l0_2 l0_3)))))) = some r := h
  clear h
  have HC2 := Aside0.mk H
  clear H
  go_enter Try.func55, Try.ntmps55
  go_upto_region 1 with (first | ((with_reducible refine gate_dst (N := 1) rfl ?_); refine box_event ?hg (N := 1) ?hd (cs := #[.int .i64 a0_0, .int .i64 a0_1, .slice A0_2 l0_2.length c0_2, .slice A0_3 l0_3.length c0_3]) (t := 58) ?hr ?_; (case hd => rfl); (case hg => rfl); (case hr => first | (go_simp; done) | (go_simp; rfl)); intro gb801 hg w3 hbox hb; have n0_ := Aside0.mk (below_step (by repeat (first | (with_reducible first | exact HB.out | apply below_alloc | apply pw_below_drewN | apply below_drew1) | exact HB.out)) hb); have n1_ := Aside0.mk (hbox); have n2_ := Aside0.mk ((by rw [hg]; exact (below_size (by repeat (first | (with_reducible first | exact HB.out | apply below_alloc | apply pw_below_drewN | apply below_drew1) | exact HB.out))) : w.heap.size ≤ gb801)); have n3_ := Aside0.mk ((by rw [hg]; exact (below_size (by repeat (first | (with_reducible first | exact HB.out | apply below_alloc | apply pw_below_drewN | apply below_drew1) | exact HB.out))) : w.heap.size ≤ gb801)); clear HB; have HB := n0_; have BK801 := n1_; have GW801 := n2_; have GE801 := n3_; clear n0_ n1_ n2_ n3_; clear hb hbox hg))
  repeat (go_quiet (first | ((with_reducible refine gate_dst (N := 1) rfl ?_); refine box_event ?hg (N := 1) ?hd (cs := #[.int .i64 a0_0, .int .i64 a0_1, .slice A0_2 l0_2.length c0_2, .slice A0_3 l0_3.length c0_3]) (t := 58) ?hr ?_; (case hd => rfl); (case hg => rfl); (case hr => first | (go_simp; done) | (go_simp; rfl)); intro gb801 hg w3 hbox hb; have n0_ := Aside0.mk (below_step (by repeat (first | (with_reducible first | exact HB.out | apply below_alloc | apply pw_below_drewN | apply below_drew1) | exact HB.out)) hb); have n1_ := Aside0.mk (hbox); have n2_ := Aside0.mk ((by rw [hg]; exact (below_size (by repeat (first | (with_reducible first | exact HB.out | apply below_alloc | apply pw_below_drewN | apply below_drew1) | exact HB.out))) : w.heap.size ≤ gb801)); have n3_ := Aside0.mk ((by rw [hg]; exact (below_size (by repeat (first | (with_reducible first | exact HB.out | apply below_alloc | apply pw_below_drewN | apply below_drew1) | exact HB.out))) : w.heap.size ≤ gb801)); clear HB; have HB := n0_; have BK801 := n1_; have GW801 := n2_; have GE801 := n3_; clear n0_ n1_ n2_ n3_; clear hb hbox hg)); go_upto_region 1 with (first | ((with_reducible refine gate_dst (N := 1) rfl ?_); refine box_event ?hg (N := 1) ?hd (cs := #[.int .i64 a0_0, .int .i64 a0_1, .slice A0_2 l0_2.length c0_2, .slice A0_3 l0_3.length c0_3]) (t := 58) ?hr ?_; (case hd => rfl); (case hg => rfl); (case hr => first | (go_simp; done) | (go_simp; rfl)); intro gb801 hg w3 hbox hb; have n0_ := Aside0.mk (below_step (by repeat (first | (with_reducible first | exact HB.out | apply below_alloc | apply pw_below_drewN | apply below_drew1) | exact HB.out)) hb); have n1_ := Aside0.mk (hbox); have n2_ := Aside0.mk ((by rw [hg]; exact (below_size (by repeat (first | (with_reducible first | exact HB.out | apply below_alloc | apply pw_below_drewN | apply below_drew1) | exact HB.out))) : w.heap.size ≤ gb801)); have n3_ := Aside0.mk ((by rw [hg]; exact (below_size (by repeat (first | (with_reducible first | exact HB.out | apply below_alloc | apply pw_below_drewN | apply below_drew1) | exact HB.out))) : w.heap.size ≤ gb801)); clear HB; have HB := n0_; have BK801 := n1_; have GW801 := n2_; have GE801 := n3_; clear n0_ n1_ n2_ n3_; clear hb hbox hg)))
  (try simp only [Act.put, List.setIfInBounds_toArray, List.set_cons_zero, List.set_cons_succ])
  go_cut [28] (fun v28 wc => ∃ (kq : Nat) (x28_1 : Bool), v28 = .bool x28_1 ∧ Aside0 (spec_LogOk.j0 kq x28_1 a0_0 a0_1 l0_2 l0_3 = some r) ∧ Aside0 (kq ≤ k) ∧ Aside0 (wc.heap[gb801]? = some (.cells #[.int .i64 a0_0, .int .i64 a0_1, (.slice A0_2 l0_2.length c0_2), (.slice A0_3 l0_3.length c0_3)] 58 (0, 0))) ∧ Aside0 (Below w.heap.size w wc))
  case first =>
    have H := HC2.out
    clear HC2
    by_cases c4 : a0_0 < 0
    · rw [if_pos c4] at H
      have c4b0 : decide (a0_0 < 0) = true := decide_eq_true c4
      clear c4
      (first | rw [c4b0] | (simp only [i64_w, i32_w]; rw [c4b0]) | skip)
      have H' := Aside0.mk H
      clear H
      have hcz5_0 : w3.cell? ⟨gb801, 0, none⟩ = some (.int .i64 a0_0) := (blk_cell BK801.out 0).trans rfl
      have hcz5_1 : w3.cell? ⟨gb801, 1, none⟩ = some (.int .i64 a0_1) := (blk_cell BK801.out 1).trans rfl
      have hcz5_2 : w3.cell? ⟨gb801, 2, none⟩ = some (.slice A0_2 l0_2.length c0_2) := (blk_cell BK801.out 2).trans rfl
      have hcz5_3 : w3.cell? ⟨gb801, 3, none⟩ = some (.slice A0_3 l0_3.length c0_3) := (blk_cell BK801.out 3).trans rfl
      have hfz5_0 := blk_frozen BK801.out 0
      have hfz5_1 := blk_frozen BK801.out 1
      have hfz5_2 := blk_frozen BK801.out 2
      have hfz5_3 := blk_frozen BK801.out 3
      go_wp2
      repeat (go_quiet (fail); try go_wp2)
      go_meet
      case rel => exact ⟨_, (true), (by first | rfl | (simp; done) | (simp [*]; done)), H', ⟨by first | omega | exact Nat.le_refl _⟩, ⟨by (with_reducible repeat (first | refine blk_drewN ?_ _ | refine blk_drew ?_ | refine blk_alloc ?_ _)); exact BK801.out⟩, ⟨by repeat (first | (with_reducible first | exact HB.out | apply below_alloc | apply pw_below_drewN | apply below_drew1 | refine below_set ?_ GE801.out) | exact HB.out)⟩⟩
    · rw [if_neg c4] at H
      have c4b0 : decide (a0_0 < 0) = false := decide_eq_false c4
      clear c4
      (first | rw [c4b0] | (simp only [i64_w, i32_w]; rw [c4b0]) | skip)
      by_cases c6 : a0_0 ≥ 3
      · rw [if_pos c6] at H
        have c6b0 : decide (3 ≤ a0_0) = true := decide_eq_true c6
        clear c6
        have H' := Aside0.mk H
        clear H
        have hcz7_0 : w3.cell? ⟨gb801, 0, none⟩ = some (.int .i64 a0_0) := (blk_cell BK801.out 0).trans rfl
        have hcz7_1 : w3.cell? ⟨gb801, 1, none⟩ = some (.int .i64 a0_1) := (blk_cell BK801.out 1).trans rfl
        have hcz7_2 : w3.cell? ⟨gb801, 2, none⟩ = some (.slice A0_2 l0_2.length c0_2) := (blk_cell BK801.out 2).trans rfl
        have hcz7_3 : w3.cell? ⟨gb801, 3, none⟩ = some (.slice A0_3 l0_3.length c0_3) := (blk_cell BK801.out 3).trans rfl
        have hfz7_0 := blk_frozen BK801.out 0
        have hfz7_1 := blk_frozen BK801.out 1
        have hfz7_2 := blk_frozen BK801.out 2
        have hfz7_3 := blk_frozen BK801.out 3
        go_wp2
        repeat (go_quiet (fail); try go_wp2)
        go_meet
        case rel => exact ⟨_, (true), (by first | rfl | (simp; done) | (simp [*]; done)), H', ⟨by first | omega | exact Nat.le_refl _⟩, ⟨by (with_reducible repeat (first | refine blk_drewN ?_ _ | refine blk_drew ?_ | refine blk_alloc ?_ _)); exact BK801.out⟩, ⟨by repeat (first | (with_reducible first | exact HB.out | apply below_alloc | apply pw_below_drewN | apply below_drew1 | refine below_set ?_ GE801.out) | exact HB.out)⟩⟩
      · rw [if_neg c6] at H
        have c6b0 : decide (3 ≤ a0_0) = false := decide_eq_false c6
        clear c6
        by_cases c8 : a0_1 < 1
        · rw [if_pos c8] at H
          have c8b0 : decide (a0_1 < 1) = true := decide_eq_true c8
          clear c8
          have H' := Aside0.mk H
          clear H
          have hcz9_0 : w3.cell? ⟨gb801, 0, none⟩ = some (.int .i64 a0_0) := (blk_cell BK801.out 0).trans rfl
          have hcz9_1 : w3.cell? ⟨gb801, 1, none⟩ = some (.int .i64 a0_1) := (blk_cell BK801.out 1).trans rfl
          have hcz9_2 : w3.cell? ⟨gb801, 2, none⟩ = some (.slice A0_2 l0_2.length c0_2) := (blk_cell BK801.out 2).trans rfl
          have hcz9_3 : w3.cell? ⟨gb801, 3, none⟩ = some (.slice A0_3 l0_3.length c0_3) := (blk_cell BK801.out 3).trans rfl
          have hfz9_0 := blk_frozen BK801.out 0
          have hfz9_1 := blk_frozen BK801.out 1
          have hfz9_2 := blk_frozen BK801.out 2
          have hfz9_3 := blk_frozen BK801.out 3
          go_wp2
          repeat (go_quiet (fail); try go_wp2)
          go_meet
          case rel => exact ⟨_, (true), (by first | rfl | (simp; done) | (simp [*]; done)), H', ⟨by first | omega | exact Nat.le_refl _⟩, ⟨by (with_reducible repeat (first | refine blk_drewN ?_ _ | refine blk_drew ?_ | refine blk_alloc ?_ _)); exact BK801.out⟩, ⟨by repeat (first | (with_reducible first | exact HB.out | apply below_alloc | apply pw_below_drewN | apply below_drew1 | refine below_set ?_ GE801.out) | exact HB.out)⟩⟩
        · rw [if_neg c8] at H
          have c8b0 : decide (a0_1 < 1) = false := decide_eq_false c8
          clear c8
          by_cases c10 : a0_1 > 1000
          · rw [if_pos c10] at H
            have c10b0 : decide (1000 < a0_1) = true := decide_eq_true c10
            clear c10
            have H' := Aside0.mk H
            clear H
            have hcz11_0 : w3.cell? ⟨gb801, 0, none⟩ = some (.int .i64 a0_0) := (blk_cell BK801.out 0).trans rfl
            have hcz11_1 : w3.cell? ⟨gb801, 1, none⟩ = some (.int .i64 a0_1) := (blk_cell BK801.out 1).trans rfl
            have hcz11_2 : w3.cell? ⟨gb801, 2, none⟩ = some (.slice A0_2 l0_2.length c0_2) := (blk_cell BK801.out 2).trans rfl
            have hcz11_3 : w3.cell? ⟨gb801, 3, none⟩ = some (.slice A0_3 l0_3.length c0_3) := (blk_cell BK801.out 3).trans rfl
            have hfz11_0 := blk_frozen BK801.out 0
            have hfz11_1 := blk_frozen BK801.out 1
            have hfz11_2 := blk_frozen BK801.out 2
            have hfz11_3 := blk_frozen BK801.out 3
            go_wp2
            repeat (go_quiet (fail); try go_wp2)
            go_meet
            case rel => exact ⟨_, (true), (by first | rfl | (simp; done) | (simp [*]; done)), H', ⟨by first | omega | exact Nat.le_refl _⟩, ⟨by (with_reducible repeat (first | refine blk_drewN ?_ _ | refine blk_drew ?_ | refine blk_alloc ?_ _)); exact BK801.out⟩, ⟨by repeat (first | (with_reducible first | exact HB.out | apply below_alloc | apply pw_below_drewN | apply below_drew1 | refine below_set ?_ GE801.out) | exact HB.out)⟩⟩
          · rw [if_neg c10] at H
            have c10b0 : decide (1000 < a0_1) = false := decide_eq_false c10
            clear c10
            replace H := Option.bind_eq_some_iff.mp H
            obtain ⟨t802, A120, H⟩ := H
            replace H : (spec_LogOk.j0 k (!t802) a0_0 a0_1 l0_2 l0_3) = some r := H
            have A12 := Aside0.mk A120
            clear A120
            have H' := Aside0.mk H
            clear H
            have hcz13_0 : w3.cell? ⟨gb801, 0, none⟩ = some (.int .i64 a0_0) := (blk_cell BK801.out 0).trans rfl
            have hcz13_1 : w3.cell? ⟨gb801, 1, none⟩ = some (.int .i64 a0_1) := (blk_cell BK801.out 1).trans rfl
            have hcz13_2 : w3.cell? ⟨gb801, 2, none⟩ = some (.slice A0_2 l0_2.length c0_2) := (blk_cell BK801.out 2).trans rfl
            have hcz13_3 : w3.cell? ⟨gb801, 3, none⟩ = some (.slice A0_3 l0_3.length c0_3) := (blk_cell BK801.out 3).trans rfl
            have hfz13_0 := blk_frozen BK801.out 0
            have hfz13_1 := blk_frozen BK801.out 1
            have hfz13_2 := blk_frozen BK801.out 2
            have hfz13_3 := blk_frozen BK801.out 3
            go_wp2_with (first | (go_at_call 83; (with_reducible refine (spec_l3Forms.calls k _ _ l0_3 t802 _ ?side1 ?side2 A12.out).mono ?_); (case side1 => repeat (first | exact (Kd.C_below HR0_3.out HB.out) | (with_reducible refine Kd.C_alloc ?_ _) | (with_reducible refine Kd.C_drewN ?_ _) | (with_reducible refine Kd.C_drew ?_))); (case side2 => exact HC0_3.out); rintro e w14 ⟨rfl, hb⟩; have n0_ := Aside0.mk (blk_below (g := gb801) (o := .cells #[.int .i64 a0_0, .int .i64 a0_1, .slice A0_2 l0_2.length c0_2, .slice A0_3 l0_3.length c0_3] 58 (0, 0)) (by (with_reducible repeat (first | refine blk_drewN ?_ _ | refine blk_drew ?_ | refine blk_alloc ?_ _)); exact BK801.out) hb); have n1_ := Aside0.mk (below_step (by repeat (first | (with_reducible first | exact HB.out | apply below_alloc | apply pw_below_drewN | apply below_drew1 | refine below_set ?_ GE801.out) | exact HB.out)) hb); clear BK801; clear HB; have BK801 := n0_; have HB := n1_; clear n0_ n1_; (try clear hb); (try clear hb2); (try clear hk); (try clear hi)))
            repeat (go_quiet (first | (go_at_call 83; (with_reducible refine (spec_l3Forms.calls k _ _ l0_3 t802 _ ?side1 ?side2 A12.out).mono ?_); (case side1 => repeat (first | exact (Kd.C_below HR0_3.out HB.out) | (with_reducible refine Kd.C_alloc ?_ _) | (with_reducible refine Kd.C_drewN ?_ _) | (with_reducible refine Kd.C_drew ?_))); (case side2 => exact HC0_3.out); rintro e w14 ⟨rfl, hb⟩; have n0_ := Aside0.mk (blk_below (g := gb801) (o := .cells #[.int .i64 a0_0, .int .i64 a0_1, .slice A0_2 l0_2.length c0_2, .slice A0_3 l0_3.length c0_3] 58 (0, 0)) (by (with_reducible repeat (first | refine blk_drewN ?_ _ | refine blk_drew ?_ | refine blk_alloc ?_ _)); exact BK801.out) hb); have n1_ := Aside0.mk (below_step (by repeat (first | (with_reducible first | exact HB.out | apply below_alloc | apply pw_below_drewN | apply below_drew1 | refine below_set ?_ GE801.out) | exact HB.out)) hb); clear BK801; clear HB; have BK801 := n0_; have HB := n1_; clear n0_ n1_; (try clear hb); (try clear hb2); (try clear hk); (try clear hi))); try go_wp2_with (first | (go_at_call 83; (with_reducible refine (spec_l3Forms.calls k _ _ l0_3 t802 _ ?side1 ?side2 A12.out).mono ?_); (case side1 => repeat (first | exact (Kd.C_below HR0_3.out HB.out) | (with_reducible refine Kd.C_alloc ?_ _) | (with_reducible refine Kd.C_drewN ?_ _) | (with_reducible refine Kd.C_drew ?_))); (case side2 => exact HC0_3.out); rintro e w14 ⟨rfl, hb⟩; have n0_ := Aside0.mk (blk_below (g := gb801) (o := .cells #[.int .i64 a0_0, .int .i64 a0_1, .slice A0_2 l0_2.length c0_2, .slice A0_3 l0_3.length c0_3] 58 (0, 0)) (by (with_reducible repeat (first | refine blk_drewN ?_ _ | refine blk_drew ?_ | refine blk_alloc ?_ _)); exact BK801.out) hb); have n1_ := Aside0.mk (below_step (by repeat (first | (with_reducible first | exact HB.out | apply below_alloc | apply pw_below_drewN | apply below_drew1 | refine below_set ?_ GE801.out) | exact HB.out)) hb); clear BK801; clear HB; have BK801 := n0_; have HB := n1_; clear n0_ n1_; (try clear hb); (try clear hb2); (try clear hk); (try clear hi))))
            go_meet
            case rel => exact ⟨_, (!t802), (by first | rfl | (simp; done) | (simp [*]; done)), H', ⟨by first | omega | exact Nat.le_refl _⟩, ⟨by (with_reducible repeat (first | refine blk_drewN ?_ _ | refine blk_drew ?_ | refine blk_alloc ?_ _)); exact BK801.out⟩, ⟨by repeat (first | (with_reducible first | exact HB.out | apply below_alloc | apply pw_below_drewN | apply below_drew1 | refine below_set ?_ GE801.out) | exact HB.out)⟩⟩
  case rest =>
    clear HC2
    try clear c1
    try clear p2
    try clear c4
    try clear c4b0
    try clear c5
    try clear c6
    try clear c6b0
    try clear c8
    try clear c8b0
    try clear c10
    try clear c10b0
    try clear hcz11_0
    try clear hcz11_1
    try clear hcz11_2
    try clear hcz11_3
    try clear hcz13_0
    try clear hcz13_1
    try clear hcz13_2
    try clear hcz13_3
    try clear hcz5_0
    try clear hcz5_1
    try clear hcz5_2
    try clear hcz5_3
    try clear hcz7_0
    try clear hcz7_1
    try clear hcz7_2
    try clear hcz7_3
    try clear hcz9_0
    try clear hcz9_1
    try clear hcz9_2
    try clear hcz9_3
    try clear hfz11_0
    try clear hfz11_1
    try clear hfz11_2
    try clear hfz11_3
    try clear hfz13_0
    try clear hfz13_1
    try clear hfz13_2
    try clear hfz13_3
    try clear hfz5_0
    try clear hfz5_1
    try clear hfz5_2
    try clear hfz5_3
    try clear hfz7_0
    try clear hfz7_1
    try clear hfz7_2
    try clear hfz7_3
    try clear hfz9_0
    try clear hfz9_1
    try clear hfz9_2
    try clear hfz9_3
    obtain ⟨kq, x28_1, rfl, HA, HJ1, BK801, HB⟩ := hcut
    cases kq with
    | zero => exact absurd HA.out (by simp [spec_LogOk.j0])
    | succ kj1 =>
      have H := HA.out
      clear HA
      simp only [spec_LogOk.j0] at H
      by_cases c15 : x28_1 = true
      · subst c15
        have H1 : (some false) = some r := by rw [if_pos rfl] at H; exact H
        clear H
        have H := H1
        clear H1
        obtain rfl := Option.some.inj H
        go_wp2
        repeat (go_quiet (fail); try go_wp2)
        go_ret
        exact ⟨by first | rfl | (simp [errW_none, errW_some] <;> rfl) | (simp [*, errW_none, errW_some] <;> rfl), by repeat (first | (with_reducible first | exact HB.out | apply below_alloc | apply pw_below_drewN | apply below_drew1 | refine below_set ?_ GE801.out) | exact HB.out)⟩
      · replace c15 := Bool.eq_false_iff.mpr c15
        subst c15
        have H1 : ((spec_LogIds.f kj1 l0_3).bind fun t803 => (if (t803.length : Int) = (l0_2.length : Int) then (spec_LogOk.l0 kj1 t803 0 a0_0 a0_1 l0_2 l0_3) else (some false))) = some r := by rw [if_neg (show ¬ (false = true) by decide)] at H; exact H
        clear H
        have H := H1
        clear H1
        replace H := Option.bind_eq_some_iff.mp H
        obtain ⟨t803, A160, H⟩ := H
        replace H : (if (t803.length : Int) = (l0_2.length : Int) then (spec_LogOk.l0 kj1 t803 0 a0_0 a0_1 l0_2 l0_3) else (some false)) = some r := H
        have A16 := Aside0.mk A160
        clear A160
        by_cases c17 : (t803.length : Int) = (l0_2.length : Int)
        · rw [if_pos c17] at H
          have c17b0 : ((t803.length : Int) == (l0_2.length : Int)) = true := beq_iff_eq.mpr c17
          have c17b1 : ((t803.length : Int) != (l0_2.length : Int)) = false := bne_eq_false_iff_eq.mpr c17
          have c17b2 : (t803.length == l0_2.length) = true := by first | simpa using c17 | (simp at c17 ⊢; omega)
          clear c17
          have H' := Aside0.mk H
          clear H
          have hcz18_0 : wc.cell? ⟨gb801, 0, none⟩ = some (.int .i64 a0_0) := (blk_cell BK801.out 0).trans rfl
          have hcz18_1 : wc.cell? ⟨gb801, 1, none⟩ = some (.int .i64 a0_1) := (blk_cell BK801.out 1).trans rfl
          have hcz18_2 : wc.cell? ⟨gb801, 2, none⟩ = some (.slice A0_2 l0_2.length c0_2) := (blk_cell BK801.out 2).trans rfl
          have hcz18_3 : wc.cell? ⟨gb801, 3, none⟩ = some (.slice A0_3 l0_3.length c0_3) := (blk_cell BK801.out 3).trans rfl
          have hfz18_0 := blk_frozen BK801.out 0
          have hfz18_1 := blk_frozen BK801.out 1
          have hfz18_2 := blk_frozen BK801.out 2
          have hfz18_3 := blk_frozen BK801.out 3
          go_wp2_with (first | (go_at_call 114; (with_reducible refine (spec_LogIds.calls kj1 _ _ l0_3 t803 _ ?side1 ?side2 A16.out).mono ?_); (case side1 => repeat (first | exact (Kd.C_below HR0_3.out HB.out) | (with_reducible refine Kd.C_alloc ?_ _) | (with_reducible refine Kd.C_drewN ?_ _) | (with_reducible refine Kd.C_drew ?_))); (case side2 => exact HC0_3.out); rintro e w19 ⟨v804, rfl, ho0, hb⟩; have n0_ := Aside0.mk (Kd.R_lower ho0 (below_size (by repeat (first | (with_reducible first | exact HB.out | apply below_alloc | apply pw_below_drewN | apply below_drew1 | refine below_set ?_ GE801.out) | exact HB.out)))); have n1_ := Aside0.mk (blk_below (g := gb801) (o := .cells #[.int .i64 a0_0, .int .i64 a0_1, .slice A0_2 l0_2.length c0_2, .slice A0_3 l0_3.length c0_3] 58 (0, 0)) (by (with_reducible repeat (first | refine blk_drewN ?_ _ | refine blk_drew ?_ | refine blk_alloc ?_ _)); exact BK801.out) hb); have n2_ := Aside0.mk (below_step (by repeat (first | (with_reducible first | exact HB.out | apply below_alloc | apply pw_below_drewN | apply below_drew1 | refine below_set ?_ GE801.out) | exact HB.out)) hb); clear BK801; clear HB; have HO805 := n0_; have BK801 := n1_; have HB := n2_; clear n0_ n1_ n2_; (try clear hb); (try clear hb2); (try clear hk); (try clear hi); (try clear ho0); obtain ⟨Ao20, co20, eo20⟩ := Kd.R_slice HO805.out; subst eo20; have hcz21_0 : w19.cell? ⟨gb801, 0, none⟩ = some (.int .i64 a0_0) := (blk_cell BK801.out 0).trans rfl; have hcz21_1 : w19.cell? ⟨gb801, 1, none⟩ = some (.int .i64 a0_1) := (blk_cell BK801.out 1).trans rfl; have hcz21_2 : w19.cell? ⟨gb801, 2, none⟩ = some (.slice A0_2 l0_2.length c0_2) := (blk_cell BK801.out 2).trans rfl; have hcz21_3 : w19.cell? ⟨gb801, 3, none⟩ = some (.slice A0_3 l0_3.length c0_3) := (blk_cell BK801.out 3).trans rfl; have hfz21_0 := blk_frozen BK801.out 0; have hfz21_1 := blk_frozen BK801.out 1; have hfz21_2 := blk_frozen BK801.out 2; have hfz21_3 := blk_frozen BK801.out 3))
          repeat (go_quiet (first | (go_at_call 114; (with_reducible refine (spec_LogIds.calls kj1 _ _ l0_3 t803 _ ?side1 ?side2 A16.out).mono ?_); (case side1 => repeat (first | exact (Kd.C_below HR0_3.out HB.out) | (with_reducible refine Kd.C_alloc ?_ _) | (with_reducible refine Kd.C_drewN ?_ _) | (with_reducible refine Kd.C_drew ?_))); (case side2 => exact HC0_3.out); rintro e w19 ⟨v804, rfl, ho0, hb⟩; have n0_ := Aside0.mk (Kd.R_lower ho0 (below_size (by repeat (first | (with_reducible first | exact HB.out | apply below_alloc | apply pw_below_drewN | apply below_drew1 | refine below_set ?_ GE801.out) | exact HB.out)))); have n1_ := Aside0.mk (blk_below (g := gb801) (o := .cells #[.int .i64 a0_0, .int .i64 a0_1, .slice A0_2 l0_2.length c0_2, .slice A0_3 l0_3.length c0_3] 58 (0, 0)) (by (with_reducible repeat (first | refine blk_drewN ?_ _ | refine blk_drew ?_ | refine blk_alloc ?_ _)); exact BK801.out) hb); have n2_ := Aside0.mk (below_step (by repeat (first | (with_reducible first | exact HB.out | apply below_alloc | apply pw_below_drewN | apply below_drew1 | refine below_set ?_ GE801.out) | exact HB.out)) hb); clear BK801; clear HB; have HO805 := n0_; have BK801 := n1_; have HB := n2_; clear n0_ n1_ n2_; (try clear hb); (try clear hb2); (try clear hk); (try clear hi); (try clear ho0); obtain ⟨Ao20, co20, eo20⟩ := Kd.R_slice HO805.out; subst eo20; have hcz21_0 : w19.cell? ⟨gb801, 0, none⟩ = some (.int .i64 a0_0) := (blk_cell BK801.out 0).trans rfl; have hcz21_1 : w19.cell? ⟨gb801, 1, none⟩ = some (.int .i64 a0_1) := (blk_cell BK801.out 1).trans rfl; have hcz21_2 : w19.cell? ⟨gb801, 2, none⟩ = some (.slice A0_2 l0_2.length c0_2) := (blk_cell BK801.out 2).trans rfl; have hcz21_3 : w19.cell? ⟨gb801, 3, none⟩ = some (.slice A0_3 l0_3.length c0_3) := (blk_cell BK801.out 3).trans rfl; have hfz21_0 := blk_frozen BK801.out 0; have hfz21_1 := blk_frozen BK801.out 1; have hfz21_2 := blk_frozen BK801.out 2; have hfz21_3 := blk_frozen BK801.out 3)); try go_wp2_with (first | (go_at_call 114; (with_reducible refine (spec_LogIds.calls kj1 _ _ l0_3 t803 _ ?side1 ?side2 A16.out).mono ?_); (case side1 => repeat (first | exact (Kd.C_below HR0_3.out HB.out) | (with_reducible refine Kd.C_alloc ?_ _) | (with_reducible refine Kd.C_drewN ?_ _) | (with_reducible refine Kd.C_drew ?_))); (case side2 => exact HC0_3.out); rintro e w19 ⟨v804, rfl, ho0, hb⟩; have n0_ := Aside0.mk (Kd.R_lower ho0 (below_size (by repeat (first | (with_reducible first | exact HB.out | apply below_alloc | apply pw_below_drewN | apply below_drew1 | refine below_set ?_ GE801.out) | exact HB.out)))); have n1_ := Aside0.mk (blk_below (g := gb801) (o := .cells #[.int .i64 a0_0, .int .i64 a0_1, .slice A0_2 l0_2.length c0_2, .slice A0_3 l0_3.length c0_3] 58 (0, 0)) (by (with_reducible repeat (first | refine blk_drewN ?_ _ | refine blk_drew ?_ | refine blk_alloc ?_ _)); exact BK801.out) hb); have n2_ := Aside0.mk (below_step (by repeat (first | (with_reducible first | exact HB.out | apply below_alloc | apply pw_below_drewN | apply below_drew1 | refine below_set ?_ GE801.out) | exact HB.out)) hb); clear BK801; clear HB; have HO805 := n0_; have BK801 := n1_; have HB := n2_; clear n0_ n1_ n2_; (try clear hb); (try clear hb2); (try clear hk); (try clear hi); (try clear ho0); obtain ⟨Ao20, co20, eo20⟩ := Kd.R_slice HO805.out; subst eo20; have hcz21_0 : w19.cell? ⟨gb801, 0, none⟩ = some (.int .i64 a0_0) := (blk_cell BK801.out 0).trans rfl; have hcz21_1 : w19.cell? ⟨gb801, 1, none⟩ = some (.int .i64 a0_1) := (blk_cell BK801.out 1).trans rfl; have hcz21_2 : w19.cell? ⟨gb801, 2, none⟩ = some (.slice A0_2 l0_2.length c0_2) := (blk_cell BK801.out 2).trans rfl; have hcz21_3 : w19.cell? ⟨gb801, 3, none⟩ = some (.slice A0_3 l0_3.length c0_3) := (blk_cell BK801.out 3).trans rfl; have hfz21_0 := blk_frozen BK801.out 0; have hfz21_1 := blk_frozen BK801.out 1; have hfz21_2 := blk_frozen BK801.out 2; have hfz21_3 := blk_frozen BK801.out 3)))
          go_loopg [4] kj1 (fun kq v4 w' => ∃ (x4_2 : Int), v4 = .int .i64 x4_2 ∧ Aside0 (spec_LogOk.l0 kq t803 x4_2 a0_0 a0_1 l0_2 l0_3 = some r) ∧ Aside0 (kq ≤ kj1) ∧ Aside0 (Kd.R (Kd.int .i64) 3 w' w.heap.size (fun _ => True) (.slice Ao20 t803.length co20) t803) ∧ Aside0 (w'.heap[gb801]? = some (.cells #[.int .i64 a0_0, .int .i64 a0_1, (.slice A0_2 l0_2.length c0_2), (.slice A0_3 l0_3.length c0_3)] 58 (0, 0))) ∧ Aside0 (Below w.heap.size w w'))
          case atStart => exact ⟨(0), (by first | rfl | (simp; done) | (simp [*]; done)), H', ⟨Nat.le_refl _⟩, ⟨by (with_reducible repeat (first | apply Kd.R_alloc | apply Kd.R_drewN | apply Kd.R_drew)); exact HO805.out⟩, ⟨by (with_reducible repeat (first | refine blk_drewN ?_ _ | refine blk_drew ?_ | refine blk_alloc ?_ _)); exact BK801.out⟩, ⟨by repeat (first | (with_reducible first | exact HB.out | apply below_alloc | apply pw_below_drewN | apply below_drew1 | refine below_set ?_ GE801.out) | exact HB.out)⟩⟩
          case round =>
            clear H'
            try clear c1
            try clear p2
            try clear c4
            try clear c4b0
            try clear c5
            try clear c6
            try clear c6b0
            try clear c8
            try clear c8b0
            try clear c10
            try clear c10b0
            try clear c15
            try clear c17
            try clear c17b0
            try clear c17b1
            try clear c17b2
            try clear hcz11_0
            try clear hcz11_1
            try clear hcz11_2
            try clear hcz11_3
            try clear hcz13_0
            try clear hcz13_1
            try clear hcz13_2
            try clear hcz13_3
            try clear hcz18_0
            try clear hcz18_1
            try clear hcz18_2
            try clear hcz18_3
            try clear hcz21_0
            try clear hcz21_1
            try clear hcz21_2
            try clear hcz21_3
            try clear hcz5_0
            try clear hcz5_1
            try clear hcz5_2
            try clear hcz5_3
            try clear hcz7_0
            try clear hcz7_1
            try clear hcz7_2
            try clear hcz7_3
            try clear hcz9_0
            try clear hcz9_1
            try clear hcz9_2
            try clear hcz9_3
            try clear hfz11_0
            try clear hfz11_1
            try clear hfz11_2
            try clear hfz11_3
            try clear hfz13_0
            try clear hfz13_1
            try clear hfz13_2
            try clear hfz13_3
            try clear hfz18_0
            try clear hfz18_1
            try clear hfz18_2
            try clear hfz18_3
            try clear hfz21_0
            try clear hfz21_1
            try clear hfz21_2
            try clear hfz21_3
            try clear hfz5_0
            try clear hfz5_1
            try clear hfz5_2
            try clear hfz5_3
            try clear hfz7_0
            try clear hfz7_1
            try clear hfz7_2
            try clear hfz7_3
            try clear hfz9_0
            try clear hfz9_1
            try clear hfz9_2
            try clear hfz9_3
            try clear p2
            obtain ⟨x4_2, rfl, HA, HK2, HO_3, BK801, HB⟩ := hrel
            cases gk with
            | zero => exact absurd HA.out (by simp [spec_LogOk.l0])
            | succ k2 =>
              have H := HA.out
              clear HA
              simp only [spec_LogOk.l0] at H
              by_cases c22 : x4_2 < (t803.length : Int)
              · rw [if_pos c22] at H
                have c22b0 : decide (x4_2 < (t803.length : Int)) = true := decide_eq_true c22
                clear c22
                by_cases c23 : 0 ≤ x4_2
                · rw [if_pos c23] at H
                  have c23b0 : decide (0 ≤ x4_2) = true := decide_eq_true c23
                  clear c23
                  by_cases c24 : x4_2 < (l0_2.length : Int)
                  · rw [if_pos c24] at H
                    have c24b0 : decide (x4_2 < (l0_2.length : Int)) = true := decide_eq_true c24
                    clear c24
                    by_cases c25 : ((rd_T115 l0_2 x4_2).f0) = (rd t803 x4_2)
                    · rw [if_pos c25] at H
                      have c25b0 : (((rd_T115 l0_2 x4_2).f0) == (rd t803 x4_2)) = true := beq_iff_eq.mpr c25
                      have c25b1 : (((rd_T115 l0_2 x4_2).f0) != (rd t803 x4_2)) = false := bne_eq_false_iff_eq.mpr c25
                      clear c25
                      by_cases c26 : ((rd_T115 l0_2 x4_2).f1) < 0
                      · rw [if_pos c26] at H
                        have c26b0 : decide (((rd_T115 l0_2 x4_2).f1) < 0) = true := decide_eq_true c26
                        clear c26
                        obtain rfl := Option.some.inj H
                        have hcz27_0 : wr.cell? ⟨gb801, 0, none⟩ = some (.int .i64 a0_0) := (blk_cell BK801.out 0).trans rfl
                        have hcz27_1 : wr.cell? ⟨gb801, 1, none⟩ = some (.int .i64 a0_1) := (blk_cell BK801.out 1).trans rfl
                        have hcz27_2 : wr.cell? ⟨gb801, 2, none⟩ = some (.slice A0_2 l0_2.length c0_2) := (blk_cell BK801.out 2).trans rfl
                        have hcz27_3 : wr.cell? ⟨gb801, 3, none⟩ = some (.slice A0_3 l0_3.length c0_3) := (blk_cell BK801.out 3).trans rfl
                        have hfz27_0 := blk_frozen BK801.out 0
                        have hfz27_1 := blk_frozen BK801.out 1
                        have hfz27_2 := blk_frozen BK801.out 2
                        have hfz27_3 := blk_frozen BK801.out 3
                        have p806 : 0 ≤ (x4_2 : Int) := of_decide_eq_true (by first | (with_reducible assumption) | assumption)
                        have q806 : x4_2 < (l0_2.length : Int) := of_decide_eq_true (by first | (with_reducible assumption) | assumption)
                        obtain ⟨ad806, e806, hx806_0, hx806_1⟩ := at_T115 HR0_2.out x4_2 p806 q806
                        cases e806
                        replace hx806_0 := (HB.out.cell (World.block_lt_of_cell? w _ hx806_0)).trans hx806_0
                        replace hx806_1 := (HB.out.cell (World.block_lt_of_cell? w _ hx806_1)).trans hx806_1
                        replace p806 := eq_true p806
                        replace q806 := eq_true q806
                        have p807 : 0 ≤ (x4_2 : Int) := of_decide_eq_true (by first | (with_reducible assumption) | assumption)
                        have q807 : x4_2 < (t803.length : Int) := of_decide_eq_true (by first | (with_reducible assumption) | assumption)
                        obtain ⟨ad807, e807, hx807_0⟩ := Kd.at_int (Kd.R_reads' HO_3.out).2.2 x4_2 p807 q807
                        cases e807
                        replace p807 := eq_true p807
                        replace q807 := eq_true q807
                        have p808 : 0 ≤ (x4_2 : Int) := of_decide_eq_true (by first | (with_reducible assumption) | assumption)
                        have q808 : x4_2 < (l0_2.length : Int) := of_decide_eq_true (by first | (with_reducible assumption) | assumption)
                        obtain ⟨ad808, e808, hx808_0, hx808_1⟩ := at_T115 HR0_2.out x4_2 p808 q808
                        obtain rfl : ad806 = ad808 := (by injection e808)
                        replace hx808_0 := (HB.out.cell (World.block_lt_of_cell? w _ hx808_0)).trans hx808_0
                        replace hx808_1 := (HB.out.cell (World.block_lt_of_cell? w _ hx808_1)).trans hx808_1
                        replace p808 := eq_true p808
                        replace q808 := eq_true q808
                        go_wp2
                        repeat (go_quiet (fail); try go_wp2)
                        go_ret
                        exact ⟨by first | rfl | (simp [errW_none, errW_some] <;> rfl) | (simp [*, errW_none, errW_some] <;> rfl), by repeat (first | (with_reducible first | exact HB.out | apply below_alloc | apply pw_below_drewN | apply below_drew1 | refine below_set ?_ GE801.out) | exact HB.out)⟩
                      · rw [if_neg c26] at H
                        have c26b0 : decide (((rd_T115 l0_2 x4_2).f1) < 0) = false := decide_eq_false c26
                        clear c26
                        by_cases c28 : ((rd_T115 l0_2 x4_2).f1) > 1000000
                        · rw [if_pos c28] at H
                          have c28b0 : decide (1000000 < ((rd_T115 l0_2 x4_2).f1)) = true := decide_eq_true c28
                          clear c28
                          obtain rfl := Option.some.inj H
                          have hcz29_0 : wr.cell? ⟨gb801, 0, none⟩ = some (.int .i64 a0_0) := (blk_cell BK801.out 0).trans rfl
                          have hcz29_1 : wr.cell? ⟨gb801, 1, none⟩ = some (.int .i64 a0_1) := (blk_cell BK801.out 1).trans rfl
                          have hcz29_2 : wr.cell? ⟨gb801, 2, none⟩ = some (.slice A0_2 l0_2.length c0_2) := (blk_cell BK801.out 2).trans rfl
                          have hcz29_3 : wr.cell? ⟨gb801, 3, none⟩ = some (.slice A0_3 l0_3.length c0_3) := (blk_cell BK801.out 3).trans rfl
                          have hfz29_0 := blk_frozen BK801.out 0
                          have hfz29_1 := blk_frozen BK801.out 1
                          have hfz29_2 := blk_frozen BK801.out 2
                          have hfz29_3 := blk_frozen BK801.out 3
                          have p806 : 0 ≤ (x4_2 : Int) := of_decide_eq_true (by first | (with_reducible assumption) | assumption)
                          have q806 : x4_2 < (l0_2.length : Int) := of_decide_eq_true (by first | (with_reducible assumption) | assumption)
                          obtain ⟨ad806, e806, hx806_0, hx806_1⟩ := at_T115 HR0_2.out x4_2 p806 q806
                          cases e806
                          replace hx806_0 := (HB.out.cell (World.block_lt_of_cell? w _ hx806_0)).trans hx806_0
                          replace hx806_1 := (HB.out.cell (World.block_lt_of_cell? w _ hx806_1)).trans hx806_1
                          replace p806 := eq_true p806
                          replace q806 := eq_true q806
                          have p807 : 0 ≤ (x4_2 : Int) := of_decide_eq_true (by first | (with_reducible assumption) | assumption)
                          have q807 : x4_2 < (t803.length : Int) := of_decide_eq_true (by first | (with_reducible assumption) | assumption)
                          obtain ⟨ad807, e807, hx807_0⟩ := Kd.at_int (Kd.R_reads' HO_3.out).2.2 x4_2 p807 q807
                          cases e807
                          replace p807 := eq_true p807
                          replace q807 := eq_true q807
                          have p808 : 0 ≤ (x4_2 : Int) := of_decide_eq_true (by first | (with_reducible assumption) | assumption)
                          have q808 : x4_2 < (l0_2.length : Int) := of_decide_eq_true (by first | (with_reducible assumption) | assumption)
                          obtain ⟨ad808, e808, hx808_0, hx808_1⟩ := at_T115 HR0_2.out x4_2 p808 q808
                          obtain rfl : ad806 = ad808 := (by injection e808)
                          replace hx808_0 := (HB.out.cell (World.block_lt_of_cell? w _ hx808_0)).trans hx808_0
                          replace hx808_1 := (HB.out.cell (World.block_lt_of_cell? w _ hx808_1)).trans hx808_1
                          replace p808 := eq_true p808
                          replace q808 := eq_true q808
                          have p809 : 0 ≤ (x4_2 : Int) := of_decide_eq_true (by first | (with_reducible assumption) | assumption)
                          have q809 : x4_2 < (l0_2.length : Int) := of_decide_eq_true (by first | (with_reducible assumption) | assumption)
                          obtain ⟨ad809, e809, hx809_0, hx809_1⟩ := at_T115 HR0_2.out x4_2 p809 q809
                          obtain rfl : ad806 = ad809 := (by injection e809)
                          replace hx809_0 := (HB.out.cell (World.block_lt_of_cell? w _ hx809_0)).trans hx809_0
                          replace hx809_1 := (HB.out.cell (World.block_lt_of_cell? w _ hx809_1)).trans hx809_1
                          replace p809 := eq_true p809
                          replace q809 := eq_true q809
                          go_wp2
                          repeat (go_quiet (fail); try go_wp2)
                          go_ret
                          exact ⟨by first | rfl | (simp [errW_none, errW_some] <;> rfl) | (simp [*, errW_none, errW_some] <;> rfl), by repeat (first | (with_reducible first | exact HB.out | apply below_alloc | apply pw_below_drewN | apply below_drew1 | refine below_set ?_ GE801.out) | exact HB.out)⟩
                        · rw [if_neg c28] at H
                          have c28b0 : decide (1000000 < ((rd_T115 l0_2 x4_2).f1)) = false := decide_eq_false c28
                          clear c28
                          have H' := Aside0.mk H
                          clear H
                          have hcz30_0 : wr.cell? ⟨gb801, 0, none⟩ = some (.int .i64 a0_0) := (blk_cell BK801.out 0).trans rfl
                          have hcz30_1 : wr.cell? ⟨gb801, 1, none⟩ = some (.int .i64 a0_1) := (blk_cell BK801.out 1).trans rfl
                          have hcz30_2 : wr.cell? ⟨gb801, 2, none⟩ = some (.slice A0_2 l0_2.length c0_2) := (blk_cell BK801.out 2).trans rfl
                          have hcz30_3 : wr.cell? ⟨gb801, 3, none⟩ = some (.slice A0_3 l0_3.length c0_3) := (blk_cell BK801.out 3).trans rfl
                          have hfz30_0 := blk_frozen BK801.out 0
                          have hfz30_1 := blk_frozen BK801.out 1
                          have hfz30_2 := blk_frozen BK801.out 2
                          have hfz30_3 := blk_frozen BK801.out 3
                          have p806 : 0 ≤ (x4_2 : Int) := of_decide_eq_true (by first | (with_reducible assumption) | assumption)
                          have q806 : x4_2 < (l0_2.length : Int) := of_decide_eq_true (by first | (with_reducible assumption) | assumption)
                          obtain ⟨ad806, e806, hx806_0, hx806_1⟩ := at_T115 HR0_2.out x4_2 p806 q806
                          cases e806
                          replace hx806_0 := (HB.out.cell (World.block_lt_of_cell? w _ hx806_0)).trans hx806_0
                          replace hx806_1 := (HB.out.cell (World.block_lt_of_cell? w _ hx806_1)).trans hx806_1
                          replace p806 := eq_true p806
                          replace q806 := eq_true q806
                          have p807 : 0 ≤ (x4_2 : Int) := of_decide_eq_true (by first | (with_reducible assumption) | assumption)
                          have q807 : x4_2 < (t803.length : Int) := of_decide_eq_true (by first | (with_reducible assumption) | assumption)
                          obtain ⟨ad807, e807, hx807_0⟩ := Kd.at_int (Kd.R_reads' HO_3.out).2.2 x4_2 p807 q807
                          cases e807
                          replace p807 := eq_true p807
                          replace q807 := eq_true q807
                          have p808 : 0 ≤ (x4_2 : Int) := of_decide_eq_true (by first | (with_reducible assumption) | assumption)
                          have q808 : x4_2 < (l0_2.length : Int) := of_decide_eq_true (by first | (with_reducible assumption) | assumption)
                          obtain ⟨ad808, e808, hx808_0, hx808_1⟩ := at_T115 HR0_2.out x4_2 p808 q808
                          obtain rfl : ad806 = ad808 := (by injection e808)
                          replace hx808_0 := (HB.out.cell (World.block_lt_of_cell? w _ hx808_0)).trans hx808_0
                          replace hx808_1 := (HB.out.cell (World.block_lt_of_cell? w _ hx808_1)).trans hx808_1
                          replace p808 := eq_true p808
                          replace q808 := eq_true q808
                          have p809 : 0 ≤ (x4_2 : Int) := of_decide_eq_true (by first | (with_reducible assumption) | assumption)
                          have q809 : x4_2 < (l0_2.length : Int) := of_decide_eq_true (by first | (with_reducible assumption) | assumption)
                          obtain ⟨ad809, e809, hx809_0, hx809_1⟩ := at_T115 HR0_2.out x4_2 p809 q809
                          obtain rfl : ad806 = ad809 := (by injection e809)
                          replace hx809_0 := (HB.out.cell (World.block_lt_of_cell? w _ hx809_0)).trans hx809_0
                          replace hx809_1 := (HB.out.cell (World.block_lt_of_cell? w _ hx809_1)).trans hx809_1
                          replace p809 := eq_true p809
                          replace q809 := eq_true q809
                          go_wp2
                          repeat (go_quiet (fail); try go_wp2)
                          go_roundg k2
                          case measure => have := HJ1.out; have := HK2.out; omega
                          case rel => exact ⟨(wrap64 (x4_2 + 1)), (by first | rfl | (simp; done) | (simp [*]; done)), H', ⟨by have := HJ1.out; have := HK2.out; omega⟩, ⟨by (with_reducible repeat (first | apply Kd.R_alloc | apply Kd.R_drewN | apply Kd.R_drew)); exact HO_3.out⟩, ⟨by (with_reducible repeat (first | refine blk_drewN ?_ _ | refine blk_drew ?_ | refine blk_alloc ?_ _)); exact BK801.out⟩, ⟨by repeat (first | (with_reducible first | exact HB.out | apply below_alloc | apply pw_below_drewN | apply below_drew1 | refine below_set ?_ GE801.out) | exact HB.out)⟩⟩
                    · rw [if_neg c25] at H
                      have c25b0 : (((rd_T115 l0_2 x4_2).f0) == (rd t803 x4_2)) = false := beq_eq_false_iff_ne.mpr c25
                      have c25b1 : (((rd_T115 l0_2 x4_2).f0) != (rd t803 x4_2)) = true := bne_iff_ne.mpr c25
                      obtain rfl := Option.some.inj H
                      have hcz31_0 : wr.cell? ⟨gb801, 0, none⟩ = some (.int .i64 a0_0) := (blk_cell BK801.out 0).trans rfl
                      have hcz31_1 : wr.cell? ⟨gb801, 1, none⟩ = some (.int .i64 a0_1) := (blk_cell BK801.out 1).trans rfl
                      have hcz31_2 : wr.cell? ⟨gb801, 2, none⟩ = some (.slice A0_2 l0_2.length c0_2) := (blk_cell BK801.out 2).trans rfl
                      have hcz31_3 : wr.cell? ⟨gb801, 3, none⟩ = some (.slice A0_3 l0_3.length c0_3) := (blk_cell BK801.out 3).trans rfl
                      have hfz31_0 := blk_frozen BK801.out 0
                      have hfz31_1 := blk_frozen BK801.out 1
                      have hfz31_2 := blk_frozen BK801.out 2
                      have hfz31_3 := blk_frozen BK801.out 3
                      have p806 : 0 ≤ (x4_2 : Int) := of_decide_eq_true (by first | (with_reducible assumption) | assumption)
                      have q806 : x4_2 < (l0_2.length : Int) := of_decide_eq_true (by first | (with_reducible assumption) | assumption)
                      obtain ⟨ad806, e806, hx806_0, hx806_1⟩ := at_T115 HR0_2.out x4_2 p806 q806
                      cases e806
                      replace hx806_0 := (HB.out.cell (World.block_lt_of_cell? w _ hx806_0)).trans hx806_0
                      replace hx806_1 := (HB.out.cell (World.block_lt_of_cell? w _ hx806_1)).trans hx806_1
                      replace p806 := eq_true p806
                      replace q806 := eq_true q806
                      have p807 : 0 ≤ (x4_2 : Int) := of_decide_eq_true (by first | (with_reducible assumption) | assumption)
                      have q807 : x4_2 < (t803.length : Int) := of_decide_eq_true (by first | (with_reducible assumption) | assumption)
                      obtain ⟨ad807, e807, hx807_0⟩ := Kd.at_int (Kd.R_reads' HO_3.out).2.2 x4_2 p807 q807
                      cases e807
                      replace p807 := eq_true p807
                      replace q807 := eq_true q807
                      go_wp2
                      repeat (go_quiet (fail); try go_wp2)
                      go_ret
                      exact ⟨by first | rfl | (simp [errW_none, errW_some] <;> rfl) | (simp [*, errW_none, errW_some] <;> rfl), by repeat (first | (with_reducible first | exact HB.out | apply below_alloc | apply pw_below_drewN | apply below_drew1 | refine below_set ?_ GE801.out) | exact HB.out)⟩
                  · rw [if_neg c24] at H
                    exact absurd H (by simp)
                · rw [if_neg c23] at H
                  exact absurd H (by simp)
              · rw [if_neg c22] at H
                have c22b0 : decide (x4_2 < (t803.length : Int)) = false := decide_eq_false c22
                clear c22
                obtain rfl := Option.some.inj H
                go_wp2
                repeat (go_quiet (fail); try go_wp2)
                go_ret
                exact ⟨by first | rfl | (simp [errW_none, errW_some] <;> rfl) | (simp [*, errW_none, errW_some] <;> rfl), by repeat (first | (with_reducible first | exact HB.out | apply below_alloc | apply pw_below_drewN | apply below_drew1 | refine below_set ?_ GE801.out) | exact HB.out)⟩
        · rw [if_neg c17] at H
          have c17b0 : ((t803.length : Int) == (l0_2.length : Int)) = false := beq_eq_false_iff_ne.mpr c17
          have c17b1 : ((t803.length : Int) != (l0_2.length : Int)) = true := bne_iff_ne.mpr c17
          have c17b2 : (t803.length == l0_2.length) = false := by first | simpa using c17 | (simp at c17 ⊢; omega)
          obtain rfl := Option.some.inj H
          have hcz32_0 : wc.cell? ⟨gb801, 0, none⟩ = some (.int .i64 a0_0) := (blk_cell BK801.out 0).trans rfl
          have hcz32_1 : wc.cell? ⟨gb801, 1, none⟩ = some (.int .i64 a0_1) := (blk_cell BK801.out 1).trans rfl
          have hcz32_2 : wc.cell? ⟨gb801, 2, none⟩ = some (.slice A0_2 l0_2.length c0_2) := (blk_cell BK801.out 2).trans rfl
          have hcz32_3 : wc.cell? ⟨gb801, 3, none⟩ = some (.slice A0_3 l0_3.length c0_3) := (blk_cell BK801.out 3).trans rfl
          have hfz32_0 := blk_frozen BK801.out 0
          have hfz32_1 := blk_frozen BK801.out 1
          have hfz32_2 := blk_frozen BK801.out 2
          have hfz32_3 := blk_frozen BK801.out 3
          go_wp2_with (first | (go_at_call 114; (with_reducible refine (spec_LogIds.calls kj1 _ _ l0_3 t803 _ ?side1 ?side2 A16.out).mono ?_); (case side1 => repeat (first | exact (Kd.C_below HR0_3.out HB.out) | (with_reducible refine Kd.C_alloc ?_ _) | (with_reducible refine Kd.C_drewN ?_ _) | (with_reducible refine Kd.C_drew ?_))); (case side2 => exact HC0_3.out); rintro e w33 ⟨v804, rfl, ho0, hb⟩; have n0_ := Aside0.mk (Kd.R_lower ho0 (below_size (by repeat (first | (with_reducible first | exact HB.out | apply below_alloc | apply pw_below_drewN | apply below_drew1 | refine below_set ?_ GE801.out) | exact HB.out)))); have n1_ := Aside0.mk (blk_below (g := gb801) (o := .cells #[.int .i64 a0_0, .int .i64 a0_1, .slice A0_2 l0_2.length c0_2, .slice A0_3 l0_3.length c0_3] 58 (0, 0)) (by (with_reducible repeat (first | refine blk_drewN ?_ _ | refine blk_drew ?_ | refine blk_alloc ?_ _)); exact BK801.out) hb); have n2_ := Aside0.mk (below_step (by repeat (first | (with_reducible first | exact HB.out | apply below_alloc | apply pw_below_drewN | apply below_drew1 | refine below_set ?_ GE801.out) | exact HB.out)) hb); clear BK801; clear HB; have HO805 := n0_; have BK801 := n1_; have HB := n2_; clear n0_ n1_ n2_; (try clear hb); (try clear hb2); (try clear hk); (try clear hi); (try clear ho0); obtain ⟨Ao34, co34, eo34⟩ := Kd.R_slice HO805.out; subst eo34; have hcz35_0 : w33.cell? ⟨gb801, 0, none⟩ = some (.int .i64 a0_0) := (blk_cell BK801.out 0).trans rfl; have hcz35_1 : w33.cell? ⟨gb801, 1, none⟩ = some (.int .i64 a0_1) := (blk_cell BK801.out 1).trans rfl; have hcz35_2 : w33.cell? ⟨gb801, 2, none⟩ = some (.slice A0_2 l0_2.length c0_2) := (blk_cell BK801.out 2).trans rfl; have hcz35_3 : w33.cell? ⟨gb801, 3, none⟩ = some (.slice A0_3 l0_3.length c0_3) := (blk_cell BK801.out 3).trans rfl; have hfz35_0 := blk_frozen BK801.out 0; have hfz35_1 := blk_frozen BK801.out 1; have hfz35_2 := blk_frozen BK801.out 2; have hfz35_3 := blk_frozen BK801.out 3))
          repeat (go_quiet (first | (go_at_call 114; (with_reducible refine (spec_LogIds.calls kj1 _ _ l0_3 t803 _ ?side1 ?side2 A16.out).mono ?_); (case side1 => repeat (first | exact (Kd.C_below HR0_3.out HB.out) | (with_reducible refine Kd.C_alloc ?_ _) | (with_reducible refine Kd.C_drewN ?_ _) | (with_reducible refine Kd.C_drew ?_))); (case side2 => exact HC0_3.out); rintro e w33 ⟨v804, rfl, ho0, hb⟩; have n0_ := Aside0.mk (Kd.R_lower ho0 (below_size (by repeat (first | (with_reducible first | exact HB.out | apply below_alloc | apply pw_below_drewN | apply below_drew1 | refine below_set ?_ GE801.out) | exact HB.out)))); have n1_ := Aside0.mk (blk_below (g := gb801) (o := .cells #[.int .i64 a0_0, .int .i64 a0_1, .slice A0_2 l0_2.length c0_2, .slice A0_3 l0_3.length c0_3] 58 (0, 0)) (by (with_reducible repeat (first | refine blk_drewN ?_ _ | refine blk_drew ?_ | refine blk_alloc ?_ _)); exact BK801.out) hb); have n2_ := Aside0.mk (below_step (by repeat (first | (with_reducible first | exact HB.out | apply below_alloc | apply pw_below_drewN | apply below_drew1 | refine below_set ?_ GE801.out) | exact HB.out)) hb); clear BK801; clear HB; have HO805 := n0_; have BK801 := n1_; have HB := n2_; clear n0_ n1_ n2_; (try clear hb); (try clear hb2); (try clear hk); (try clear hi); (try clear ho0); obtain ⟨Ao34, co34, eo34⟩ := Kd.R_slice HO805.out; subst eo34; have hcz35_0 : w33.cell? ⟨gb801, 0, none⟩ = some (.int .i64 a0_0) := (blk_cell BK801.out 0).trans rfl; have hcz35_1 : w33.cell? ⟨gb801, 1, none⟩ = some (.int .i64 a0_1) := (blk_cell BK801.out 1).trans rfl; have hcz35_2 : w33.cell? ⟨gb801, 2, none⟩ = some (.slice A0_2 l0_2.length c0_2) := (blk_cell BK801.out 2).trans rfl; have hcz35_3 : w33.cell? ⟨gb801, 3, none⟩ = some (.slice A0_3 l0_3.length c0_3) := (blk_cell BK801.out 3).trans rfl; have hfz35_0 := blk_frozen BK801.out 0; have hfz35_1 := blk_frozen BK801.out 1; have hfz35_2 := blk_frozen BK801.out 2; have hfz35_3 := blk_frozen BK801.out 3)); try go_wp2_with (first | (go_at_call 114; (with_reducible refine (spec_LogIds.calls kj1 _ _ l0_3 t803 _ ?side1 ?side2 A16.out).mono ?_); (case side1 => repeat (first | exact (Kd.C_below HR0_3.out HB.out) | (with_reducible refine Kd.C_alloc ?_ _) | (with_reducible refine Kd.C_drewN ?_ _) | (with_reducible refine Kd.C_drew ?_))); (case side2 => exact HC0_3.out); rintro e w33 ⟨v804, rfl, ho0, hb⟩; have n0_ := Aside0.mk (Kd.R_lower ho0 (below_size (by repeat (first | (with_reducible first | exact HB.out | apply below_alloc | apply pw_below_drewN | apply below_drew1 | refine below_set ?_ GE801.out) | exact HB.out)))); have n1_ := Aside0.mk (blk_below (g := gb801) (o := .cells #[.int .i64 a0_0, .int .i64 a0_1, .slice A0_2 l0_2.length c0_2, .slice A0_3 l0_3.length c0_3] 58 (0, 0)) (by (with_reducible repeat (first | refine blk_drewN ?_ _ | refine blk_drew ?_ | refine blk_alloc ?_ _)); exact BK801.out) hb); have n2_ := Aside0.mk (below_step (by repeat (first | (with_reducible first | exact HB.out | apply below_alloc | apply pw_below_drewN | apply below_drew1 | refine below_set ?_ GE801.out) | exact HB.out)) hb); clear BK801; clear HB; have HO805 := n0_; have BK801 := n1_; have HB := n2_; clear n0_ n1_ n2_; (try clear hb); (try clear hb2); (try clear hk); (try clear hi); (try clear ho0); obtain ⟨Ao34, co34, eo34⟩ := Kd.R_slice HO805.out; subst eo34; have hcz35_0 : w33.cell? ⟨gb801, 0, none⟩ = some (.int .i64 a0_0) := (blk_cell BK801.out 0).trans rfl; have hcz35_1 : w33.cell? ⟨gb801, 1, none⟩ = some (.int .i64 a0_1) := (blk_cell BK801.out 1).trans rfl; have hcz35_2 : w33.cell? ⟨gb801, 2, none⟩ = some (.slice A0_2 l0_2.length c0_2) := (blk_cell BK801.out 2).trans rfl; have hcz35_3 : w33.cell? ⟨gb801, 3, none⟩ = some (.slice A0_3 l0_3.length c0_3) := (blk_cell BK801.out 3).trans rfl; have hfz35_0 := blk_frozen BK801.out 0; have hfz35_1 := blk_frozen BK801.out 1; have hfz35_2 := blk_frozen BK801.out 2; have hfz35_3 := blk_frozen BK801.out 3)))
          go_ret
          exact ⟨by first | rfl | (simp [errW_none, errW_some] <;> rfl) | (simp [*, errW_none, errW_some] <;> rfl), by repeat (first | (with_reducible first | exact HB.out | apply below_alloc | apply pw_below_drewN | apply below_drew1 | refine below_set ?_ GE801.out) | exact HB.out)⟩
end Go.Proofs.Ytjcpkplneflleaa.Q
namespace Go.Proofs.Ytjcpkplneflleaa.Q
open Go.RowKit Go.Proofs.YtjcpkplneflleaaW.PrintWords Go.Proofs.YtjcpkplneflleaaW.PrintLast Go.Proofs.YtjcpkplneflleaaW.PrintMore
attribute [local go_sem] max2_int min2_int max_two min_two max_three min_three max_four min_four   -- for this text's walks alone
set_option linter.unusedVariables false
set_option linter.unusedSimpArgs false
def laws_toOp.f (a0_0 : Int) (a0_1 : Int) (a0_2 : ByteArray) (a0_3 : Int) (a0_4 : ByteArray) (a0_5 : Int) (a0_6 : ByteArray) : Option (Int × Int × ByteArray × Int × ByteArray × Int × ByteArray) := some (a0_0, a0_1, a0_2, a0_3, a0_4, a0_5, a0_6)
set_option maxHeartbeats 8000000 in
set_option maxRecDepth 100000 in
theorem laws_toOp.calls (a0_0 : Int) (a0_1 : Int) (a0_2 : ByteArray) (a0_3 : Int) (a0_4 : ByteArray) (a0_5 : Int) (a0_6 : ByteArray) (r1 : Int) (r2 : Int) (r3 : ByteArray) (r4 : Int) (r5 : ByteArray) (r6 : Int) (r7 : ByteArray) (w : World) (h : laws_toOp.f a0_0 a0_1 a0_2 a0_3 a0_4 a0_5 a0_6 = some (r1, r2, r3, r4, r5, r6, r7)) :
    Calls Try.prog 81 #[.agg #[.int .i64 a0_0, .int .i64 a0_1, .string a0_2, .int .i64 a0_3, .string a0_4, .int .i64 a0_5, .string a0_6]] w fun e w' => e = .returned (.agg #[.int .i64 r1, .int .i64 r2, .string r3, .int .i64 r4, .string r5, .int .i64 r6, .string r7]) ∧ Below w.heap.size w w' := by
  have hu90 := Try.underlying90
  have hu72 := Try.underlying72
  have HB := Aside0.mk (Below.refl w.heap.size w)
  have H : (some (a0_0, a0_1, a0_2, a0_3, a0_4, a0_5, a0_6)) = some (r1, r2, r3, r4, r5, r6, r7) := h
  clear h
  simp only [Option.some.injEq, Prod.mk.injEq] at H
  obtain ⟨rfl, rfl, rfl, rfl, rfl, rfl, rfl⟩ := H
  go_enter Try.func81, Try.ntmps81
  go_wp2_with (first | ((with_reducible refine gate_dst (N := 1) rfl ?_); refine box_event ?hg (N := 1) ?hd (cs := #[.int .i64 a0_0, .int .i64 a0_1, .string a0_2, .int .i64 a0_3, .string a0_4, .int .i64 a0_5, .string a0_6]) (t := 90) ?hr ?_; (case hd => rfl); (case hg => rfl); (case hr => first | (go_simp; done) | (go_simp; rfl)); intro gb377 hg w2 hbox hb; have n0_ := Aside0.mk (below_step (by repeat (first | (with_reducible first | exact HB.out | apply below_alloc | apply pw_below_drewN | apply below_drew1) | exact HB.out)) hb); have n1_ := Aside0.mk (hbox); have n2_ := Aside0.mk ((by rw [hg]; exact (below_size (by repeat (first | (with_reducible first | exact HB.out | apply below_alloc | apply pw_below_drewN | apply below_drew1) | exact HB.out))) : w.heap.size ≤ gb377)); have n3_ := Aside0.mk ((by rw [hg]; exact (below_size (by repeat (first | (with_reducible first | exact HB.out | apply below_alloc | apply pw_below_drewN | apply below_drew1) | exact HB.out))) : w.heap.size ≤ gb377)); clear HB; have HB := n0_; have BK377 := n1_; have GW377 := n2_; have GE377 := n3_; clear n0_ n1_ n2_ n3_; clear hb hbox hg) | ((with_reducible refine gate_dst (N := 2) rfl ?_); refine box_event ?hg (N := 2) ?hd (cs := #[.int .i64 0, .int .i64 0, .string (⟨#[]⟩ : ByteArray), .int .i64 0, .string (⟨#[]⟩ : ByteArray), .int .i64 0, .string (⟨#[]⟩ : ByteArray)]) (t := 72) ?hr ?_; (case hd => rfl); (case hg => rfl); (case hr => first | (go_simp; done) | (go_simp; rfl)); intro gb378 hg w3 hbox hb; have n0_ := Aside0.mk (blk_below (g := gb377) (o := .cells #[.int .i64 a0_0, .int .i64 a0_1, .string a0_2, .int .i64 a0_3, .string a0_4, .int .i64 a0_5, .string a0_6] 90 (0, 0)) (by (with_reducible repeat (first | refine blk_drewN ?_ _ | refine blk_drew ?_ | refine blk_alloc ?_ _)); exact BK377.out) hb); have n1_ := Aside0.mk (below_step (by repeat (first | (with_reducible first | exact HB.out | apply below_alloc | apply pw_below_drewN | apply below_drew1 | refine below_set ?_ GE377.out) | exact HB.out)) hb); have n2_ := Aside0.mk (hbox); have n3_ := Aside0.mk ((by rw [hg]; exact (below_size (by repeat (first | (with_reducible first | exact HB.out | apply below_alloc | apply pw_below_drewN | apply below_drew1 | refine below_set ?_ GE377.out) | exact HB.out))) : w.heap.size ≤ gb378)); have n4_ := Aside0.mk ((by rw [hg]; exact (below_size (by repeat (first | (with_reducible first | exact HB.out | apply below_alloc | apply pw_below_drewN | apply below_drew1 | refine below_set ?_ GE377.out) | exact HB.out))) : w.heap.size ≤ gb378)); have n5_ := Aside0.mk ((by rw [hg]; exact Nat.ne_of_lt (blk_lt (g := gb377) (o := .cells #[.int .i64 a0_0, .int .i64 a0_1, .string a0_2, .int .i64 a0_3, .string a0_4, .int .i64 a0_5, .string a0_6] 90 (0, 0)) (by (with_reducible repeat (first | refine blk_drewN ?_ _ | refine blk_drew ?_ | refine blk_alloc ?_ _)); exact BK377.out)) : gb377 ≠ gb378)); have n6_ := Aside0.mk ((by rw [hg]; exact Nat.ne_of_gt (blk_lt (g := gb377) (o := .cells #[.int .i64 a0_0, .int .i64 a0_1, .string a0_2, .int .i64 a0_3, .string a0_4, .int .i64 a0_5, .string a0_6] 90 (0, 0)) (by (with_reducible repeat (first | refine blk_drewN ?_ _ | refine blk_drew ?_ | refine blk_alloc ?_ _)); exact BK377.out)) : gb378 ≠ gb377)); clear BK377; clear HB; have BK377 := n0_; have HB := n1_; have BK378 := n2_; have GW378 := n3_; have GE378 := n4_; have NB377_378 := n5_; have NB378_377 := n6_; clear n0_ n1_ n2_ n3_ n4_ n5_ n6_; clear hb hbox hg) | ((with_reducible refine gate_dst (N := 3) rfl ?_); refine box_event ?hg (N := 3) ?hd (cs := #[.int .i64 0, .int .i64 0, .string (⟨#[]⟩ : ByteArray), .int .i64 0, .string (⟨#[]⟩ : ByteArray), .int .i64 0, .string (⟨#[]⟩ : ByteArray)]) (t := 72) ?hr ?_; (case hd => rfl); (case hg => rfl); (case hr => first | (go_simp; done) | (go_simp; rfl)); intro gb379 hg w4 hbox hb; have n0_ := Aside0.mk (blk_below (g := gb377) (o := .cells #[.int .i64 a0_0, .int .i64 a0_1, .string a0_2, .int .i64 a0_3, .string a0_4, .int .i64 a0_5, .string a0_6] 90 (0, 0)) (by (with_reducible repeat (first | refine blk_drewN ?_ _ | refine blk_drew ?_ | refine blk_alloc ?_ _)); exact BK377.out) hb); have n1_ := Aside0.mk (blk_below (g := gb378) (o := .cells #[.int .i64 0, .int .i64 0, .string (⟨#[]⟩ : ByteArray), .int .i64 0, .string (⟨#[]⟩ : ByteArray), .int .i64 0, .string (⟨#[]⟩ : ByteArray)] 72 (0, 0)) (by (with_reducible repeat (first | refine blk_drewN ?_ _ | refine blk_drew ?_ | refine blk_alloc ?_ _)); exact BK378.out) hb); have n2_ := Aside0.mk (below_step (by repeat (first | (with_reducible first | exact HB.out | apply below_alloc | apply pw_below_drewN | apply below_drew1 | refine below_set ?_ GE377.out | refine below_set ?_ GE378.out) | exact HB.out)) hb); have n3_ := Aside0.mk (hbox); have n4_ := Aside0.mk ((by rw [hg]; exact (below_size (by repeat (first | (with_reducible first | exact HB.out | apply below_alloc | apply pw_below_drewN | apply below_drew1 | refine below_set ?_ GE377.out | refine below_set ?_ GE378.out) | exact HB.out))) : w.heap.size ≤ gb379)); have n5_ := Aside0.mk ((by rw [hg]; exact (below_size (by repeat (first | (with_reducible first | exact HB.out | apply below_alloc | apply pw_below_drewN | apply below_drew1 | refine below_set ?_ GE377.out | refine below_set ?_ GE378.out) | exact HB.out))) : w.heap.size ≤ gb379)); have n6_ := Aside0.mk ((by rw [hg]; exact Nat.ne_of_lt (blk_lt (g := gb377) (o := .cells #[.int .i64 a0_0, .int .i64 a0_1, .string a0_2, .int .i64 a0_3, .string a0_4, .int .i64 a0_5, .string a0_6] 90 (0, 0)) (by (with_reducible repeat (first | refine blk_drewN ?_ _ | refine blk_drew ?_ | refine blk_alloc ?_ _)); exact BK377.out)) : gb377 ≠ gb379)); have n7_ := Aside0.mk ((by rw [hg]; exact Nat.ne_of_gt (blk_lt (g := gb377) (o := .cells #[.int .i64 a0_0, .int .i64 a0_1, .string a0_2, .int .i64 a0_3, .string a0_4, .int .i64 a0_5, .string a0_6] 90 (0, 0)) (by (with_reducible repeat (first | refine blk_drewN ?_ _ | refine blk_drew ?_ | refine blk_alloc ?_ _)); exact BK377.out)) : gb379 ≠ gb377)); have n8_ := Aside0.mk ((by rw [hg]; exact Nat.ne_of_lt (blk_lt (g := gb378) (o := .cells #[.int .i64 0, .int .i64 0, .string (⟨#[]⟩ : ByteArray), .int .i64 0, .string (⟨#[]⟩ : ByteArray), .int .i64 0, .string (⟨#[]⟩ : ByteArray)] 72 (0, 0)) (by (with_reducible repeat (first | refine blk_drewN ?_ _ | refine blk_drew ?_ | refine blk_alloc ?_ _)); exact BK378.out)) : gb378 ≠ gb379)); have n9_ := Aside0.mk ((by rw [hg]; exact Nat.ne_of_gt (blk_lt (g := gb378) (o := .cells #[.int .i64 0, .int .i64 0, .string (⟨#[]⟩ : ByteArray), .int .i64 0, .string (⟨#[]⟩ : ByteArray), .int .i64 0, .string (⟨#[]⟩ : ByteArray)] 72 (0, 0)) (by (with_reducible repeat (first | refine blk_drewN ?_ _ | refine blk_drew ?_ | refine blk_alloc ?_ _)); exact BK378.out)) : gb379 ≠ gb378)); clear BK377; clear BK378; clear HB; have BK377 := n0_; have BK378 := n1_; have HB := n2_; have BK379 := n3_; have GW379 := n4_; have GE379 := n5_; have NB377_379 := n6_; have NB379_377 := n7_; have NB378_379 := n8_; have NB379_378 := n9_; clear n0_ n1_ n2_ n3_ n4_ n5_ n6_ n7_ n8_ n9_; clear hb hbox hg; have hnb5 := NB377_378.out; have hnc5 := NB378_377.out; have hnb6 := NB377_379.out; have hnc6 := NB379_377.out; have hcz7_0 : w4.cell? ⟨gb377, 0, none⟩ = some (.int .i64 a0_0) := (blk_cell BK377.out 0).trans rfl; have hcz7_1 : w4.cell? ⟨gb377, 1, none⟩ = some (.int .i64 a0_1) := (blk_cell BK377.out 1).trans rfl; have hcz7_2 : w4.cell? ⟨gb377, 2, none⟩ = some (.string a0_2) := (blk_cell BK377.out 2).trans rfl; have hcz7_3 : w4.cell? ⟨gb377, 3, none⟩ = some (.int .i64 a0_3) := (blk_cell BK377.out 3).trans rfl; have hcz7_4 : w4.cell? ⟨gb377, 4, none⟩ = some (.string a0_4) := (blk_cell BK377.out 4).trans rfl; have hcz7_5 : w4.cell? ⟨gb377, 5, none⟩ = some (.int .i64 a0_5) := (blk_cell BK377.out 5).trans rfl; have hcz7_6 : w4.cell? ⟨gb377, 6, none⟩ = some (.string a0_6) := (blk_cell BK377.out 6).trans rfl; have hfz7_0 := blk_frozen BK377.out 0; have hfz7_1 := blk_frozen BK377.out 1; have hfz7_2 := blk_frozen BK377.out 2; have hfz7_3 := blk_frozen BK377.out 3; have hfz7_4 := blk_frozen BK377.out 4; have hfz7_5 := blk_frozen BK377.out 5; have hfz7_6 := blk_frozen BK377.out 6; have hnb8 := NB379_378.out; have hnc8 := NB378_379.out; have hcz9_0 : w4.cell? ⟨gb379, 0, none⟩ = some (.int .i64 0) := (blk_cell BK379.out 0).trans rfl; have hcz9_1 : w4.cell? ⟨gb379, 1, none⟩ = some (.int .i64 0) := (blk_cell BK379.out 1).trans rfl; have hcz9_2 : w4.cell? ⟨gb379, 2, none⟩ = some (.string (⟨#[]⟩ : ByteArray)) := (blk_cell BK379.out 2).trans rfl; have hcz9_3 : w4.cell? ⟨gb379, 3, none⟩ = some (.int .i64 0) := (blk_cell BK379.out 3).trans rfl; have hcz9_4 : w4.cell? ⟨gb379, 4, none⟩ = some (.string (⟨#[]⟩ : ByteArray)) := (blk_cell BK379.out 4).trans rfl; have hcz9_5 : w4.cell? ⟨gb379, 5, none⟩ = some (.int .i64 0) := (blk_cell BK379.out 5).trans rfl; have hcz9_6 : w4.cell? ⟨gb379, 6, none⟩ = some (.string (⟨#[]⟩ : ByteArray)) := (blk_cell BK379.out 6).trans rfl; have hfz9_0 := blk_frozen BK379.out 0; have hfz9_1 := blk_frozen BK379.out 1; have hfz9_2 := blk_frozen BK379.out 2; have hfz9_3 := blk_frozen BK379.out 3; have hfz9_4 := blk_frozen BK379.out 4; have hfz9_5 := blk_frozen BK379.out 5; have hfz9_6 := blk_frozen BK379.out 6; have hcz10_0 : w4.cell? ⟨gb378, 0, none⟩ = some (.int .i64 0) := (blk_cell BK378.out 0).trans rfl; have hcz10_1 : w4.cell? ⟨gb378, 1, none⟩ = some (.int .i64 0) := (blk_cell BK378.out 1).trans rfl; have hcz10_2 : w4.cell? ⟨gb378, 2, none⟩ = some (.string (⟨#[]⟩ : ByteArray)) := (blk_cell BK378.out 2).trans rfl; have hcz10_3 : w4.cell? ⟨gb378, 3, none⟩ = some (.int .i64 0) := (blk_cell BK378.out 3).trans rfl; have hcz10_4 : w4.cell? ⟨gb378, 4, none⟩ = some (.string (⟨#[]⟩ : ByteArray)) := (blk_cell BK378.out 4).trans rfl; have hcz10_5 : w4.cell? ⟨gb378, 5, none⟩ = some (.int .i64 0) := (blk_cell BK378.out 5).trans rfl; have hcz10_6 : w4.cell? ⟨gb378, 6, none⟩ = some (.string (⟨#[]⟩ : ByteArray)) := (blk_cell BK378.out 6).trans rfl; have hfz10_0 := blk_frozen BK378.out 0; have hfz10_1 := blk_frozen BK378.out 1; have hfz10_2 := blk_frozen BK378.out 2; have hfz10_3 := blk_frozen BK378.out 3; have hfz10_4 := blk_frozen BK378.out 4; have hfz10_5 := blk_frozen BK378.out 5; have hfz10_6 := blk_frozen BK378.out 6))
  refine bodyPost_ret (results_cell_row rfl _ _ gb378 72 #[.int .i64 a0_0, .int .i64 a0_1, .string a0_2, .int .i64 a0_3, .string a0_4, .int .i64 a0_5, .string a0_6] (0, 0) _ rfl (by (with_reducible repeat (first | refine blk_drewN ?_ _ | refine blk_drew ?_ | refine blk_alloc ?_ _)); refine blk_put (cs := #[.int .i64 a0_0, .int .i64 a0_1, .string a0_2, .int .i64 a0_3, .string a0_4, .int .i64 a0_5, .string (⟨#[]⟩ : ByteArray)]) ?_ 6 _ rfl; (with_reducible repeat (first | refine blk_drewN ?_ _ | refine blk_drew ?_ | refine blk_alloc ?_ _)); refine blk_put (cs := #[.int .i64 a0_0, .int .i64 a0_1, .string a0_2, .int .i64 a0_3, .string a0_4, .int .i64 0, .string (⟨#[]⟩ : ByteArray)]) ?_ 5 _ rfl; (with_reducible repeat (first | refine blk_drewN ?_ _ | refine blk_drew ?_ | refine blk_alloc ?_ _)); refine blk_put (cs := #[.int .i64 a0_0, .int .i64 a0_1, .string a0_2, .int .i64 a0_3, .string (⟨#[]⟩ : ByteArray), .int .i64 0, .string (⟨#[]⟩ : ByteArray)]) ?_ 4 _ rfl; (with_reducible repeat (first | refine blk_drewN ?_ _ | refine blk_drew ?_ | refine blk_alloc ?_ _)); refine blk_put (cs := #[.int .i64 a0_0, .int .i64 a0_1, .string a0_2, .int .i64 0, .string (⟨#[]⟩ : ByteArray), .int .i64 0, .string (⟨#[]⟩ : ByteArray)]) ?_ 3 _ rfl; (with_reducible repeat (first | refine blk_drewN ?_ _ | refine blk_drew ?_ | refine blk_alloc ?_ _)); refine blk_put (cs := #[.int .i64 a0_0, .int .i64 a0_1, .string (⟨#[]⟩ : ByteArray), .int .i64 0, .string (⟨#[]⟩ : ByteArray), .int .i64 0, .string (⟨#[]⟩ : ByteArray)]) ?_ 2 _ rfl; (with_reducible repeat (first | refine blk_drewN ?_ _ | refine blk_drew ?_ | refine blk_alloc ?_ _)); refine blk_put (cs := #[.int .i64 a0_0, .int .i64 0, .string (⟨#[]⟩ : ByteArray), .int .i64 0, .string (⟨#[]⟩ : ByteArray), .int .i64 0, .string (⟨#[]⟩ : ByteArray)]) ?_ 1 _ rfl; (with_reducible repeat (first | refine blk_drewN ?_ _ | refine blk_drew ?_ | refine blk_alloc ?_ _)); refine blk_put (cs := #[.int .i64 0, .int .i64 0, .string (⟨#[]⟩ : ByteArray), .int .i64 0, .string (⟨#[]⟩ : ByteArray), .int .i64 0, .string (⟨#[]⟩ : ByteArray)]) ?_ 0 _ rfl; (with_reducible repeat (first | refine blk_drewN ?_ _ | refine blk_drew ?_ | refine blk_alloc ?_ _)); refine blk_far ?_ NB378_379.out _; (with_reducible repeat (first | refine blk_drewN ?_ _ | refine blk_drew ?_ | refine blk_alloc ?_ _)); refine blk_far ?_ NB378_379.out _; (with_reducible repeat (first | refine blk_drewN ?_ _ | refine blk_drew ?_ | refine blk_alloc ?_ _)); refine blk_far ?_ NB378_379.out _; (with_reducible repeat (first | refine blk_drewN ?_ _ | refine blk_drew ?_ | refine blk_alloc ?_ _)); refine blk_far ?_ NB378_379.out _; (with_reducible repeat (first | refine blk_drewN ?_ _ | refine blk_drew ?_ | refine blk_alloc ?_ _)); refine blk_far ?_ NB378_379.out _; (with_reducible repeat (first | refine blk_drewN ?_ _ | refine blk_drew ?_ | refine blk_alloc ?_ _)); refine blk_far ?_ NB378_379.out _; (with_reducible repeat (first | refine blk_drewN ?_ _ | refine blk_drew ?_ | refine blk_alloc ?_ _)); refine blk_far ?_ NB378_379.out _; (with_reducible repeat (first | refine blk_drewN ?_ _ | refine blk_drew ?_ | refine blk_alloc ?_ _)); exact BK378.out) Try.underlying72 rfl (by kernel_rfl)) rfl ?_
  exact ⟨by first | rfl | (simp [errW_none, errW_some] <;> rfl) | (simp [*, errW_none, errW_some] <;> rfl), by repeat (first | (with_reducible first | exact HB.out | apply below_alloc | apply pw_below_drewN | apply below_drew1 | refine below_set ?_ GE377.out | refine below_set ?_ GE378.out | refine below_set ?_ GE379.out) | exact HB.out)⟩
end Go.Proofs.Ytjcpkplneflleaa.Q
namespace Go.Proofs.Ytjcpkplneflleaa.Q
open Go.RowKit Go.Proofs.YtjcpkplneflleaaW.PrintWords Go.Proofs.YtjcpkplneflleaaW.PrintLast Go.Proofs.YtjcpkplneflleaaW.PrintMore
attribute [local go_sem] max2_int min2_int max_two min_two max_three min_three max_four min_four   -- for this text's walks alone
set_option linter.unusedVariables false
set_option linter.unusedSimpArgs false
def laws_toOpS.l0 : Nat → List (S90) → List (S72) → Int → Option ((List (S72)))
  | 0, _, _, _ => none
  | k + 1, x0, x3, x4 => if x4 < (x0.length : Int) then (if 0 ≤ x4 then ((laws_toOp.f ((rd_T90 x0 x4).f0) ((rd_T90 x0 x4).f1) ((rd_T90 x0 x4).f2) ((rd_T90 x0 x4).f3) ((rd_T90 x0 x4).f4) ((rd_T90 x0 x4).f5) ((rd_T90 x0 x4).f6)).bind fun bt384 => (if x4 < (x3.length : Int) then (laws_toOpS.l0 k x0 (x3.set (x4 : Int).toNat (⟨bt384.1, bt384.2.1, bt384.2.2.1, bt384.2.2.2.1, bt384.2.2.2.2.1, bt384.2.2.2.2.2.1, bt384.2.2.2.2.2.2⟩ : S72)) (wrap64 (x4 + 1))) else (none))) else (none)) else (some x3)
def laws_toOpS.f (k : Nat) (l0 : List (S90)) : Option ((List (S72))) := if 0 ≤ (l0.length : Int) then (if ((l0.length : Int) : Int).toNat ≤ 3518437208883 then (laws_toOpS.l0 k l0 (List.replicate ((l0.length : Int) : Int).toNat z72) 0) else (none)) else (none)
set_option maxHeartbeats 8000000 in
set_option maxRecDepth 100000 in
theorem laws_toOpS.calls (k : Nat) (A0 : Option Addr) (c0 : Nat) (l0 : List (S90)) (r : List (S72)) (w : World) (hr0 : Kd.C k90 w A0 l0.length l0) (hc0 : l0.length ≤ c0) (h : laws_toOpS.f k l0 = some r) :
    Calls Try.prog 32 #[.slice A0 l0.length c0] w fun e w' => ∃ v0_ : Value, e = .returned (v0_) ∧ Kd.R k72 72 w' w.heap.size (fun _ => True) v0_ r ∧ Below w.heap.size w w' := by
  have hu90 := Try.underlying90
  have hu72 := Try.underlying72
  have HR0 := Aside0.mk hr0
  have HC0 := Aside0.mk hc0
  clear hr0 hc0
  have HB := Aside0.mk (Below.refl w.heap.size w)
  have H : (if 0 ≤ (l0.length : Int) then (if ((l0.length : Int) : Int).toNat ≤ 3518437208883 then (laws_toOpS.l0 k l0 (List.replicate ((l0.length : Int) : Int).toNat z72) 0) else (none)) else (none)) = some r := h
  clear h
  by_cases c2 : 0 ≤ (l0.length : Int)
  · rw [if_pos c2] at H
    have c2b0 := eq_true c2
    have c2b1 : decide (0 ≤ (l0.length : Int)) = true := decide_eq_true c2
    clear c2
    by_cases c3 : ((l0.length : Int) : Int).toNat ≤ 3518437208883
    · rw [if_pos c3] at H
      have c3b0 := eq_true c3
      have c3b1 : decide (((l0.length : Int) : Int).toNat ≤ 3518437208883) = true := decide_eq_true c3
      clear c3
      obtain ⟨y380, hy380⟩ : ∃ y_ : List (S72), y_ = (List.replicate ((l0.length : Int) : Int).toNat z72) := ⟨_, rfl⟩
      replace H : (laws_toOpS.l0 k l0 y380 0) = some r := by first | (rw [hy380]; with_reducible exact H) | (have H2_ := (Option.bind_some _ _).symm.trans H; rw [hy380]; with_reducible exact H2_) | (have H2_ := (Option.bind_some _ _).symm.trans H; with_reducible exact H2_) | with_reducible exact H | (rw [hy380]; exact H) | exact H
      have Ny380 := Aside0.mk hy380
      clear hy380
      have H' := Aside0.mk H
      clear H
      go_enter Try.func32, Try.ntmps32
      go_wp2_with (first | ((with_reducible refine gate_dst (N := 7) rfl ?_); refine Kd.R_make k72 _ 72 rfl (N := 7) rfl 34 _ _ rfl (l0.length : Int) rfl rfl Try.underlying34 (.agg #[(.int .i64 0), (.int .i64 0), (.string ⟨#[]⟩), (.int .i64 0), (.string ⟨#[]⟩), (.int .i64 0), (.string ⟨#[]⟩)]) 80 info72 rfl (by decide) (by omega) z72 (ok := fun _ => True) (okp := fun _ => True) (k72_mkM _ _ _ z72 ) (fun _ hk => hk) trivial (of_decide_eq_true (by first | (with_reducible assumption) | assumption)) (Nat.le_trans (Nat.mul_le_mul_right _ (of_decide_eq_true (by first | (with_reducible assumption) | assumption) : (l0.length : Int).toNat ≤ 3518437208883)) (by omega)) (Below.refl _ _) (Nat.le_refl _) ?_; intro v381 w4 ho5 hb hg_ hnew_; clear hg_ hnew_; (first | rw [← Ny380.out] at ho5 | (simp only [Int.reduceToNat] at ho5; rw [← Ny380.out] at ho5)); have n0_ := Aside0.mk (Kd.R_lower ho5 (below_size (by repeat (first | (with_reducible first | exact HB.out | apply below_alloc | apply pw_below_drewN | apply below_drew1) | exact HB.out)))); have n1_ := Aside0.mk (below_step (by repeat (first | (with_reducible first | exact HB.out | apply below_alloc | apply pw_below_drewN | apply below_drew1) | exact HB.out)) hb); clear HB; have HO382 := n0_; have HB := n1_; clear n0_ n1_; clear hb ho5))
      go_loopg [4] k (fun kq v4 w' => ∃ (x3_1 : List (S72)) (x4_1 : Int), v4 = .int .i64 x4_1 ∧ Aside0 (laws_toOpS.l0 kq l0 x3_1 x4_1 = some r) ∧ Aside0 (kq ≤ k) ∧ Aside0 (Kd.R k72 72 w' w.heap.size (fun _ => True) v381 x3_1) ∧ Aside0 (Below w.heap.size w w'))
      case atStart => exact ⟨(y380), (0), (by first | rfl | (simp; done) | (simp [*]; done)), H', ⟨Nat.le_refl _⟩, ⟨by (with_reducible repeat (first | apply Kd.R_alloc | apply Kd.R_drewN | apply Kd.R_drew)); exact HO382.out⟩, ⟨by repeat (first | (with_reducible first | exact HB.out | apply below_alloc | apply pw_below_drewN | apply below_drew1) | exact HB.out)⟩⟩
      case round =>
        clear H'
        try clear c2
        try clear c2b0
        try clear c2b1
        try clear p2
        try clear c3
        try clear c3b0
        try clear c3b1
        obtain ⟨x3_1, x4_1, rfl, HA, HK1, HO_3, HB⟩ := hrel
        cases gk with
        | zero => exact absurd HA.out (by simp [laws_toOpS.l0])
        | succ k1 =>
          have H := HA.out
          clear HA
          simp only [laws_toOpS.l0] at H
          by_cases c6 : x4_1 < (l0.length : Int)
          · rw [if_pos c6] at H
            have c6b0 : decide (x4_1 < (l0.length : Int)) = true := decide_eq_true c6
            clear c6
            by_cases c7 : 0 ≤ x4_1
            · rw [if_pos c7] at H
              have c7b0 : decide (0 ≤ x4_1) = true := decide_eq_true c7
              clear c7
              replace H := Option.bind_eq_some_iff.mp H
              obtain ⟨⟨t384, t385, t386, t387, t388, t389, t390⟩, A80, H⟩ := H
              replace H : (if x4_1 < (x3_1.length : Int) then (laws_toOpS.l0 k1 l0 (x3_1.set (x4_1 : Int).toNat (⟨t384, t385, t386, t387, t388, t389, t390⟩ : S72)) (wrap64 (x4_1 + 1))) else (none)) = some r := H
              have A8 := Aside0.mk A80
              clear A80
              by_cases c9 : x4_1 < (x3_1.length : Int)
              · rw [if_pos c9] at H
                have c9b0 : decide (x4_1 < (x3_1.length : Int)) = true := decide_eq_true c9
                clear c9
                obtain ⟨y391, hy391⟩ : ∃ y_ : List (S72), y_ = (x3_1.set (x4_1 : Int).toNat (⟨t384, t385, t386, t387, t388, t389, t390⟩ : S72)) := ⟨_, rfl⟩
                replace H : (laws_toOpS.l0 k1 l0 y391 (wrap64 (x4_1 + 1))) = some r := by first | (rw [hy391]; with_reducible exact H) | (have H2_ := (Option.bind_some _ _).symm.trans H; rw [hy391]; with_reducible exact H2_) | (have H2_ := (Option.bind_some _ _).symm.trans H; with_reducible exact H2_) | with_reducible exact H | (rw [hy391]; exact H) | exact H
                have Ny391 := Aside0.mk hy391
                clear hy391
                have H' := Aside0.mk H
                clear H
                have p383 : 0 ≤ (x4_1 : Int) := of_decide_eq_true (by first | (with_reducible assumption) | assumption)
                have q383 : x4_1 < (l0.length : Int) := of_decide_eq_true (by first | (with_reducible assumption) | assumption)
                obtain ⟨ad383, e383, hx383_0, hx383_1, hx383_2, hx383_3, hx383_4, hx383_5, hx383_6⟩ := at_T90 HR0.out x4_1 p383 q383
                cases e383
                replace hx383_0 := (HB.out.cell (World.block_lt_of_cell? w _ hx383_0)).trans hx383_0
                replace hx383_1 := (HB.out.cell (World.block_lt_of_cell? w _ hx383_1)).trans hx383_1
                replace hx383_2 := (HB.out.cell (World.block_lt_of_cell? w _ hx383_2)).trans hx383_2
                replace hx383_3 := (HB.out.cell (World.block_lt_of_cell? w _ hx383_3)).trans hx383_3
                replace hx383_4 := (HB.out.cell (World.block_lt_of_cell? w _ hx383_4)).trans hx383_4
                replace hx383_5 := (HB.out.cell (World.block_lt_of_cell? w _ hx383_5)).trans hx383_5
                replace hx383_6 := (HB.out.cell (World.block_lt_of_cell? w _ hx383_6)).trans hx383_6
                replace p383 := eq_true p383
                replace q383 := eq_true q383
                go_wp2_with (first | ((with_reducible refine gate_callee (f := 81) rfl ?_); refine goesL_ (some 20) rfl rfl Try.func81 (by kernel_rfl) rfl #[.agg #[.int .i64 ((rd_T90 l0 x4_1).f0), .int .i64 ((rd_T90 l0 x4_1).f1), .string ((rd_T90 l0 x4_1).f2), .int .i64 ((rd_T90 l0 x4_1).f3), .string ((rd_T90 l0 x4_1).f4), .int .i64 ((rd_T90 l0 x4_1).f5), .string ((rd_T90 l0 x4_1).f6)]] rfl (by (try simp only [List.map_toArray, List.map_cons, List.map_nil]); first | done | rfl | (simp only [List.length_drop, List.length_take]; rfl)) ?_; (with_reducible refine (laws_toOp.calls ((rd_T90 l0 x4_1).f0) ((rd_T90 l0 x4_1).f1) ((rd_T90 l0 x4_1).f2) ((rd_T90 l0 x4_1).f3) ((rd_T90 l0 x4_1).f4) ((rd_T90 l0 x4_1).f5) ((rd_T90 l0 x4_1).f6) t384 t385 t386 t387 t388 t389 t390 _ A8.out).mono ?_); rintro e w11 ⟨rfl, hb⟩; refine ⟨_, rfl, ?_⟩; have n0_ := Aside0.mk (Kd.R_below (by (with_reducible repeat (first | apply Kd.R_alloc | apply Kd.R_drewN | apply Kd.R_drew)); exact HO_3.out) hb); have n1_ := Aside0.mk (below_step (by repeat (first | (with_reducible first | exact HB.out | apply below_alloc | apply pw_below_drewN | apply below_drew1) | exact HB.out)) hb); clear HO_3; clear HB; have HO_3 := n0_; have HB := n1_; clear n0_ n1_; (try clear hb); (try clear hb2); (try clear hk); (try clear hi); have p10 : 0 ≤ (x4_1 : Int) := of_decide_eq_true (by first | (with_reducible assumption) | assumption); have q10 : (x4_1 : Int) < ((x3_1.length : Int) : Int) := of_decide_eq_true (by first | (with_reducible assumption) | assumption); obtain ⟨go10, co10, eo10, gb10, gl10, cl10, HG10⟩ := Kd.R_form HO_3.out (by omega); (first | cases eo10 | (injection eo10 with ea_ en_ ec_; (first | subst ea_ | (injection ea_ with ea_; subst ea_)); subst ec_; clear en_)); have GB10 := Aside0.mk gb10; have GG10 := Aside0.mk HG10; clear gb10 gl10 HG10; obtain ⟨ce10, hcl10, hM10, hcc10, hfr10⟩ := Kd.R_elem HO_3.out z72 (x4_1 : Int) p10 q10; obtain rfl := k72_openM hM10; have hx10_0 : w11.cell? ⟨go10, (x4_1 : Int).toNat * 7, none⟩ = some (.int .i64 ((rd_T72 x3_1 x4_1).f0)) := hcc10 0 _ rfl; have hx10_1 : w11.cell? ⟨go10, (x4_1 : Int).toNat * 7 + 1, none⟩ = some (.int .i64 ((rd_T72 x3_1 x4_1).f1)) := hcc10 1 _ rfl; have hx10_2 : w11.cell? ⟨go10, (x4_1 : Int).toNat * 7 + 2, none⟩ = some (.string ((rd_T72 x3_1 x4_1).f2)) := hcc10 2 _ rfl; have hx10_3 : w11.cell? ⟨go10, (x4_1 : Int).toNat * 7 + 3, none⟩ = some (.int .i64 ((rd_T72 x3_1 x4_1).f3)) := hcc10 3 _ rfl; have hx10_4 : w11.cell? ⟨go10, (x4_1 : Int).toNat * 7 + 4, none⟩ = some (.string ((rd_T72 x3_1 x4_1).f4)) := hcc10 4 _ rfl; have hx10_5 : w11.cell? ⟨go10, (x4_1 : Int).toNat * 7 + 5, none⟩ = some (.int .i64 ((rd_T72 x3_1 x4_1).f5)) := hcc10 5 _ rfl; have hx10_6 : w11.cell? ⟨go10, (x4_1 : Int).toNat * 7 + 6, none⟩ = some (.string ((rd_T72 x3_1 x4_1).f6)) := hcc10 6 _ rfl; have hf10_0 : w11.frozen? ⟨go10, (x4_1 : Int).toNat * 7, none⟩ = false := hfr10 0; have hf10_1 : w11.frozen? ⟨go10, (x4_1 : Int).toNat * 7 + 1, none⟩ = false := hfr10 1; have hf10_2 : w11.frozen? ⟨go10, (x4_1 : Int).toNat * 7 + 2, none⟩ = false := hfr10 2; have hf10_3 : w11.frozen? ⟨go10, (x4_1 : Int).toNat * 7 + 3, none⟩ = false := hfr10 3; have hf10_4 : w11.frozen? ⟨go10, (x4_1 : Int).toNat * 7 + 4, none⟩ = false := hfr10 4; have hf10_5 : w11.frozen? ⟨go10, (x4_1 : Int).toNat * 7 + 5, none⟩ = false := hfr10 5; have hf10_6 : w11.frozen? ⟨go10, (x4_1 : Int).toNat * 7 + 6, none⟩ = false := hfr10 6; clear hcl10 hcc10 hfr10 hM10; replace p10 := eq_true p10; replace q10 := eq_true q10; have HX12 := Aside0.mk (show Kd.R k72 72 w11 w.heap.size (fun _ => True) (.slice (some ⟨go10, 0, none⟩) x3_1.length co10) x3_1 from (by (with_reducible repeat (first | apply Kd.R_alloc | apply Kd.R_drewN | apply Kd.R_drew)); exact HO_3.out)); obtain ⟨ce12, hcl12, hM12, hcc12, hfr12⟩ := Kd.R_elem HX12.out z72 (x4_1 : Int) (of_decide_eq_true (by first | (with_reducible assumption) | assumption)) (by have h_ : (x4_1 : Int) < ((x3_1.length : Int) : Int) := of_decide_eq_true (by first | (with_reducible assumption) | assumption); first | exact h_ | (have e_ := (Kd.R_reads' HO_3.out).1; omega) | simpa using h_); obtain rfl := k72_openM hM12; have HP12 := Kd.R_seg HX12.out (x4_1 : Int) (of_decide_eq_true (by first | (with_reducible assumption) | assumption)) (by have h_ : (x4_1 : Int) < ((x3_1.length : Int) : Int) := of_decide_eq_true (by first | (with_reducible assumption) | assumption); first | exact h_ | (have e_ := (Kd.R_reads' HO_3.out).1; omega) | simpa using h_) (seg := [.int .i64 t384, .int .i64 t385, .string t386, .int .i64 t387, .string t388, .int .i64 t389, .string t390]) (j := 0) hcl12 hcc12 (show 7 ≤ 7 from by decide) (x' := (⟨t384, t385, t386, t387, t388, t389, t390⟩ : S72)) (k72_mkM _ _ _ (⟨t384, t385, t386, t387, t388, t389, t390⟩ : S72) ) (fun _ hk => hk); have hx12_0 := hcc12 0 _ rfl; (try simp only [show (k72).sz = 7 from rfl, Nat.mul_one, Nat.add_zero] at hx12_0); have hf12_0 := hfr12 0; (try simp only [show (k72).sz = 7 from rfl, Nat.mul_one, Nat.add_zero] at hf12_0); have hx12_1 := hcc12 1 _ rfl; (try simp only [show (k72).sz = 7 from rfl, Nat.mul_one, Nat.add_zero] at hx12_1); have hf12_1 := hfr12 1; (try simp only [show (k72).sz = 7 from rfl, Nat.mul_one, Nat.add_zero] at hf12_1); have hx12_2 := hcc12 2 _ rfl; (try simp only [show (k72).sz = 7 from rfl, Nat.mul_one, Nat.add_zero] at hx12_2); have hf12_2 := hfr12 2; (try simp only [show (k72).sz = 7 from rfl, Nat.mul_one, Nat.add_zero] at hf12_2); have hx12_3 := hcc12 3 _ rfl; (try simp only [show (k72).sz = 7 from rfl, Nat.mul_one, Nat.add_zero] at hx12_3); have hf12_3 := hfr12 3; (try simp only [show (k72).sz = 7 from rfl, Nat.mul_one, Nat.add_zero] at hf12_3); have hx12_4 := hcc12 4 _ rfl; (try simp only [show (k72).sz = 7 from rfl, Nat.mul_one, Nat.add_zero] at hx12_4); have hf12_4 := hfr12 4; (try simp only [show (k72).sz = 7 from rfl, Nat.mul_one, Nat.add_zero] at hf12_4); have hx12_5 := hcc12 5 _ rfl; (try simp only [show (k72).sz = 7 from rfl, Nat.mul_one, Nat.add_zero] at hx12_5); have hf12_5 := hfr12 5; (try simp only [show (k72).sz = 7 from rfl, Nat.mul_one, Nat.add_zero] at hf12_5); have hx12_6 := hcc12 6 _ rfl; (try simp only [show (k72).sz = 7 from rfl, Nat.mul_one, Nat.add_zero] at hx12_6); have hf12_6 := hfr12 6; (try simp only [show (k72).sz = 7 from rfl, Nat.mul_one, Nat.add_zero] at hf12_6); clear hcl12 hcc12 hfr12 hM12) | ((with_reducible refine gate_store (t := 72) (p := 21) rfl ?_); refine store_event (t := 72) (p := 21) (v := ?vo_w13) (w1 := (((((((w11.setCell ⟨go10, (x4_1 : Int).toNat * 7, none⟩ (.int .i64 t384)).setCell ⟨go10, (x4_1 : Int).toNat * 7 + 1, none⟩ (.int .i64 t385)).setCell ⟨go10, (x4_1 : Int).toNat * 7 + 2, none⟩ (.string t386)).setCell ⟨go10, (x4_1 : Int).toNat * 7 + 3, none⟩ (.int .i64 t387)).setCell ⟨go10, (x4_1 : Int).toNat * 7 + 4, none⟩ (.string t388)).setCell ⟨go10, (x4_1 : Int).toNat * 7 + 5, none⟩ (.int .i64 t389)).setCell ⟨go10, (x4_1 : Int).toNat * 7 + 6, none⟩ (.string t390))) ?hg ?ho ?hn ?hr ?_; (case ho => rfl); (case hg => rfl); (case hn => rfl); (case hr => first | (go_simp; done) | (go_simp; rfl)); intro w13 hw; have hg : w11.grownBy w13 (some go10) := (by rw [hw]; exact HP12.2); have hp_ : Kd.R k72 72 w13 w.heap.size (fun _ => True) (.slice (some ⟨go10, 0, none⟩) x3_1.length co10) y391 := (by rw [hw, Ny391.out]; exact HP12.1); clear HP12; have n0_ := Aside0.mk (hp_); have n1_ := Aside0.mk ((by rw [hw]; exact below_set (below_set (below_set (below_set (below_set (below_set (below_set (HB.out) GB10.out) GB10.out) GB10.out) GB10.out) GB10.out) GB10.out) GB10.out : Below w.heap.size w w13)); clear HO_3; clear HB; have HO_3 := n0_; have HB := n1_; clear n0_ n1_; clear hg hw hp_))
                go_roundg k1
                case measure => have := HK1.out; omega
                case rel => exact ⟨(y391), (wrap64 (x4_1 + 1)), (by first | rfl | (simp; done) | (simp [*]; done)), H', ⟨by have := HK1.out; omega⟩, ⟨by (with_reducible repeat (first | apply Kd.R_alloc | apply Kd.R_drewN | apply Kd.R_drew)); exact HO_3.out⟩, ⟨by repeat (first | (with_reducible first | exact HB.out | apply below_alloc | apply pw_below_drewN | apply below_drew1) | exact HB.out)⟩⟩
              · rw [if_neg c9] at H
                exact absurd H (by simp)
            · rw [if_neg c7] at H
              exact absurd H (by simp)
          · rw [if_neg c6] at H
            have c6b0 : decide (x4_1 < (l0.length : Int)) = false := decide_eq_false c6
            clear c6
            obtain rfl := Option.some.inj H
            go_wp2
            go_ret
            exact ⟨_, by first | rfl | (simp [errW_none, errW_some] <;> rfl) | (simp [*, errW_none, errW_some] <;> rfl), by (with_reducible repeat (first | apply Kd.R_alloc | apply Kd.R_drewN | apply Kd.R_drew)); exact HO_3.out, by repeat (first | (with_reducible first | exact HB.out | apply below_alloc | apply pw_below_drewN | apply below_drew1) | exact HB.out)⟩
    · rw [if_neg c3] at H
      exact absurd H (by simp)
  · rw [if_neg c2] at H
    exact absurd H (by simp)
end Go.Proofs.Ytjcpkplneflleaa.Q
namespace Go.Proofs.Ytjcpkplneflleaa.Q
open Go.RowKit Go.Proofs.YtjcpkplneflleaaW.PrintWords Go.Proofs.YtjcpkplneflleaaW.PrintLast Go.Proofs.YtjcpkplneflleaaW.PrintMore
attribute [local go_sem] max2_int min2_int max_two min_two max_three min_three max_four min_four   -- for this text's walks alone
set_option linter.unusedVariables false
set_option linter.unusedSimpArgs false
def laws_toBase.f (a0_0 : Int) (a0_1 : Int) : Option (Int × Int) := some (a0_0, a0_1)
set_option maxHeartbeats 8000000 in
set_option maxRecDepth 100000 in
theorem laws_toBase.calls (a0_0 : Int) (a0_1 : Int) (r1 : Int) (r2 : Int) (w : World) (h : laws_toBase.f a0_0 a0_1 = some (r1, r2)) :
    Calls Try.prog 163 #[.agg #[.int .i64 a0_0, .int .i64 a0_1]] w fun e w' => e = .returned (.agg #[.int .i64 r1, .int .i64 r2]) ∧ Below w.heap.size w w' := by
  have hu152 := Try.underlying152
  have hu115 := Try.underlying115
  have HB := Aside0.mk (Below.refl w.heap.size w)
  have H : (some (a0_0, a0_1)) = some (r1, r2) := h
  clear h
  simp only [Option.some.injEq, Prod.mk.injEq] at H
  obtain ⟨rfl, rfl⟩ := H
  go_enter Try.func163, Try.ntmps163
  go_wp2_with (first | ((with_reducible refine gate_dst (N := 1) rfl ?_); refine box_event ?hg (N := 1) ?hd (cs := #[.int .i64 a0_0, .int .i64 a0_1]) (t := 152) ?hr ?_; (case hd => rfl); (case hg => rfl); (case hr => first | (go_simp; done) | (go_simp; rfl)); intro gb810 hg w2 hbox hb; have n0_ := Aside0.mk (below_step (by repeat (first | (with_reducible first | exact HB.out | apply below_alloc | apply pw_below_drewN | apply below_drew1) | exact HB.out)) hb); have n1_ := Aside0.mk (hbox); have n2_ := Aside0.mk ((by rw [hg]; exact (below_size (by repeat (first | (with_reducible first | exact HB.out | apply below_alloc | apply pw_below_drewN | apply below_drew1) | exact HB.out))) : w.heap.size ≤ gb810)); have n3_ := Aside0.mk ((by rw [hg]; exact (below_size (by repeat (first | (with_reducible first | exact HB.out | apply below_alloc | apply pw_below_drewN | apply below_drew1) | exact HB.out))) : w.heap.size ≤ gb810)); clear HB; have HB := n0_; have BK810 := n1_; have GW810 := n2_; have GE810 := n3_; clear n0_ n1_ n2_ n3_; clear hb hbox hg) | ((with_reducible refine gate_dst (N := 2) rfl ?_); refine box_event ?hg (N := 2) ?hd (cs := #[.int .i64 0, .int .i64 0]) (t := 115) ?hr ?_; (case hd => rfl); (case hg => rfl); (case hr => first | (go_simp; done) | (go_simp; rfl)); intro gb811 hg w3 hbox hb; have n0_ := Aside0.mk (blk_below (g := gb810) (o := .cells #[.int .i64 a0_0, .int .i64 a0_1] 152 (0, 0)) (by (with_reducible repeat (first | refine blk_drewN ?_ _ | refine blk_drew ?_ | refine blk_alloc ?_ _)); exact BK810.out) hb); have n1_ := Aside0.mk (below_step (by repeat (first | (with_reducible first | exact HB.out | apply below_alloc | apply pw_below_drewN | apply below_drew1 | refine below_set ?_ GE810.out) | exact HB.out)) hb); have n2_ := Aside0.mk (hbox); have n3_ := Aside0.mk ((by rw [hg]; exact (below_size (by repeat (first | (with_reducible first | exact HB.out | apply below_alloc | apply pw_below_drewN | apply below_drew1 | refine below_set ?_ GE810.out) | exact HB.out))) : w.heap.size ≤ gb811)); have n4_ := Aside0.mk ((by rw [hg]; exact (below_size (by repeat (first | (with_reducible first | exact HB.out | apply below_alloc | apply pw_below_drewN | apply below_drew1 | refine below_set ?_ GE810.out) | exact HB.out))) : w.heap.size ≤ gb811)); have n5_ := Aside0.mk ((by rw [hg]; exact Nat.ne_of_lt (blk_lt (g := gb810) (o := .cells #[.int .i64 a0_0, .int .i64 a0_1] 152 (0, 0)) (by (with_reducible repeat (first | refine blk_drewN ?_ _ | refine blk_drew ?_ | refine blk_alloc ?_ _)); exact BK810.out)) : gb810 ≠ gb811)); have n6_ := Aside0.mk ((by rw [hg]; exact Nat.ne_of_gt (blk_lt (g := gb810) (o := .cells #[.int .i64 a0_0, .int .i64 a0_1] 152 (0, 0)) (by (with_reducible repeat (first | refine blk_drewN ?_ _ | refine blk_drew ?_ | refine blk_alloc ?_ _)); exact BK810.out)) : gb811 ≠ gb810)); clear BK810; clear HB; have BK810 := n0_; have HB := n1_; have BK811 := n2_; have GW811 := n3_; have GE811 := n4_; have NB810_811 := n5_; have NB811_810 := n6_; clear n0_ n1_ n2_ n3_ n4_ n5_ n6_; clear hb hbox hg) | ((with_reducible refine gate_dst (N := 3) rfl ?_); refine box_event ?hg (N := 3) ?hd (cs := #[.int .i64 0, .int .i64 0]) (t := 115) ?hr ?_; (case hd => rfl); (case hg => rfl); (case hr => first | (go_simp; done) | (go_simp; rfl)); intro gb812 hg w4 hbox hb; have n0_ := Aside0.mk (blk_below (g := gb810) (o := .cells #[.int .i64 a0_0, .int .i64 a0_1] 152 (0, 0)) (by (with_reducible repeat (first | refine blk_drewN ?_ _ | refine blk_drew ?_ | refine blk_alloc ?_ _)); exact BK810.out) hb); have n1_ := Aside0.mk (blk_below (g := gb811) (o := .cells #[.int .i64 0, .int .i64 0] 115 (0, 0)) (by (with_reducible repeat (first | refine blk_drewN ?_ _ | refine blk_drew ?_ | refine blk_alloc ?_ _)); exact BK811.out) hb); have n2_ := Aside0.mk (below_step (by repeat (first | (with_reducible first | exact HB.out | apply below_alloc | apply pw_below_drewN | apply below_drew1 | refine below_set ?_ GE810.out | refine below_set ?_ GE811.out) | exact HB.out)) hb); have n3_ := Aside0.mk (hbox); have n4_ := Aside0.mk ((by rw [hg]; exact (below_size (by repeat (first | (with_reducible first | exact HB.out | apply below_alloc | apply pw_below_drewN | apply below_drew1 | refine below_set ?_ GE810.out | refine below_set ?_ GE811.out) | exact HB.out))) : w.heap.size ≤ gb812)); have n5_ := Aside0.mk ((by rw [hg]; exact (below_size (by repeat (first | (with_reducible first | exact HB.out | apply below_alloc | apply pw_below_drewN | apply below_drew1 | refine below_set ?_ GE810.out | refine below_set ?_ GE811.out) | exact HB.out))) : w.heap.size ≤ gb812)); have n6_ := Aside0.mk ((by rw [hg]; exact Nat.ne_of_lt (blk_lt (g := gb810) (o := .cells #[.int .i64 a0_0, .int .i64 a0_1] 152 (0, 0)) (by (with_reducible repeat (first | refine blk_drewN ?_ _ | refine blk_drew ?_ | refine blk_alloc ?_ _)); exact BK810.out)) : gb810 ≠ gb812)); have n7_ := Aside0.mk ((by rw [hg]; exact Nat.ne_of_gt (blk_lt (g := gb810) (o := .cells #[.int .i64 a0_0, .int .i64 a0_1] 152 (0, 0)) (by (with_reducible repeat (first | refine blk_drewN ?_ _ | refine blk_drew ?_ | refine blk_alloc ?_ _)); exact BK810.out)) : gb812 ≠ gb810)); have n8_ := Aside0.mk ((by rw [hg]; exact Nat.ne_of_lt (blk_lt (g := gb811) (o := .cells #[.int .i64 0, .int .i64 0] 115 (0, 0)) (by (with_reducible repeat (first | refine blk_drewN ?_ _ | refine blk_drew ?_ | refine blk_alloc ?_ _)); exact BK811.out)) : gb811 ≠ gb812)); have n9_ := Aside0.mk ((by rw [hg]; exact Nat.ne_of_gt (blk_lt (g := gb811) (o := .cells #[.int .i64 0, .int .i64 0] 115 (0, 0)) (by (with_reducible repeat (first | refine blk_drewN ?_ _ | refine blk_drew ?_ | refine blk_alloc ?_ _)); exact BK811.out)) : gb812 ≠ gb811)); clear BK810; clear BK811; clear HB; have BK810 := n0_; have BK811 := n1_; have HB := n2_; have BK812 := n3_; have GW812 := n4_; have GE812 := n5_; have NB810_812 := n6_; have NB812_810 := n7_; have NB811_812 := n8_; have NB812_811 := n9_; clear n0_ n1_ n2_ n3_ n4_ n5_ n6_ n7_ n8_ n9_; clear hb hbox hg; have hnb5 := NB810_811.out; have hnc5 := NB811_810.out; have hnb6 := NB810_812.out; have hnc6 := NB812_810.out; have hcz7_0 : w4.cell? ⟨gb810, 0, none⟩ = some (.int .i64 a0_0) := (blk_cell BK810.out 0).trans rfl; have hcz7_1 : w4.cell? ⟨gb810, 1, none⟩ = some (.int .i64 a0_1) := (blk_cell BK810.out 1).trans rfl; have hfz7_0 := blk_frozen BK810.out 0; have hfz7_1 := blk_frozen BK810.out 1; have hnb8 := NB812_811.out; have hnc8 := NB811_812.out; have hcz9_0 : w4.cell? ⟨gb812, 0, none⟩ = some (.int .i64 0) := (blk_cell BK812.out 0).trans rfl; have hcz9_1 : w4.cell? ⟨gb812, 1, none⟩ = some (.int .i64 0) := (blk_cell BK812.out 1).trans rfl; have hfz9_0 := blk_frozen BK812.out 0; have hfz9_1 := blk_frozen BK812.out 1; have hcz10_0 : w4.cell? ⟨gb811, 0, none⟩ = some (.int .i64 0) := (blk_cell BK811.out 0).trans rfl; have hcz10_1 : w4.cell? ⟨gb811, 1, none⟩ = some (.int .i64 0) := (blk_cell BK811.out 1).trans rfl; have hfz10_0 := blk_frozen BK811.out 0; have hfz10_1 := blk_frozen BK811.out 1))
  refine bodyPost_ret (results_cell_row rfl _ _ gb811 115 #[.int .i64 a0_0, .int .i64 a0_1] (0, 0) _ rfl (by (with_reducible repeat (first | refine blk_drewN ?_ _ | refine blk_drew ?_ | refine blk_alloc ?_ _)); refine blk_put (cs := #[.int .i64 a0_0, .int .i64 0]) ?_ 1 _ rfl; (with_reducible repeat (first | refine blk_drewN ?_ _ | refine blk_drew ?_ | refine blk_alloc ?_ _)); refine blk_put (cs := #[.int .i64 0, .int .i64 0]) ?_ 0 _ rfl; (with_reducible repeat (first | refine blk_drewN ?_ _ | refine blk_drew ?_ | refine blk_alloc ?_ _)); refine blk_far ?_ NB811_812.out _; (with_reducible repeat (first | refine blk_drewN ?_ _ | refine blk_drew ?_ | refine blk_alloc ?_ _)); refine blk_far ?_ NB811_812.out _; (with_reducible repeat (first | refine blk_drewN ?_ _ | refine blk_drew ?_ | refine blk_alloc ?_ _)); exact BK811.out) Try.underlying115 rfl (by kernel_rfl)) rfl ?_
  exact ⟨by first | rfl | (simp [errW_none, errW_some] <;> rfl) | (simp [*, errW_none, errW_some] <;> rfl), by repeat (first | (with_reducible first | exact HB.out | apply below_alloc | apply pw_below_drewN | apply below_drew1 | refine below_set ?_ GE810.out | refine below_set ?_ GE811.out | refine below_set ?_ GE812.out) | exact HB.out)⟩
end Go.Proofs.Ytjcpkplneflleaa.Q
namespace Go.Proofs.Ytjcpkplneflleaa.Q
open Go.RowKit Go.Proofs.YtjcpkplneflleaaW.PrintWords Go.Proofs.YtjcpkplneflleaaW.PrintLast Go.Proofs.YtjcpkplneflleaaW.PrintMore
attribute [local go_sem] max2_int min2_int max_two min_two max_three min_three max_four min_four   -- for this text's walks alone
set_option linter.unusedVariables false
set_option linter.unusedSimpArgs false
def laws_toBaseS.l0 : Nat → List (S152) → List (S115) → Int → Option ((List (S115)))
  | 0, _, _, _ => none
  | k + 1, x0, x3, x4 => if x4 < (x0.length : Int) then (if 0 ≤ x4 then ((laws_toBase.f ((rd_T152 x0 x4).f0) ((rd_T152 x0 x4).f1)).bind fun bt817 => (if x4 < (x3.length : Int) then (laws_toBaseS.l0 k x0 (x3.set (x4 : Int).toNat (⟨bt817.1, bt817.2⟩ : S115)) (wrap64 (x4 + 1))) else (none))) else (none)) else (some x3)
def laws_toBaseS.f (k : Nat) (l0 : List (S152)) : Option ((List (S115))) := if 0 ≤ (l0.length : Int) then (if ((l0.length : Int) : Int).toNat ≤ 17592186044416 then (laws_toBaseS.l0 k l0 (List.replicate ((l0.length : Int) : Int).toNat z115) 0) else (none)) else (none)
set_option maxHeartbeats 8000000 in
set_option maxRecDepth 100000 in
theorem laws_toBaseS.calls (k : Nat) (A0 : Option Addr) (c0 : Nat) (l0 : List (S152)) (r : List (S115)) (w : World) (hr0 : Kd.C k152 w A0 l0.length l0) (hc0 : l0.length ≤ c0) (h : laws_toBaseS.f k l0 = some r) :
    Calls Try.prog 115 #[.slice A0 l0.length c0] w fun e w' => ∃ v0_ : Value, e = .returned (v0_) ∧ Kd.R k115 115 w' w.heap.size (fun _ => True) v0_ r ∧ Below w.heap.size w w' := by
  have hu152 := Try.underlying152
  have hu115 := Try.underlying115
  have HR0 := Aside0.mk hr0
  have HC0 := Aside0.mk hc0
  clear hr0 hc0
  have HB := Aside0.mk (Below.refl w.heap.size w)
  have H : (if 0 ≤ (l0.length : Int) then (if ((l0.length : Int) : Int).toNat ≤ 17592186044416 then (laws_toBaseS.l0 k l0 (List.replicate ((l0.length : Int) : Int).toNat z115) 0) else (none)) else (none)) = some r := h
  clear h
  by_cases c2 : 0 ≤ (l0.length : Int)
  · rw [if_pos c2] at H
    have c2b0 := eq_true c2
    have c2b1 : decide (0 ≤ (l0.length : Int)) = true := decide_eq_true c2
    clear c2
    by_cases c3 : ((l0.length : Int) : Int).toNat ≤ 17592186044416
    · rw [if_pos c3] at H
      have c3b0 := eq_true c3
      have c3b1 : decide (((l0.length : Int) : Int).toNat ≤ 17592186044416) = true := decide_eq_true c3
      clear c3
      obtain ⟨y813, hy813⟩ : ∃ y_ : List (S115), y_ = (List.replicate ((l0.length : Int) : Int).toNat z115) := ⟨_, rfl⟩
      replace H : (laws_toBaseS.l0 k l0 y813 0) = some r := by first | (rw [hy813]; with_reducible exact H) | (have H2_ := (Option.bind_some _ _).symm.trans H; rw [hy813]; with_reducible exact H2_) | (have H2_ := (Option.bind_some _ _).symm.trans H; with_reducible exact H2_) | with_reducible exact H | (rw [hy813]; exact H) | exact H
      have Ny813 := Aside0.mk hy813
      clear hy813
      have H' := Aside0.mk H
      clear H
      go_enter Try.func115, Try.ntmps115
      go_wp2_with (first | ((with_reducible refine gate_dst (N := 7) rfl ?_); refine Kd.R_make k115 _ 115 rfl (N := 7) rfl 56 _ _ rfl (l0.length : Int) rfl rfl Try.underlying56 (.agg #[(.int .i64 0), (.int .i64 0)]) 16 info115 rfl (by decide) (by omega) z115 (ok := fun _ => True) (okp := fun _ => True) (k115_mkM _ _ _ z115 ) (fun _ hk => hk) trivial (of_decide_eq_true (by first | (with_reducible assumption) | assumption)) (Nat.le_trans (Nat.mul_le_mul_right _ (of_decide_eq_true (by first | (with_reducible assumption) | assumption) : (l0.length : Int).toNat ≤ 17592186044416)) (by omega)) (Below.refl _ _) (Nat.le_refl _) ?_; intro v814 w4 ho5 hb hg_ hnew_; clear hg_ hnew_; (first | rw [← Ny813.out] at ho5 | (simp only [Int.reduceToNat] at ho5; rw [← Ny813.out] at ho5)); have n0_ := Aside0.mk (Kd.R_lower ho5 (below_size (by repeat (first | (with_reducible first | exact HB.out | apply below_alloc | apply pw_below_drewN | apply below_drew1) | exact HB.out)))); have n1_ := Aside0.mk (below_step (by repeat (first | (with_reducible first | exact HB.out | apply below_alloc | apply pw_below_drewN | apply below_drew1) | exact HB.out)) hb); clear HB; have HO815 := n0_; have HB := n1_; clear n0_ n1_; clear hb ho5))
      go_loopg [4] k (fun kq v4 w' => ∃ (x3_1 : List (S115)) (x4_1 : Int), v4 = .int .i64 x4_1 ∧ Aside0 (laws_toBaseS.l0 kq l0 x3_1 x4_1 = some r) ∧ Aside0 (kq ≤ k) ∧ Aside0 (Kd.R k115 115 w' w.heap.size (fun _ => True) v814 x3_1) ∧ Aside0 (Below w.heap.size w w'))
      case atStart => exact ⟨(y813), (0), (by first | rfl | (simp; done) | (simp [*]; done)), H', ⟨Nat.le_refl _⟩, ⟨by (with_reducible repeat (first | apply Kd.R_alloc | apply Kd.R_drewN | apply Kd.R_drew)); exact HO815.out⟩, ⟨by repeat (first | (with_reducible first | exact HB.out | apply below_alloc | apply pw_below_drewN | apply below_drew1) | exact HB.out)⟩⟩
      case round =>
        clear H'
        try clear c1
        try clear c2
        try clear c2b0
        try clear c2b1
        try clear p2
        try clear c3
        try clear c3b0
        try clear c3b1
        obtain ⟨x3_1, x4_1, rfl, HA, HK1, HO_3, HB⟩ := hrel
        cases gk with
        | zero => exact absurd HA.out (by simp [laws_toBaseS.l0])
        | succ k1 =>
          have H := HA.out
          clear HA
          simp only [laws_toBaseS.l0] at H
          by_cases c6 : x4_1 < (l0.length : Int)
          · rw [if_pos c6] at H
            have c6b0 : decide (x4_1 < (l0.length : Int)) = true := decide_eq_true c6
            clear c6
            by_cases c7 : 0 ≤ x4_1
            · rw [if_pos c7] at H
              have c7b0 : decide (0 ≤ x4_1) = true := decide_eq_true c7
              clear c7
              replace H := Option.bind_eq_some_iff.mp H
              obtain ⟨⟨t817, t818⟩, A80, H⟩ := H
              replace H : (if x4_1 < (x3_1.length : Int) then (laws_toBaseS.l0 k1 l0 (x3_1.set (x4_1 : Int).toNat (⟨t817, t818⟩ : S115)) (wrap64 (x4_1 + 1))) else (none)) = some r := H
              have A8 := Aside0.mk A80
              clear A80
              by_cases c9 : x4_1 < (x3_1.length : Int)
              · rw [if_pos c9] at H
                have c9b0 : decide (x4_1 < (x3_1.length : Int)) = true := decide_eq_true c9
                clear c9
                obtain ⟨y819, hy819⟩ : ∃ y_ : List (S115), y_ = (x3_1.set (x4_1 : Int).toNat (⟨t817, t818⟩ : S115)) := ⟨_, rfl⟩
                replace H : (laws_toBaseS.l0 k1 l0 y819 (wrap64 (x4_1 + 1))) = some r := by first | (rw [hy819]; with_reducible exact H) | (have H2_ := (Option.bind_some _ _).symm.trans H; rw [hy819]; with_reducible exact H2_) | (have H2_ := (Option.bind_some _ _).symm.trans H; with_reducible exact H2_) | with_reducible exact H | (rw [hy819]; exact H) | exact H
                have Ny819 := Aside0.mk hy819
                clear hy819
                have H' := Aside0.mk H
                clear H
                have p816 : 0 ≤ (x4_1 : Int) := of_decide_eq_true (by first | (with_reducible assumption) | assumption)
                have q816 : x4_1 < (l0.length : Int) := of_decide_eq_true (by first | (with_reducible assumption) | assumption)
                obtain ⟨ad816, e816, hx816_0, hx816_1⟩ := at_T152 HR0.out x4_1 p816 q816
                cases e816
                replace hx816_0 := (HB.out.cell (World.block_lt_of_cell? w _ hx816_0)).trans hx816_0
                replace hx816_1 := (HB.out.cell (World.block_lt_of_cell? w _ hx816_1)).trans hx816_1
                replace p816 := eq_true p816
                replace q816 := eq_true q816
                go_wp2_with (first | ((with_reducible refine gate_callee (f := 163) rfl ?_); refine goesL_ (some 20) rfl rfl Try.func163 (by kernel_rfl) rfl #[.agg #[.int .i64 ((rd_T152 l0 x4_1).f0), .int .i64 ((rd_T152 l0 x4_1).f1)]] rfl (by (try simp only [List.map_toArray, List.map_cons, List.map_nil]); first | done | rfl | (simp only [List.length_drop, List.length_take]; rfl)) ?_; (with_reducible refine (laws_toBase.calls ((rd_T152 l0 x4_1).f0) ((rd_T152 l0 x4_1).f1) t817 t818 _ A8.out).mono ?_); rintro e w11 ⟨rfl, hb⟩; refine ⟨_, rfl, ?_⟩; have n0_ := Aside0.mk (Kd.R_below (by (with_reducible repeat (first | apply Kd.R_alloc | apply Kd.R_drewN | apply Kd.R_drew)); exact HO_3.out) hb); have n1_ := Aside0.mk (below_step (by repeat (first | (with_reducible first | exact HB.out | apply below_alloc | apply pw_below_drewN | apply below_drew1) | exact HB.out)) hb); clear HO_3; clear HB; have HO_3 := n0_; have HB := n1_; clear n0_ n1_; (try clear hb); (try clear hb2); (try clear hk); (try clear hi); have p10 : 0 ≤ (x4_1 : Int) := of_decide_eq_true (by first | (with_reducible assumption) | assumption); have q10 : (x4_1 : Int) < ((x3_1.length : Int) : Int) := of_decide_eq_true (by first | (with_reducible assumption) | assumption); obtain ⟨go10, co10, eo10, gb10, gl10, cl10, HG10⟩ := Kd.R_form HO_3.out (by omega); (first | cases eo10 | (injection eo10 with ea_ en_ ec_; (first | subst ea_ | (injection ea_ with ea_; subst ea_)); subst ec_; clear en_)); have GB10 := Aside0.mk gb10; have GG10 := Aside0.mk HG10; clear gb10 gl10 HG10; obtain ⟨ce10, hcl10, hM10, hcc10, hfr10⟩ := Kd.R_elem HO_3.out z115 (x4_1 : Int) p10 q10; obtain rfl := k115_openM hM10; have hx10_0 : w11.cell? ⟨go10, (x4_1 : Int).toNat * 2, none⟩ = some (.int .i64 ((rd_T115 x3_1 x4_1).f0)) := hcc10 0 _ rfl; have hx10_1 : w11.cell? ⟨go10, (x4_1 : Int).toNat * 2 + 1, none⟩ = some (.int .i64 ((rd_T115 x3_1 x4_1).f1)) := hcc10 1 _ rfl; have hf10_0 : w11.frozen? ⟨go10, (x4_1 : Int).toNat * 2, none⟩ = false := hfr10 0; have hf10_1 : w11.frozen? ⟨go10, (x4_1 : Int).toNat * 2 + 1, none⟩ = false := hfr10 1; clear hcl10 hcc10 hfr10 hM10; replace p10 := eq_true p10; replace q10 := eq_true q10; have HX12 := Aside0.mk (show Kd.R k115 115 w11 w.heap.size (fun _ => True) (.slice (some ⟨go10, 0, none⟩) x3_1.length co10) x3_1 from (by (with_reducible repeat (first | apply Kd.R_alloc | apply Kd.R_drewN | apply Kd.R_drew)); exact HO_3.out)); obtain ⟨ce12, hcl12, hM12, hcc12, hfr12⟩ := Kd.R_elem HX12.out z115 (x4_1 : Int) (of_decide_eq_true (by first | (with_reducible assumption) | assumption)) (by have h_ : (x4_1 : Int) < ((x3_1.length : Int) : Int) := of_decide_eq_true (by first | (with_reducible assumption) | assumption); first | exact h_ | (have e_ := (Kd.R_reads' HO_3.out).1; omega) | simpa using h_); obtain rfl := k115_openM hM12; have HP12 := Kd.R_seg HX12.out (x4_1 : Int) (of_decide_eq_true (by first | (with_reducible assumption) | assumption)) (by have h_ : (x4_1 : Int) < ((x3_1.length : Int) : Int) := of_decide_eq_true (by first | (with_reducible assumption) | assumption); first | exact h_ | (have e_ := (Kd.R_reads' HO_3.out).1; omega) | simpa using h_) (seg := [.int .i64 t817, .int .i64 t818]) (j := 0) hcl12 hcc12 (show 2 ≤ 2 from by decide) (x' := (⟨t817, t818⟩ : S115)) (k115_mkM _ _ _ (⟨t817, t818⟩ : S115) ) (fun _ hk => hk); have hx12_0 := hcc12 0 _ rfl; (try simp only [show (k115).sz = 2 from rfl, Nat.mul_one, Nat.add_zero] at hx12_0); have hf12_0 := hfr12 0; (try simp only [show (k115).sz = 2 from rfl, Nat.mul_one, Nat.add_zero] at hf12_0); have hx12_1 := hcc12 1 _ rfl; (try simp only [show (k115).sz = 2 from rfl, Nat.mul_one, Nat.add_zero] at hx12_1); have hf12_1 := hfr12 1; (try simp only [show (k115).sz = 2 from rfl, Nat.mul_one, Nat.add_zero] at hf12_1); clear hcl12 hcc12 hfr12 hM12) | ((with_reducible refine gate_store (t := 115) (p := 21) rfl ?_); refine store_event (t := 115) (p := 21) (v := ?vo_w13) (w1 := ((w11.setCell ⟨go10, (x4_1 : Int).toNat * 2, none⟩ (.int .i64 t817)).setCell ⟨go10, (x4_1 : Int).toNat * 2 + 1, none⟩ (.int .i64 t818))) ?hg ?ho ?hn ?hr ?_; (case ho => rfl); (case hg => rfl); (case hn => rfl); (case hr => first | (go_simp; done) | (go_simp; rfl)); intro w13 hw; have hg : w11.grownBy w13 (some go10) := (by rw [hw]; exact HP12.2); have hp_ : Kd.R k115 115 w13 w.heap.size (fun _ => True) (.slice (some ⟨go10, 0, none⟩) x3_1.length co10) y819 := (by rw [hw, Ny819.out]; exact HP12.1); clear HP12; have n0_ := Aside0.mk (hp_); have n1_ := Aside0.mk ((by rw [hw]; exact below_set (below_set (HB.out) GB10.out) GB10.out : Below w.heap.size w w13)); clear HO_3; clear HB; have HO_3 := n0_; have HB := n1_; clear n0_ n1_; clear hg hw hp_))
                go_roundg k1
                case measure => have := HK1.out; omega
                case rel => exact ⟨(y819), (wrap64 (x4_1 + 1)), (by first | rfl | (simp; done) | (simp [*]; done)), H', ⟨by have := HK1.out; omega⟩, ⟨by (with_reducible repeat (first | apply Kd.R_alloc | apply Kd.R_drewN | apply Kd.R_drew)); exact HO_3.out⟩, ⟨by repeat (first | (with_reducible first | exact HB.out | apply below_alloc | apply pw_below_drewN | apply below_drew1) | exact HB.out)⟩⟩
              · rw [if_neg c9] at H
                exact absurd H (by simp)
            · rw [if_neg c7] at H
              exact absurd H (by simp)
          · rw [if_neg c6] at H
            have c6b0 : decide (x4_1 < (l0.length : Int)) = false := decide_eq_false c6
            clear c6
            obtain rfl := Option.some.inj H
            go_wp2
            go_ret
            exact ⟨_, by first | rfl | (simp [errW_none, errW_some] <;> rfl) | (simp [*, errW_none, errW_some] <;> rfl), by (with_reducible repeat (first | apply Kd.R_alloc | apply Kd.R_drewN | apply Kd.R_drew)); exact HO_3.out, by repeat (first | (with_reducible first | exact HB.out | apply below_alloc | apply pw_below_drewN | apply below_drew1) | exact HB.out)⟩
    · rw [if_neg c3] at H
      exact absurd H (by simp)
  · rw [if_neg c2] at H
    exact absurd H (by simp)
end Go.Proofs.Ytjcpkplneflleaa.Q
namespace Go.Proofs.Ytjcpkplneflleaa.Q
open Go.RowKit Go.Proofs.YtjcpkplneflleaaW.PrintWords Go.Proofs.YtjcpkplneflleaaW.PrintLast Go.Proofs.YtjcpkplneflleaaW.PrintMore
attribute [local go_sem] max2_int min2_int max_two min_two max_three min_three max_four min_four   -- for this text's walks alone
set_option linter.unusedVariables false
set_option linter.unusedSimpArgs false
def laws_toLog.f (k : Nat) (a0_0 : Int) (a0_1 : Int) (l0_2 : List (S152)) (l0_3 : List (S90)) : Option (Int × Int × (List (S115)) × (List (S72))) := (laws_toBaseS.f k l0_2).bind fun t823 => ((laws_toOpS.f k l0_3).bind fun t826 => (some (a0_0, a0_1, t823, t826)))
set_option maxHeartbeats 8000000 in
set_option maxRecDepth 100000 in
theorem laws_toLog.calls (k : Nat) (a0_0 : Int) (a0_1 : Int) (A0_2 : Option Addr) (c0_2 : Nat) (l0_2 : List (S152)) (A0_3 : Option Addr) (c0_3 : Nat) (l0_3 : List (S90)) (r1 : Int) (r2 : Int) (r3 : List (S115)) (r4 : List (S72)) (w : World) (hr0_2 : Kd.C k152 w A0_2 l0_2.length l0_2) (hc0_2 : l0_2.length ≤ c0_2) (hr0_3 : Kd.C k90 w A0_3 l0_3.length l0_3) (hc0_3 : l0_3.length ≤ c0_3) (h : laws_toLog.f k a0_0 a0_1 l0_2 l0_3 = some (r1, r2, r3, r4)) :
    Calls Try.prog 56 #[.agg #[.int .i64 a0_0, .int .i64 a0_1, .slice A0_2 l0_2.length c0_2, .slice A0_3 l0_3.length c0_3]] w fun e w' => ∃ v2_ v3_ : Value, e = .returned (.agg #[.int .i64 r1, .int .i64 r2, v2_, v3_]) ∧ Kd.R k115 115 w' w.heap.size (fun _ => True) v2_ r3 ∧ Kd.R k72 72 w' w.heap.size (fun _ => True) v3_ r4 ∧ Below w.heap.size w w' := by
  have hu53 := Try.underlying53
  have hu58 := Try.underlying58
  have HR0_2 := Aside0.mk hr0_2
  have HC0_2 := Aside0.mk hc0_2
  clear hr0_2 hc0_2
  have HR0_3 := Aside0.mk hr0_3
  have HC0_3 := Aside0.mk hc0_3
  clear hr0_3 hc0_3
  have HB := Aside0.mk (Below.refl w.heap.size w)
  have H : ((laws_toBaseS.f k l0_2).bind fun t823 => ((laws_toOpS.f k l0_3).bind fun t826 => (some (a0_0, a0_1, t823, t826)))) = some (r1, r2, r3, r4) := h
  clear h
  replace H := Option.bind_eq_some_iff.mp H
  obtain ⟨t823, A20, H⟩ := H
  replace H : ((laws_toOpS.f k l0_3).bind fun t826 => (some (a0_0, a0_1, t823, t826))) = some (r1, r2, r3, r4) := H
  have A2 := Aside0.mk A20
  clear A20
  replace H := Option.bind_eq_some_iff.mp H
  obtain ⟨t826, A30, H⟩ := H
  replace H : (some (a0_0, a0_1, t823, t826)) = some (r1, r2, r3, r4) := H
  have A3 := Aside0.mk A30
  clear A30
  simp only [Option.some.injEq, Prod.mk.injEq] at H
  obtain ⟨rfl, rfl, rfl, rfl⟩ := H
  go_enter Try.func56, Try.ntmps56
  go_wp2_with (first | ((with_reducible refine gate_dst (N := 1) rfl ?_); refine box_event ?hg (N := 1) ?hd (cs := #[.int .i64 a0_0, .int .i64 a0_1, .slice A0_2 l0_2.length c0_2, .slice A0_3 l0_3.length c0_3]) (t := 53) ?hr ?_; (case hd => rfl); (case hg => rfl); (case hr => first | (go_simp; done) | (go_simp; rfl)); intro gb820 hg w4 hbox hb; have n0_ := Aside0.mk (below_step (by repeat (first | (with_reducible first | exact HB.out | apply below_alloc | apply pw_below_drewN | apply below_drew1) | exact HB.out)) hb); have n1_ := Aside0.mk (hbox); have n2_ := Aside0.mk ((by rw [hg]; exact (below_size (by repeat (first | (with_reducible first | exact HB.out | apply below_alloc | apply pw_below_drewN | apply below_drew1) | exact HB.out))) : w.heap.size ≤ gb820)); have n3_ := Aside0.mk ((by rw [hg]; exact (below_size (by repeat (first | (with_reducible first | exact HB.out | apply below_alloc | apply pw_below_drewN | apply below_drew1) | exact HB.out))) : w.heap.size ≤ gb820)); clear HB; have HB := n0_; have BK820 := n1_; have GW820 := n2_; have GE820 := n3_; clear n0_ n1_ n2_ n3_; clear hb hbox hg) | ((with_reducible refine gate_dst (N := 2) rfl ?_); refine box_event ?hg (N := 2) ?hd (cs := #[.int .i64 0, .int .i64 0, .slice none 0 0, .slice none 0 0]) (t := 58) ?hr ?_; (case hd => rfl); (case hg => rfl); (case hr => first | (go_simp; done) | (go_simp; rfl)); intro gb821 hg w5 hbox hb; have n0_ := Aside0.mk (blk_below (g := gb820) (o := .cells #[.int .i64 a0_0, .int .i64 a0_1, .slice A0_2 l0_2.length c0_2, .slice A0_3 l0_3.length c0_3] 53 (0, 0)) (by (with_reducible repeat (first | refine blk_drewN ?_ _ | refine blk_drew ?_ | refine blk_alloc ?_ _)); exact BK820.out) hb); have n1_ := Aside0.mk (below_step (by repeat (first | (with_reducible first | exact HB.out | apply below_alloc | apply pw_below_drewN | apply below_drew1 | refine below_set ?_ GE820.out) | exact HB.out)) hb); have n2_ := Aside0.mk (hbox); have n3_ := Aside0.mk ((by rw [hg]; exact (below_size (by repeat (first | (with_reducible first | exact HB.out | apply below_alloc | apply pw_below_drewN | apply below_drew1 | refine below_set ?_ GE820.out) | exact HB.out))) : w.heap.size ≤ gb821)); have n4_ := Aside0.mk ((by rw [hg]; exact (below_size (by repeat (first | (with_reducible first | exact HB.out | apply below_alloc | apply pw_below_drewN | apply below_drew1 | refine below_set ?_ GE820.out) | exact HB.out))) : w.heap.size ≤ gb821)); have n5_ := Aside0.mk ((by rw [hg]; exact Nat.ne_of_lt (blk_lt (g := gb820) (o := .cells #[.int .i64 a0_0, .int .i64 a0_1, .slice A0_2 l0_2.length c0_2, .slice A0_3 l0_3.length c0_3] 53 (0, 0)) (by (with_reducible repeat (first | refine blk_drewN ?_ _ | refine blk_drew ?_ | refine blk_alloc ?_ _)); exact BK820.out)) : gb820 ≠ gb821)); have n6_ := Aside0.mk ((by rw [hg]; exact Nat.ne_of_gt (blk_lt (g := gb820) (o := .cells #[.int .i64 a0_0, .int .i64 a0_1, .slice A0_2 l0_2.length c0_2, .slice A0_3 l0_3.length c0_3] 53 (0, 0)) (by (with_reducible repeat (first | refine blk_drewN ?_ _ | refine blk_drew ?_ | refine blk_alloc ?_ _)); exact BK820.out)) : gb821 ≠ gb820)); clear BK820; clear HB; have BK820 := n0_; have HB := n1_; have BK821 := n2_; have GW821 := n3_; have GE821 := n4_; have NB820_821 := n5_; have NB821_820 := n6_; clear n0_ n1_ n2_ n3_ n4_ n5_ n6_; clear hb hbox hg) | ((with_reducible refine gate_dst (N := 3) rfl ?_); refine box_event ?hg (N := 3) ?hd (cs := #[.int .i64 0, .int .i64 0, .slice none 0 0, .slice none 0 0]) (t := 58) ?hr ?_; (case hd => rfl); (case hg => rfl); (case hr => first | (go_simp; done) | (go_simp; rfl)); intro gb822 hg w6 hbox hb; have n0_ := Aside0.mk (blk_below (g := gb820) (o := .cells #[.int .i64 a0_0, .int .i64 a0_1, .slice A0_2 l0_2.length c0_2, .slice A0_3 l0_3.length c0_3] 53 (0, 0)) (by (with_reducible repeat (first | refine blk_drewN ?_ _ | refine blk_drew ?_ | refine blk_alloc ?_ _)); exact BK820.out) hb); have n1_ := Aside0.mk (blk_below (g := gb821) (o := .cells #[.int .i64 0, .int .i64 0, .slice none 0 0, .slice none 0 0] 58 (0, 0)) (by (with_reducible repeat (first | refine blk_drewN ?_ _ | refine blk_drew ?_ | refine blk_alloc ?_ _)); exact BK821.out) hb); have n2_ := Aside0.mk (below_step (by repeat (first | (with_reducible first | exact HB.out | apply below_alloc | apply pw_below_drewN | apply below_drew1 | refine below_set ?_ GE820.out | refine below_set ?_ GE821.out) | exact HB.out)) hb); have n3_ := Aside0.mk (hbox); have n4_ := Aside0.mk ((by rw [hg]; exact (below_size (by repeat (first | (with_reducible first | exact HB.out | apply below_alloc | apply pw_below_drewN | apply below_drew1 | refine below_set ?_ GE820.out | refine below_set ?_ GE821.out) | exact HB.out))) : w.heap.size ≤ gb822)); have n5_ := Aside0.mk ((by rw [hg]; exact (below_size (by repeat (first | (with_reducible first | exact HB.out | apply below_alloc | apply pw_below_drewN | apply below_drew1 | refine below_set ?_ GE820.out | refine below_set ?_ GE821.out) | exact HB.out))) : w.heap.size ≤ gb822)); have n6_ := Aside0.mk ((by rw [hg]; exact Nat.ne_of_lt (blk_lt (g := gb820) (o := .cells #[.int .i64 a0_0, .int .i64 a0_1, .slice A0_2 l0_2.length c0_2, .slice A0_3 l0_3.length c0_3] 53 (0, 0)) (by (with_reducible repeat (first | refine blk_drewN ?_ _ | refine blk_drew ?_ | refine blk_alloc ?_ _)); exact BK820.out)) : gb820 ≠ gb822)); have n7_ := Aside0.mk ((by rw [hg]; exact Nat.ne_of_gt (blk_lt (g := gb820) (o := .cells #[.int .i64 a0_0, .int .i64 a0_1, .slice A0_2 l0_2.length c0_2, .slice A0_3 l0_3.length c0_3] 53 (0, 0)) (by (with_reducible repeat (first | refine blk_drewN ?_ _ | refine blk_drew ?_ | refine blk_alloc ?_ _)); exact BK820.out)) : gb822 ≠ gb820)); have n8_ := Aside0.mk ((by rw [hg]; exact Nat.ne_of_lt (blk_lt (g := gb821) (o := .cells #[.int .i64 0, .int .i64 0, .slice none 0 0, .slice none 0 0] 58 (0, 0)) (by (with_reducible repeat (first | refine blk_drewN ?_ _ | refine blk_drew ?_ | refine blk_alloc ?_ _)); exact BK821.out)) : gb821 ≠ gb822)); have n9_ := Aside0.mk ((by rw [hg]; exact Nat.ne_of_gt (blk_lt (g := gb821) (o := .cells #[.int .i64 0, .int .i64 0, .slice none 0 0, .slice none 0 0] 58 (0, 0)) (by (with_reducible repeat (first | refine blk_drewN ?_ _ | refine blk_drew ?_ | refine blk_alloc ?_ _)); exact BK821.out)) : gb822 ≠ gb821)); clear BK820; clear BK821; clear HB; have BK820 := n0_; have BK821 := n1_; have HB := n2_; have BK822 := n3_; have GW822 := n4_; have GE822 := n5_; have NB820_822 := n6_; have NB822_820 := n7_; have NB821_822 := n8_; have NB822_821 := n9_; clear n0_ n1_ n2_ n3_ n4_ n5_ n6_ n7_ n8_ n9_; clear hb hbox hg; have hnb7 := NB820_821.out; have hnc7 := NB821_820.out; have hnb8 := NB820_822.out; have hnc8 := NB822_820.out; have hcz9_0 : w6.cell? ⟨gb820, 0, none⟩ = some (.int .i64 a0_0) := (blk_cell BK820.out 0).trans rfl; have hcz9_1 : w6.cell? ⟨gb820, 1, none⟩ = some (.int .i64 a0_1) := (blk_cell BK820.out 1).trans rfl; have hcz9_2 : w6.cell? ⟨gb820, 2, none⟩ = some (.slice A0_2 l0_2.length c0_2) := (blk_cell BK820.out 2).trans rfl; have hcz9_3 : w6.cell? ⟨gb820, 3, none⟩ = some (.slice A0_3 l0_3.length c0_3) := (blk_cell BK820.out 3).trans rfl; have hfz9_0 := blk_frozen BK820.out 0; have hfz9_1 := blk_frozen BK820.out 1; have hfz9_2 := blk_frozen BK820.out 2; have hfz9_3 := blk_frozen BK820.out 3; have hnb10 := NB822_821.out; have hnc10 := NB821_822.out; have hcz11_0 : w6.cell? ⟨gb822, 0, none⟩ = some (.int .i64 0) := (blk_cell BK822.out 0).trans rfl; have hcz11_1 : w6.cell? ⟨gb822, 1, none⟩ = some (.int .i64 0) := (blk_cell BK822.out 1).trans rfl; have hcz11_2 : w6.cell? ⟨gb822, 2, none⟩ = some (.slice none 0 0) := (blk_cell BK822.out 2).trans rfl; have hcz11_3 : w6.cell? ⟨gb822, 3, none⟩ = some (.slice none 0 0) := (blk_cell BK822.out 3).trans rfl; have hfz11_0 := blk_frozen BK822.out 0; have hfz11_1 := blk_frozen BK822.out 1; have hfz11_2 := blk_frozen BK822.out 2; have hfz11_3 := blk_frozen BK822.out 3) | ((with_reducible refine gate_callee (f := 115) rfl ?_); refine goesL_ (some 12) rfl rfl Try.func115 (by kernel_rfl) rfl #[.slice A0_2 l0_2.length c0_2] rfl (by (try simp only [List.map_toArray, List.map_cons, List.map_nil]); first | done | rfl | (simp only [List.length_drop, List.length_take]; rfl)) ?_; (with_reducible refine (laws_toBaseS.calls k _ _ l0_2 t823 _ ?side1 ?side2 A2.out).mono ?_); (case side1 => exact Kd.C_below HR0_2.out (by repeat (first | (with_reducible first | exact HB.out | apply below_alloc | apply pw_below_drewN | apply below_drew1 | refine below_set ?_ GE820.out | refine below_set ?_ GE821.out | refine below_set ?_ GE822.out) | exact HB.out))); (case side2 => exact HC0_2.out); rintro e w12 ⟨v824, rfl, ho0, hb⟩; refine ⟨_, rfl, ?_⟩; have n0_ := Aside0.mk (Kd.R_lower ho0 (below_size (by repeat (first | (with_reducible first | exact HB.out | apply below_alloc | apply pw_below_drewN | apply below_drew1 | refine below_set ?_ GE820.out | refine below_set ?_ GE821.out | refine below_set ?_ GE822.out) | exact HB.out)))); have n1_ := Aside0.mk (blk_below (g := gb820) (o := .cells #[.int .i64 a0_0, .int .i64 a0_1, .slice A0_2 l0_2.length c0_2, .slice A0_3 l0_3.length c0_3] 53 (0, 0)) (by (with_reducible repeat (first | refine blk_drewN ?_ _ | refine blk_drew ?_ | refine blk_alloc ?_ _)); refine blk_far ?_ NB820_822.out _; (with_reducible repeat (first | refine blk_drewN ?_ _ | refine blk_drew ?_ | refine blk_alloc ?_ _)); refine blk_far ?_ NB820_822.out _; (with_reducible repeat (first | refine blk_drewN ?_ _ | refine blk_drew ?_ | refine blk_alloc ?_ _)); exact BK820.out) hb); have n2_ := Aside0.mk (blk_below (g := gb821) (o := .cells #[.int .i64 0, .int .i64 0, .slice none 0 0, .slice none 0 0] 58 (0, 0)) (by (with_reducible repeat (first | refine blk_drewN ?_ _ | refine blk_drew ?_ | refine blk_alloc ?_ _)); refine blk_far ?_ NB821_822.out _; (with_reducible repeat (first | refine blk_drewN ?_ _ | refine blk_drew ?_ | refine blk_alloc ?_ _)); refine blk_far ?_ NB821_822.out _; (with_reducible repeat (first | refine blk_drewN ?_ _ | refine blk_drew ?_ | refine blk_alloc ?_ _)); exact BK821.out) hb); have n3_ := Aside0.mk (blk_below (g := gb822) (o := .cells #[.int .i64 a0_0, .int .i64 a0_1, .slice none 0 0, .slice none 0 0] 58 (0, 0)) (by (with_reducible repeat (first | refine blk_drewN ?_ _ | refine blk_drew ?_ | refine blk_alloc ?_ _)); refine blk_put (cs := #[.int .i64 a0_0, .int .i64 0, .slice none 0 0, .slice none 0 0]) ?_ 1 _ rfl; (with_reducible repeat (first | refine blk_drewN ?_ _ | refine blk_drew ?_ | refine blk_alloc ?_ _)); refine blk_put (cs := #[.int .i64 0, .int .i64 0, .slice none 0 0, .slice none 0 0]) ?_ 0 _ rfl; (with_reducible repeat (first | refine blk_drewN ?_ _ | refine blk_drew ?_ | refine blk_alloc ?_ _)); exact BK822.out) hb); have n4_ := Aside0.mk (below_step (by repeat (first | (with_reducible first | exact HB.out | apply below_alloc | apply pw_below_drewN | apply below_drew1 | refine below_set ?_ GE820.out | refine below_set ?_ GE821.out | refine below_set ?_ GE822.out) | exact HB.out)) hb); clear BK820; clear BK821; clear BK822; clear HB; have HO825 := n0_; have BK820 := n1_; have BK821 := n2_; have BK822 := n3_; have HB := n4_; clear n0_ n1_ n2_ n3_ n4_; (try clear hb); (try clear hb2); (try clear hk); (try clear hi); (try clear ho0); obtain ⟨Ao13, co13, eo13⟩ := Kd.R_slice HO825.out; subst eo13; have hcz14_0 : w12.cell? ⟨gb822, 0, none⟩ = some (.int .i64 a0_0) := (blk_cell BK822.out 0).trans rfl; have hcz14_1 : w12.cell? ⟨gb822, 1, none⟩ = some (.int .i64 a0_1) := (blk_cell BK822.out 1).trans rfl; have hcz14_2 : w12.cell? ⟨gb822, 2, none⟩ = some (.slice none 0 0) := (blk_cell BK822.out 2).trans rfl; have hcz14_3 : w12.cell? ⟨gb822, 3, none⟩ = some (.slice none 0 0) := (blk_cell BK822.out 3).trans rfl; have hfz14_0 := blk_frozen BK822.out 0; have hfz14_1 := blk_frozen BK822.out 1; have hfz14_2 := blk_frozen BK822.out 2; have hfz14_3 := blk_frozen BK822.out 3; have hcz15_0 : w12.cell? ⟨gb820, 0, none⟩ = some (.int .i64 a0_0) := (blk_cell BK820.out 0).trans rfl; have hcz15_1 : w12.cell? ⟨gb820, 1, none⟩ = some (.int .i64 a0_1) := (blk_cell BK820.out 1).trans rfl; have hcz15_2 : w12.cell? ⟨gb820, 2, none⟩ = some (.slice A0_2 l0_2.length c0_2) := (blk_cell BK820.out 2).trans rfl; have hcz15_3 : w12.cell? ⟨gb820, 3, none⟩ = some (.slice A0_3 l0_3.length c0_3) := (blk_cell BK820.out 3).trans rfl; have hfz15_0 := blk_frozen BK820.out 0; have hfz15_1 := blk_frozen BK820.out 1; have hfz15_2 := blk_frozen BK820.out 2; have hfz15_3 := blk_frozen BK820.out 3) | ((with_reducible refine gate_callee (f := 32) rfl ?_); refine goesL_ (some 16) rfl rfl Try.func32 (by kernel_rfl) rfl #[.slice A0_3 l0_3.length c0_3] rfl (by (try simp only [List.map_toArray, List.map_cons, List.map_nil]); first | done | rfl | (simp only [List.length_drop, List.length_take]; rfl)) ?_; (with_reducible refine (laws_toOpS.calls k _ _ l0_3 t826 _ ?side1 ?side2 A3.out).mono ?_); (case side1 => exact Kd.C_below HR0_3.out (by repeat (first | (with_reducible first | exact HB.out | apply below_alloc | apply pw_below_drewN | apply below_drew1 | refine below_set ?_ GE820.out | refine below_set ?_ GE821.out | refine below_set ?_ GE822.out) | exact HB.out))); (case side2 => exact HC0_3.out); rintro e w16 ⟨v827, rfl, ho0, hb⟩; refine ⟨_, rfl, ?_⟩; have n0_ := Aside0.mk (Kd.R_below (by (with_reducible repeat (first | apply Kd.R_alloc | apply Kd.R_drewN | apply Kd.R_drew)); exact (Kd.R_mono (Kd.R_far (p := ⟨gb822, 2, none⟩) (Kd.R_types HO825.out BK822.out (by decide)) (fun _ hk => hk.2) (.slice Ao13 t823.length co13)) (fun _ h_ => h_.1))) hb); have n1_ := Aside0.mk (Kd.R_lower ho0 (below_size (by repeat (first | (with_reducible first | exact HB.out | apply below_alloc | apply pw_below_drewN | apply below_drew1 | refine below_set ?_ GE820.out | refine below_set ?_ GE821.out | refine below_set ?_ GE822.out) | exact HB.out)))); have n2_ := Aside0.mk (blk_below (g := gb820) (o := .cells #[.int .i64 a0_0, .int .i64 a0_1, .slice A0_2 l0_2.length c0_2, .slice A0_3 l0_3.length c0_3] 53 (0, 0)) (by (with_reducible repeat (first | refine blk_drewN ?_ _ | refine blk_drew ?_ | refine blk_alloc ?_ _)); refine blk_far ?_ NB820_822.out _; (with_reducible repeat (first | refine blk_drewN ?_ _ | refine blk_drew ?_ | refine blk_alloc ?_ _)); exact BK820.out) hb); have n3_ := Aside0.mk (blk_below (g := gb821) (o := .cells #[.int .i64 0, .int .i64 0, .slice none 0 0, .slice none 0 0] 58 (0, 0)) (by (with_reducible repeat (first | refine blk_drewN ?_ _ | refine blk_drew ?_ | refine blk_alloc ?_ _)); refine blk_far ?_ NB821_822.out _; (with_reducible repeat (first | refine blk_drewN ?_ _ | refine blk_drew ?_ | refine blk_alloc ?_ _)); exact BK821.out) hb); have n4_ := Aside0.mk (blk_below (g := gb822) (o := .cells #[.int .i64 a0_0, .int .i64 a0_1, .slice Ao13 t823.length co13, .slice none 0 0] 58 (0, 0)) (by (with_reducible repeat (first | refine blk_drewN ?_ _ | refine blk_drew ?_ | refine blk_alloc ?_ _)); refine blk_put (cs := #[.int .i64 a0_0, .int .i64 a0_1, .slice none 0 0, .slice none 0 0]) ?_ 2 _ rfl; (with_reducible repeat (first | refine blk_drewN ?_ _ | refine blk_drew ?_ | refine blk_alloc ?_ _)); exact BK822.out) hb); have n5_ := Aside0.mk (below_step (by repeat (first | (with_reducible first | exact HB.out | apply below_alloc | apply pw_below_drewN | apply below_drew1 | refine below_set ?_ GE820.out | refine below_set ?_ GE821.out | refine below_set ?_ GE822.out) | exact HB.out)) hb); clear HO825; clear BK820; clear BK821; clear BK822; clear HB; have HO825 := n0_; have HO828 := n1_; have BK820 := n2_; have BK821 := n3_; have BK822 := n4_; have HB := n5_; clear n0_ n1_ n2_ n3_ n4_ n5_; (try clear hb); (try clear hb2); (try clear hk); (try clear hi); (try clear ho0); obtain ⟨Ao17, co17, eo17⟩ := Kd.R_slice HO828.out; subst eo17; have hcz18_0 : w16.cell? ⟨gb822, 0, none⟩ = some (.int .i64 a0_0) := (blk_cell BK822.out 0).trans rfl; have hcz18_1 : w16.cell? ⟨gb822, 1, none⟩ = some (.int .i64 a0_1) := (blk_cell BK822.out 1).trans rfl; have hcz18_2 : w16.cell? ⟨gb822, 2, none⟩ = some (.slice Ao13 t823.length co13) := (blk_cell BK822.out 2).trans rfl; have hcz18_3 : w16.cell? ⟨gb822, 3, none⟩ = some (.slice none 0 0) := (blk_cell BK822.out 3).trans rfl; have hfz18_0 := blk_frozen BK822.out 0; have hfz18_1 := blk_frozen BK822.out 1; have hfz18_2 := blk_frozen BK822.out 2; have hfz18_3 := blk_frozen BK822.out 3; have hcz19_0 : w16.cell? ⟨gb821, 0, none⟩ = some (.int .i64 0) := (blk_cell BK821.out 0).trans rfl; have hcz19_1 : w16.cell? ⟨gb821, 1, none⟩ = some (.int .i64 0) := (blk_cell BK821.out 1).trans rfl; have hcz19_2 : w16.cell? ⟨gb821, 2, none⟩ = some (.slice none 0 0) := (blk_cell BK821.out 2).trans rfl; have hcz19_3 : w16.cell? ⟨gb821, 3, none⟩ = some (.slice none 0 0) := (blk_cell BK821.out 3).trans rfl; have hfz19_0 := blk_frozen BK821.out 0; have hfz19_1 := blk_frozen BK821.out 1; have hfz19_2 := blk_frozen BK821.out 2; have hfz19_3 := blk_frozen BK821.out 3))
  refine bodyPost_ret (results_cell_row rfl _ _ gb821 58 #[.int .i64 a0_0, .int .i64 a0_1, .slice Ao13 t823.length co13, .slice Ao17 t826.length co17] (0, 0) _ rfl (by (with_reducible repeat (first | refine blk_drewN ?_ _ | refine blk_drew ?_ | refine blk_alloc ?_ _)); refine blk_put (cs := #[.int .i64 a0_0, .int .i64 a0_1, .slice Ao13 t823.length co13, .slice none 0 0]) ?_ 3 _ rfl; (with_reducible repeat (first | refine blk_drewN ?_ _ | refine blk_drew ?_ | refine blk_alloc ?_ _)); refine blk_put (cs := #[.int .i64 a0_0, .int .i64 a0_1, .slice none 0 0, .slice none 0 0]) ?_ 2 _ rfl; (with_reducible repeat (first | refine blk_drewN ?_ _ | refine blk_drew ?_ | refine blk_alloc ?_ _)); refine blk_put (cs := #[.int .i64 a0_0, .int .i64 0, .slice none 0 0, .slice none 0 0]) ?_ 1 _ rfl; (with_reducible repeat (first | refine blk_drewN ?_ _ | refine blk_drew ?_ | refine blk_alloc ?_ _)); refine blk_put (cs := #[.int .i64 0, .int .i64 0, .slice none 0 0, .slice none 0 0]) ?_ 0 _ rfl; (with_reducible repeat (first | refine blk_drewN ?_ _ | refine blk_drew ?_ | refine blk_alloc ?_ _)); refine blk_far ?_ NB821_822.out _; (with_reducible repeat (first | refine blk_drewN ?_ _ | refine blk_drew ?_ | refine blk_alloc ?_ _)); exact BK821.out) Try.underlying58 rfl (by kernel_rfl)) rfl ?_
  exact ⟨_, _, by first | rfl | (simp [errW_none, errW_some] <;> rfl) | (simp [*, errW_none, errW_some] <;> rfl), by (with_reducible repeat (first | apply Kd.R_alloc | apply Kd.R_drewN | apply Kd.R_drew)); exact Kd.R_mono (Kd.R_far (p := ⟨gb821, 3, none⟩) (Kd.R_far (p := ⟨gb821, 2, none⟩) (Kd.R_far (p := ⟨gb821, 1, none⟩) (Kd.R_far (p := ⟨gb821, 0, none⟩) (Kd.R_far (p := ⟨gb822, 3, none⟩) (Kd.R_types (Kd.R_types HO825.out BK822.out (by decide)) BK821.out (by decide)) (fun _ hk => hk.1.2) (.slice Ao17 t826.length co17)) (fun _ hk => hk.2) (.int .i64 a0_0)) (fun _ hk => hk.2) (.int .i64 a0_1)) (fun _ hk => hk.2) (.slice Ao13 t823.length co13)) (fun _ hk => hk.2) (.slice Ao17 t826.length co17)) (fun _ hk => trivial), by (with_reducible repeat (first | apply Kd.R_alloc | apply Kd.R_drewN | apply Kd.R_drew)); exact Kd.R_mono (Kd.R_far (p := ⟨gb821, 3, none⟩) (Kd.R_far (p := ⟨gb821, 2, none⟩) (Kd.R_far (p := ⟨gb821, 1, none⟩) (Kd.R_far (p := ⟨gb821, 0, none⟩) (Kd.R_far (p := ⟨gb822, 3, none⟩) (Kd.R_types (Kd.R_types HO828.out BK822.out (by decide)) BK821.out (by decide)) (fun _ hk => hk.1.2) (.slice Ao17 t826.length co17)) (fun _ hk => hk.2) (.int .i64 a0_0)) (fun _ hk => hk.2) (.int .i64 a0_1)) (fun _ hk => hk.2) (.slice Ao13 t823.length co13)) (fun _ hk => hk.2) (.slice Ao17 t826.length co17)) (fun _ hk => trivial), by repeat (first | (with_reducible first | exact HB.out | apply below_alloc | apply pw_below_drewN | apply below_drew1 | refine below_set ?_ GE820.out | refine below_set ?_ GE821.out | refine below_set ?_ GE822.out) | exact HB.out)⟩
end Go.Proofs.Ytjcpkplneflleaa.Q
namespace Go.Proofs.Ytjcpkplneflleaa.Q
open Go.RowKit Go.Proofs.YtjcpkplneflleaaW.PrintWords Go.Proofs.YtjcpkplneflleaaW.PrintLast Go.Proofs.YtjcpkplneflleaaW.PrintMore
attribute [local go_sem] max2_int min2_int max_two min_two max_three min_three max_four min_four   -- for this text's walks alone
set_option linter.unusedVariables false
set_option linter.unusedSimpArgs false
def impl_in.f (a0 : Int) (a1 : Int) (a2 : Int) : Option (Bool) := if a0 ≥ a1 then (some (decide (a0 ≤ a2))) else (some false)
set_option maxHeartbeats 8000000 in
set_option maxRecDepth 100000 in
theorem impl_in.calls (a0 : Int) (a1 : Int) (a2 : Int) (r : Bool) (w : World) (h : impl_in.f a0 a1 a2 = some r) :
    Calls Try.prog 109 #[.int .i64 a0, .int .i64 a1, .int .i64 a2] w fun e w' => e = .returned (.bool r) ∧ Drawn0 w w' := by
  have H : (if a0 ≥ a1 then (some (decide (a0 ≤ a2))) else (some false)) = some r := h
  clear h
  by_cases c4 : a0 ≥ a1
  · rw [if_pos c4] at H
    have c4b0 : decide (a1 ≤ a0) = true := decide_eq_true c4
    clear c4
    obtain rfl := Option.some.inj H
    go_enter Try.func109, Try.ntmps109
    go_wp2
    go_ret
    exact ⟨by first | rfl | (simp; done) | (simp [*]; done), by repeat (first | exact Drawn0.refl _ | apply Drawn0.step)⟩
  · rw [if_neg c4] at H
    have c4b0 : decide (a1 ≤ a0) = false := decide_eq_false c4
    clear c4
    obtain rfl := Option.some.inj H
    go_enter Try.func109, Try.ntmps109
    go_wp2
    go_ret
    exact ⟨by first | rfl | (simp; done) | (simp [*]; done), by repeat (first | exact Drawn0.refl _ | apply Drawn0.step)⟩
end Go.Proofs.Ytjcpkplneflleaa.Q
namespace Go.Proofs.Ytjcpkplneflleaa.Q
open Go.RowKit Go.Proofs.YtjcpkplneflleaaW.PrintWords Go.Proofs.YtjcpkplneflleaaW.PrintLast Go.Proofs.YtjcpkplneflleaaW.PrintMore
attribute [local go_sem] max2_int min2_int max_two min_two max_three min_three max_four min_four   -- for this text's walks alone
set_option linter.unusedVariables false
set_option linter.unusedSimpArgs false
def impl_TreeBody.l0 : Nat → ByteArray → Int → Option (Bool)
  | 0, _, _ => none
  | k + 1, x0, x3 => if x3 < (x0.size : Int) then (if 0 ≤ x3 then ((impl_in.f (wrap64 (bt x0 x3)) 97 122).bind fun t392 => (if t392 = true then (impl_TreeBody.l0 k x0 (wrap64 (x3 + 1))) else ((impl_in.f (wrap64 (bt x0 x3)) 48 57).bind fun t393 => (if t393 = true then (impl_TreeBody.l0 k x0 (wrap64 (x3 + 1))) else (some false))))) else (none)) else (some (decide ((x0.size : Int) ≤ 12)))
def impl_TreeBody.f (k : Nat) (a0 : ByteArray) : Option (Bool) := impl_TreeBody.l0 k a0 0
set_option maxHeartbeats 8000000 in
set_option maxRecDepth 100000 in
theorem impl_TreeBody.calls (k : Nat) (a0 : ByteArray) (r : Bool) (w : World) (h : impl_TreeBody.f k a0 = some r) :
    Calls Try.prog 155 #[.string a0] w fun e w' => e = .returned (.bool r) ∧ Drawn0 w w' := by
  have H : (impl_TreeBody.l0 k a0 0) = some r := h
  clear h
  have H' := Aside0.mk H
  clear H
  go_enter Try.func155, Try.ntmps155
  go_wp2
  go_loopg [3] k (fun kq v3 w' => ∃ (x3_1 : Int), v3 = .int .i64 x3_1 ∧ Aside0 (impl_TreeBody.l0 kq a0 x3_1 = some r) ∧ Aside0 (kq ≤ k) ∧ Drawn0 w w')
  case atStart => exact ⟨(0), (by first | rfl | (simp; done) | (simp [*]; done)), H', ⟨Nat.le_refl _⟩, by repeat (first | exact Drawn0.refl _ | apply Drawn0.step)⟩
  case round =>
    clear H'
    try clear c1
    obtain ⟨x3_1, rfl, HA, HK1, ⟨m1, rfl⟩⟩ := hrel
    cases gk with
    | zero => exact absurd HA.out (by simp [impl_TreeBody.l0])
    | succ k1 =>
      have H := HA.out
      clear HA
      simp only [impl_TreeBody.l0] at H
      by_cases c2 : x3_1 < (a0.size : Int)
      · rw [if_pos c2] at H
        have c2b0 : decide (x3_1 < (a0.size : Int)) = true := decide_eq_true c2
        clear c2
        by_cases c3 : 0 ≤ x3_1
        · rw [if_pos c3] at H
          have c3b0 : decide (0 ≤ x3_1) = true := decide_eq_true c3
          clear c3
          replace H := Option.bind_eq_some_iff.mp H
          obtain ⟨t392, A50, H⟩ := H
          replace H : (if t392 = true then (impl_TreeBody.l0 k1 a0 (wrap64 (x3_1 + 1))) else ((impl_in.f (wrap64 (bt a0 x3_1)) 48 57).bind fun t393 => (if t393 = true then (impl_TreeBody.l0 k1 a0 (wrap64 (x3_1 + 1))) else (some false)))) = some r := H
          have A5 := Aside0.mk A50
          clear A50
          by_cases c6 : t392 = true
          · subst c6
            have H1 : (impl_TreeBody.l0 k1 a0 (wrap64 (x3_1 + 1))) = some r := by rw [if_pos rfl] at H; exact H
            clear H
            have H := H1
            clear H1
            have H' := Aside0.mk H
            clear H
            have p4 : 0 ≤ (x3_1 : Int) := of_decide_eq_true (by first | (with_reducible assumption) | assumption)
            have q4 : x3_1 < (a0.size : Int) := of_decide_eq_true (by first | (with_reducible assumption) | assumption)
            have hx4 := bt_at a0 x3_1
            replace p4 := eq_true p4
            replace q4 := eq_true q4
            go_wp2_with (first | ((with_reducible refine gate_callee (f := 109) rfl ?_); refine goesL_ (some 14) rfl rfl Try.func109 (by kernel_rfl) rfl #[.int .i64 (wrap64 (bt a0 x3_1)), .int .i64 97, .int .i64 122] rfl (by (try simp only [List.map_toArray, List.map_cons, List.map_nil]); first | done | rfl | (simp only [List.length_drop, List.length_take]; rfl)) ?_; (with_reducible refine (impl_in.calls (wrap64 (bt a0 x3_1)) 97 122 true _ A5.out).mono ?_); rintro e w' ⟨rfl, ⟨nd, rfl⟩⟩; refine ⟨_, rfl, ?_⟩))
            go_roundg k1
            case measure => have := HK1.out; omega
            case rel => exact ⟨(wrap64 (x3_1 + 1)), (by first | rfl | (simp; done) | (simp [*]; done)), H', ⟨by have := HK1.out; omega⟩, by repeat (first | exact Drawn0.refl _ | apply Drawn0.step)⟩
          · replace c6 := Bool.eq_false_iff.mpr c6
            subst c6
            have H1 : ((impl_in.f (wrap64 (bt a0 x3_1)) 48 57).bind fun t393 => (if t393 = true then (impl_TreeBody.l0 k1 a0 (wrap64 (x3_1 + 1))) else (some false))) = some r := by rw [if_neg (show ¬ (false = true) by decide)] at H; exact H
            clear H
            have H := H1
            clear H1
            replace H := Option.bind_eq_some_iff.mp H
            obtain ⟨t393, A80, H⟩ := H
            replace H : (if t393 = true then (impl_TreeBody.l0 k1 a0 (wrap64 (x3_1 + 1))) else (some false)) = some r := H
            have A8 := Aside0.mk A80
            clear A80
            by_cases c9 : t393 = true
            · subst c9
              have H1 : (impl_TreeBody.l0 k1 a0 (wrap64 (x3_1 + 1))) = some r := by rw [if_pos rfl] at H; exact H
              clear H
              have H := H1
              clear H1
              have H' := Aside0.mk H
              clear H
              have p4 : 0 ≤ (x3_1 : Int) := of_decide_eq_true (by first | (with_reducible assumption) | assumption)
              have q4 : x3_1 < (a0.size : Int) := of_decide_eq_true (by first | (with_reducible assumption) | assumption)
              have hx4 := bt_at a0 x3_1
              replace p4 := eq_true p4
              replace q4 := eq_true q4
              go_wp2_with (first | ((with_reducible refine gate_callee (f := 109) rfl ?_); refine goesL_ (some 14) rfl rfl Try.func109 (by kernel_rfl) rfl #[.int .i64 (wrap64 (bt a0 x3_1)), .int .i64 97, .int .i64 122] rfl (by (try simp only [List.map_toArray, List.map_cons, List.map_nil]); first | done | rfl | (simp only [List.length_drop, List.length_take]; rfl)) ?_; (with_reducible refine (impl_in.calls (wrap64 (bt a0 x3_1)) 97 122 false _ A5.out).mono ?_); rintro e w' ⟨rfl, ⟨nd, rfl⟩⟩; refine ⟨_, rfl, ?_⟩; have p7 : 0 ≤ (x3_1 : Int) := of_decide_eq_true (by first | (with_reducible assumption) | assumption); have q7 : x3_1 < (a0.size : Int) := of_decide_eq_true (by first | (with_reducible assumption) | assumption); have hx7 := bt_at a0 x3_1; replace p7 := eq_true p7; replace q7 := eq_true q7) | (go_at_call 109; (with_reducible refine (impl_in.calls (wrap64 (bt a0 x3_1)) 48 57 true _ A8.out).mono ?_); rintro e w' ⟨rfl, ⟨nd, rfl⟩⟩))
              go_roundg k1
              case measure => have := HK1.out; omega
              case rel => exact ⟨(wrap64 (x3_1 + 1)), (by first | rfl | (simp; done) | (simp [*]; done)), H', ⟨by have := HK1.out; omega⟩, by repeat (first | exact Drawn0.refl _ | apply Drawn0.step)⟩
            · replace c9 := Bool.eq_false_iff.mpr c9
              subst c9
              have H1 : (some false) = some r := by rw [if_neg (show ¬ (false = true) by decide)] at H; exact H
              clear H
              have H := H1
              clear H1
              obtain rfl := Option.some.inj H
              have p4 : 0 ≤ (x3_1 : Int) := of_decide_eq_true (by first | (with_reducible assumption) | assumption)
              have q4 : x3_1 < (a0.size : Int) := of_decide_eq_true (by first | (with_reducible assumption) | assumption)
              have hx4 := bt_at a0 x3_1
              replace p4 := eq_true p4
              replace q4 := eq_true q4
              go_wp2_with (first | ((with_reducible refine gate_callee (f := 109) rfl ?_); refine goesL_ (some 14) rfl rfl Try.func109 (by kernel_rfl) rfl #[.int .i64 (wrap64 (bt a0 x3_1)), .int .i64 97, .int .i64 122] rfl (by (try simp only [List.map_toArray, List.map_cons, List.map_nil]); first | done | rfl | (simp only [List.length_drop, List.length_take]; rfl)) ?_; (with_reducible refine (impl_in.calls (wrap64 (bt a0 x3_1)) 97 122 false _ A5.out).mono ?_); rintro e w' ⟨rfl, ⟨nd, rfl⟩⟩; refine ⟨_, rfl, ?_⟩; have p7 : 0 ≤ (x3_1 : Int) := of_decide_eq_true (by first | (with_reducible assumption) | assumption); have q7 : x3_1 < (a0.size : Int) := of_decide_eq_true (by first | (with_reducible assumption) | assumption); have hx7 := bt_at a0 x3_1; replace p7 := eq_true p7; replace q7 := eq_true q7) | (go_at_call 109; (with_reducible refine (impl_in.calls (wrap64 (bt a0 x3_1)) 48 57 false _ A8.out).mono ?_); rintro e w' ⟨rfl, ⟨nd, rfl⟩⟩))
              go_ret
              exact ⟨by first | rfl | (simp; done) | (simp [*]; done), by repeat (first | exact Drawn0.refl _ | apply Drawn0.step)⟩
        · rw [if_neg c3] at H
          exact absurd H (by simp)
      · rw [if_neg c2] at H
        have c2b0 : decide (x3_1 < (a0.size : Int)) = false := decide_eq_false c2
        clear c2
        obtain rfl := Option.some.inj H
        go_wp2
        go_ret
        exact ⟨by first | rfl | (simp; done) | (simp [*]; done), by repeat (first | exact Drawn0.refl _ | apply Drawn0.step)⟩
end Go.Proofs.Ytjcpkplneflleaa.Q
namespace Go.Proofs.Ytjcpkplneflleaa.Q
open Go.RowKit Go.Proofs.YtjcpkplneflleaaW.PrintWords Go.Proofs.YtjcpkplneflleaaW.PrintLast Go.Proofs.YtjcpkplneflleaaW.PrintMore
attribute [local go_sem] max2_int min2_int max_two min_two max_three min_three max_four min_four   -- for this text's walks alone
set_option linter.unusedVariables false
set_option linter.unusedSimpArgs false
def impl_TreeWord.l0 : Nat → ByteArray → Int → Option (Bool)
  | 0, _, _ => none
  | k + 1, x0, x3 => if x3 < (x0.size : Int) then (if 0 ≤ x3 then ((impl_in.f (wrap64 (bt x0 x3)) 97 122).bind fun t394 => (if t394 = true then (impl_TreeWord.l0 k x0 (wrap64 (x3 + 1))) else (some false))) else (none)) else ((impl_in.f (x0.size : Int) 1 4).bind fun t395 => (some t395))
def impl_TreeWord.f (k : Nat) (a0 : ByteArray) : Option (Bool) := impl_TreeWord.l0 k a0 0
set_option maxHeartbeats 8000000 in
set_option maxRecDepth 100000 in
theorem impl_TreeWord.calls (k : Nat) (a0 : ByteArray) (r : Bool) (w : World) (h : impl_TreeWord.f k a0 = some r) :
    Calls Try.prog 156 #[.string a0] w fun e w' => e = .returned (.bool r) ∧ Drawn0 w w' := by
  have H : (impl_TreeWord.l0 k a0 0) = some r := h
  clear h
  have H' := Aside0.mk H
  clear H
  go_enter Try.func156, Try.ntmps156
  go_wp2
  go_loopg [3] k (fun kq v3 w' => ∃ (x3_1 : Int), v3 = .int .i64 x3_1 ∧ Aside0 (impl_TreeWord.l0 kq a0 x3_1 = some r) ∧ Aside0 (kq ≤ k) ∧ Drawn0 w w')
  case atStart => exact ⟨(0), (by first | rfl | (simp; done) | (simp [*]; done)), H', ⟨Nat.le_refl _⟩, by repeat (first | exact Drawn0.refl _ | apply Drawn0.step)⟩
  case round =>
    clear H'
    try clear c1
    obtain ⟨x3_1, rfl, HA, HK1, ⟨m1, rfl⟩⟩ := hrel
    cases gk with
    | zero => exact absurd HA.out (by simp [impl_TreeWord.l0])
    | succ k1 =>
      have H := HA.out
      clear HA
      simp only [impl_TreeWord.l0] at H
      by_cases c2 : x3_1 < (a0.size : Int)
      · rw [if_pos c2] at H
        have c2b0 : decide (x3_1 < (a0.size : Int)) = true := decide_eq_true c2
        clear c2
        by_cases c3 : 0 ≤ x3_1
        · rw [if_pos c3] at H
          have c3b0 : decide (0 ≤ x3_1) = true := decide_eq_true c3
          clear c3
          replace H := Option.bind_eq_some_iff.mp H
          obtain ⟨t394, A50, H⟩ := H
          replace H : (if t394 = true then (impl_TreeWord.l0 k1 a0 (wrap64 (x3_1 + 1))) else (some false)) = some r := H
          have A5 := Aside0.mk A50
          clear A50
          by_cases c6 : t394 = true
          · subst c6
            have H1 : (impl_TreeWord.l0 k1 a0 (wrap64 (x3_1 + 1))) = some r := by rw [if_pos rfl] at H; exact H
            clear H
            have H := H1
            clear H1
            have H' := Aside0.mk H
            clear H
            have p4 : 0 ≤ (x3_1 : Int) := of_decide_eq_true (by first | (with_reducible assumption) | assumption)
            have q4 : x3_1 < (a0.size : Int) := of_decide_eq_true (by first | (with_reducible assumption) | assumption)
            have hx4 := bt_at a0 x3_1
            replace p4 := eq_true p4
            replace q4 := eq_true q4
            go_wp2_with (first | ((with_reducible refine gate_callee (f := 109) rfl ?_); refine goesL_ (some 14) rfl rfl Try.func109 (by kernel_rfl) rfl #[.int .i64 (wrap64 (bt a0 x3_1)), .int .i64 97, .int .i64 122] rfl (by (try simp only [List.map_toArray, List.map_cons, List.map_nil]); first | done | rfl | (simp only [List.length_drop, List.length_take]; rfl)) ?_; (with_reducible refine (impl_in.calls (wrap64 (bt a0 x3_1)) 97 122 true _ A5.out).mono ?_); rintro e w' ⟨rfl, ⟨nd, rfl⟩⟩; refine ⟨_, rfl, ?_⟩))
            go_roundg k1
            case measure => have := HK1.out; omega
            case rel => exact ⟨(wrap64 (x3_1 + 1)), (by first | rfl | (simp; done) | (simp [*]; done)), H', ⟨by have := HK1.out; omega⟩, by repeat (first | exact Drawn0.refl _ | apply Drawn0.step)⟩
          · replace c6 := Bool.eq_false_iff.mpr c6
            subst c6
            have H1 : (some false) = some r := by rw [if_neg (show ¬ (false = true) by decide)] at H; exact H
            clear H
            have H := H1
            clear H1
            obtain rfl := Option.some.inj H
            have p4 : 0 ≤ (x3_1 : Int) := of_decide_eq_true (by first | (with_reducible assumption) | assumption)
            have q4 : x3_1 < (a0.size : Int) := of_decide_eq_true (by first | (with_reducible assumption) | assumption)
            have hx4 := bt_at a0 x3_1
            replace p4 := eq_true p4
            replace q4 := eq_true q4
            go_wp2_with (first | ((with_reducible refine gate_callee (f := 109) rfl ?_); refine goesL_ (some 14) rfl rfl Try.func109 (by kernel_rfl) rfl #[.int .i64 (wrap64 (bt a0 x3_1)), .int .i64 97, .int .i64 122] rfl (by (try simp only [List.map_toArray, List.map_cons, List.map_nil]); first | done | rfl | (simp only [List.length_drop, List.length_take]; rfl)) ?_; (with_reducible refine (impl_in.calls (wrap64 (bt a0 x3_1)) 97 122 false _ A5.out).mono ?_); rintro e w' ⟨rfl, ⟨nd, rfl⟩⟩; refine ⟨_, rfl, ?_⟩))
            go_ret
            exact ⟨by first | rfl | (simp; done) | (simp [*]; done), by repeat (first | exact Drawn0.refl _ | apply Drawn0.step)⟩
        · rw [if_neg c3] at H
          exact absurd H (by simp)
      · rw [if_neg c2] at H
        have c2b0 : decide (x3_1 < (a0.size : Int)) = false := decide_eq_false c2
        clear c2
        replace H := Option.bind_eq_some_iff.mp H
        obtain ⟨t395, A70, H⟩ := H
        replace H : (some t395) = some r := H
        have A7 := Aside0.mk A70
        clear A70
        obtain rfl := Option.some.inj H
        go_wp2_with (first | ((with_reducible refine gate_callee (f := 109) rfl ?_); refine goesL_ (some 18) rfl rfl Try.func109 (by kernel_rfl) rfl #[.int .i64 (a0.size : Int), .int .i64 1, .int .i64 4] rfl (by (try simp only [List.map_toArray, List.map_cons, List.map_nil]); first | done | rfl | (simp only [List.length_drop, List.length_take]; rfl)) ?_; (with_reducible refine (impl_in.calls (a0.size : Int) 1 4 t395 _ A7.out).mono ?_); rintro e w' ⟨rfl, ⟨nd, rfl⟩⟩; refine ⟨_, rfl, ?_⟩))
        go_ret
        exact ⟨by first | rfl | (simp; done) | (simp [*]; done), by repeat (first | exact Drawn0.refl _ | apply Drawn0.step)⟩
end Go.Proofs.Ytjcpkplneflleaa.Q
namespace Go.Proofs.Ytjcpkplneflleaa.Q
open Go.RowKit Go.Proofs.YtjcpkplneflleaaW.PrintWords Go.Proofs.YtjcpkplneflleaaW.PrintLast Go.Proofs.YtjcpkplneflleaaW.PrintMore
attribute [local go_sem] max2_int min2_int max_two min_two max_three min_three max_four min_four   -- for this text's walks alone
set_option linter.unusedVariables false
set_option linter.unusedSimpArgs false
mutual
def impl_OpOk.j0 : Nat → Bool → Int → Int → ByteArray → Int → ByteArray → Int → ByteArray → Option (Bool)
  | 0, _, _, _, _, _, _, _, _ => none
  | k + 1, x3, x418000, x418001, x418002, x418003, x418004, x418005, x418006 => if x418003 = 0 then (impl_OpOk.j1 k x3 (x418004.toList == ([] : List UInt8)) x418000 x418001 x418002 x418003 x418004 x418005 x418006) else (impl_OpOk.j1 k x3 false x418000 x418001 x418002 x418003 x418004 x418005 x418006)
def impl_OpOk.j1 : Nat → Bool → Bool → Int → Int → ByteArray → Int → ByteArray → Int → ByteArray → Option (Bool)
  | 0, _, _, _, _, _, _, _, _, _ => none
  | k + 1, x3, x4, x418000, x418001, x418002, x418003, x418004, x418005, x418006 => if x418000 = 1 then (impl_OpOk.j2 k x3 x4 x418000 (x418000 == 1) x418000 x418001 x418002 x418003 x418004 x418005 x418006) else (if x418000 = 2 then (impl_OpOk.j2 k x3 x4 x418000 (x418000 == 2) x418000 x418001 x418002 x418003 x418004 x418005 x418006) else (impl_OpOk.j2 k x3 x4 x418000 (x418000 == 3) x418000 x418001 x418002 x418003 x418004 x418005 x418006))
def impl_OpOk.j2 : Nat → Bool → Bool → Int → Bool → Int → Int → ByteArray → Int → ByteArray → Int → ByteArray → Option (Bool)
  | 0, _, _, _, _, _, _, _, _, _, _, _ => none
  | k + 1, x3, x4, x26, x27, x418000, x418001, x418002, x418003, x418004, x418005, x418006 => if x27 = true then (if x3 = true then (if x4 = true then (some (x418006.toList == ([] : List UInt8))) else (some false)) else (some false)) else (if x26 = 4 then (if x3 = true then ((impl_in.f x418003 0 31).bind fun t421 => (if t421 = true then ((impl_TreeWord.f k x418004).bind fun t422 => (if t422 = true then (some (x418006.toList == ([] : List UInt8))) else (some false))) else (some false))) else (some false)) else (if x26 = 5 then (if x418001 = 0 then (if x418002.toList = ([] : List UInt8) then (if x4 = true then ((impl_TreeBody.f k x418006).bind fun t423 => (some t423)) else (some false)) else (some false)) else (some false)) else (some false)))
end
def impl_OpOk.f (k : Nat) (a0_0 : Int) (a0_1 : Int) (a0_2 : ByteArray) (a0_3 : Int) (a0_4 : ByteArray) (a0_5 : Int) (a0_6 : ByteArray) : Option (Bool) := (impl_in.f a0_5 1 31).bind fun t418 => (if t418 = true then ((impl_in.f a0_1 0 31).bind fun t419 => (if t419 = true then ((impl_TreeWord.f k a0_2).bind fun t420 => (impl_OpOk.j0 k t420 a0_0 a0_1 a0_2 a0_3 a0_4 a0_5 a0_6)) else (impl_OpOk.j0 k false a0_0 a0_1 a0_2 a0_3 a0_4 a0_5 a0_6))) else (some false))
set_option maxHeartbeats 8000000 in
set_option maxRecDepth 100000 in
theorem impl_OpOk.calls (k : Nat) (a0_0 : Int) (a0_1 : Int) (a0_2 : ByteArray) (a0_3 : Int) (a0_4 : ByteArray) (a0_5 : Int) (a0_6 : ByteArray) (r : Bool) (w : World) (h : impl_OpOk.f k a0_0 a0_1 a0_2 a0_3 a0_4 a0_5 a0_6 = some r) :
    Calls Try.prog 144 #[.agg #[.int .i64 a0_0, .int .i64 a0_1, .string a0_2, .int .i64 a0_3, .string a0_4, .int .i64 a0_5, .string a0_6]] w fun e w' => e = .returned (.bool r) ∧ Below w.heap.size w w' := by
  have hu72 := Try.underlying72
  have HB := Aside0.mk (Below.refl w.heap.size w)
  have H : ((impl_in.f a0_5 1 31).bind fun t418 => (if t418 = true then ((impl_in.f a0_1 0 31).bind fun t419 => (if t419 = true then ((impl_TreeWord.f k a0_2).bind fun t420 => (impl_OpOk.j0 k t420 a0_0 a0_1 a0_2 a0_3 a0_4 a0_5 a0_6)) else (impl_OpOk.j0 k false a0_0 a0_1 a0_2 a0_3 a0_4 a0_5 a0_6))) else (some false))) = some r := h
  clear h
  replace H := Option.bind_eq_some_iff.mp H
  obtain ⟨t418, A20, H⟩ := H
  replace H : (if t418 = true then ((impl_in.f a0_1 0 31).bind fun t419 => (if t419 = true then ((impl_TreeWord.f k a0_2).bind fun t420 => (impl_OpOk.j0 k t420 a0_0 a0_1 a0_2 a0_3 a0_4 a0_5 a0_6)) else (impl_OpOk.j0 k false a0_0 a0_1 a0_2 a0_3 a0_4 a0_5 a0_6))) else (some false)) = some r := H
  have A2 := Aside0.mk A20
  clear A20
  by_cases c3 : t418 = true
  · subst c3
    have H1 : ((impl_in.f a0_1 0 31).bind fun t419 => (if t419 = true then ((impl_TreeWord.f k a0_2).bind fun t420 => (impl_OpOk.j0 k t420 a0_0 a0_1 a0_2 a0_3 a0_4 a0_5 a0_6)) else (impl_OpOk.j0 k false a0_0 a0_1 a0_2 a0_3 a0_4 a0_5 a0_6))) = some r := by rw [if_pos rfl] at H; exact H
    clear H
    have H := H1
    clear H1
    have HC4 := Aside0.mk H
    clear H
    go_enter Try.func144, Try.ntmps144
    go_upto_region 3 with (first | ((with_reducible refine gate_dst (N := 1) rfl ?_); refine box_event ?hg (N := 1) ?hd (cs := #[.int .i64 a0_0, .int .i64 a0_1, .string a0_2, .int .i64 a0_3, .string a0_4, .int .i64 a0_5, .string a0_6]) (t := 72) ?hr ?_; (case hd => rfl); (case hg => rfl); (case hr => first | (go_simp; done) | (go_simp; rfl)); intro gb417 hg w5 hbox hb; have n0_ := Aside0.mk (below_step (by repeat (first | (with_reducible first | exact HB.out | apply below_alloc | apply pw_below_drewN | apply below_drew1) | exact HB.out)) hb); have n1_ := Aside0.mk (hbox); have n2_ := Aside0.mk ((by rw [hg]; exact (below_size (by repeat (first | (with_reducible first | exact HB.out | apply below_alloc | apply pw_below_drewN | apply below_drew1) | exact HB.out))) : w.heap.size ≤ gb417)); have n3_ := Aside0.mk ((by rw [hg]; exact (below_size (by repeat (first | (with_reducible first | exact HB.out | apply below_alloc | apply pw_below_drewN | apply below_drew1) | exact HB.out))) : w.heap.size ≤ gb417)); clear HB; have HB := n0_; have BK417 := n1_; have GW417 := n2_; have GE417 := n3_; clear n0_ n1_ n2_ n3_; clear hb hbox hg; have hcz6_0 : w5.cell? ⟨gb417, 0, none⟩ = some (.int .i64 a0_0) := (blk_cell BK417.out 0).trans rfl; have hcz6_1 : w5.cell? ⟨gb417, 1, none⟩ = some (.int .i64 a0_1) := (blk_cell BK417.out 1).trans rfl; have hcz6_2 : w5.cell? ⟨gb417, 2, none⟩ = some (.string a0_2) := (blk_cell BK417.out 2).trans rfl; have hcz6_3 : w5.cell? ⟨gb417, 3, none⟩ = some (.int .i64 a0_3) := (blk_cell BK417.out 3).trans rfl; have hcz6_4 : w5.cell? ⟨gb417, 4, none⟩ = some (.string a0_4) := (blk_cell BK417.out 4).trans rfl; have hcz6_5 : w5.cell? ⟨gb417, 5, none⟩ = some (.int .i64 a0_5) := (blk_cell BK417.out 5).trans rfl; have hcz6_6 : w5.cell? ⟨gb417, 6, none⟩ = some (.string a0_6) := (blk_cell BK417.out 6).trans rfl; have hfz6_0 := blk_frozen BK417.out 0; have hfz6_1 := blk_frozen BK417.out 1; have hfz6_2 := blk_frozen BK417.out 2; have hfz6_3 := blk_frozen BK417.out 3; have hfz6_4 := blk_frozen BK417.out 4; have hfz6_5 := blk_frozen BK417.out 5; have hfz6_6 := blk_frozen BK417.out 6) | ((with_reducible refine gate_callee (f := 109) rfl ?_); refine goesL_ (some 7) rfl rfl Try.func109 (by kernel_rfl) rfl #[.int .i64 a0_5, .int .i64 1, .int .i64 31] rfl (by (try simp only [List.map_toArray, List.map_cons, List.map_nil]); first | done | rfl | (simp only [List.length_drop, List.length_take]; rfl)) ?_; (with_reducible refine (impl_in.calls a0_5 1 31 true _ A2.out).mono ?_); rintro e w' ⟨rfl, ⟨nd, rfl⟩⟩; refine ⟨_, rfl, ?_⟩))
    (try simp only [Act.put, List.setIfInBounds_toArray, List.set_cons_zero, List.set_cons_succ])
    go_cut [3] (fun v3 wc => ∃ (kq : Nat) (x3_3 : Bool), v3 = .bool x3_3 ∧ Aside0 (impl_OpOk.j0 kq x3_3 a0_0 a0_1 a0_2 a0_3 a0_4 a0_5 a0_6 = some r) ∧ Aside0 (kq ≤ k) ∧ Aside0 (wc.heap[gb417]? = some (.cells #[.int .i64 a0_0, .int .i64 a0_1, .string a0_2, .int .i64 a0_3, .string a0_4, .int .i64 a0_5, .string a0_6] 72 (0, 0))) ∧ Aside0 (Below w.heap.size w wc))
    case first =>
      have H := HC4.out
      clear HC4
      replace H := Option.bind_eq_some_iff.mp H
      obtain ⟨t419, A70, H⟩ := H
      replace H : (if t419 = true then ((impl_TreeWord.f k a0_2).bind fun t420 => (impl_OpOk.j0 k t420 a0_0 a0_1 a0_2 a0_3 a0_4 a0_5 a0_6)) else (impl_OpOk.j0 k false a0_0 a0_1 a0_2 a0_3 a0_4 a0_5 a0_6)) = some r := H
      have A7 := Aside0.mk A70
      clear A70
      by_cases c8 : t419 = true
      · subst c8
        have H1 : ((impl_TreeWord.f k a0_2).bind fun t420 => (impl_OpOk.j0 k t420 a0_0 a0_1 a0_2 a0_3 a0_4 a0_5 a0_6)) = some r := by rw [if_pos rfl] at H; exact H
        clear H
        have H := H1
        clear H1
        replace H := Option.bind_eq_some_iff.mp H
        obtain ⟨t420, A90, H⟩ := H
        replace H : (impl_OpOk.j0 k t420 a0_0 a0_1 a0_2 a0_3 a0_4 a0_5 a0_6) = some r := H
        have A9 := Aside0.mk A90
        clear A90
        have H' := Aside0.mk H
        clear H
        have hcz10_0 : w5.cell? ⟨gb417, 0, none⟩ = some (.int .i64 a0_0) := (blk_cell BK417.out 0).trans rfl
        have hcz10_1 : w5.cell? ⟨gb417, 1, none⟩ = some (.int .i64 a0_1) := (blk_cell BK417.out 1).trans rfl
        have hcz10_2 : w5.cell? ⟨gb417, 2, none⟩ = some (.string a0_2) := (blk_cell BK417.out 2).trans rfl
        have hcz10_3 : w5.cell? ⟨gb417, 3, none⟩ = some (.int .i64 a0_3) := (blk_cell BK417.out 3).trans rfl
        have hcz10_4 : w5.cell? ⟨gb417, 4, none⟩ = some (.string a0_4) := (blk_cell BK417.out 4).trans rfl
        have hcz10_5 : w5.cell? ⟨gb417, 5, none⟩ = some (.int .i64 a0_5) := (blk_cell BK417.out 5).trans rfl
        have hcz10_6 : w5.cell? ⟨gb417, 6, none⟩ = some (.string a0_6) := (blk_cell BK417.out 6).trans rfl
        have hfz10_0 := blk_frozen BK417.out 0
        have hfz10_1 := blk_frozen BK417.out 1
        have hfz10_2 := blk_frozen BK417.out 2
        have hfz10_3 := blk_frozen BK417.out 3
        have hfz10_4 := blk_frozen BK417.out 4
        have hfz10_5 := blk_frozen BK417.out 5
        have hfz10_6 := blk_frozen BK417.out 6
        go_wp2_with (first | ((with_reducible refine gate_callee (f := 109) rfl ?_); refine goesL_ (some 11) rfl rfl Try.func109 (by kernel_rfl) rfl #[.int .i64 a0_1, .int .i64 0, .int .i64 31] rfl (by (try simp only [List.map_toArray, List.map_cons, List.map_nil]); first | done | rfl | (simp only [List.length_drop, List.length_take]; rfl)) ?_; (with_reducible refine (impl_in.calls a0_1 0 31 true _ A7.out).mono ?_); rintro e w' ⟨rfl, ⟨nd, rfl⟩⟩; refine ⟨_, rfl, ?_⟩) | (go_at_call 156; (with_reducible refine (impl_TreeWord.calls k a0_2 t420 _ A9.out).mono ?_); rintro e w' ⟨rfl, ⟨nd, rfl⟩⟩))
        go_meet
        case rel => exact ⟨_, (t420), (by first | rfl | (simp; done) | (simp [*]; done)), H', ⟨by first | omega | exact Nat.le_refl _⟩, ⟨by (with_reducible repeat (first | refine blk_drewN ?_ _ | refine blk_drew ?_ | refine blk_alloc ?_ _)); exact BK417.out⟩, ⟨by repeat (first | (with_reducible first | exact HB.out | apply below_alloc | apply pw_below_drewN | apply below_drew1 | refine below_set ?_ GE417.out) | exact HB.out)⟩⟩
      · replace c8 := Bool.eq_false_iff.mpr c8
        subst c8
        have H1 : (impl_OpOk.j0 k false a0_0 a0_1 a0_2 a0_3 a0_4 a0_5 a0_6) = some r := by rw [if_neg (show ¬ (false = true) by decide)] at H; exact H
        clear H
        have H := H1
        clear H1
        have H' := Aside0.mk H
        clear H
        have hcz11_0 : w5.cell? ⟨gb417, 0, none⟩ = some (.int .i64 a0_0) := (blk_cell BK417.out 0).trans rfl
        have hcz11_1 : w5.cell? ⟨gb417, 1, none⟩ = some (.int .i64 a0_1) := (blk_cell BK417.out 1).trans rfl
        have hcz11_2 : w5.cell? ⟨gb417, 2, none⟩ = some (.string a0_2) := (blk_cell BK417.out 2).trans rfl
        have hcz11_3 : w5.cell? ⟨gb417, 3, none⟩ = some (.int .i64 a0_3) := (blk_cell BK417.out 3).trans rfl
        have hcz11_4 : w5.cell? ⟨gb417, 4, none⟩ = some (.string a0_4) := (blk_cell BK417.out 4).trans rfl
        have hcz11_5 : w5.cell? ⟨gb417, 5, none⟩ = some (.int .i64 a0_5) := (blk_cell BK417.out 5).trans rfl
        have hcz11_6 : w5.cell? ⟨gb417, 6, none⟩ = some (.string a0_6) := (blk_cell BK417.out 6).trans rfl
        have hfz11_0 := blk_frozen BK417.out 0
        have hfz11_1 := blk_frozen BK417.out 1
        have hfz11_2 := blk_frozen BK417.out 2
        have hfz11_3 := blk_frozen BK417.out 3
        have hfz11_4 := blk_frozen BK417.out 4
        have hfz11_5 := blk_frozen BK417.out 5
        have hfz11_6 := blk_frozen BK417.out 6
        go_wp2_with (first | ((with_reducible refine gate_callee (f := 109) rfl ?_); refine goesL_ (some 11) rfl rfl Try.func109 (by kernel_rfl) rfl #[.int .i64 a0_1, .int .i64 0, .int .i64 31] rfl (by (try simp only [List.map_toArray, List.map_cons, List.map_nil]); first | done | rfl | (simp only [List.length_drop, List.length_take]; rfl)) ?_; (with_reducible refine (impl_in.calls a0_1 0 31 false _ A7.out).mono ?_); rintro e w' ⟨rfl, ⟨nd, rfl⟩⟩; refine ⟨_, rfl, ?_⟩))
        go_meet
        case rel => exact ⟨_, (false), (by first | rfl | (simp; done) | (simp [*]; done)), H', ⟨by first | omega | exact Nat.le_refl _⟩, ⟨by (with_reducible repeat (first | refine blk_drewN ?_ _ | refine blk_drew ?_ | refine blk_alloc ?_ _)); exact BK417.out⟩, ⟨by repeat (first | (with_reducible first | exact HB.out | apply below_alloc | apply pw_below_drewN | apply below_drew1 | refine below_set ?_ GE417.out) | exact HB.out)⟩⟩
    case rest =>
      clear HC4
      try clear c1
      try clear p2
      try clear c3
      try clear c8
      try clear c10
      try clear hcz10_0
      try clear hcz10_1
      try clear hcz10_2
      try clear hcz10_3
      try clear hcz10_4
      try clear hcz10_5
      try clear hcz10_6
      try clear hcz11_0
      try clear hcz11_1
      try clear hcz11_2
      try clear hcz11_3
      try clear hcz11_4
      try clear hcz11_5
      try clear hcz11_6
      try clear hcz6_0
      try clear hcz6_1
      try clear hcz6_2
      try clear hcz6_3
      try clear hcz6_4
      try clear hcz6_5
      try clear hcz6_6
      try clear hfz10_0
      try clear hfz10_1
      try clear hfz10_2
      try clear hfz10_3
      try clear hfz10_4
      try clear hfz10_5
      try clear hfz10_6
      try clear hfz11_0
      try clear hfz11_1
      try clear hfz11_2
      try clear hfz11_3
      try clear hfz11_4
      try clear hfz11_5
      try clear hfz11_6
      try clear hfz6_0
      try clear hfz6_1
      try clear hfz6_2
      try clear hfz6_3
      try clear hfz6_4
      try clear hfz6_5
      try clear hfz6_6
      obtain ⟨kq, x3_3, rfl, HA, HJ3, BK417, HB⟩ := hcut
      cases kq with
      | zero => exact absurd HA.out (by simp [impl_OpOk.j0])
      | succ kj3 =>
        have H := HA.out
        clear HA
        simp only [impl_OpOk.j0] at H
        have HC12 := Aside0.mk H
        clear H
        go_upto_region 4 with (fail)
        go_cut [4] (fun v4 wc => ∃ (kq : Nat) (x4_11 : Bool), v4 = .bool x4_11 ∧ Aside0 (impl_OpOk.j1 kq x3_3 x4_11 a0_0 a0_1 a0_2 a0_3 a0_4 a0_5 a0_6 = some r) ∧ Aside0 (kq ≤ kj3) ∧ Aside0 (wc.heap[gb417]? = some (.cells #[.int .i64 a0_0, .int .i64 a0_1, .string a0_2, .int .i64 a0_3, .string a0_4, .int .i64 a0_5, .string a0_6] 72 (0, 0))) ∧ Aside0 (Below w.heap.size w wc))
        case first =>
          have H := HC12.out
          clear HC12
          by_cases c13 : a0_3 = 0
          · rw [if_pos c13] at H
            have c13b0 : (a0_3 == 0) = true := beq_iff_eq.mpr c13
            have c13b1 : (a0_3 != 0) = false := bne_eq_false_iff_eq.mpr c13
            clear c13
            (first | rw [c13b0] | (simp only [i64_w, i32_w]; rw [c13b0]) | skip)
            have H' := Aside0.mk H
            clear H
            have hcz14_0 : wc.cell? ⟨gb417, 0, none⟩ = some (.int .i64 a0_0) := (blk_cell BK417.out 0).trans rfl
            have hcz14_1 : wc.cell? ⟨gb417, 1, none⟩ = some (.int .i64 a0_1) := (blk_cell BK417.out 1).trans rfl
            have hcz14_2 : wc.cell? ⟨gb417, 2, none⟩ = some (.string a0_2) := (blk_cell BK417.out 2).trans rfl
            have hcz14_3 : wc.cell? ⟨gb417, 3, none⟩ = some (.int .i64 a0_3) := (blk_cell BK417.out 3).trans rfl
            have hcz14_4 : wc.cell? ⟨gb417, 4, none⟩ = some (.string a0_4) := (blk_cell BK417.out 4).trans rfl
            have hcz14_5 : wc.cell? ⟨gb417, 5, none⟩ = some (.int .i64 a0_5) := (blk_cell BK417.out 5).trans rfl
            have hcz14_6 : wc.cell? ⟨gb417, 6, none⟩ = some (.string a0_6) := (blk_cell BK417.out 6).trans rfl
            have hfz14_0 := blk_frozen BK417.out 0
            have hfz14_1 := blk_frozen BK417.out 1
            have hfz14_2 := blk_frozen BK417.out 2
            have hfz14_3 := blk_frozen BK417.out 3
            have hfz14_4 := blk_frozen BK417.out 4
            have hfz14_5 := blk_frozen BK417.out 5
            have hfz14_6 := blk_frozen BK417.out 6
            go_wp2
            go_meet
            case rel => exact ⟨_, ((a0_4.toList == ([] : List UInt8))), (by first | rfl | (simp; done) | (simp [*]; done)), H', ⟨by have := HJ3.out; first | omega | exact Nat.le_refl _⟩, ⟨by (with_reducible repeat (first | refine blk_drewN ?_ _ | refine blk_drew ?_ | refine blk_alloc ?_ _)); exact BK417.out⟩, ⟨by repeat (first | (with_reducible first | exact HB.out | apply below_alloc | apply pw_below_drewN | apply below_drew1 | refine below_set ?_ GE417.out) | exact HB.out)⟩⟩
          · rw [if_neg c13] at H
            have c13b0 : (a0_3 == 0) = false := beq_eq_false_iff_ne.mpr c13
            have c13b1 : (a0_3 != 0) = true := bne_iff_ne.mpr c13
            (first | rw [c13b0] | (simp only [i64_w, i32_w]; rw [c13b0]) | skip)
            have H' := Aside0.mk H
            clear H
            have hcz15_0 : wc.cell? ⟨gb417, 0, none⟩ = some (.int .i64 a0_0) := (blk_cell BK417.out 0).trans rfl
            have hcz15_1 : wc.cell? ⟨gb417, 1, none⟩ = some (.int .i64 a0_1) := (blk_cell BK417.out 1).trans rfl
            have hcz15_2 : wc.cell? ⟨gb417, 2, none⟩ = some (.string a0_2) := (blk_cell BK417.out 2).trans rfl
            have hcz15_3 : wc.cell? ⟨gb417, 3, none⟩ = some (.int .i64 a0_3) := (blk_cell BK417.out 3).trans rfl
            have hcz15_4 : wc.cell? ⟨gb417, 4, none⟩ = some (.string a0_4) := (blk_cell BK417.out 4).trans rfl
            have hcz15_5 : wc.cell? ⟨gb417, 5, none⟩ = some (.int .i64 a0_5) := (blk_cell BK417.out 5).trans rfl
            have hcz15_6 : wc.cell? ⟨gb417, 6, none⟩ = some (.string a0_6) := (blk_cell BK417.out 6).trans rfl
            have hfz15_0 := blk_frozen BK417.out 0
            have hfz15_1 := blk_frozen BK417.out 1
            have hfz15_2 := blk_frozen BK417.out 2
            have hfz15_3 := blk_frozen BK417.out 3
            have hfz15_4 := blk_frozen BK417.out 4
            have hfz15_5 := blk_frozen BK417.out 5
            have hfz15_6 := blk_frozen BK417.out 6
            go_wp2
            go_meet
            case rel => exact ⟨_, (false), (by first | rfl | (simp; done) | (simp [*]; done)), H', ⟨by have := HJ3.out; first | omega | exact Nat.le_refl _⟩, ⟨by (with_reducible repeat (first | refine blk_drewN ?_ _ | refine blk_drew ?_ | refine blk_alloc ?_ _)); exact BK417.out⟩, ⟨by repeat (first | (with_reducible first | exact HB.out | apply below_alloc | apply pw_below_drewN | apply below_drew1 | refine below_set ?_ GE417.out) | exact HB.out)⟩⟩
        case rest =>
          clear HC12
          try clear c1
          try clear p2
          try clear c3
          try clear c8
          try clear c10
          try clear c13
          try clear c13b0
          try clear c13b1
          try clear c14
          try clear hcz10_0
          try clear hcz10_1
          try clear hcz10_2
          try clear hcz10_3
          try clear hcz10_4
          try clear hcz10_5
          try clear hcz10_6
          try clear hcz11_0
          try clear hcz11_1
          try clear hcz11_2
          try clear hcz11_3
          try clear hcz11_4
          try clear hcz11_5
          try clear hcz11_6
          try clear hcz14_0
          try clear hcz14_1
          try clear hcz14_2
          try clear hcz14_3
          try clear hcz14_4
          try clear hcz14_5
          try clear hcz14_6
          try clear hcz15_0
          try clear hcz15_1
          try clear hcz15_2
          try clear hcz15_3
          try clear hcz15_4
          try clear hcz15_5
          try clear hcz15_6
          try clear hcz6_0
          try clear hcz6_1
          try clear hcz6_2
          try clear hcz6_3
          try clear hcz6_4
          try clear hcz6_5
          try clear hcz6_6
          try clear hfz10_0
          try clear hfz10_1
          try clear hfz10_2
          try clear hfz10_3
          try clear hfz10_4
          try clear hfz10_5
          try clear hfz10_6
          try clear hfz11_0
          try clear hfz11_1
          try clear hfz11_2
          try clear hfz11_3
          try clear hfz11_4
          try clear hfz11_5
          try clear hfz11_6
          try clear hfz14_0
          try clear hfz14_1
          try clear hfz14_2
          try clear hfz14_3
          try clear hfz14_4
          try clear hfz14_5
          try clear hfz14_6
          try clear hfz15_0
          try clear hfz15_1
          try clear hfz15_2
          try clear hfz15_3
          try clear hfz15_4
          try clear hfz15_5
          try clear hfz15_6
          try clear hfz6_0
          try clear hfz6_1
          try clear hfz6_2
          try clear hfz6_3
          try clear hfz6_4
          try clear hfz6_5
          try clear hfz6_6
          try clear p2
          obtain ⟨kq, x4_11, rfl, HA, HJ11, BK417, HB⟩ := hcut
          cases kq with
          | zero => exact absurd HA.out (by simp [impl_OpOk.j1])
          | succ kj11 =>
            have H := HA.out
            clear HA
            simp only [impl_OpOk.j1] at H
            have HC16 := Aside0.mk H
            clear H
            have hcz17_0 : wc.cell? ⟨gb417, 0, none⟩ = some (.int .i64 a0_0) := (blk_cell BK417.out 0).trans rfl
            have hcz17_1 : wc.cell? ⟨gb417, 1, none⟩ = some (.int .i64 a0_1) := (blk_cell BK417.out 1).trans rfl
            have hcz17_2 : wc.cell? ⟨gb417, 2, none⟩ = some (.string a0_2) := (blk_cell BK417.out 2).trans rfl
            have hcz17_3 : wc.cell? ⟨gb417, 3, none⟩ = some (.int .i64 a0_3) := (blk_cell BK417.out 3).trans rfl
            have hcz17_4 : wc.cell? ⟨gb417, 4, none⟩ = some (.string a0_4) := (blk_cell BK417.out 4).trans rfl
            have hcz17_5 : wc.cell? ⟨gb417, 5, none⟩ = some (.int .i64 a0_5) := (blk_cell BK417.out 5).trans rfl
            have hcz17_6 : wc.cell? ⟨gb417, 6, none⟩ = some (.string a0_6) := (blk_cell BK417.out 6).trans rfl
            have hfz17_0 := blk_frozen BK417.out 0
            have hfz17_1 := blk_frozen BK417.out 1
            have hfz17_2 := blk_frozen BK417.out 2
            have hfz17_3 := blk_frozen BK417.out 3
            have hfz17_4 := blk_frozen BK417.out 4
            have hfz17_5 := blk_frozen BK417.out 5
            have hfz17_6 := blk_frozen BK417.out 6
            go_upto_if 27 with (fail)
            go_cut [27] (fun v27 wc => ∃ (kq : Nat) (x27_15 : Bool), v27 = .bool x27_15 ∧ Aside0 (impl_OpOk.j2 kq x3_3 x4_11 a0_0 x27_15 a0_0 a0_1 a0_2 a0_3 a0_4 a0_5 a0_6 = some r) ∧ Aside0 (kq ≤ kj11) ∧ Aside0 (wc.heap[gb417]? = some (.cells #[.int .i64 a0_0, .int .i64 a0_1, .string a0_2, .int .i64 a0_3, .string a0_4, .int .i64 a0_5, .string a0_6] 72 (0, 0))) ∧ Aside0 (Below w.heap.size w wc))
            case first =>
              have H := HC16.out
              clear HC16
              by_cases c18 : a0_0 = 1
              · rw [if_pos c18] at H
                have c18b0 : (a0_0 == 1) = true := beq_iff_eq.mpr c18
                have c18b1 : (a0_0 != 1) = false := bne_eq_false_iff_eq.mpr c18
                clear c18
                (first | rw [c18b0] | (simp only [i64_w, i32_w]; rw [c18b0]) | skip)
                have H' := Aside0.mk H
                clear H
                go_wp2
                go_meet
                case rel => exact ⟨_, ((a0_0 == 1)), (by first | rfl | (simp; done) | (simp [*]; done)), H', ⟨by have := HJ3.out; have := HJ11.out; first | omega | exact Nat.le_refl _⟩, ⟨by (with_reducible repeat (first | refine blk_drewN ?_ _ | refine blk_drew ?_ | refine blk_alloc ?_ _)); exact BK417.out⟩, ⟨by repeat (first | (with_reducible first | exact HB.out | apply below_alloc | apply pw_below_drewN | apply below_drew1 | refine below_set ?_ GE417.out) | exact HB.out)⟩⟩
              · rw [if_neg c18] at H
                have c18b0 : (a0_0 == 1) = false := beq_eq_false_iff_ne.mpr c18
                have c18b1 : (a0_0 != 1) = true := bne_iff_ne.mpr c18
                (first | rw [c18b0] | (simp only [i64_w, i32_w]; rw [c18b0]) | skip)
                by_cases c19 : a0_0 = 2
                · rw [if_pos c19] at H
                  have c19b0 : (a0_0 == 2) = true := beq_iff_eq.mpr c19
                  have c19b1 : (a0_0 != 2) = false := bne_eq_false_iff_eq.mpr c19
                  clear c19
                  have H' := Aside0.mk H
                  clear H
                  go_wp2
                  go_meet
                  case rel => exact ⟨_, ((a0_0 == 2)), (by first | rfl | (simp; done) | (simp [*]; done)), H', ⟨by have := HJ3.out; have := HJ11.out; first | omega | exact Nat.le_refl _⟩, ⟨by (with_reducible repeat (first | refine blk_drewN ?_ _ | refine blk_drew ?_ | refine blk_alloc ?_ _)); exact BK417.out⟩, ⟨by repeat (first | (with_reducible first | exact HB.out | apply below_alloc | apply pw_below_drewN | apply below_drew1 | refine below_set ?_ GE417.out) | exact HB.out)⟩⟩
                · rw [if_neg c19] at H
                  have c19b0 : (a0_0 == 2) = false := beq_eq_false_iff_ne.mpr c19
                  have c19b1 : (a0_0 != 2) = true := bne_iff_ne.mpr c19
                  have H' := Aside0.mk H
                  clear H
                  go_wp2
                  go_meet
                  case rel => exact ⟨_, ((a0_0 == 3)), (by first | rfl | (simp; done) | (simp [*]; done)), H', ⟨by have := HJ3.out; have := HJ11.out; first | omega | exact Nat.le_refl _⟩, ⟨by (with_reducible repeat (first | refine blk_drewN ?_ _ | refine blk_drew ?_ | refine blk_alloc ?_ _)); exact BK417.out⟩, ⟨by repeat (first | (with_reducible first | exact HB.out | apply below_alloc | apply pw_below_drewN | apply below_drew1 | refine below_set ?_ GE417.out) | exact HB.out)⟩⟩
            case rest =>
              clear HC16
              try clear c1
              try clear p2
              try clear c3
              try clear c8
              try clear c10
              try clear c13
              try clear c13b0
              try clear c13b1
              try clear c14
              try clear c18
              try clear c18b0
              try clear c18b1
              try clear c19
              try clear c19b0
              try clear c19b1
              try clear hcz10_0
              try clear hcz10_1
              try clear hcz10_2
              try clear hcz10_3
              try clear hcz10_4
              try clear hcz10_5
              try clear hcz10_6
              try clear hcz11_0
              try clear hcz11_1
              try clear hcz11_2
              try clear hcz11_3
              try clear hcz11_4
              try clear hcz11_5
              try clear hcz11_6
              try clear hcz14_0
              try clear hcz14_1
              try clear hcz14_2
              try clear hcz14_3
              try clear hcz14_4
              try clear hcz14_5
              try clear hcz14_6
              try clear hcz15_0
              try clear hcz15_1
              try clear hcz15_2
              try clear hcz15_3
              try clear hcz15_4
              try clear hcz15_5
              try clear hcz15_6
              try clear hcz17_0
              try clear hcz17_1
              try clear hcz17_2
              try clear hcz17_3
              try clear hcz17_4
              try clear hcz17_5
              try clear hcz17_6
              try clear hcz6_0
              try clear hcz6_1
              try clear hcz6_2
              try clear hcz6_3
              try clear hcz6_4
              try clear hcz6_5
              try clear hcz6_6
              try clear hfz10_0
              try clear hfz10_1
              try clear hfz10_2
              try clear hfz10_3
              try clear hfz10_4
              try clear hfz10_5
              try clear hfz10_6
              try clear hfz11_0
              try clear hfz11_1
              try clear hfz11_2
              try clear hfz11_3
              try clear hfz11_4
              try clear hfz11_5
              try clear hfz11_6
              try clear hfz14_0
              try clear hfz14_1
              try clear hfz14_2
              try clear hfz14_3
              try clear hfz14_4
              try clear hfz14_5
              try clear hfz14_6
              try clear hfz15_0
              try clear hfz15_1
              try clear hfz15_2
              try clear hfz15_3
              try clear hfz15_4
              try clear hfz15_5
              try clear hfz15_6
              try clear hfz17_0
              try clear hfz17_1
              try clear hfz17_2
              try clear hfz17_3
              try clear hfz17_4
              try clear hfz17_5
              try clear hfz17_6
              try clear hfz6_0
              try clear hfz6_1
              try clear hfz6_2
              try clear hfz6_3
              try clear hfz6_4
              try clear hfz6_5
              try clear hfz6_6
              try clear p2
              obtain ⟨kq, x27_15, rfl, HA, HJ15, BK417, HB⟩ := hcut
              cases kq with
              | zero => exact absurd HA.out (by simp [impl_OpOk.j2])
              | succ kj15 =>
                have H := HA.out
                clear HA
                simp only [impl_OpOk.j2] at H
                by_cases c20 : x27_15 = true
                · subst c20
                  have H1 : (if x3_3 = true then (if x4_11 = true then (some (a0_6.toList == ([] : List UInt8))) else (some false)) else (some false)) = some r := by rw [if_pos rfl] at H; exact H
                  clear H
                  have H := H1
                  clear H1
                  by_cases c21 : x3_3 = true
                  · subst c21
                    have H1 : (if x4_11 = true then (some (a0_6.toList == ([] : List UInt8))) else (some false)) = some r := by rw [if_pos rfl] at H; exact H
                    clear H
                    have H := H1
                    clear H1
                    by_cases c22 : x4_11 = true
                    · subst c22
                      have H1 : (some (a0_6.toList == ([] : List UInt8))) = some r := by rw [if_pos rfl] at H; exact H
                      clear H
                      have H := H1
                      clear H1
                      obtain rfl := Option.some.inj H
                      have hcz23_0 : wc.cell? ⟨gb417, 0, none⟩ = some (.int .i64 a0_0) := (blk_cell BK417.out 0).trans rfl
                      have hcz23_1 : wc.cell? ⟨gb417, 1, none⟩ = some (.int .i64 a0_1) := (blk_cell BK417.out 1).trans rfl
                      have hcz23_2 : wc.cell? ⟨gb417, 2, none⟩ = some (.string a0_2) := (blk_cell BK417.out 2).trans rfl
                      have hcz23_3 : wc.cell? ⟨gb417, 3, none⟩ = some (.int .i64 a0_3) := (blk_cell BK417.out 3).trans rfl
                      have hcz23_4 : wc.cell? ⟨gb417, 4, none⟩ = some (.string a0_4) := (blk_cell BK417.out 4).trans rfl
                      have hcz23_5 : wc.cell? ⟨gb417, 5, none⟩ = some (.int .i64 a0_5) := (blk_cell BK417.out 5).trans rfl
                      have hcz23_6 : wc.cell? ⟨gb417, 6, none⟩ = some (.string a0_6) := (blk_cell BK417.out 6).trans rfl
                      have hfz23_0 := blk_frozen BK417.out 0
                      have hfz23_1 := blk_frozen BK417.out 1
                      have hfz23_2 := blk_frozen BK417.out 2
                      have hfz23_3 := blk_frozen BK417.out 3
                      have hfz23_4 := blk_frozen BK417.out 4
                      have hfz23_5 := blk_frozen BK417.out 5
                      have hfz23_6 := blk_frozen BK417.out 6
                      go_wp2
                      go_ret
                      exact ⟨by first | rfl | (simp [errW_none, errW_some] <;> rfl) | (simp [*, errW_none, errW_some] <;> rfl), by repeat (first | (with_reducible first | exact HB.out | apply below_alloc | apply pw_below_drewN | apply below_drew1 | refine below_set ?_ GE417.out) | exact HB.out)⟩
                    · replace c22 := Bool.eq_false_iff.mpr c22
                      subst c22
                      have H1 : (some false) = some r := by rw [if_neg (show ¬ (false = true) by decide)] at H; exact H
                      clear H
                      have H := H1
                      clear H1
                      obtain rfl := Option.some.inj H
                      go_wp2
                      go_ret
                      exact ⟨by first | rfl | (simp [errW_none, errW_some] <;> rfl) | (simp [*, errW_none, errW_some] <;> rfl), by repeat (first | (with_reducible first | exact HB.out | apply below_alloc | apply pw_below_drewN | apply below_drew1 | refine below_set ?_ GE417.out) | exact HB.out)⟩
                  · replace c21 := Bool.eq_false_iff.mpr c21
                    subst c21
                    have H1 : (some false) = some r := by rw [if_neg (show ¬ (false = true) by decide)] at H; exact H
                    clear H
                    have H := H1
                    clear H1
                    obtain rfl := Option.some.inj H
                    go_wp2
                    go_ret
                    exact ⟨by first | rfl | (simp [errW_none, errW_some] <;> rfl) | (simp [*, errW_none, errW_some] <;> rfl), by repeat (first | (with_reducible first | exact HB.out | apply below_alloc | apply pw_below_drewN | apply below_drew1 | refine below_set ?_ GE417.out) | exact HB.out)⟩
                · replace c20 := Bool.eq_false_iff.mpr c20
                  subst c20
                  have H1 : (if a0_0 = 4 then (if x3_3 = true then ((impl_in.f a0_3 0 31).bind fun t421 => (if t421 = true then ((impl_TreeWord.f kj15 a0_4).bind fun t422 => (if t422 = true then (some (a0_6.toList == ([] : List UInt8))) else (some false))) else (some false))) else (some false)) else (if a0_0 = 5 then (if a0_1 = 0 then (if a0_2.toList = ([] : List UInt8) then (if x4_11 = true then ((impl_TreeBody.f kj15 a0_6).bind fun t423 => (some t423)) else (some false)) else (some false)) else (some false)) else (some false))) = some r := by rw [if_neg (show ¬ (false = true) by decide)] at H; exact H
                  clear H
                  have H := H1
                  clear H1
                  by_cases c24 : a0_0 = 4
                  · rw [if_pos c24] at H
                    have c24b0 : (a0_0 == 4) = true := beq_iff_eq.mpr c24
                    have c24b1 : (a0_0 != 4) = false := bne_eq_false_iff_eq.mpr c24
                    clear c24
                    by_cases c25 : x3_3 = true
                    · subst c25
                      have H1 : ((impl_in.f a0_3 0 31).bind fun t421 => (if t421 = true then ((impl_TreeWord.f kj15 a0_4).bind fun t422 => (if t422 = true then (some (a0_6.toList == ([] : List UInt8))) else (some false))) else (some false))) = some r := by rw [if_pos rfl] at H; exact H
                      clear H
                      have H := H1
                      clear H1
                      replace H := Option.bind_eq_some_iff.mp H
                      obtain ⟨t421, A260, H⟩ := H
                      replace H : (if t421 = true then ((impl_TreeWord.f kj15 a0_4).bind fun t422 => (if t422 = true then (some (a0_6.toList == ([] : List UInt8))) else (some false))) else (some false)) = some r := H
                      have A26 := Aside0.mk A260
                      clear A260
                      by_cases c27 : t421 = true
                      · subst c27
                        have H1 : ((impl_TreeWord.f kj15 a0_4).bind fun t422 => (if t422 = true then (some (a0_6.toList == ([] : List UInt8))) else (some false))) = some r := by rw [if_pos rfl] at H; exact H
                        clear H
                        have H := H1
                        clear H1
                        replace H := Option.bind_eq_some_iff.mp H
                        obtain ⟨t422, A280, H⟩ := H
                        replace H : (if t422 = true then (some (a0_6.toList == ([] : List UInt8))) else (some false)) = some r := H
                        have A28 := Aside0.mk A280
                        clear A280
                        by_cases c29 : t422 = true
                        · subst c29
                          have H1 : (some (a0_6.toList == ([] : List UInt8))) = some r := by rw [if_pos rfl] at H; exact H
                          clear H
                          have H := H1
                          clear H1
                          obtain rfl := Option.some.inj H
                          have hcz30_0 : wc.cell? ⟨gb417, 0, none⟩ = some (.int .i64 a0_0) := (blk_cell BK417.out 0).trans rfl
                          have hcz30_1 : wc.cell? ⟨gb417, 1, none⟩ = some (.int .i64 a0_1) := (blk_cell BK417.out 1).trans rfl
                          have hcz30_2 : wc.cell? ⟨gb417, 2, none⟩ = some (.string a0_2) := (blk_cell BK417.out 2).trans rfl
                          have hcz30_3 : wc.cell? ⟨gb417, 3, none⟩ = some (.int .i64 a0_3) := (blk_cell BK417.out 3).trans rfl
                          have hcz30_4 : wc.cell? ⟨gb417, 4, none⟩ = some (.string a0_4) := (blk_cell BK417.out 4).trans rfl
                          have hcz30_5 : wc.cell? ⟨gb417, 5, none⟩ = some (.int .i64 a0_5) := (blk_cell BK417.out 5).trans rfl
                          have hcz30_6 : wc.cell? ⟨gb417, 6, none⟩ = some (.string a0_6) := (blk_cell BK417.out 6).trans rfl
                          have hfz30_0 := blk_frozen BK417.out 0
                          have hfz30_1 := blk_frozen BK417.out 1
                          have hfz30_2 := blk_frozen BK417.out 2
                          have hfz30_3 := blk_frozen BK417.out 3
                          have hfz30_4 := blk_frozen BK417.out 4
                          have hfz30_5 := blk_frozen BK417.out 5
                          have hfz30_6 := blk_frozen BK417.out 6
                          go_wp2_with (first | (go_at_call 109; (with_reducible refine (impl_in.calls a0_3 0 31 true _ A26.out).mono ?_); rintro e w' ⟨rfl, ⟨nd, rfl⟩⟩) | (go_at_call 156; (with_reducible refine (impl_TreeWord.calls kj15 a0_4 true _ A28.out).mono ?_); rintro e w' ⟨rfl, ⟨nd, rfl⟩⟩))
                          go_ret
                          exact ⟨by first | rfl | (simp [errW_none, errW_some] <;> rfl) | (simp [*, errW_none, errW_some] <;> rfl), by repeat (first | (with_reducible first | exact HB.out | apply below_alloc | apply pw_below_drewN | apply below_drew1 | refine below_set ?_ GE417.out) | exact HB.out)⟩
                        · replace c29 := Bool.eq_false_iff.mpr c29
                          subst c29
                          have H1 : (some false) = some r := by rw [if_neg (show ¬ (false = true) by decide)] at H; exact H
                          clear H
                          have H := H1
                          clear H1
                          obtain rfl := Option.some.inj H
                          have hcz31_0 : wc.cell? ⟨gb417, 0, none⟩ = some (.int .i64 a0_0) := (blk_cell BK417.out 0).trans rfl
                          have hcz31_1 : wc.cell? ⟨gb417, 1, none⟩ = some (.int .i64 a0_1) := (blk_cell BK417.out 1).trans rfl
                          have hcz31_2 : wc.cell? ⟨gb417, 2, none⟩ = some (.string a0_2) := (blk_cell BK417.out 2).trans rfl
                          have hcz31_3 : wc.cell? ⟨gb417, 3, none⟩ = some (.int .i64 a0_3) := (blk_cell BK417.out 3).trans rfl
                          have hcz31_4 : wc.cell? ⟨gb417, 4, none⟩ = some (.string a0_4) := (blk_cell BK417.out 4).trans rfl
                          have hcz31_5 : wc.cell? ⟨gb417, 5, none⟩ = some (.int .i64 a0_5) := (blk_cell BK417.out 5).trans rfl
                          have hcz31_6 : wc.cell? ⟨gb417, 6, none⟩ = some (.string a0_6) := (blk_cell BK417.out 6).trans rfl
                          have hfz31_0 := blk_frozen BK417.out 0
                          have hfz31_1 := blk_frozen BK417.out 1
                          have hfz31_2 := blk_frozen BK417.out 2
                          have hfz31_3 := blk_frozen BK417.out 3
                          have hfz31_4 := blk_frozen BK417.out 4
                          have hfz31_5 := blk_frozen BK417.out 5
                          have hfz31_6 := blk_frozen BK417.out 6
                          go_wp2_with (first | (go_at_call 109; (with_reducible refine (impl_in.calls a0_3 0 31 true _ A26.out).mono ?_); rintro e w' ⟨rfl, ⟨nd, rfl⟩⟩) | (go_at_call 156; (with_reducible refine (impl_TreeWord.calls kj15 a0_4 false _ A28.out).mono ?_); rintro e w' ⟨rfl, ⟨nd, rfl⟩⟩))
                          go_ret
                          exact ⟨by first | rfl | (simp [errW_none, errW_some] <;> rfl) | (simp [*, errW_none, errW_some] <;> rfl), by repeat (first | (with_reducible first | exact HB.out | apply below_alloc | apply pw_below_drewN | apply below_drew1 | refine below_set ?_ GE417.out) | exact HB.out)⟩
                      · replace c27 := Bool.eq_false_iff.mpr c27
                        subst c27
                        have H1 : (some false) = some r := by rw [if_neg (show ¬ (false = true) by decide)] at H; exact H
                        clear H
                        have H := H1
                        clear H1
                        obtain rfl := Option.some.inj H
                        have hcz32_0 : wc.cell? ⟨gb417, 0, none⟩ = some (.int .i64 a0_0) := (blk_cell BK417.out 0).trans rfl
                        have hcz32_1 : wc.cell? ⟨gb417, 1, none⟩ = some (.int .i64 a0_1) := (blk_cell BK417.out 1).trans rfl
                        have hcz32_2 : wc.cell? ⟨gb417, 2, none⟩ = some (.string a0_2) := (blk_cell BK417.out 2).trans rfl
                        have hcz32_3 : wc.cell? ⟨gb417, 3, none⟩ = some (.int .i64 a0_3) := (blk_cell BK417.out 3).trans rfl
                        have hcz32_4 : wc.cell? ⟨gb417, 4, none⟩ = some (.string a0_4) := (blk_cell BK417.out 4).trans rfl
                        have hcz32_5 : wc.cell? ⟨gb417, 5, none⟩ = some (.int .i64 a0_5) := (blk_cell BK417.out 5).trans rfl
                        have hcz32_6 : wc.cell? ⟨gb417, 6, none⟩ = some (.string a0_6) := (blk_cell BK417.out 6).trans rfl
                        have hfz32_0 := blk_frozen BK417.out 0
                        have hfz32_1 := blk_frozen BK417.out 1
                        have hfz32_2 := blk_frozen BK417.out 2
                        have hfz32_3 := blk_frozen BK417.out 3
                        have hfz32_4 := blk_frozen BK417.out 4
                        have hfz32_5 := blk_frozen BK417.out 5
                        have hfz32_6 := blk_frozen BK417.out 6
                        go_wp2_with (first | (go_at_call 109; (with_reducible refine (impl_in.calls a0_3 0 31 false _ A26.out).mono ?_); rintro e w' ⟨rfl, ⟨nd, rfl⟩⟩))
                        go_ret
                        exact ⟨by first | rfl | (simp [errW_none, errW_some] <;> rfl) | (simp [*, errW_none, errW_some] <;> rfl), by repeat (first | (with_reducible first | exact HB.out | apply below_alloc | apply pw_below_drewN | apply below_drew1 | refine below_set ?_ GE417.out) | exact HB.out)⟩
                    · replace c25 := Bool.eq_false_iff.mpr c25
                      subst c25
                      have H1 : (some false) = some r := by rw [if_neg (show ¬ (false = true) by decide)] at H; exact H
                      clear H
                      have H := H1
                      clear H1
                      obtain rfl := Option.some.inj H
                      go_wp2
                      go_ret
                      exact ⟨by first | rfl | (simp [errW_none, errW_some] <;> rfl) | (simp [*, errW_none, errW_some] <;> rfl), by repeat (first | (with_reducible first | exact HB.out | apply below_alloc | apply pw_below_drewN | apply below_drew1 | refine below_set ?_ GE417.out) | exact HB.out)⟩
                  · rw [if_neg c24] at H
                    have c24b0 : (a0_0 == 4) = false := beq_eq_false_iff_ne.mpr c24
                    have c24b1 : (a0_0 != 4) = true := bne_iff_ne.mpr c24
                    by_cases c33 : a0_0 = 5
                    · rw [if_pos c33] at H
                      have c33b0 : (a0_0 == 5) = true := beq_iff_eq.mpr c33
                      have c33b1 : (a0_0 != 5) = false := bne_eq_false_iff_eq.mpr c33
                      clear c33
                      by_cases c34 : a0_1 = 0
                      · rw [if_pos c34] at H
                        have c34b0 : (a0_1 == 0) = true := beq_iff_eq.mpr c34
                        have c34b1 : (a0_1 != 0) = false := bne_eq_false_iff_eq.mpr c34
                        clear c34
                        by_cases c35 : a0_2.toList = ([] : List UInt8)
                        · rw [if_pos c35] at H
                          have c35b0 : (a0_2.toList == ([] : List UInt8)) = true := beq_iff_eq.mpr c35
                          have c35b1 : (a0_2.toList != ([] : List UInt8)) = false := bne_eq_false_iff_eq.mpr c35
                          clear c35
                          by_cases c36 : x4_11 = true
                          · subst c36
                            have H1 : ((impl_TreeBody.f kj15 a0_6).bind fun t423 => (some t423)) = some r := by rw [if_pos rfl] at H; exact H
                            clear H
                            have H := H1
                            clear H1
                            replace H := Option.bind_eq_some_iff.mp H
                            obtain ⟨t423, A370, H⟩ := H
                            replace H : (some t423) = some r := H
                            have A37 := Aside0.mk A370
                            clear A370
                            obtain rfl := Option.some.inj H
                            have hcz38_0 : wc.cell? ⟨gb417, 0, none⟩ = some (.int .i64 a0_0) := (blk_cell BK417.out 0).trans rfl
                            have hcz38_1 : wc.cell? ⟨gb417, 1, none⟩ = some (.int .i64 a0_1) := (blk_cell BK417.out 1).trans rfl
                            have hcz38_2 : wc.cell? ⟨gb417, 2, none⟩ = some (.string a0_2) := (blk_cell BK417.out 2).trans rfl
                            have hcz38_3 : wc.cell? ⟨gb417, 3, none⟩ = some (.int .i64 a0_3) := (blk_cell BK417.out 3).trans rfl
                            have hcz38_4 : wc.cell? ⟨gb417, 4, none⟩ = some (.string a0_4) := (blk_cell BK417.out 4).trans rfl
                            have hcz38_5 : wc.cell? ⟨gb417, 5, none⟩ = some (.int .i64 a0_5) := (blk_cell BK417.out 5).trans rfl
                            have hcz38_6 : wc.cell? ⟨gb417, 6, none⟩ = some (.string a0_6) := (blk_cell BK417.out 6).trans rfl
                            have hfz38_0 := blk_frozen BK417.out 0
                            have hfz38_1 := blk_frozen BK417.out 1
                            have hfz38_2 := blk_frozen BK417.out 2
                            have hfz38_3 := blk_frozen BK417.out 3
                            have hfz38_4 := blk_frozen BK417.out 4
                            have hfz38_5 := blk_frozen BK417.out 5
                            have hfz38_6 := blk_frozen BK417.out 6
                            go_wp2_with (first | (go_at_call 155; (with_reducible refine (impl_TreeBody.calls kj15 a0_6 t423 _ A37.out).mono ?_); rintro e w' ⟨rfl, ⟨nd, rfl⟩⟩))
                            go_ret
                            exact ⟨by first | rfl | (simp [errW_none, errW_some] <;> rfl) | (simp [*, errW_none, errW_some] <;> rfl), by repeat (first | (with_reducible first | exact HB.out | apply below_alloc | apply pw_below_drewN | apply below_drew1 | refine below_set ?_ GE417.out) | exact HB.out)⟩
                          · replace c36 := Bool.eq_false_iff.mpr c36
                            subst c36
                            have H1 : (some false) = some r := by rw [if_neg (show ¬ (false = true) by decide)] at H; exact H
                            clear H
                            have H := H1
                            clear H1
                            obtain rfl := Option.some.inj H
                            have hcz39_0 : wc.cell? ⟨gb417, 0, none⟩ = some (.int .i64 a0_0) := (blk_cell BK417.out 0).trans rfl
                            have hcz39_1 : wc.cell? ⟨gb417, 1, none⟩ = some (.int .i64 a0_1) := (blk_cell BK417.out 1).trans rfl
                            have hcz39_2 : wc.cell? ⟨gb417, 2, none⟩ = some (.string a0_2) := (blk_cell BK417.out 2).trans rfl
                            have hcz39_3 : wc.cell? ⟨gb417, 3, none⟩ = some (.int .i64 a0_3) := (blk_cell BK417.out 3).trans rfl
                            have hcz39_4 : wc.cell? ⟨gb417, 4, none⟩ = some (.string a0_4) := (blk_cell BK417.out 4).trans rfl
                            have hcz39_5 : wc.cell? ⟨gb417, 5, none⟩ = some (.int .i64 a0_5) := (blk_cell BK417.out 5).trans rfl
                            have hcz39_6 : wc.cell? ⟨gb417, 6, none⟩ = some (.string a0_6) := (blk_cell BK417.out 6).trans rfl
                            have hfz39_0 := blk_frozen BK417.out 0
                            have hfz39_1 := blk_frozen BK417.out 1
                            have hfz39_2 := blk_frozen BK417.out 2
                            have hfz39_3 := blk_frozen BK417.out 3
                            have hfz39_4 := blk_frozen BK417.out 4
                            have hfz39_5 := blk_frozen BK417.out 5
                            have hfz39_6 := blk_frozen BK417.out 6
                            go_wp2
                            go_ret
                            exact ⟨by first | rfl | (simp [errW_none, errW_some] <;> rfl) | (simp [*, errW_none, errW_some] <;> rfl), by repeat (first | (with_reducible first | exact HB.out | apply below_alloc | apply pw_below_drewN | apply below_drew1 | refine below_set ?_ GE417.out) | exact HB.out)⟩
                        · rw [if_neg c35] at H
                          have c35b0 : (a0_2.toList == ([] : List UInt8)) = false := beq_eq_false_iff_ne.mpr c35
                          have c35b1 : (a0_2.toList != ([] : List UInt8)) = true := bne_iff_ne.mpr c35
                          obtain rfl := Option.some.inj H
                          have hcz40_0 : wc.cell? ⟨gb417, 0, none⟩ = some (.int .i64 a0_0) := (blk_cell BK417.out 0).trans rfl
                          have hcz40_1 : wc.cell? ⟨gb417, 1, none⟩ = some (.int .i64 a0_1) := (blk_cell BK417.out 1).trans rfl
                          have hcz40_2 : wc.cell? ⟨gb417, 2, none⟩ = some (.string a0_2) := (blk_cell BK417.out 2).trans rfl
                          have hcz40_3 : wc.cell? ⟨gb417, 3, none⟩ = some (.int .i64 a0_3) := (blk_cell BK417.out 3).trans rfl
                          have hcz40_4 : wc.cell? ⟨gb417, 4, none⟩ = some (.string a0_4) := (blk_cell BK417.out 4).trans rfl
                          have hcz40_5 : wc.cell? ⟨gb417, 5, none⟩ = some (.int .i64 a0_5) := (blk_cell BK417.out 5).trans rfl
                          have hcz40_6 : wc.cell? ⟨gb417, 6, none⟩ = some (.string a0_6) := (blk_cell BK417.out 6).trans rfl
                          have hfz40_0 := blk_frozen BK417.out 0
                          have hfz40_1 := blk_frozen BK417.out 1
                          have hfz40_2 := blk_frozen BK417.out 2
                          have hfz40_3 := blk_frozen BK417.out 3
                          have hfz40_4 := blk_frozen BK417.out 4
                          have hfz40_5 := blk_frozen BK417.out 5
                          have hfz40_6 := blk_frozen BK417.out 6
                          go_wp2
                          go_ret
                          exact ⟨by first | rfl | (simp [errW_none, errW_some] <;> rfl) | (simp [*, errW_none, errW_some] <;> rfl), by repeat (first | (with_reducible first | exact HB.out | apply below_alloc | apply pw_below_drewN | apply below_drew1 | refine below_set ?_ GE417.out) | exact HB.out)⟩
                      · rw [if_neg c34] at H
                        have c34b0 : (a0_1 == 0) = false := beq_eq_false_iff_ne.mpr c34
                        have c34b1 : (a0_1 != 0) = true := bne_iff_ne.mpr c34
                        obtain rfl := Option.some.inj H
                        have hcz41_0 : wc.cell? ⟨gb417, 0, none⟩ = some (.int .i64 a0_0) := (blk_cell BK417.out 0).trans rfl
                        have hcz41_1 : wc.cell? ⟨gb417, 1, none⟩ = some (.int .i64 a0_1) := (blk_cell BK417.out 1).trans rfl
                        have hcz41_2 : wc.cell? ⟨gb417, 2, none⟩ = some (.string a0_2) := (blk_cell BK417.out 2).trans rfl
                        have hcz41_3 : wc.cell? ⟨gb417, 3, none⟩ = some (.int .i64 a0_3) := (blk_cell BK417.out 3).trans rfl
                        have hcz41_4 : wc.cell? ⟨gb417, 4, none⟩ = some (.string a0_4) := (blk_cell BK417.out 4).trans rfl
                        have hcz41_5 : wc.cell? ⟨gb417, 5, none⟩ = some (.int .i64 a0_5) := (blk_cell BK417.out 5).trans rfl
                        have hcz41_6 : wc.cell? ⟨gb417, 6, none⟩ = some (.string a0_6) := (blk_cell BK417.out 6).trans rfl
                        have hfz41_0 := blk_frozen BK417.out 0
                        have hfz41_1 := blk_frozen BK417.out 1
                        have hfz41_2 := blk_frozen BK417.out 2
                        have hfz41_3 := blk_frozen BK417.out 3
                        have hfz41_4 := blk_frozen BK417.out 4
                        have hfz41_5 := blk_frozen BK417.out 5
                        have hfz41_6 := blk_frozen BK417.out 6
                        go_wp2
                        go_ret
                        exact ⟨by first | rfl | (simp [errW_none, errW_some] <;> rfl) | (simp [*, errW_none, errW_some] <;> rfl), by repeat (first | (with_reducible first | exact HB.out | apply below_alloc | apply pw_below_drewN | apply below_drew1 | refine below_set ?_ GE417.out) | exact HB.out)⟩
                    · rw [if_neg c33] at H
                      have c33b0 : (a0_0 == 5) = false := beq_eq_false_iff_ne.mpr c33
                      have c33b1 : (a0_0 != 5) = true := bne_iff_ne.mpr c33
                      obtain rfl := Option.some.inj H
                      go_wp2
                      go_ret
                      exact ⟨by first | rfl | (simp [errW_none, errW_some] <;> rfl) | (simp [*, errW_none, errW_some] <;> rfl), by repeat (first | (with_reducible first | exact HB.out | apply below_alloc | apply pw_below_drewN | apply below_drew1 | refine below_set ?_ GE417.out) | exact HB.out)⟩
  · replace c3 := Bool.eq_false_iff.mpr c3
    subst c3
    have H1 : (some false) = some r := by rw [if_neg (show ¬ (false = true) by decide)] at H; exact H
    clear H
    have H := H1
    clear H1
    obtain rfl := Option.some.inj H
    go_enter Try.func144, Try.ntmps144
    go_wp2_with (first | ((with_reducible refine gate_dst (N := 1) rfl ?_); refine box_event ?hg (N := 1) ?hd (cs := #[.int .i64 a0_0, .int .i64 a0_1, .string a0_2, .int .i64 a0_3, .string a0_4, .int .i64 a0_5, .string a0_6]) (t := 72) ?hr ?_; (case hd => rfl); (case hg => rfl); (case hr => first | (go_simp; done) | (go_simp; rfl)); intro gb417 hg w42 hbox hb; have n0_ := Aside0.mk (below_step (by repeat (first | (with_reducible first | exact HB.out | apply below_alloc | apply pw_below_drewN | apply below_drew1) | exact HB.out)) hb); have n1_ := Aside0.mk (hbox); have n2_ := Aside0.mk ((by rw [hg]; exact (below_size (by repeat (first | (with_reducible first | exact HB.out | apply below_alloc | apply pw_below_drewN | apply below_drew1) | exact HB.out))) : w.heap.size ≤ gb417)); have n3_ := Aside0.mk ((by rw [hg]; exact (below_size (by repeat (first | (with_reducible first | exact HB.out | apply below_alloc | apply pw_below_drewN | apply below_drew1) | exact HB.out))) : w.heap.size ≤ gb417)); clear HB; have HB := n0_; have BK417 := n1_; have GW417 := n2_; have GE417 := n3_; clear n0_ n1_ n2_ n3_; clear hb hbox hg; have hcz43_0 : w42.cell? ⟨gb417, 0, none⟩ = some (.int .i64 a0_0) := (blk_cell BK417.out 0).trans rfl; have hcz43_1 : w42.cell? ⟨gb417, 1, none⟩ = some (.int .i64 a0_1) := (blk_cell BK417.out 1).trans rfl; have hcz43_2 : w42.cell? ⟨gb417, 2, none⟩ = some (.string a0_2) := (blk_cell BK417.out 2).trans rfl; have hcz43_3 : w42.cell? ⟨gb417, 3, none⟩ = some (.int .i64 a0_3) := (blk_cell BK417.out 3).trans rfl; have hcz43_4 : w42.cell? ⟨gb417, 4, none⟩ = some (.string a0_4) := (blk_cell BK417.out 4).trans rfl; have hcz43_5 : w42.cell? ⟨gb417, 5, none⟩ = some (.int .i64 a0_5) := (blk_cell BK417.out 5).trans rfl; have hcz43_6 : w42.cell? ⟨gb417, 6, none⟩ = some (.string a0_6) := (blk_cell BK417.out 6).trans rfl; have hfz43_0 := blk_frozen BK417.out 0; have hfz43_1 := blk_frozen BK417.out 1; have hfz43_2 := blk_frozen BK417.out 2; have hfz43_3 := blk_frozen BK417.out 3; have hfz43_4 := blk_frozen BK417.out 4; have hfz43_5 := blk_frozen BK417.out 5; have hfz43_6 := blk_frozen BK417.out 6) | ((with_reducible refine gate_callee (f := 109) rfl ?_); refine goesL_ (some 7) rfl rfl Try.func109 (by kernel_rfl) rfl #[.int .i64 a0_5, .int .i64 1, .int .i64 31] rfl (by (try simp only [List.map_toArray, List.map_cons, List.map_nil]); first | done | rfl | (simp only [List.length_drop, List.length_take]; rfl)) ?_; (with_reducible refine (impl_in.calls a0_5 1 31 false _ A2.out).mono ?_); rintro e w' ⟨rfl, ⟨nd, rfl⟩⟩; refine ⟨_, rfl, ?_⟩))
    go_ret
    exact ⟨by first | rfl | (simp [errW_none, errW_some] <;> rfl) | (simp [*, errW_none, errW_some] <;> rfl), by repeat (first | (with_reducible first | exact HB.out | apply below_alloc | apply pw_below_drewN | apply below_drew1 | refine below_set ?_ GE417.out) | exact HB.out)⟩
end Go.Proofs.Ytjcpkplneflleaa.Q
namespace Go.Proofs.Ytjcpkplneflleaa.Q
open Go.RowKit Go.Proofs.YtjcpkplneflleaaW.PrintWords Go.Proofs.YtjcpkplneflleaaW.PrintLast Go.Proofs.YtjcpkplneflleaaW.PrintMore
attribute [local go_sem] max2_int min2_int max_two min_two max_three min_three max_four min_four   -- for this text's walks alone
set_option linter.unusedVariables false
set_option linter.unusedSimpArgs false
def impl_opsOk.l0 : Nat → List (S72) → Int → List (S72) → Int → Int → Option (Bool)
  | 0, _, _, _, _, _ => none
  | k + 1, x0, x1, x7, x8, x9 => if x9 < x8 then (if 0 ≤ x9 then (if x9 < (x7.length : Int) then ((impl_OpOk.f k ((rd_T72 x7 x9).f0) ((rd_T72 x7 x9).f1) ((rd_T72 x7 x9).f2) ((rd_T72 x7 x9).f3) ((rd_T72 x7 x9).f4) ((rd_T72 x7 x9).f5) ((rd_T72 x7 x9).f6)).bind fun t426 => (if t426 = true then (impl_opsOk.l0 k x0 x1 x7 x8 (wrap64 (x9 + 1))) else (some false))) else (none)) else (none)) else (some (decide ((x0.length : Int) ≤ x1)))
def impl_opsOk.f (k : Nat) (l0 : List (S72)) (a1 : Int) : Option (Bool) := impl_opsOk.l0 k l0 a1 l0 (l0.length : Int) 0
set_option maxHeartbeats 8000000 in
set_option maxRecDepth 100000 in
theorem impl_opsOk.calls (k : Nat) (A0 : Option Addr) (c0 : Nat) (l0 : List (S72)) (a1 : Int) (r : Bool) (w : World) (hr0 : Kd.C k72 w A0 l0.length l0) (hc0 : l0.length ≤ c0) (h : impl_opsOk.f k l0 a1 = some r) :
    Calls Try.prog 86 #[.slice A0 l0.length c0, .int .i64 a1] w fun e w' => e = .returned (.bool r) ∧ Below w.heap.size w w' := by
  have hu72 := Try.underlying72
  have HR0 := Aside0.mk hr0
  have HC0 := Aside0.mk hc0
  clear hr0 hc0
  have HB := Aside0.mk (Below.refl w.heap.size w)
  have H : (impl_opsOk.l0 k l0 a1 l0 (l0.length : Int) 0) = some r := h
  clear h
  have H' := Aside0.mk H
  clear H
  go_enter Try.func86, Try.ntmps86
  go_wp2
  go_loopg [9] k (fun kq v9 w' => ∃ (x9_1 : Int), v9 = .int .i64 x9_1 ∧ Aside0 (impl_opsOk.l0 kq l0 a1 l0 (l0.length : Int) x9_1 = some r) ∧ Aside0 (kq ≤ k) ∧ Aside0 (Below w.heap.size w w'))
  case atStart => exact ⟨(0), (by first | rfl | (simp; done) | (simp [*]; done)), H', ⟨Nat.le_refl _⟩, ⟨by repeat (first | (with_reducible first | exact HB.out | apply below_alloc | apply pw_below_drewN | apply below_drew1) | exact HB.out)⟩⟩
  case round =>
    clear H'
    try clear p2
    obtain ⟨x9_1, rfl, HA, HK1, HB⟩ := hrel
    cases gk with
    | zero => exact absurd HA.out (by simp [impl_opsOk.l0])
    | succ k1 =>
      have H := HA.out
      clear HA
      simp only [impl_opsOk.l0] at H
      by_cases c3 : x9_1 < (l0.length : Int)
      · rw [if_pos c3] at H
        have c3b0 : decide (x9_1 < (l0.length : Int)) = true := decide_eq_true c3
        clear c3
        by_cases c4 : 0 ≤ x9_1
        · rw [if_pos c4] at H
          have c4b0 : decide (0 ≤ x9_1) = true := decide_eq_true c4
          clear c4
          by_cases c5 : x9_1 < (l0.length : Int)
          · rw [if_pos c5] at H
            have c5b0 : decide (x9_1 < (l0.length : Int)) = true := decide_eq_true c5
            clear c5
            replace H := Option.bind_eq_some_iff.mp H
            obtain ⟨t426, A60, H⟩ := H
            replace H : (if t426 = true then (impl_opsOk.l0 k1 l0 a1 l0 (l0.length : Int) (wrap64 (x9_1 + 1))) else (some false)) = some r := H
            have A6 := Aside0.mk A60
            clear A60
            by_cases c7 : t426 = true
            · subst c7
              have H1 : (impl_opsOk.l0 k1 l0 a1 l0 (l0.length : Int) (wrap64 (x9_1 + 1))) = some r := by rw [if_pos rfl] at H; exact H
              clear H
              have H := H1
              clear H1
              have H' := Aside0.mk H
              clear H
              have p424 : 0 ≤ (x9_1 : Int) := of_decide_eq_true (by first | (with_reducible assumption) | assumption)
              have q424 : x9_1 < (l0.length : Int) := of_decide_eq_true (by first | (with_reducible assumption) | assumption)
              obtain ⟨ad424, e424, hx424_0, hx424_1, hx424_2, hx424_3, hx424_4, hx424_5, hx424_6⟩ := at_T72 HR0.out x9_1 p424 q424
              cases e424
              replace hx424_0 := (HB.out.cell (World.block_lt_of_cell? w _ hx424_0)).trans hx424_0
              replace hx424_1 := (HB.out.cell (World.block_lt_of_cell? w _ hx424_1)).trans hx424_1
              replace hx424_2 := (HB.out.cell (World.block_lt_of_cell? w _ hx424_2)).trans hx424_2
              replace hx424_3 := (HB.out.cell (World.block_lt_of_cell? w _ hx424_3)).trans hx424_3
              replace hx424_4 := (HB.out.cell (World.block_lt_of_cell? w _ hx424_4)).trans hx424_4
              replace hx424_5 := (HB.out.cell (World.block_lt_of_cell? w _ hx424_5)).trans hx424_5
              replace hx424_6 := (HB.out.cell (World.block_lt_of_cell? w _ hx424_6)).trans hx424_6
              replace p424 := eq_true p424
              replace q424 := eq_true q424
              go_wp2_with (first | ((with_reducible refine gate_dst (N := 6) rfl ?_); refine box_event ?hg (N := 6) ?hd (cs := #[.int .i64 0, .int .i64 0, .string (⟨#[]⟩ : ByteArray), .int .i64 0, .string (⟨#[]⟩ : ByteArray), .int .i64 0, .string (⟨#[]⟩ : ByteArray)]) (t := 72) ?hr ?_; (case hd => rfl); (case hg => rfl); (case hr => first | (go_simp; done) | (go_simp; rfl)); intro gb425 hg w8 hbox hb; have n0_ := Aside0.mk (below_step (by repeat (first | (with_reducible first | exact HB.out | apply below_alloc | apply pw_below_drewN | apply below_drew1) | exact HB.out)) hb); have n1_ := Aside0.mk (hbox); have n2_ := Aside0.mk ((by rw [hg]; exact (below_size (by repeat (first | (with_reducible first | exact HB.out | apply below_alloc | apply pw_below_drewN | apply below_drew1) | exact HB.out))) : w.heap.size ≤ gb425)); have n3_ := Aside0.mk ((by rw [hg]; exact (below_size (by repeat (first | (with_reducible first | exact HB.out | apply below_alloc | apply pw_below_drewN | apply below_drew1) | exact HB.out))) : w.heap.size ≤ gb425)); clear HB; have HB := n0_; have BK425 := n1_; have GW425 := n2_; have GE425 := n3_; clear n0_ n1_ n2_ n3_; clear hb hbox hg; have hcz9_0 : w8.cell? ⟨gb425, 0, none⟩ = some (.int .i64 0) := (blk_cell BK425.out 0).trans rfl; have hcz9_1 : w8.cell? ⟨gb425, 1, none⟩ = some (.int .i64 0) := (blk_cell BK425.out 1).trans rfl; have hcz9_2 : w8.cell? ⟨gb425, 2, none⟩ = some (.string (⟨#[]⟩ : ByteArray)) := (blk_cell BK425.out 2).trans rfl; have hcz9_3 : w8.cell? ⟨gb425, 3, none⟩ = some (.int .i64 0) := (blk_cell BK425.out 3).trans rfl; have hcz9_4 : w8.cell? ⟨gb425, 4, none⟩ = some (.string (⟨#[]⟩ : ByteArray)) := (blk_cell BK425.out 4).trans rfl; have hcz9_5 : w8.cell? ⟨gb425, 5, none⟩ = some (.int .i64 0) := (blk_cell BK425.out 5).trans rfl; have hcz9_6 : w8.cell? ⟨gb425, 6, none⟩ = some (.string (⟨#[]⟩ : ByteArray)) := (blk_cell BK425.out 6).trans rfl; have hfz9_0 := blk_frozen BK425.out 0; have hfz9_1 := blk_frozen BK425.out 1; have hfz9_2 := blk_frozen BK425.out 2; have hfz9_3 := blk_frozen BK425.out 3; have hfz9_4 := blk_frozen BK425.out 4; have hfz9_5 := blk_frozen BK425.out 5; have hfz9_6 := blk_frozen BK425.out 6) | ((with_reducible refine gate_callee (f := 144) rfl ?_); refine goesL_ (some 14) rfl rfl Try.func144 (by kernel_rfl) rfl #[.agg #[.int .i64 ((rd_T72 l0 x9_1).f0), .int .i64 ((rd_T72 l0 x9_1).f1), .string ((rd_T72 l0 x9_1).f2), .int .i64 ((rd_T72 l0 x9_1).f3), .string ((rd_T72 l0 x9_1).f4), .int .i64 ((rd_T72 l0 x9_1).f5), .string ((rd_T72 l0 x9_1).f6)]] rfl (by (try simp only [List.map_toArray, List.map_cons, List.map_nil]); first | done | rfl | (simp only [List.length_drop, List.length_take]; rfl)) ?_; (with_reducible refine (impl_OpOk.calls k1 ((rd_T72 l0 x9_1).f0) ((rd_T72 l0 x9_1).f1) ((rd_T72 l0 x9_1).f2) ((rd_T72 l0 x9_1).f3) ((rd_T72 l0 x9_1).f4) ((rd_T72 l0 x9_1).f5) ((rd_T72 l0 x9_1).f6) true _ A6.out).mono ?_); rintro e w10 ⟨rfl, hb⟩; refine ⟨_, rfl, ?_⟩; have n0_ := Aside0.mk (blk_below (g := gb425) (o := .cells #[.int .i64 ((rd_T72 l0 x9_1).f0), .int .i64 ((rd_T72 l0 x9_1).f1), .string ((rd_T72 l0 x9_1).f2), .int .i64 ((rd_T72 l0 x9_1).f3), .string ((rd_T72 l0 x9_1).f4), .int .i64 ((rd_T72 l0 x9_1).f5), .string ((rd_T72 l0 x9_1).f6)] 72 (0, 0)) (by (with_reducible repeat (first | refine blk_drewN ?_ _ | refine blk_drew ?_ | refine blk_alloc ?_ _)); refine blk_put (cs := #[.int .i64 ((rd_T72 l0 x9_1).f0), .int .i64 ((rd_T72 l0 x9_1).f1), .string ((rd_T72 l0 x9_1).f2), .int .i64 ((rd_T72 l0 x9_1).f3), .string ((rd_T72 l0 x9_1).f4), .int .i64 ((rd_T72 l0 x9_1).f5), .string (⟨#[]⟩ : ByteArray)]) ?_ 6 _ rfl; (with_reducible repeat (first | refine blk_drewN ?_ _ | refine blk_drew ?_ | refine blk_alloc ?_ _)); refine blk_put (cs := #[.int .i64 ((rd_T72 l0 x9_1).f0), .int .i64 ((rd_T72 l0 x9_1).f1), .string ((rd_T72 l0 x9_1).f2), .int .i64 ((rd_T72 l0 x9_1).f3), .string ((rd_T72 l0 x9_1).f4), .int .i64 0, .string (⟨#[]⟩ : ByteArray)]) ?_ 5 _ rfl; (with_reducible repeat (first | refine blk_drewN ?_ _ | refine blk_drew ?_ | refine blk_alloc ?_ _)); refine blk_put (cs := #[.int .i64 ((rd_T72 l0 x9_1).f0), .int .i64 ((rd_T72 l0 x9_1).f1), .string ((rd_T72 l0 x9_1).f2), .int .i64 ((rd_T72 l0 x9_1).f3), .string (⟨#[]⟩ : ByteArray), .int .i64 0, .string (⟨#[]⟩ : ByteArray)]) ?_ 4 _ rfl; (with_reducible repeat (first | refine blk_drewN ?_ _ | refine blk_drew ?_ | refine blk_alloc ?_ _)); refine blk_put (cs := #[.int .i64 ((rd_T72 l0 x9_1).f0), .int .i64 ((rd_T72 l0 x9_1).f1), .string ((rd_T72 l0 x9_1).f2), .int .i64 0, .string (⟨#[]⟩ : ByteArray), .int .i64 0, .string (⟨#[]⟩ : ByteArray)]) ?_ 3 _ rfl; (with_reducible repeat (first | refine blk_drewN ?_ _ | refine blk_drew ?_ | refine blk_alloc ?_ _)); refine blk_put (cs := #[.int .i64 ((rd_T72 l0 x9_1).f0), .int .i64 ((rd_T72 l0 x9_1).f1), .string (⟨#[]⟩ : ByteArray), .int .i64 0, .string (⟨#[]⟩ : ByteArray), .int .i64 0, .string (⟨#[]⟩ : ByteArray)]) ?_ 2 _ rfl; (with_reducible repeat (first | refine blk_drewN ?_ _ | refine blk_drew ?_ | refine blk_alloc ?_ _)); refine blk_put (cs := #[.int .i64 ((rd_T72 l0 x9_1).f0), .int .i64 0, .string (⟨#[]⟩ : ByteArray), .int .i64 0, .string (⟨#[]⟩ : ByteArray), .int .i64 0, .string (⟨#[]⟩ : ByteArray)]) ?_ 1 _ rfl; (with_reducible repeat (first | refine blk_drewN ?_ _ | refine blk_drew ?_ | refine blk_alloc ?_ _)); refine blk_put (cs := #[.int .i64 0, .int .i64 0, .string (⟨#[]⟩ : ByteArray), .int .i64 0, .string (⟨#[]⟩ : ByteArray), .int .i64 0, .string (⟨#[]⟩ : ByteArray)]) ?_ 0 _ rfl; (with_reducible repeat (first | refine blk_drewN ?_ _ | refine blk_drew ?_ | refine blk_alloc ?_ _)); exact BK425.out) hb); have n1_ := Aside0.mk (below_step (by repeat (first | (with_reducible first | exact HB.out | apply below_alloc | apply pw_below_drewN | apply below_drew1 | refine below_set ?_ GE425.out) | exact HB.out)) hb); clear BK425; clear HB; have BK425 := n0_; have HB := n1_; clear n0_ n1_; (try clear hb); (try clear hb2); (try clear hk); (try clear hi)))
              go_roundg k1
              case measure => have := HK1.out; omega
              case rel => exact ⟨(wrap64 (x9_1 + 1)), (by first | rfl | (simp; done) | (simp [*]; done)), H', ⟨by have := HK1.out; omega⟩, ⟨by repeat (first | (with_reducible first | exact HB.out | apply below_alloc | apply pw_below_drewN | apply below_drew1 | refine below_set ?_ GE425.out) | exact HB.out)⟩⟩
            · replace c7 := Bool.eq_false_iff.mpr c7
              subst c7
              have H1 : (some false) = some r := by rw [if_neg (show ¬ (false = true) by decide)] at H; exact H
              clear H
              have H := H1
              clear H1
              obtain rfl := Option.some.inj H
              have p424 : 0 ≤ (x9_1 : Int) := of_decide_eq_true (by first | (with_reducible assumption) | assumption)
              have q424 : x9_1 < (l0.length : Int) := of_decide_eq_true (by first | (with_reducible assumption) | assumption)
              obtain ⟨ad424, e424, hx424_0, hx424_1, hx424_2, hx424_3, hx424_4, hx424_5, hx424_6⟩ := at_T72 HR0.out x9_1 p424 q424
              cases e424
              replace hx424_0 := (HB.out.cell (World.block_lt_of_cell? w _ hx424_0)).trans hx424_0
              replace hx424_1 := (HB.out.cell (World.block_lt_of_cell? w _ hx424_1)).trans hx424_1
              replace hx424_2 := (HB.out.cell (World.block_lt_of_cell? w _ hx424_2)).trans hx424_2
              replace hx424_3 := (HB.out.cell (World.block_lt_of_cell? w _ hx424_3)).trans hx424_3
              replace hx424_4 := (HB.out.cell (World.block_lt_of_cell? w _ hx424_4)).trans hx424_4
              replace hx424_5 := (HB.out.cell (World.block_lt_of_cell? w _ hx424_5)).trans hx424_5
              replace hx424_6 := (HB.out.cell (World.block_lt_of_cell? w _ hx424_6)).trans hx424_6
              replace p424 := eq_true p424
              replace q424 := eq_true q424
              go_wp2_with (first | ((with_reducible refine gate_dst (N := 6) rfl ?_); refine box_event ?hg (N := 6) ?hd (cs := #[.int .i64 0, .int .i64 0, .string (⟨#[]⟩ : ByteArray), .int .i64 0, .string (⟨#[]⟩ : ByteArray), .int .i64 0, .string (⟨#[]⟩ : ByteArray)]) (t := 72) ?hr ?_; (case hd => rfl); (case hg => rfl); (case hr => first | (go_simp; done) | (go_simp; rfl)); intro gb425 hg w11 hbox hb; have n0_ := Aside0.mk (below_step (by repeat (first | (with_reducible first | exact HB.out | apply below_alloc | apply pw_below_drewN | apply below_drew1) | exact HB.out)) hb); have n1_ := Aside0.mk (hbox); have n2_ := Aside0.mk ((by rw [hg]; exact (below_size (by repeat (first | (with_reducible first | exact HB.out | apply below_alloc | apply pw_below_drewN | apply below_drew1) | exact HB.out))) : w.heap.size ≤ gb425)); have n3_ := Aside0.mk ((by rw [hg]; exact (below_size (by repeat (first | (with_reducible first | exact HB.out | apply below_alloc | apply pw_below_drewN | apply below_drew1) | exact HB.out))) : w.heap.size ≤ gb425)); clear HB; have HB := n0_; have BK425 := n1_; have GW425 := n2_; have GE425 := n3_; clear n0_ n1_ n2_ n3_; clear hb hbox hg; have hcz12_0 : w11.cell? ⟨gb425, 0, none⟩ = some (.int .i64 0) := (blk_cell BK425.out 0).trans rfl; have hcz12_1 : w11.cell? ⟨gb425, 1, none⟩ = some (.int .i64 0) := (blk_cell BK425.out 1).trans rfl; have hcz12_2 : w11.cell? ⟨gb425, 2, none⟩ = some (.string (⟨#[]⟩ : ByteArray)) := (blk_cell BK425.out 2).trans rfl; have hcz12_3 : w11.cell? ⟨gb425, 3, none⟩ = some (.int .i64 0) := (blk_cell BK425.out 3).trans rfl; have hcz12_4 : w11.cell? ⟨gb425, 4, none⟩ = some (.string (⟨#[]⟩ : ByteArray)) := (blk_cell BK425.out 4).trans rfl; have hcz12_5 : w11.cell? ⟨gb425, 5, none⟩ = some (.int .i64 0) := (blk_cell BK425.out 5).trans rfl; have hcz12_6 : w11.cell? ⟨gb425, 6, none⟩ = some (.string (⟨#[]⟩ : ByteArray)) := (blk_cell BK425.out 6).trans rfl; have hfz12_0 := blk_frozen BK425.out 0; have hfz12_1 := blk_frozen BK425.out 1; have hfz12_2 := blk_frozen BK425.out 2; have hfz12_3 := blk_frozen BK425.out 3; have hfz12_4 := blk_frozen BK425.out 4; have hfz12_5 := blk_frozen BK425.out 5; have hfz12_6 := blk_frozen BK425.out 6) | ((with_reducible refine gate_callee (f := 144) rfl ?_); refine goesL_ (some 14) rfl rfl Try.func144 (by kernel_rfl) rfl #[.agg #[.int .i64 ((rd_T72 l0 x9_1).f0), .int .i64 ((rd_T72 l0 x9_1).f1), .string ((rd_T72 l0 x9_1).f2), .int .i64 ((rd_T72 l0 x9_1).f3), .string ((rd_T72 l0 x9_1).f4), .int .i64 ((rd_T72 l0 x9_1).f5), .string ((rd_T72 l0 x9_1).f6)]] rfl (by (try simp only [List.map_toArray, List.map_cons, List.map_nil]); first | done | rfl | (simp only [List.length_drop, List.length_take]; rfl)) ?_; (with_reducible refine (impl_OpOk.calls k1 ((rd_T72 l0 x9_1).f0) ((rd_T72 l0 x9_1).f1) ((rd_T72 l0 x9_1).f2) ((rd_T72 l0 x9_1).f3) ((rd_T72 l0 x9_1).f4) ((rd_T72 l0 x9_1).f5) ((rd_T72 l0 x9_1).f6) false _ A6.out).mono ?_); rintro e w13 ⟨rfl, hb⟩; refine ⟨_, rfl, ?_⟩; have n0_ := Aside0.mk (blk_below (g := gb425) (o := .cells #[.int .i64 ((rd_T72 l0 x9_1).f0), .int .i64 ((rd_T72 l0 x9_1).f1), .string ((rd_T72 l0 x9_1).f2), .int .i64 ((rd_T72 l0 x9_1).f3), .string ((rd_T72 l0 x9_1).f4), .int .i64 ((rd_T72 l0 x9_1).f5), .string ((rd_T72 l0 x9_1).f6)] 72 (0, 0)) (by (with_reducible repeat (first | refine blk_drewN ?_ _ | refine blk_drew ?_ | refine blk_alloc ?_ _)); refine blk_put (cs := #[.int .i64 ((rd_T72 l0 x9_1).f0), .int .i64 ((rd_T72 l0 x9_1).f1), .string ((rd_T72 l0 x9_1).f2), .int .i64 ((rd_T72 l0 x9_1).f3), .string ((rd_T72 l0 x9_1).f4), .int .i64 ((rd_T72 l0 x9_1).f5), .string (⟨#[]⟩ : ByteArray)]) ?_ 6 _ rfl; (with_reducible repeat (first | refine blk_drewN ?_ _ | refine blk_drew ?_ | refine blk_alloc ?_ _)); refine blk_put (cs := #[.int .i64 ((rd_T72 l0 x9_1).f0), .int .i64 ((rd_T72 l0 x9_1).f1), .string ((rd_T72 l0 x9_1).f2), .int .i64 ((rd_T72 l0 x9_1).f3), .string ((rd_T72 l0 x9_1).f4), .int .i64 0, .string (⟨#[]⟩ : ByteArray)]) ?_ 5 _ rfl; (with_reducible repeat (first | refine blk_drewN ?_ _ | refine blk_drew ?_ | refine blk_alloc ?_ _)); refine blk_put (cs := #[.int .i64 ((rd_T72 l0 x9_1).f0), .int .i64 ((rd_T72 l0 x9_1).f1), .string ((rd_T72 l0 x9_1).f2), .int .i64 ((rd_T72 l0 x9_1).f3), .string (⟨#[]⟩ : ByteArray), .int .i64 0, .string (⟨#[]⟩ : ByteArray)]) ?_ 4 _ rfl; (with_reducible repeat (first | refine blk_drewN ?_ _ | refine blk_drew ?_ | refine blk_alloc ?_ _)); refine blk_put (cs := #[.int .i64 ((rd_T72 l0 x9_1).f0), .int .i64 ((rd_T72 l0 x9_1).f1), .string ((rd_T72 l0 x9_1).f2), .int .i64 0, .string (⟨#[]⟩ : ByteArray), .int .i64 0, .string (⟨#[]⟩ : ByteArray)]) ?_ 3 _ rfl; (with_reducible repeat (first | refine blk_drewN ?_ _ | refine blk_drew ?_ | refine blk_alloc ?_ _)); refine blk_put (cs := #[.int .i64 ((rd_T72 l0 x9_1).f0), .int .i64 ((rd_T72 l0 x9_1).f1), .string (⟨#[]⟩ : ByteArray), .int .i64 0, .string (⟨#[]⟩ : ByteArray), .int .i64 0, .string (⟨#[]⟩ : ByteArray)]) ?_ 2 _ rfl; (with_reducible repeat (first | refine blk_drewN ?_ _ | refine blk_drew ?_ | refine blk_alloc ?_ _)); refine blk_put (cs := #[.int .i64 ((rd_T72 l0 x9_1).f0), .int .i64 0, .string (⟨#[]⟩ : ByteArray), .int .i64 0, .string (⟨#[]⟩ : ByteArray), .int .i64 0, .string (⟨#[]⟩ : ByteArray)]) ?_ 1 _ rfl; (with_reducible repeat (first | refine blk_drewN ?_ _ | refine blk_drew ?_ | refine blk_alloc ?_ _)); refine blk_put (cs := #[.int .i64 0, .int .i64 0, .string (⟨#[]⟩ : ByteArray), .int .i64 0, .string (⟨#[]⟩ : ByteArray), .int .i64 0, .string (⟨#[]⟩ : ByteArray)]) ?_ 0 _ rfl; (with_reducible repeat (first | refine blk_drewN ?_ _ | refine blk_drew ?_ | refine blk_alloc ?_ _)); exact BK425.out) hb); have n1_ := Aside0.mk (below_step (by repeat (first | (with_reducible first | exact HB.out | apply below_alloc | apply pw_below_drewN | apply below_drew1 | refine below_set ?_ GE425.out) | exact HB.out)) hb); clear BK425; clear HB; have BK425 := n0_; have HB := n1_; clear n0_ n1_; (try clear hb); (try clear hb2); (try clear hk); (try clear hi)))
              go_ret
              exact ⟨by first | rfl | (simp [errW_none, errW_some] <;> rfl) | (simp [*, errW_none, errW_some] <;> rfl), by repeat (first | (with_reducible first | exact HB.out | apply below_alloc | apply pw_below_drewN | apply below_drew1 | refine below_set ?_ GE425.out) | exact HB.out)⟩
          · rw [if_neg c5] at H
            exact absurd H (by simp)
        · rw [if_neg c4] at H
          exact absurd H (by simp)
      · rw [if_neg c3] at H
        have c3b0 : decide (x9_1 < (l0.length : Int)) = false := decide_eq_false c3
        clear c3
        obtain rfl := Option.some.inj H
        go_wp2
        go_ret
        exact ⟨by first | rfl | (simp [errW_none, errW_some] <;> rfl) | (simp [*, errW_none, errW_some] <;> rfl), by repeat (first | (with_reducible first | exact HB.out | apply below_alloc | apply pw_below_drewN | apply below_drew1) | exact HB.out)⟩
end Go.Proofs.Ytjcpkplneflleaa.Q
namespace Go.Proofs.Ytjcpkplneflleaa.Q
open Go.RowKit Go.Proofs.YtjcpkplneflleaaW.PrintWords Go.Proofs.YtjcpkplneflleaaW.PrintLast Go.Proofs.YtjcpkplneflleaaW.PrintMore
attribute [local go_sem] max2_int min2_int max_two min_two max_three min_three max_four min_four   -- for this text's walks alone
set_option linter.unusedVariables false
set_option linter.unusedSimpArgs false
def impl_isClient.f (a0 : Int) : Option (Bool) := (impl_in.f a0 0 2).bind fun t829 => (some t829)
set_option maxHeartbeats 8000000 in
set_option maxRecDepth 100000 in
theorem impl_isClient.calls (a0 : Int) (r : Bool) (w : World) (h : impl_isClient.f a0 = some r) :
    Calls Try.prog 116 #[.int .i64 a0] w fun e w' => e = .returned (.bool r) ∧ Drawn0 w w' := by
  have H : ((impl_in.f a0 0 2).bind fun t829 => (some t829)) = some r := h
  clear h
  replace H := Option.bind_eq_some_iff.mp H
  obtain ⟨t829, A20, H⟩ := H
  replace H : (some t829) = some r := H
  have A2 := Aside0.mk A20
  clear A20
  obtain rfl := Option.some.inj H
  go_enter Try.func116, Try.ntmps116
  go_wp2_with (first | ((with_reducible refine gate_callee (f := 109) rfl ?_); refine goesL_ (some 4) rfl rfl Try.func109 (by kernel_rfl) rfl #[.int .i64 a0, .int .i64 0, .int .i64 2] rfl (by (try simp only [List.map_toArray, List.map_cons, List.map_nil]); first | done | rfl | (simp only [List.length_drop, List.length_take]; rfl)) ?_; (with_reducible refine (impl_in.calls a0 0 2 t829 _ A2.out).mono ?_); rintro e w' ⟨rfl, ⟨nd, rfl⟩⟩; refine ⟨_, rfl, ?_⟩))
  go_ret
  exact ⟨by first | rfl | (simp; done) | (simp [*]; done), by repeat (first | exact Drawn0.refl _ | apply Drawn0.step)⟩
end Go.Proofs.Ytjcpkplneflleaa.Q
namespace Go.Proofs.Ytjcpkplneflleaa.Q
open Go.RowKit Go.Proofs.YtjcpkplneflleaaW.PrintWords Go.Proofs.YtjcpkplneflleaaW.PrintLast Go.Proofs.YtjcpkplneflleaaW.PrintMore
attribute [local go_sem] max2_int min2_int max_two min_two max_three min_three max_four min_four   -- for this text's walks alone
set_option linter.unusedVariables false
set_option linter.unusedSimpArgs false
/-- The set with what an operation names. -/
def nameSet (b : List Bool) (kind dir dir2 id : Int) : Option (List Bool) :=
  if 0 ≤ id ∧ id < 32 then
    if kind = 5 then some (b.set id.toNat true)
    else if 0 ≤ dir ∧ dir < 32 then
      if kind = 4 then (if 0 ≤ dir2 ∧ dir2 < 32 then some (((b.set id.toNat true).set dir.toNat true).set dir2.toNat true) else none)
      else some ((b.set id.toNat true).set dir.toNat true)
    else none
  else none
def nameF (k : Nat) (a0 a1 : Int) (a2 : ByteArray) (a3 : Int) (a4 : ByteArray) (a5 : Int) (a6 : ByteArray) (b : List Bool) : Option (List Bool) :=
  (impl_OpOk.f k a0 a1 a2 a3 a4 a5 a6).bind fun t => if t = true then nameSet b a0 a1 a3 a5 else some b
theorem blk_bool {w : World} {g t : Nat} {b : List Bool} (h : w.heap[g]? = some (.cells (bools b).toArray t (0, 0))) (i : Int) (h0 : 0 ≤ i) (h1 : i < b.length) : w.cell? ⟨g, i.toNat, none⟩ = some (.bool (b.getD i.toNat false)) := by
  rw [blk_cell h]
  simp only [bools, List.getElem?_toArray, List.getElem?_map]
  rw [List.getElem?_eq_getElem (by omega), List.getD_eq_getElem?_getD, List.getElem?_eq_getElem (by omega)]
  rfl
theorem blk_bool_set {w : World} {g t : Nat} {b : List Bool} (h : w.heap[g]? = some (.cells (bools b).toArray t (0, 0))) (i : Nat) : (w.setCell ⟨g, i, none⟩ (.bool true)).heap[g]? = some (.cells (bools (b.set i true)).toArray t (0, 0)) := by
  rw [blk_set h]
  simp [bools, List.map_set]
theorem grown_drew {w W : World} {r : Option Nat} (h : w.grownBy W r) : w.grownBy W.drew r := ⟨h.os, h.tape, h.output, h.size, h.block⟩
theorem grown_set {w W : World} {g : Nat} (h : w.grownBy W (some g)) (i : Nat) (u : Value) : w.grownBy (W.setCell ⟨g, i, none⟩ u) (some g) :=
  ⟨h.os, h.tape, h.output, by have := h.size; simpa [World.setCell] using this, fun k hk hne => (Below.heap_setCell W ⟨g, i, none⟩ u k (fun he => hne (by rw [he]))).trans (h.block k hk hne)⟩
set_option maxHeartbeats 8000000 in
set_option maxRecDepth 100000 in
theorem name_calls (k : Nat) (a0 a1 : Int) (a2 : ByteArray) (a3 : Int) (a4 : ByteArray) (a5 : Int) (a6 : ByteArray) (g : Nat) (b b' : List Bool) (w : World) (hb : w.heap[g]? = some (.cells (bools b).toArray 131 (0, 0))) (hl : b.length = 32) (h : nameF k a0 a1 a2 a3 a4 a5 a6 b = some b') :
    Calls Try.prog 139 #[.agg #[.int .i64 a0, .int .i64 a1, .string a2, .int .i64 a3, .string a4, .int .i64 a5, .string a6], .pointer (some ⟨g, 0, none⟩)] w fun e w' => e = .returned (.tuple #[]) ∧ w'.heap[g]? = some (.cells (bools b').toArray 131 (0, 0)) ∧ w.grownBy w' (some g) := by
  unfold nameF at h
  obtain ⟨t, ht, h⟩ := Option.bind_eq_some_iff.1 h
  have HT := Aside0.mk ht
  have HG := Aside0.mk hb
  have HL := Aside0.mk hl
  have HN := Aside0.mk (show w.heap.size ≠ g from by have := blk_lt hb; omega)
  clear ht hb hl
  cases t with
  | false =>
    obtain rfl : b = b' := by simpa using h
    clear h
    go_enter Try.func139, Try.ntmps139
    go_wp2_with (go_at_call 144; refine (impl_OpOk.calls k _ _ _ _ _ _ _ false _ HT.out).mono ?_; rintro e w1 ⟨rfl, hb1⟩)
    (try simp only [Exit.inBlock, Exit.then])
    refine bodyPost_ret (results_none rfl _ _ _) rfl ?_
    exact ⟨rfl, blk_below (blk_alloc HG.out _) hb1, grown_of_below (below_step (below_alloc (Below.refl _ _) _) hb1) _⟩
  | true =>
    have hs : nameSet b a0 a1 a3 a5 = some b' := by simpa using h
    clear h
    unfold nameSet at hs
    split at hs
    case isFalse => cases hs
    rename_i hid
    obtain ⟨i0, i1⟩ := hid
    have di1 : decide (a5 < 32) = true := decide_eq_true i1
    have di0 : decide (0 ≤ a5) = true := decide_eq_true i0
    by_cases k5 : a0 = 5
    · subst k5
      obtain rfl := Option.some.inj (by simpa using hs : some (b.set a5.toNat true) = some b')
      clear hs
      go_enter Try.func139, Try.ntmps139
      go_wp2_with (go_at_call 144; refine (impl_OpOk.calls k _ _ _ _ _ _ _ true _ HT.out).mono ?_; rintro e w1 ⟨rfl, hb1⟩)
      have Xw1 := Aside0.mk (show w1.heap[w.heap.size]? = some (.cells #[.int .i64 5, .int .i64 a1, .string a2, .int .i64 a3, .string a4, .int .i64 a5, .string a6] 72 (0, 0)) from blk_below (heap_alloc_new w _) hb1)
      have Kw1 := Aside0.mk (show w1.heap[g]? = some (.cells (bools b).toArray 131 (0, 0)) from blk_below (blk_alloc HG.out _) hb1)
      have Gw1 := Aside0.mk (show w.grownBy w1 (some g) from grown_of_below (below_step (below_alloc (Below.refl _ _) _) hb1) _)
      clear hb1
      have zw1_0 : w1.cell? ⟨w.heap.size, 0, none⟩ = some (.int .i64 5) := (blk_cell Xw1.out 0).trans rfl; have zw1_1 : w1.cell? ⟨w.heap.size, 1, none⟩ = some (.int .i64 a1) := (blk_cell Xw1.out 1).trans rfl; have zw1_3 : w1.cell? ⟨w.heap.size, 3, none⟩ = some (.int .i64 a3) := (blk_cell Xw1.out 3).trans rfl; have zw1_5 : w1.cell? ⟨w.heap.size, 5, none⟩ = some (.int .i64 a5) := (blk_cell Xw1.out 5).trans rfl
      go_still_tail 5, (by kernel_rfl)
      change wpList _ _ _ _ _ w1.drew
      have Xv1 : w1.drew.heap[w.heap.size]? = some (.cells #[.int .i64 5, .int .i64 a1, .string a2, .int .i64 a3, .string a4, .int .i64 a5, .string a6] 72 (0, 0)) := Xw1.out
      have Kv1 : w1.drew.heap[g]? = some (.cells (bools b).toArray 131 (0, 0)) := Kw1.out
      have Gv1 : w.grownBy w1.drew (some g) := grown_drew Gw1.out
      clear Xw1 Kw1 Gw1 zw1_0 zw1_1 zw1_3 zw1_5
      generalize w1.drew = v1 at Xv1 Kv1 Gv1 ⊢
      have cSv1 := blk_bool Kv1 a5 i0 (by have := HL.out; (try simp only [List.length_set]); omega)
      have fSv1 := blk_frozen Kv1 a5.toNat
      have X_v1 := Aside0.mk Xv1; have K_v1 := Aside0.mk Kv1; have G_v1 := Aside0.mk Gv1; clear Xv1 Kv1 Gv1
      go_wp2_with (first | ((with_reducible refine gate_store (t := 4) (p := 11) rfl ?_); refine store_event (t := 4) (p := 11) (v := ?vo) (w1 := v1.setCell ⟨g, a5.toNat, none⟩ (.bool true)) ?hg ?ho ?hn ?hr ?_; (case ho => rfl); (case hg => rfl); (case hn => rfl); (case hr => first | (go_simp; done) | (go_simp; rfl)); intro w2 hw; have Kw2 := Aside0.mk (show w2.heap[g]? = some (.cells (bools (b.set a5.toNat true)).toArray 131 (0, 0)) from by rw [hw]; exact blk_bool_set K_v1.out _); have Xw2 := Aside0.mk (show w2.heap[w.heap.size]? = some (.cells #[.int .i64 5, .int .i64 a1, .string a2, .int .i64 a3, .string a4, .int .i64 a5, .string a6] 72 (0, 0)) from by rw [hw]; exact blk_far X_v1.out HN.out _); have Gw2 := Aside0.mk (show w.grownBy w2 (some g) from by rw [hw]; exact grown_set G_v1.out _ _); clear hw; have zw2_0 : w2.cell? ⟨w.heap.size, 0, none⟩ = some (.int .i64 5) := (blk_cell Xw2.out 0).trans rfl; have zw2_1 : w2.cell? ⟨w.heap.size, 1, none⟩ = some (.int .i64 a1) := (blk_cell Xw2.out 1).trans rfl; have zw2_3 : w2.cell? ⟨w.heap.size, 3, none⟩ = some (.int .i64 a3) := (blk_cell Xw2.out 3).trans rfl; have zw2_5 : w2.cell? ⟨w.heap.size, 5, none⟩ = some (.int .i64 a5) := (blk_cell Xw2.out 5).trans rfl))
      go_end0
      exact ⟨rfl, Kw2.out, Gw2.out⟩
    · rw [if_neg k5] at hs
      split at hs
      case isFalse => cases hs
      rename_i hd
      obtain ⟨d0, d1⟩ := hd
      have dd1 : decide (a1 < 32) = true := decide_eq_true d1
      have dd0 : decide (0 ≤ a1) = true := decide_eq_true d0
      by_cases k4 : a0 = 4
      · subst k4
        rw [if_pos rfl] at hs
        split at hs
        case isFalse => cases hs
        rename_i he
        obtain ⟨e0, e1⟩ := he
        have de1 : decide (a3 < 32) = true := decide_eq_true e1
        have de0 : decide (0 ≤ a3) = true := decide_eq_true e0
        obtain rfl := Option.some.inj hs
        clear hs k5
        go_enter Try.func139, Try.ntmps139
        go_wp2_with (go_at_call 144; refine (impl_OpOk.calls k _ _ _ _ _ _ _ true _ HT.out).mono ?_; rintro e w1 ⟨rfl, hb1⟩)
        have Xw1 := Aside0.mk (show w1.heap[w.heap.size]? = some (.cells #[.int .i64 4, .int .i64 a1, .string a2, .int .i64 a3, .string a4, .int .i64 a5, .string a6] 72 (0, 0)) from blk_below (heap_alloc_new w _) hb1)
        have Kw1 := Aside0.mk (show w1.heap[g]? = some (.cells (bools b).toArray 131 (0, 0)) from blk_below (blk_alloc HG.out _) hb1)
        have Gw1 := Aside0.mk (show w.grownBy w1 (some g) from grown_of_below (below_step (below_alloc (Below.refl _ _) _) hb1) _)
        clear hb1
        have zw1_0 : w1.cell? ⟨w.heap.size, 0, none⟩ = some (.int .i64 4) := (blk_cell Xw1.out 0).trans rfl; have zw1_1 : w1.cell? ⟨w.heap.size, 1, none⟩ = some (.int .i64 a1) := (blk_cell Xw1.out 1).trans rfl; have zw1_3 : w1.cell? ⟨w.heap.size, 3, none⟩ = some (.int .i64 a3) := (blk_cell Xw1.out 3).trans rfl; have zw1_5 : w1.cell? ⟨w.heap.size, 5, none⟩ = some (.int .i64 a5) := (blk_cell Xw1.out 5).trans rfl
        go_still_tail 5, (by kernel_rfl)
        change wpList _ _ _ _ _ w1.drew
        have Xv1 : w1.drew.heap[w.heap.size]? = some (.cells #[.int .i64 4, .int .i64 a1, .string a2, .int .i64 a3, .string a4, .int .i64 a5, .string a6] 72 (0, 0)) := Xw1.out
        have Kv1 : w1.drew.heap[g]? = some (.cells (bools b).toArray 131 (0, 0)) := Kw1.out
        have Gv1 : w.grownBy w1.drew (some g) := grown_drew Gw1.out
        clear Xw1 Kw1 Gw1 zw1_0 zw1_1 zw1_3 zw1_5
        generalize w1.drew = v1 at Xv1 Kv1 Gv1 ⊢
        have cSv1 := blk_bool Kv1 a5 i0 (by have := HL.out; (try simp only [List.length_set]); omega)
        have fSv1 := blk_frozen Kv1 a5.toNat
        have X_v1 := Aside0.mk Xv1; have K_v1 := Aside0.mk Kv1; have G_v1 := Aside0.mk Gv1; clear Xv1 Kv1 Gv1
        go_wp2_with (first | ((with_reducible refine gate_store (t := 4) (p := 11) rfl ?_); refine store_event (t := 4) (p := 11) (v := ?vo) (w1 := v1.setCell ⟨g, a5.toNat, none⟩ (.bool true)) ?hg ?ho ?hn ?hr ?_; (case ho => rfl); (case hg => rfl); (case hn => rfl); (case hr => first | (go_simp; done) | (go_simp; rfl)); intro w2 hw; have Kw2 := Aside0.mk (show w2.heap[g]? = some (.cells (bools (b.set a5.toNat true)).toArray 131 (0, 0)) from by rw [hw]; exact blk_bool_set K_v1.out _); have Xw2 := Aside0.mk (show w2.heap[w.heap.size]? = some (.cells #[.int .i64 4, .int .i64 a1, .string a2, .int .i64 a3, .string a4, .int .i64 a5, .string a6] 72 (0, 0)) from by rw [hw]; exact blk_far X_v1.out HN.out _); have Gw2 := Aside0.mk (show w.grownBy w2 (some g) from by rw [hw]; exact grown_set G_v1.out _ _); clear hw; have zw2_0 : w2.cell? ⟨w.heap.size, 0, none⟩ = some (.int .i64 4) := (blk_cell Xw2.out 0).trans rfl; have zw2_1 : w2.cell? ⟨w.heap.size, 1, none⟩ = some (.int .i64 a1) := (blk_cell Xw2.out 1).trans rfl; have zw2_3 : w2.cell? ⟨w.heap.size, 3, none⟩ = some (.int .i64 a3) := (blk_cell Xw2.out 3).trans rfl; have zw2_5 : w2.cell? ⟨w.heap.size, 5, none⟩ = some (.int .i64 a5) := (blk_cell Xw2.out 5).trans rfl))
        go_still_tail 5, (by kernel_rfl)
        change wpList _ _ _ _ _ w2.drew
        have Xv2 : w2.drew.heap[w.heap.size]? = some (.cells #[.int .i64 4, .int .i64 a1, .string a2, .int .i64 a3, .string a4, .int .i64 a5, .string a6] 72 (0, 0)) := Xw2.out
        have Kv2 : w2.drew.heap[g]? = some (.cells (bools (b.set a5.toNat true)).toArray 131 (0, 0)) := Kw2.out
        have Gv2 : w.grownBy w2.drew (some g) := grown_drew Gw2.out
        clear Xw2 Kw2 Gw2 zw2_0 zw2_1 zw2_3 zw2_5
        generalize w2.drew = v2 at Xv2 Kv2 Gv2 ⊢
        have cSv2 := blk_bool Kv2 a1 d0 (by have := HL.out; (try simp only [List.length_set]); omega)
        have fSv2 := blk_frozen Kv2 a1.toNat
        have X_v2 := Aside0.mk Xv2; have K_v2 := Aside0.mk Kv2; have G_v2 := Aside0.mk Gv2; clear Xv2 Kv2 Gv2
        go_wp2_with (first | ((with_reducible refine gate_store (t := 4) (p := 19) rfl ?_); refine store_event (t := 4) (p := 19) (v := ?vo) (w1 := v2.setCell ⟨g, a1.toNat, none⟩ (.bool true)) ?hg ?ho ?hn ?hr ?_; (case ho => rfl); (case hg => rfl); (case hn => rfl); (case hr => first | (go_simp; done) | (go_simp; rfl)); intro w3 hw; have Kw3 := Aside0.mk (show w3.heap[g]? = some (.cells (bools ((b.set a5.toNat true).set a1.toNat true)).toArray 131 (0, 0)) from by rw [hw]; exact blk_bool_set K_v2.out _); have Xw3 := Aside0.mk (show w3.heap[w.heap.size]? = some (.cells #[.int .i64 4, .int .i64 a1, .string a2, .int .i64 a3, .string a4, .int .i64 a5, .string a6] 72 (0, 0)) from by rw [hw]; exact blk_far X_v2.out HN.out _); have Gw3 := Aside0.mk (show w.grownBy w3 (some g) from by rw [hw]; exact grown_set G_v2.out _ _); clear hw; have zw3_0 : w3.cell? ⟨w.heap.size, 0, none⟩ = some (.int .i64 4) := (blk_cell Xw3.out 0).trans rfl; have zw3_1 : w3.cell? ⟨w.heap.size, 1, none⟩ = some (.int .i64 a1) := (blk_cell Xw3.out 1).trans rfl; have zw3_3 : w3.cell? ⟨w.heap.size, 3, none⟩ = some (.int .i64 a3) := (blk_cell Xw3.out 3).trans rfl; have zw3_5 : w3.cell? ⟨w.heap.size, 5, none⟩ = some (.int .i64 a5) := (blk_cell Xw3.out 5).trans rfl))
        go_still_tail 5, (by kernel_rfl)
        change wpList _ _ _ _ _ w3.drew
        have Xv3 : w3.drew.heap[w.heap.size]? = some (.cells #[.int .i64 4, .int .i64 a1, .string a2, .int .i64 a3, .string a4, .int .i64 a5, .string a6] 72 (0, 0)) := Xw3.out
        have Kv3 : w3.drew.heap[g]? = some (.cells (bools ((b.set a5.toNat true).set a1.toNat true)).toArray 131 (0, 0)) := Kw3.out
        have Gv3 : w.grownBy w3.drew (some g) := grown_drew Gw3.out
        clear Xw3 Kw3 Gw3 zw3_0 zw3_1 zw3_3 zw3_5
        generalize w3.drew = v3 at Xv3 Kv3 Gv3 ⊢
        have cSv3 := blk_bool Kv3 a3 e0 (by have := HL.out; (try simp only [List.length_set]); omega)
        have fSv3 := blk_frozen Kv3 a3.toNat
        have X_v3 := Aside0.mk Xv3; have K_v3 := Aside0.mk Kv3; have G_v3 := Aside0.mk Gv3; clear Xv3 Kv3 Gv3
        go_wp2_with (first | ((with_reducible refine gate_store (t := 4) (p := 27) rfl ?_); refine store_event (t := 4) (p := 27) (v := ?vo) (w1 := v3.setCell ⟨g, a3.toNat, none⟩ (.bool true)) ?hg ?ho ?hn ?hr ?_; (case ho => rfl); (case hg => rfl); (case hn => rfl); (case hr => first | (go_simp; done) | (go_simp; rfl)); intro w4 hw; have Kw4 := Aside0.mk (show w4.heap[g]? = some (.cells (bools (((b.set a5.toNat true).set a1.toNat true).set a3.toNat true)).toArray 131 (0, 0)) from by rw [hw]; exact blk_bool_set K_v3.out _); have Xw4 := Aside0.mk (show w4.heap[w.heap.size]? = some (.cells #[.int .i64 4, .int .i64 a1, .string a2, .int .i64 a3, .string a4, .int .i64 a5, .string a6] 72 (0, 0)) from by rw [hw]; exact blk_far X_v3.out HN.out _); have Gw4 := Aside0.mk (show w.grownBy w4 (some g) from by rw [hw]; exact grown_set G_v3.out _ _); clear hw; have zw4_0 : w4.cell? ⟨w.heap.size, 0, none⟩ = some (.int .i64 4) := (blk_cell Xw4.out 0).trans rfl; have zw4_1 : w4.cell? ⟨w.heap.size, 1, none⟩ = some (.int .i64 a1) := (blk_cell Xw4.out 1).trans rfl; have zw4_3 : w4.cell? ⟨w.heap.size, 3, none⟩ = some (.int .i64 a3) := (blk_cell Xw4.out 3).trans rfl; have zw4_5 : w4.cell? ⟨w.heap.size, 5, none⟩ = some (.int .i64 a5) := (blk_cell Xw4.out 5).trans rfl))
        go_end0
        exact ⟨rfl, Kw4.out, Gw4.out⟩
      · rw [if_neg k4] at hs
        obtain rfl := Option.some.inj hs
        clear hs
        have n5 : (a0 == 5) = false := beq_eq_false_iff_ne.mpr k5
        have m5 : (a0 != 5) = true := bne_iff_ne.mpr k5
        have n4 : (a0 == 4) = false := beq_eq_false_iff_ne.mpr k4
        have m4 : (a0 != 4) = true := bne_iff_ne.mpr k4
        clear k4 k5
        go_enter Try.func139, Try.ntmps139
        go_wp2_with (go_at_call 144; refine (impl_OpOk.calls k _ _ _ _ _ _ _ true _ HT.out).mono ?_; rintro e w1 ⟨rfl, hb1⟩)
        have Xw1 := Aside0.mk (show w1.heap[w.heap.size]? = some (.cells #[.int .i64 a0, .int .i64 a1, .string a2, .int .i64 a3, .string a4, .int .i64 a5, .string a6] 72 (0, 0)) from blk_below (heap_alloc_new w _) hb1)
        have Kw1 := Aside0.mk (show w1.heap[g]? = some (.cells (bools b).toArray 131 (0, 0)) from blk_below (blk_alloc HG.out _) hb1)
        have Gw1 := Aside0.mk (show w.grownBy w1 (some g) from grown_of_below (below_step (below_alloc (Below.refl _ _) _) hb1) _)
        clear hb1
        have zw1_0 : w1.cell? ⟨w.heap.size, 0, none⟩ = some (.int .i64 a0) := (blk_cell Xw1.out 0).trans rfl; have zw1_1 : w1.cell? ⟨w.heap.size, 1, none⟩ = some (.int .i64 a1) := (blk_cell Xw1.out 1).trans rfl; have zw1_3 : w1.cell? ⟨w.heap.size, 3, none⟩ = some (.int .i64 a3) := (blk_cell Xw1.out 3).trans rfl; have zw1_5 : w1.cell? ⟨w.heap.size, 5, none⟩ = some (.int .i64 a5) := (blk_cell Xw1.out 5).trans rfl
        go_still_tail 5, (by kernel_rfl)
        change wpList _ _ _ _ _ w1.drew
        have Xv1 : w1.drew.heap[w.heap.size]? = some (.cells #[.int .i64 a0, .int .i64 a1, .string a2, .int .i64 a3, .string a4, .int .i64 a5, .string a6] 72 (0, 0)) := Xw1.out
        have Kv1 : w1.drew.heap[g]? = some (.cells (bools b).toArray 131 (0, 0)) := Kw1.out
        have Gv1 : w.grownBy w1.drew (some g) := grown_drew Gw1.out
        clear Xw1 Kw1 Gw1 zw1_0 zw1_1 zw1_3 zw1_5
        generalize w1.drew = v1 at Xv1 Kv1 Gv1 ⊢
        have cSv1 := blk_bool Kv1 a5 i0 (by have := HL.out; (try simp only [List.length_set]); omega)
        have fSv1 := blk_frozen Kv1 a5.toNat
        have X_v1 := Aside0.mk Xv1; have K_v1 := Aside0.mk Kv1; have G_v1 := Aside0.mk Gv1; clear Xv1 Kv1 Gv1
        go_wp2_with (first | ((with_reducible refine gate_store (t := 4) (p := 11) rfl ?_); refine store_event (t := 4) (p := 11) (v := ?vo) (w1 := v1.setCell ⟨g, a5.toNat, none⟩ (.bool true)) ?hg ?ho ?hn ?hr ?_; (case ho => rfl); (case hg => rfl); (case hn => rfl); (case hr => first | (go_simp; done) | (go_simp; rfl)); intro w2 hw; have Kw2 := Aside0.mk (show w2.heap[g]? = some (.cells (bools (b.set a5.toNat true)).toArray 131 (0, 0)) from by rw [hw]; exact blk_bool_set K_v1.out _); have Xw2 := Aside0.mk (show w2.heap[w.heap.size]? = some (.cells #[.int .i64 a0, .int .i64 a1, .string a2, .int .i64 a3, .string a4, .int .i64 a5, .string a6] 72 (0, 0)) from by rw [hw]; exact blk_far X_v1.out HN.out _); have Gw2 := Aside0.mk (show w.grownBy w2 (some g) from by rw [hw]; exact grown_set G_v1.out _ _); clear hw; have zw2_0 : w2.cell? ⟨w.heap.size, 0, none⟩ = some (.int .i64 a0) := (blk_cell Xw2.out 0).trans rfl; have zw2_1 : w2.cell? ⟨w.heap.size, 1, none⟩ = some (.int .i64 a1) := (blk_cell Xw2.out 1).trans rfl; have zw2_3 : w2.cell? ⟨w.heap.size, 3, none⟩ = some (.int .i64 a3) := (blk_cell Xw2.out 3).trans rfl; have zw2_5 : w2.cell? ⟨w.heap.size, 5, none⟩ = some (.int .i64 a5) := (blk_cell Xw2.out 5).trans rfl))
        go_still_tail 5, (by kernel_rfl)
        change wpList _ _ _ _ _ w2.drew
        have Xv2 : w2.drew.heap[w.heap.size]? = some (.cells #[.int .i64 a0, .int .i64 a1, .string a2, .int .i64 a3, .string a4, .int .i64 a5, .string a6] 72 (0, 0)) := Xw2.out
        have Kv2 : w2.drew.heap[g]? = some (.cells (bools (b.set a5.toNat true)).toArray 131 (0, 0)) := Kw2.out
        have Gv2 : w.grownBy w2.drew (some g) := grown_drew Gw2.out
        clear Xw2 Kw2 Gw2 zw2_0 zw2_1 zw2_3 zw2_5
        generalize w2.drew = v2 at Xv2 Kv2 Gv2 ⊢
        have cSv2 := blk_bool Kv2 a1 d0 (by have := HL.out; (try simp only [List.length_set]); omega)
        have fSv2 := blk_frozen Kv2 a1.toNat
        have X_v2 := Aside0.mk Xv2; have K_v2 := Aside0.mk Kv2; have G_v2 := Aside0.mk Gv2; clear Xv2 Kv2 Gv2
        go_wp2_with (first | ((with_reducible refine gate_store (t := 4) (p := 19) rfl ?_); refine store_event (t := 4) (p := 19) (v := ?vo) (w1 := v2.setCell ⟨g, a1.toNat, none⟩ (.bool true)) ?hg ?ho ?hn ?hr ?_; (case ho => rfl); (case hg => rfl); (case hn => rfl); (case hr => first | (go_simp; done) | (go_simp; rfl)); intro w3 hw; have Kw3 := Aside0.mk (show w3.heap[g]? = some (.cells (bools ((b.set a5.toNat true).set a1.toNat true)).toArray 131 (0, 0)) from by rw [hw]; exact blk_bool_set K_v2.out _); have Xw3 := Aside0.mk (show w3.heap[w.heap.size]? = some (.cells #[.int .i64 a0, .int .i64 a1, .string a2, .int .i64 a3, .string a4, .int .i64 a5, .string a6] 72 (0, 0)) from by rw [hw]; exact blk_far X_v2.out HN.out _); have Gw3 := Aside0.mk (show w.grownBy w3 (some g) from by rw [hw]; exact grown_set G_v2.out _ _); clear hw; have zw3_0 : w3.cell? ⟨w.heap.size, 0, none⟩ = some (.int .i64 a0) := (blk_cell Xw3.out 0).trans rfl; have zw3_1 : w3.cell? ⟨w.heap.size, 1, none⟩ = some (.int .i64 a1) := (blk_cell Xw3.out 1).trans rfl; have zw3_3 : w3.cell? ⟨w.heap.size, 3, none⟩ = some (.int .i64 a3) := (blk_cell Xw3.out 3).trans rfl; have zw3_5 : w3.cell? ⟨w.heap.size, 5, none⟩ = some (.int .i64 a5) := (blk_cell Xw3.out 5).trans rfl))
        go_end0
        exact ⟨rfl, Kw3.out, Gw3.out⟩
end Go.Proofs.Ytjcpkplneflleaa.Q
namespace Go.Proofs.Ytjcpkplneflleaa.Q
open Go.RowKit Go.Proofs.YtjcpkplneflleaaW.PrintWords Go.Proofs.YtjcpkplneflleaaW.PrintLast Go.Proofs.YtjcpkplneflleaaW.PrintMore
attribute [local go_sem] max2_int min2_int max_two min_two max_three min_three max_four min_four   -- for this text's walks alone
set_option linter.unusedVariables false
set_option linter.unusedSimpArgs false
def impl_copied_int.f (l0 : List Int) : Option (List Int) := if l0.length ≤ 8796093022208 then some l0 else none
set_option maxHeartbeats 8000000 in
set_option maxRecDepth 100000 in
theorem impl_copied_int.calls (A0 : Option Addr) (c0 : Nat) (l0 : List Int) (r : List Int) (w : World) (hr0 : Kd.C (Kd.int .i64) w A0 l0.length l0) (hc0 : l0.length ≤ c0) (h : impl_copied_int.f l0 = some r) :
    Calls Try.prog 177 #[.slice A0 l0.length c0] w fun e w' => ∃ v0_ : Value, e = .returned (v0_) ∧ Kd.R (Kd.int .i64) 3 w' w.heap.size (fun _ => True) v0_ r ∧ Below w.heap.size w w' := by
  unfold impl_copied_int.f at h
  split at h
  case isFalse => cases h
  rename_i hlim
  obtain rfl := Option.some.inj h
  clear h
  have HB := Aside0.mk (Below.refl w.heap.size w)
  by_cases c : l0.length = 0
  · obtain rfl := List.eq_nil_of_length_eq_zero c
    clear c hr0
    go_enter Try.func177, Try.ntmps177
    go_wp2
    go_ret
    exact ⟨_, rfl, Kd.R_nil _ _ _ _ _, HB.out⟩
  · have hp : 0 < l0.length := by omega
    have b0 : ((l0.length : Int) == 0) = false := beq_eq_false_iff_ne.mpr (by omega)
    have b1 : (l0.length == 0) = false := beq_eq_false_iff_ne.mpr (by omega)
    have b2 : ¬ (l0 = []) := fun h_ => c (by rw [h_]; rfl)
    have HR0 := Aside0.mk hr0
    have HL := Aside0.mk hlim
    have HP := Aside0.mk hp
    clear hr0 c hlim hp
    go_enter Try.func177, Try.ntmps177
    go_wp2_with (first | ((with_reducible refine gate_dst (N := 9) rfl ?_); refine Kd.R_make (Kd.int .i64) _ 3 rfl (N := 9) rfl 85 _ _ rfl (l0.length : Int) rfl rfl Try.underlying85 (.int .i64 0) 8 info3 rfl (by decide) (by omega) (0 : Int) (ok := fun _ => True) (okp := fun _ => True) rfl (fun _ hk => hk) trivial (by omega) (by have := HL.out; rw [Int.toNat_natCast]; omega) HB.out (Nat.le_refl _) ?_; intro v1 w1 ho hb hg_ hnew_; have HO := Aside0.mk ho; have HR1 := Aside0.mk (Kd.C_below HR0.out (show Below w.heap.size w w1 from hb)); have HZ := Aside0.mk hb.size; clear ho hg_ hnew_; have HB1 := Aside0.mk hb; clear hb) | ((with_reducible refine gate_dst (N := 12) rfl ?_); refine Go.Proofs.Ytjcpkplneflleaa.Mem.copy_rows (Kd.int .i64) (Rr := fun x cs => cs = [.int .i64 x]) w.heap.size rfl (.tmp 10) (.tmp 11) 85 85 3 rfl Try.underlying85 (by have := info3; simp only [Option.map_eq_some_iff] at this ⊢; obtain ⟨i, h1, h2⟩ := this; exact ⟨i, h1, by have := congrArg (fun q => q.2.1) h2; exact this⟩) v1 (List.replicate (l0.length : Int).toNat (0 : Int)) l0 A0 l0.length c0 (ok := fun _ => True) (okp := fun _ => False) rfl rfl (by simp) HP.out HO.out ?hrd (by rintro w' x cs rfl; exact rfl) (fun _ hk => hk.elim) HB1.out HZ.out ?_; (case hrd => exact HR1.out.imp_ (Below.refl _ _) (fun p cs hp => hp)); intro w2 ho hb hg_; have HO2 := Aside0.mk ho; have HB2 := Aside0.mk hb; clear ho hb hg_))
    go_ret
    exact ⟨_, rfl, HO2.out, HB2.out⟩
end Go.Proofs.Ytjcpkplneflleaa.Q
