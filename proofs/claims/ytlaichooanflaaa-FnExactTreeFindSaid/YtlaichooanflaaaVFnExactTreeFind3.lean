/- Part 3 of what the proof of FnExactTreeFind uses: plain functions with the answers of the Go functions, the proofs that the calls come to them, and plain lemmas. -/
import Derived.Test.YtlaichooanflaaaVFnExactTreeFind0
import Derived.Test.YtlaichooanflaaaVFnExactTreeFind1
import Derived.Test.YtlaichooanflaaaVFnExactTreeFind2
namespace Go.Proofs.Ytlaichooanflaaa.Q
open Go.RowKit Go.Proofs.YtlaichooanflaaaW.PrintWords Go.Proofs.YtlaichooanflaaaW.PrintLast Go.Proofs.YtlaichooanflaaaW.PrintMore
attribute [local go_sem] Go.Proofs.Ytlaichooanflaaa.Mem.str_leq Go.Proofs.Ytlaichooanflaaa.Mem.str_gtr Go.Proofs.Ytlaichooanflaaa.Mem.str_geq max2_int min2_int max_two min_two max_three min_three max_four min_four   -- for this text's walks alone
set_option linter.unusedVariables false
set_option linter.unusedSimpArgs false
def impl_objOk.l0 : Nat → List (S77) → Int → Int → Int → Int → ByteArray → List (S77) → Option (Bool)
  | 0, _, _, _, _, _, _, _ => none
  | k + 1, x41, x42, x43, x397000, x397001, x397002, x397003 => if x43 < x42 then (if 0 ≤ x43 then (if x43 < (x41.length : Int) then ((impl_TreeWord.f k ((rd_T77 x41 x43).f0)).bind fun t401 => (if t401 = true then (if x43 > 0 then (if 0 ≤ (wrap64 (x43 - 1)) then (if (wrap64 (x43 - 1)) < (x397003.length : Int) then (if ((Op.bytesLess (((rd_T77 x397003 (wrap64 (x43 - 1))).f0).toList) (((rd_T77 x41 x43).f0).toList)) = true) then ((impl_in.f ((rd_T77 x41 x43).f1) 1 31).bind fun t403 => (if t403 = true then (impl_objOk.l0 k x41 x42 (wrap64 (x43 + 1)) x397000 x397001 x397002 x397003) else (some false))) else (some false)) else (none)) else (none)) else ((impl_in.f ((rd_T77 x41 x43).f1) 1 31).bind fun t404 => (if t404 = true then (impl_objOk.l0 k x41 x42 (wrap64 (x43 + 1)) x397000 x397001 x397002 x397003) else (some false)))) else (some false))) else (none)) else (none)) else (if x397001 > 0 then (some (x397002.toList == ([] : List UInt8))) else (some false))
def impl_objOk.f (k : Nat) (a0_0 : Int) (a0_1 : Int) (a0_2 : ByteArray) (l0_3 : List (S77)) : Option (Bool) := (impl_in.f a0_1 0 1000000).bind fun t397 => (if t397 = true then (if a0_0 = 0 then (if a0_2.toList = ([] : List UInt8) then (some ((l0_3.length : Int) == 0)) else (some false)) else (if a0_0 = 1 then (if a0_1 > 0 then ((impl_TreeBody.f k a0_2).bind fun t398 => (if t398 = true then (some ((l0_3.length : Int) == 0)) else (some false))) else (some false)) else (if a0_0 = 2 then (impl_objOk.l0 k l0_3 (l0_3.length : Int) 0 a0_0 a0_1 a0_2 l0_3) else (some false)))) else (some false))
set_option maxHeartbeats 8000000 in
set_option maxRecDepth 100000 in
theorem impl_objOk.calls (k : Nat) (a0_0 : Int) (a0_1 : Int) (a0_2 : ByteArray) (A0_3 : Option Addr) (c0_3 : Nat) (l0_3 : List (S77)) (r : Bool) (w : World) (hr0_3 : Kd.C k77 w A0_3 l0_3.length l0_3) (hc0_3 : l0_3.length ≤ c0_3) (h : impl_objOk.f k a0_0 a0_1 a0_2 l0_3 = some r) :
    Calls Try.prog 105 #[.agg #[.int .i64 a0_0, .int .i64 a0_1, .string a0_2, .slice A0_3 l0_3.length c0_3]] w fun e w' => e = .returned (.bool r) ∧ Below w.heap.size w w' := by
  have hu69 := Try.underlying69
  have hu77 := Try.underlying77
  have HR0_3 := Aside0.mk hr0_3
  have HC0_3 := Aside0.mk hc0_3
  clear hr0_3 hc0_3
  have HB := Aside0.mk (Below.refl w.heap.size w)
  have H : ((impl_in.f a0_1 0 1000000).bind fun t397 => (if t397 = true then (if a0_0 = 0 then (if a0_2.toList = ([] : List UInt8) then (some ((l0_3.length : Int) == 0)) else (some false)) else (if a0_0 = 1 then (if a0_1 > 0 then ((impl_TreeBody.f k a0_2).bind fun t398 => (if t398 = true then (some ((l0_3.length : Int) == 0)) else (some false))) else (some false)) else (if a0_0 = 2 then (impl_objOk.l0 k l0_3 (l0_3.length : Int) 0 a0_0 a0_1 a0_2 l0_3) else (some false)))) else (some false))) = some r := h
  clear h
  replace H := Option.bind_eq_some_iff.mp H
  obtain ⟨t397, A20, H⟩ := H
  replace H : (if t397 = true then (if a0_0 = 0 then (if a0_2.toList = ([] : List UInt8) then (some ((l0_3.length : Int) == 0)) else (some false)) else (if a0_0 = 1 then (if a0_1 > 0 then ((impl_TreeBody.f k a0_2).bind fun t398 => (if t398 = true then (some ((l0_3.length : Int) == 0)) else (some false))) else (some false)) else (if a0_0 = 2 then (impl_objOk.l0 k l0_3 (l0_3.length : Int) 0 a0_0 a0_1 a0_2 l0_3) else (some false)))) else (some false)) = some r := H
  have A2 := Aside0.mk A20
  clear A20
  by_cases c3 : t397 = true
  · subst c3
    have H1 : (if a0_0 = 0 then (if a0_2.toList = ([] : List UInt8) then (some ((l0_3.length : Int) == 0)) else (some false)) else (if a0_0 = 1 then (if a0_1 > 0 then ((impl_TreeBody.f k a0_2).bind fun t398 => (if t398 = true then (some ((l0_3.length : Int) == 0)) else (some false))) else (some false)) else (if a0_0 = 2 then (impl_objOk.l0 k l0_3 (l0_3.length : Int) 0 a0_0 a0_1 a0_2 l0_3) else (some false)))) = some r := by rw [if_pos rfl] at H; exact H
    clear H
    have H := H1
    clear H1
    by_cases c4 : a0_0 = 0
    · rw [if_pos c4] at H
      have c4b0 : (a0_0 == 0) = true := beq_iff_eq.mpr c4
      have c4b1 : (a0_0 != 0) = false := bne_eq_false_iff_eq.mpr c4
      clear c4
      by_cases c5 : a0_2.toList = ([] : List UInt8)
      · rw [if_pos c5] at H
        have c5b0 : (a0_2.toList == ([] : List UInt8)) = true := beq_iff_eq.mpr c5
        have c5b1 : (a0_2.toList != ([] : List UInt8)) = false := bne_eq_false_iff_eq.mpr c5
        clear c5
        obtain rfl := Option.some.inj H
        go_enter Try.func105, Try.ntmps105
        go_wp2_with (first | ((with_reducible refine gate_dst (N := 1) rfl ?_); (try (refine gate_guard (by rfl) ?_; dsimp only)); refine box_event ?hg (N := 1) ?hd (cs := #[.int .i64 a0_0, .int .i64 a0_1, .string a0_2, .slice A0_3 l0_3.length c0_3]) (t := 69) ?hr ?_; (case hd => rfl); (case hg => rfl); (case hr => first | (go_simp; done) | (go_simp; rfl)); intro gb396 hg w6 hbox hb; have n0_ := Aside0.mk (below_step (by repeat (first | (with_reducible first | exact HB.out | apply below_alloc | apply pw_below_drewN | apply below_drew1) | exact HB.out)) hb); have n1_ := Aside0.mk (hbox); have n2_ := Aside0.mk ((by rw [hg]; exact (below_size (by repeat (first | (with_reducible first | exact HB.out | apply below_alloc | apply pw_below_drewN | apply below_drew1) | exact HB.out))) : w.heap.size ≤ gb396)); have n3_ := Aside0.mk ((by rw [hg]; exact (below_size (by repeat (first | (with_reducible first | exact HB.out | apply below_alloc | apply pw_below_drewN | apply below_drew1) | exact HB.out))) : w.heap.size ≤ gb396)); clear HB; have HB := n0_; have BK396 := n1_; have GW396 := n2_; have GE396 := n3_; clear n0_ n1_ n2_ n3_; clear hb hbox hg; have hcz7_0 : w6.cell? ⟨gb396, 0, none⟩ = some (.int .i64 a0_0) := (blk_cell BK396.out 0).trans rfl; have hcz7_1 : w6.cell? ⟨gb396, 1, none⟩ = some (.int .i64 a0_1) := (blk_cell BK396.out 1).trans rfl; have hcz7_2 : w6.cell? ⟨gb396, 2, none⟩ = some (.string a0_2) := (blk_cell BK396.out 2).trans rfl; have hcz7_3 : w6.cell? ⟨gb396, 3, none⟩ = some (.slice A0_3 l0_3.length c0_3) := (blk_cell BK396.out 3).trans rfl; have hfz7_0 := blk_frozen BK396.out 0; have hfz7_1 := blk_frozen BK396.out 1; have hfz7_2 := blk_frozen BK396.out 2; have hfz7_3 := blk_frozen BK396.out 3) | (go_at_call 115; (with_reducible refine (impl_in.calls a0_1 0 1000000 true _ A2.out).mono ?_); rintro e w' ⟨rfl, ⟨nd, rfl⟩⟩; (try first | exact ⟨rfl, _, World.drewN_drewN _ _ _⟩ | exact ⟨rfl, _, Eq.trans (World.drewN_drewN _ _ _) (congrArg (World.drewN _) (Nat.add_assoc _ _ _))⟩)))
        repeat (go_quiet (first | ((with_reducible refine gate_dst (N := 1) rfl ?_); (try (refine gate_guard (by rfl) ?_; dsimp only)); refine box_event ?hg (N := 1) ?hd (cs := #[.int .i64 a0_0, .int .i64 a0_1, .string a0_2, .slice A0_3 l0_3.length c0_3]) (t := 69) ?hr ?_; (case hd => rfl); (case hg => rfl); (case hr => first | (go_simp; done) | (go_simp; rfl)); intro gb396 hg w6 hbox hb; have n0_ := Aside0.mk (below_step (by repeat (first | (with_reducible first | exact HB.out | apply below_alloc | apply pw_below_drewN | apply below_drew1) | exact HB.out)) hb); have n1_ := Aside0.mk (hbox); have n2_ := Aside0.mk ((by rw [hg]; exact (below_size (by repeat (first | (with_reducible first | exact HB.out | apply below_alloc | apply pw_below_drewN | apply below_drew1) | exact HB.out))) : w.heap.size ≤ gb396)); have n3_ := Aside0.mk ((by rw [hg]; exact (below_size (by repeat (first | (with_reducible first | exact HB.out | apply below_alloc | apply pw_below_drewN | apply below_drew1) | exact HB.out))) : w.heap.size ≤ gb396)); clear HB; have HB := n0_; have BK396 := n1_; have GW396 := n2_; have GE396 := n3_; clear n0_ n1_ n2_ n3_; clear hb hbox hg; have hcz7_0 : w6.cell? ⟨gb396, 0, none⟩ = some (.int .i64 a0_0) := (blk_cell BK396.out 0).trans rfl; have hcz7_1 : w6.cell? ⟨gb396, 1, none⟩ = some (.int .i64 a0_1) := (blk_cell BK396.out 1).trans rfl; have hcz7_2 : w6.cell? ⟨gb396, 2, none⟩ = some (.string a0_2) := (blk_cell BK396.out 2).trans rfl; have hcz7_3 : w6.cell? ⟨gb396, 3, none⟩ = some (.slice A0_3 l0_3.length c0_3) := (blk_cell BK396.out 3).trans rfl; have hfz7_0 := blk_frozen BK396.out 0; have hfz7_1 := blk_frozen BK396.out 1; have hfz7_2 := blk_frozen BK396.out 2; have hfz7_3 := blk_frozen BK396.out 3) | (go_at_call 115; (with_reducible refine (impl_in.calls a0_1 0 1000000 true _ A2.out).mono ?_); rintro e w' ⟨rfl, ⟨nd, rfl⟩⟩; (try first | exact ⟨rfl, _, World.drewN_drewN _ _ _⟩ | exact ⟨rfl, _, Eq.trans (World.drewN_drewN _ _ _) (congrArg (World.drewN _) (Nat.add_assoc _ _ _))⟩))); try go_wp2_with (first | ((with_reducible refine gate_dst (N := 1) rfl ?_); (try (refine gate_guard (by rfl) ?_; dsimp only)); refine box_event ?hg (N := 1) ?hd (cs := #[.int .i64 a0_0, .int .i64 a0_1, .string a0_2, .slice A0_3 l0_3.length c0_3]) (t := 69) ?hr ?_; (case hd => rfl); (case hg => rfl); (case hr => first | (go_simp; done) | (go_simp; rfl)); intro gb396 hg w6 hbox hb; have n0_ := Aside0.mk (below_step (by repeat (first | (with_reducible first | exact HB.out | apply below_alloc | apply pw_below_drewN | apply below_drew1) | exact HB.out)) hb); have n1_ := Aside0.mk (hbox); have n2_ := Aside0.mk ((by rw [hg]; exact (below_size (by repeat (first | (with_reducible first | exact HB.out | apply below_alloc | apply pw_below_drewN | apply below_drew1) | exact HB.out))) : w.heap.size ≤ gb396)); have n3_ := Aside0.mk ((by rw [hg]; exact (below_size (by repeat (first | (with_reducible first | exact HB.out | apply below_alloc | apply pw_below_drewN | apply below_drew1) | exact HB.out))) : w.heap.size ≤ gb396)); clear HB; have HB := n0_; have BK396 := n1_; have GW396 := n2_; have GE396 := n3_; clear n0_ n1_ n2_ n3_; clear hb hbox hg; have hcz7_0 : w6.cell? ⟨gb396, 0, none⟩ = some (.int .i64 a0_0) := (blk_cell BK396.out 0).trans rfl; have hcz7_1 : w6.cell? ⟨gb396, 1, none⟩ = some (.int .i64 a0_1) := (blk_cell BK396.out 1).trans rfl; have hcz7_2 : w6.cell? ⟨gb396, 2, none⟩ = some (.string a0_2) := (blk_cell BK396.out 2).trans rfl; have hcz7_3 : w6.cell? ⟨gb396, 3, none⟩ = some (.slice A0_3 l0_3.length c0_3) := (blk_cell BK396.out 3).trans rfl; have hfz7_0 := blk_frozen BK396.out 0; have hfz7_1 := blk_frozen BK396.out 1; have hfz7_2 := blk_frozen BK396.out 2; have hfz7_3 := blk_frozen BK396.out 3) | (go_at_call 115; (with_reducible refine (impl_in.calls a0_1 0 1000000 true _ A2.out).mono ?_); rintro e w' ⟨rfl, ⟨nd, rfl⟩⟩; (try first | exact ⟨rfl, _, World.drewN_drewN _ _ _⟩ | exact ⟨rfl, _, Eq.trans (World.drewN_drewN _ _ _) (congrArg (World.drewN _) (Nat.add_assoc _ _ _))⟩))))
        go_ret
        exact ⟨by first | rfl | (simp [errW_none, errW_some] <;> rfl) | (simp [*, errW_none, errW_some] <;> rfl), by repeat (first | (with_reducible first | exact HB.out | apply below_alloc | apply pw_below_drewN | apply below_drew1 | refine below_set ?_ GE396.out) | exact HB.out)⟩
      · rw [if_neg c5] at H
        have c5b0 : (a0_2.toList == ([] : List UInt8)) = false := beq_eq_false_iff_ne.mpr c5
        have c5b1 : (a0_2.toList != ([] : List UInt8)) = true := bne_iff_ne.mpr c5
        obtain rfl := Option.some.inj H
        go_enter Try.func105, Try.ntmps105
        go_wp2_with (first | ((with_reducible refine gate_dst (N := 1) rfl ?_); (try (refine gate_guard (by rfl) ?_; dsimp only)); refine box_event ?hg (N := 1) ?hd (cs := #[.int .i64 a0_0, .int .i64 a0_1, .string a0_2, .slice A0_3 l0_3.length c0_3]) (t := 69) ?hr ?_; (case hd => rfl); (case hg => rfl); (case hr => first | (go_simp; done) | (go_simp; rfl)); intro gb396 hg w8 hbox hb; have n0_ := Aside0.mk (below_step (by repeat (first | (with_reducible first | exact HB.out | apply below_alloc | apply pw_below_drewN | apply below_drew1) | exact HB.out)) hb); have n1_ := Aside0.mk (hbox); have n2_ := Aside0.mk ((by rw [hg]; exact (below_size (by repeat (first | (with_reducible first | exact HB.out | apply below_alloc | apply pw_below_drewN | apply below_drew1) | exact HB.out))) : w.heap.size ≤ gb396)); have n3_ := Aside0.mk ((by rw [hg]; exact (below_size (by repeat (first | (with_reducible first | exact HB.out | apply below_alloc | apply pw_below_drewN | apply below_drew1) | exact HB.out))) : w.heap.size ≤ gb396)); clear HB; have HB := n0_; have BK396 := n1_; have GW396 := n2_; have GE396 := n3_; clear n0_ n1_ n2_ n3_; clear hb hbox hg; have hcz9_0 : w8.cell? ⟨gb396, 0, none⟩ = some (.int .i64 a0_0) := (blk_cell BK396.out 0).trans rfl; have hcz9_1 : w8.cell? ⟨gb396, 1, none⟩ = some (.int .i64 a0_1) := (blk_cell BK396.out 1).trans rfl; have hcz9_2 : w8.cell? ⟨gb396, 2, none⟩ = some (.string a0_2) := (blk_cell BK396.out 2).trans rfl; have hcz9_3 : w8.cell? ⟨gb396, 3, none⟩ = some (.slice A0_3 l0_3.length c0_3) := (blk_cell BK396.out 3).trans rfl; have hfz9_0 := blk_frozen BK396.out 0; have hfz9_1 := blk_frozen BK396.out 1; have hfz9_2 := blk_frozen BK396.out 2; have hfz9_3 := blk_frozen BK396.out 3) | (go_at_call 115; (with_reducible refine (impl_in.calls a0_1 0 1000000 true _ A2.out).mono ?_); rintro e w' ⟨rfl, ⟨nd, rfl⟩⟩; (try first | exact ⟨rfl, _, World.drewN_drewN _ _ _⟩ | exact ⟨rfl, _, Eq.trans (World.drewN_drewN _ _ _) (congrArg (World.drewN _) (Nat.add_assoc _ _ _))⟩)))
        repeat (go_quiet (first | ((with_reducible refine gate_dst (N := 1) rfl ?_); (try (refine gate_guard (by rfl) ?_; dsimp only)); refine box_event ?hg (N := 1) ?hd (cs := #[.int .i64 a0_0, .int .i64 a0_1, .string a0_2, .slice A0_3 l0_3.length c0_3]) (t := 69) ?hr ?_; (case hd => rfl); (case hg => rfl); (case hr => first | (go_simp; done) | (go_simp; rfl)); intro gb396 hg w8 hbox hb; have n0_ := Aside0.mk (below_step (by repeat (first | (with_reducible first | exact HB.out | apply below_alloc | apply pw_below_drewN | apply below_drew1) | exact HB.out)) hb); have n1_ := Aside0.mk (hbox); have n2_ := Aside0.mk ((by rw [hg]; exact (below_size (by repeat (first | (with_reducible first | exact HB.out | apply below_alloc | apply pw_below_drewN | apply below_drew1) | exact HB.out))) : w.heap.size ≤ gb396)); have n3_ := Aside0.mk ((by rw [hg]; exact (below_size (by repeat (first | (with_reducible first | exact HB.out | apply below_alloc | apply pw_below_drewN | apply below_drew1) | exact HB.out))) : w.heap.size ≤ gb396)); clear HB; have HB := n0_; have BK396 := n1_; have GW396 := n2_; have GE396 := n3_; clear n0_ n1_ n2_ n3_; clear hb hbox hg; have hcz9_0 : w8.cell? ⟨gb396, 0, none⟩ = some (.int .i64 a0_0) := (blk_cell BK396.out 0).trans rfl; have hcz9_1 : w8.cell? ⟨gb396, 1, none⟩ = some (.int .i64 a0_1) := (blk_cell BK396.out 1).trans rfl; have hcz9_2 : w8.cell? ⟨gb396, 2, none⟩ = some (.string a0_2) := (blk_cell BK396.out 2).trans rfl; have hcz9_3 : w8.cell? ⟨gb396, 3, none⟩ = some (.slice A0_3 l0_3.length c0_3) := (blk_cell BK396.out 3).trans rfl; have hfz9_0 := blk_frozen BK396.out 0; have hfz9_1 := blk_frozen BK396.out 1; have hfz9_2 := blk_frozen BK396.out 2; have hfz9_3 := blk_frozen BK396.out 3) | (go_at_call 115; (with_reducible refine (impl_in.calls a0_1 0 1000000 true _ A2.out).mono ?_); rintro e w' ⟨rfl, ⟨nd, rfl⟩⟩; (try first | exact ⟨rfl, _, World.drewN_drewN _ _ _⟩ | exact ⟨rfl, _, Eq.trans (World.drewN_drewN _ _ _) (congrArg (World.drewN _) (Nat.add_assoc _ _ _))⟩))); try go_wp2_with (first | ((with_reducible refine gate_dst (N := 1) rfl ?_); (try (refine gate_guard (by rfl) ?_; dsimp only)); refine box_event ?hg (N := 1) ?hd (cs := #[.int .i64 a0_0, .int .i64 a0_1, .string a0_2, .slice A0_3 l0_3.length c0_3]) (t := 69) ?hr ?_; (case hd => rfl); (case hg => rfl); (case hr => first | (go_simp; done) | (go_simp; rfl)); intro gb396 hg w8 hbox hb; have n0_ := Aside0.mk (below_step (by repeat (first | (with_reducible first | exact HB.out | apply below_alloc | apply pw_below_drewN | apply below_drew1) | exact HB.out)) hb); have n1_ := Aside0.mk (hbox); have n2_ := Aside0.mk ((by rw [hg]; exact (below_size (by repeat (first | (with_reducible first | exact HB.out | apply below_alloc | apply pw_below_drewN | apply below_drew1) | exact HB.out))) : w.heap.size ≤ gb396)); have n3_ := Aside0.mk ((by rw [hg]; exact (below_size (by repeat (first | (with_reducible first | exact HB.out | apply below_alloc | apply pw_below_drewN | apply below_drew1) | exact HB.out))) : w.heap.size ≤ gb396)); clear HB; have HB := n0_; have BK396 := n1_; have GW396 := n2_; have GE396 := n3_; clear n0_ n1_ n2_ n3_; clear hb hbox hg; have hcz9_0 : w8.cell? ⟨gb396, 0, none⟩ = some (.int .i64 a0_0) := (blk_cell BK396.out 0).trans rfl; have hcz9_1 : w8.cell? ⟨gb396, 1, none⟩ = some (.int .i64 a0_1) := (blk_cell BK396.out 1).trans rfl; have hcz9_2 : w8.cell? ⟨gb396, 2, none⟩ = some (.string a0_2) := (blk_cell BK396.out 2).trans rfl; have hcz9_3 : w8.cell? ⟨gb396, 3, none⟩ = some (.slice A0_3 l0_3.length c0_3) := (blk_cell BK396.out 3).trans rfl; have hfz9_0 := blk_frozen BK396.out 0; have hfz9_1 := blk_frozen BK396.out 1; have hfz9_2 := blk_frozen BK396.out 2; have hfz9_3 := blk_frozen BK396.out 3) | (go_at_call 115; (with_reducible refine (impl_in.calls a0_1 0 1000000 true _ A2.out).mono ?_); rintro e w' ⟨rfl, ⟨nd, rfl⟩⟩; (try first | exact ⟨rfl, _, World.drewN_drewN _ _ _⟩ | exact ⟨rfl, _, Eq.trans (World.drewN_drewN _ _ _) (congrArg (World.drewN _) (Nat.add_assoc _ _ _))⟩))))
        go_ret
        exact ⟨by first | rfl | (simp [errW_none, errW_some] <;> rfl) | (simp [*, errW_none, errW_some] <;> rfl), by repeat (first | (with_reducible first | exact HB.out | apply below_alloc | apply pw_below_drewN | apply below_drew1 | refine below_set ?_ GE396.out) | exact HB.out)⟩
    · rw [if_neg c4] at H
      have c4b0 : (a0_0 == 0) = false := beq_eq_false_iff_ne.mpr c4
      have c4b1 : (a0_0 != 0) = true := bne_iff_ne.mpr c4
      by_cases c10 : a0_0 = 1
      · rw [if_pos c10] at H
        have c10b0 : (a0_0 == 1) = true := beq_iff_eq.mpr c10
        have c10b1 : (a0_0 != 1) = false := bne_eq_false_iff_eq.mpr c10
        clear c10
        by_cases c11 : a0_1 > 0
        · rw [if_pos c11] at H
          have c11b0 : decide (0 < a0_1) = true := decide_eq_true c11
          clear c11
          replace H := Option.bind_eq_some_iff.mp H
          obtain ⟨t398, A120, H⟩ := H
          replace H : (if t398 = true then (some ((l0_3.length : Int) == 0)) else (some false)) = some r := H
          have A12 := Aside0.mk A120
          clear A120
          by_cases c13 : t398 = true
          · subst c13
            have H1 : (some ((l0_3.length : Int) == 0)) = some r := by rw [if_pos rfl] at H; exact H
            clear H
            have H := H1
            clear H1
            obtain rfl := Option.some.inj H
            go_enter Try.func105, Try.ntmps105
            go_wp2_with (first | ((with_reducible refine gate_dst (N := 1) rfl ?_); (try (refine gate_guard (by rfl) ?_; dsimp only)); refine box_event ?hg (N := 1) ?hd (cs := #[.int .i64 a0_0, .int .i64 a0_1, .string a0_2, .slice A0_3 l0_3.length c0_3]) (t := 69) ?hr ?_; (case hd => rfl); (case hg => rfl); (case hr => first | (go_simp; done) | (go_simp; rfl)); intro gb396 hg w14 hbox hb; have n0_ := Aside0.mk (below_step (by repeat (first | (with_reducible first | exact HB.out | apply below_alloc | apply pw_below_drewN | apply below_drew1) | exact HB.out)) hb); have n1_ := Aside0.mk (hbox); have n2_ := Aside0.mk ((by rw [hg]; exact (below_size (by repeat (first | (with_reducible first | exact HB.out | apply below_alloc | apply pw_below_drewN | apply below_drew1) | exact HB.out))) : w.heap.size ≤ gb396)); have n3_ := Aside0.mk ((by rw [hg]; exact (below_size (by repeat (first | (with_reducible first | exact HB.out | apply below_alloc | apply pw_below_drewN | apply below_drew1) | exact HB.out))) : w.heap.size ≤ gb396)); clear HB; have HB := n0_; have BK396 := n1_; have GW396 := n2_; have GE396 := n3_; clear n0_ n1_ n2_ n3_; clear hb hbox hg; have hcz15_0 : w14.cell? ⟨gb396, 0, none⟩ = some (.int .i64 a0_0) := (blk_cell BK396.out 0).trans rfl; have hcz15_1 : w14.cell? ⟨gb396, 1, none⟩ = some (.int .i64 a0_1) := (blk_cell BK396.out 1).trans rfl; have hcz15_2 : w14.cell? ⟨gb396, 2, none⟩ = some (.string a0_2) := (blk_cell BK396.out 2).trans rfl; have hcz15_3 : w14.cell? ⟨gb396, 3, none⟩ = some (.slice A0_3 l0_3.length c0_3) := (blk_cell BK396.out 3).trans rfl; have hfz15_0 := blk_frozen BK396.out 0; have hfz15_1 := blk_frozen BK396.out 1; have hfz15_2 := blk_frozen BK396.out 2; have hfz15_3 := blk_frozen BK396.out 3) | (go_at_call 115; (with_reducible refine (impl_in.calls a0_1 0 1000000 true _ A2.out).mono ?_); rintro e w' ⟨rfl, ⟨nd, rfl⟩⟩; (try first | exact ⟨rfl, _, World.drewN_drewN _ _ _⟩ | exact ⟨rfl, _, Eq.trans (World.drewN_drewN _ _ _) (congrArg (World.drewN _) (Nat.add_assoc _ _ _))⟩)) | (go_at_call 157; (with_reducible refine (impl_TreeBody.calls k a0_2 true _ A12.out).mono ?_); rintro e w' ⟨rfl, ⟨nd, rfl⟩⟩; (try first | exact ⟨rfl, _, World.drewN_drewN _ _ _⟩ | exact ⟨rfl, _, Eq.trans (World.drewN_drewN _ _ _) (congrArg (World.drewN _) (Nat.add_assoc _ _ _))⟩)))
            repeat (go_quiet (first | ((with_reducible refine gate_dst (N := 1) rfl ?_); (try (refine gate_guard (by rfl) ?_; dsimp only)); refine box_event ?hg (N := 1) ?hd (cs := #[.int .i64 a0_0, .int .i64 a0_1, .string a0_2, .slice A0_3 l0_3.length c0_3]) (t := 69) ?hr ?_; (case hd => rfl); (case hg => rfl); (case hr => first | (go_simp; done) | (go_simp; rfl)); intro gb396 hg w14 hbox hb; have n0_ := Aside0.mk (below_step (by repeat (first | (with_reducible first | exact HB.out | apply below_alloc | apply pw_below_drewN | apply below_drew1) | exact HB.out)) hb); have n1_ := Aside0.mk (hbox); have n2_ := Aside0.mk ((by rw [hg]; exact (below_size (by repeat (first | (with_reducible first | exact HB.out | apply below_alloc | apply pw_below_drewN | apply below_drew1) | exact HB.out))) : w.heap.size ≤ gb396)); have n3_ := Aside0.mk ((by rw [hg]; exact (below_size (by repeat (first | (with_reducible first | exact HB.out | apply below_alloc | apply pw_below_drewN | apply below_drew1) | exact HB.out))) : w.heap.size ≤ gb396)); clear HB; have HB := n0_; have BK396 := n1_; have GW396 := n2_; have GE396 := n3_; clear n0_ n1_ n2_ n3_; clear hb hbox hg; have hcz15_0 : w14.cell? ⟨gb396, 0, none⟩ = some (.int .i64 a0_0) := (blk_cell BK396.out 0).trans rfl; have hcz15_1 : w14.cell? ⟨gb396, 1, none⟩ = some (.int .i64 a0_1) := (blk_cell BK396.out 1).trans rfl; have hcz15_2 : w14.cell? ⟨gb396, 2, none⟩ = some (.string a0_2) := (blk_cell BK396.out 2).trans rfl; have hcz15_3 : w14.cell? ⟨gb396, 3, none⟩ = some (.slice A0_3 l0_3.length c0_3) := (blk_cell BK396.out 3).trans rfl; have hfz15_0 := blk_frozen BK396.out 0; have hfz15_1 := blk_frozen BK396.out 1; have hfz15_2 := blk_frozen BK396.out 2; have hfz15_3 := blk_frozen BK396.out 3) | (go_at_call 115; (with_reducible refine (impl_in.calls a0_1 0 1000000 true _ A2.out).mono ?_); rintro e w' ⟨rfl, ⟨nd, rfl⟩⟩; (try first | exact ⟨rfl, _, World.drewN_drewN _ _ _⟩ | exact ⟨rfl, _, Eq.trans (World.drewN_drewN _ _ _) (congrArg (World.drewN _) (Nat.add_assoc _ _ _))⟩)) | (go_at_call 157; (with_reducible refine (impl_TreeBody.calls k a0_2 true _ A12.out).mono ?_); rintro e w' ⟨rfl, ⟨nd, rfl⟩⟩; (try first | exact ⟨rfl, _, World.drewN_drewN _ _ _⟩ | exact ⟨rfl, _, Eq.trans (World.drewN_drewN _ _ _) (congrArg (World.drewN _) (Nat.add_assoc _ _ _))⟩))); try go_wp2_with (first | ((with_reducible refine gate_dst (N := 1) rfl ?_); (try (refine gate_guard (by rfl) ?_; dsimp only)); refine box_event ?hg (N := 1) ?hd (cs := #[.int .i64 a0_0, .int .i64 a0_1, .string a0_2, .slice A0_3 l0_3.length c0_3]) (t := 69) ?hr ?_; (case hd => rfl); (case hg => rfl); (case hr => first | (go_simp; done) | (go_simp; rfl)); intro gb396 hg w14 hbox hb; have n0_ := Aside0.mk (below_step (by repeat (first | (with_reducible first | exact HB.out | apply below_alloc | apply pw_below_drewN | apply below_drew1) | exact HB.out)) hb); have n1_ := Aside0.mk (hbox); have n2_ := Aside0.mk ((by rw [hg]; exact (below_size (by repeat (first | (with_reducible first | exact HB.out | apply below_alloc | apply pw_below_drewN | apply below_drew1) | exact HB.out))) : w.heap.size ≤ gb396)); have n3_ := Aside0.mk ((by rw [hg]; exact (below_size (by repeat (first | (with_reducible first | exact HB.out | apply below_alloc | apply pw_below_drewN | apply below_drew1) | exact HB.out))) : w.heap.size ≤ gb396)); clear HB; have HB := n0_; have BK396 := n1_; have GW396 := n2_; have GE396 := n3_; clear n0_ n1_ n2_ n3_; clear hb hbox hg; have hcz15_0 : w14.cell? ⟨gb396, 0, none⟩ = some (.int .i64 a0_0) := (blk_cell BK396.out 0).trans rfl; have hcz15_1 : w14.cell? ⟨gb396, 1, none⟩ = some (.int .i64 a0_1) := (blk_cell BK396.out 1).trans rfl; have hcz15_2 : w14.cell? ⟨gb396, 2, none⟩ = some (.string a0_2) := (blk_cell BK396.out 2).trans rfl; have hcz15_3 : w14.cell? ⟨gb396, 3, none⟩ = some (.slice A0_3 l0_3.length c0_3) := (blk_cell BK396.out 3).trans rfl; have hfz15_0 := blk_frozen BK396.out 0; have hfz15_1 := blk_frozen BK396.out 1; have hfz15_2 := blk_frozen BK396.out 2; have hfz15_3 := blk_frozen BK396.out 3) | (go_at_call 115; (with_reducible refine (impl_in.calls a0_1 0 1000000 true _ A2.out).mono ?_); rintro e w' ⟨rfl, ⟨nd, rfl⟩⟩; (try first | exact ⟨rfl, _, World.drewN_drewN _ _ _⟩ | exact ⟨rfl, _, Eq.trans (World.drewN_drewN _ _ _) (congrArg (World.drewN _) (Nat.add_assoc _ _ _))⟩)) | (go_at_call 157; (with_reducible refine (impl_TreeBody.calls k a0_2 true _ A12.out).mono ?_); rintro e w' ⟨rfl, ⟨nd, rfl⟩⟩; (try first | exact ⟨rfl, _, World.drewN_drewN _ _ _⟩ | exact ⟨rfl, _, Eq.trans (World.drewN_drewN _ _ _) (congrArg (World.drewN _) (Nat.add_assoc _ _ _))⟩))))
            go_ret
            exact ⟨by first | rfl | (simp [errW_none, errW_some] <;> rfl) | (simp [*, errW_none, errW_some] <;> rfl), by repeat (first | (with_reducible first | exact HB.out | apply below_alloc | apply pw_below_drewN | apply below_drew1 | refine below_set ?_ GE396.out) | exact HB.out)⟩
          · replace c13 := Bool.eq_false_iff.mpr c13
            subst c13
            have H1 : (some false) = some r := by rw [if_neg (show ¬ (false = true) by decide)] at H; exact H
            clear H
            have H := H1
            clear H1
            obtain rfl := Option.some.inj H
            go_enter Try.func105, Try.ntmps105
            go_wp2_with (first | ((with_reducible refine gate_dst (N := 1) rfl ?_); (try (refine gate_guard (by rfl) ?_; dsimp only)); refine box_event ?hg (N := 1) ?hd (cs := #[.int .i64 a0_0, .int .i64 a0_1, .string a0_2, .slice A0_3 l0_3.length c0_3]) (t := 69) ?hr ?_; (case hd => rfl); (case hg => rfl); (case hr => first | (go_simp; done) | (go_simp; rfl)); intro gb396 hg w16 hbox hb; have n0_ := Aside0.mk (below_step (by repeat (first | (with_reducible first | exact HB.out | apply below_alloc | apply pw_below_drewN | apply below_drew1) | exact HB.out)) hb); have n1_ := Aside0.mk (hbox); have n2_ := Aside0.mk ((by rw [hg]; exact (below_size (by repeat (first | (with_reducible first | exact HB.out | apply below_alloc | apply pw_below_drewN | apply below_drew1) | exact HB.out))) : w.heap.size ≤ gb396)); have n3_ := Aside0.mk ((by rw [hg]; exact (below_size (by repeat (first | (with_reducible first | exact HB.out | apply below_alloc | apply pw_below_drewN | apply below_drew1) | exact HB.out))) : w.heap.size ≤ gb396)); clear HB; have HB := n0_; have BK396 := n1_; have GW396 := n2_; have GE396 := n3_; clear n0_ n1_ n2_ n3_; clear hb hbox hg; have hcz17_0 : w16.cell? ⟨gb396, 0, none⟩ = some (.int .i64 a0_0) := (blk_cell BK396.out 0).trans rfl; have hcz17_1 : w16.cell? ⟨gb396, 1, none⟩ = some (.int .i64 a0_1) := (blk_cell BK396.out 1).trans rfl; have hcz17_2 : w16.cell? ⟨gb396, 2, none⟩ = some (.string a0_2) := (blk_cell BK396.out 2).trans rfl; have hcz17_3 : w16.cell? ⟨gb396, 3, none⟩ = some (.slice A0_3 l0_3.length c0_3) := (blk_cell BK396.out 3).trans rfl; have hfz17_0 := blk_frozen BK396.out 0; have hfz17_1 := blk_frozen BK396.out 1; have hfz17_2 := blk_frozen BK396.out 2; have hfz17_3 := blk_frozen BK396.out 3) | (go_at_call 115; (with_reducible refine (impl_in.calls a0_1 0 1000000 true _ A2.out).mono ?_); rintro e w' ⟨rfl, ⟨nd, rfl⟩⟩; (try first | exact ⟨rfl, _, World.drewN_drewN _ _ _⟩ | exact ⟨rfl, _, Eq.trans (World.drewN_drewN _ _ _) (congrArg (World.drewN _) (Nat.add_assoc _ _ _))⟩)) | (go_at_call 157; (with_reducible refine (impl_TreeBody.calls k a0_2 false _ A12.out).mono ?_); rintro e w' ⟨rfl, ⟨nd, rfl⟩⟩; (try first | exact ⟨rfl, _, World.drewN_drewN _ _ _⟩ | exact ⟨rfl, _, Eq.trans (World.drewN_drewN _ _ _) (congrArg (World.drewN _) (Nat.add_assoc _ _ _))⟩)))
            repeat (go_quiet (first | ((with_reducible refine gate_dst (N := 1) rfl ?_); (try (refine gate_guard (by rfl) ?_; dsimp only)); refine box_event ?hg (N := 1) ?hd (cs := #[.int .i64 a0_0, .int .i64 a0_1, .string a0_2, .slice A0_3 l0_3.length c0_3]) (t := 69) ?hr ?_; (case hd => rfl); (case hg => rfl); (case hr => first | (go_simp; done) | (go_simp; rfl)); intro gb396 hg w16 hbox hb; have n0_ := Aside0.mk (below_step (by repeat (first | (with_reducible first | exact HB.out | apply below_alloc | apply pw_below_drewN | apply below_drew1) | exact HB.out)) hb); have n1_ := Aside0.mk (hbox); have n2_ := Aside0.mk ((by rw [hg]; exact (below_size (by repeat (first | (with_reducible first | exact HB.out | apply below_alloc | apply pw_below_drewN | apply below_drew1) | exact HB.out))) : w.heap.size ≤ gb396)); have n3_ := Aside0.mk ((by rw [hg]; exact (below_size (by repeat (first | (with_reducible first | exact HB.out | apply below_alloc | apply pw_below_drewN | apply below_drew1) | exact HB.out))) : w.heap.size ≤ gb396)); clear HB; have HB := n0_; have BK396 := n1_; have GW396 := n2_; have GE396 := n3_; clear n0_ n1_ n2_ n3_; clear hb hbox hg; have hcz17_0 : w16.cell? ⟨gb396, 0, none⟩ = some (.int .i64 a0_0) := (blk_cell BK396.out 0).trans rfl; have hcz17_1 : w16.cell? ⟨gb396, 1, none⟩ = some (.int .i64 a0_1) := (blk_cell BK396.out 1).trans rfl; have hcz17_2 : w16.cell? ⟨gb396, 2, none⟩ = some (.string a0_2) := (blk_cell BK396.out 2).trans rfl; have hcz17_3 : w16.cell? ⟨gb396, 3, none⟩ = some (.slice A0_3 l0_3.length c0_3) := (blk_cell BK396.out 3).trans rfl; have hfz17_0 := blk_frozen BK396.out 0; have hfz17_1 := blk_frozen BK396.out 1; have hfz17_2 := blk_frozen BK396.out 2; have hfz17_3 := blk_frozen BK396.out 3) | (go_at_call 115; (with_reducible refine (impl_in.calls a0_1 0 1000000 true _ A2.out).mono ?_); rintro e w' ⟨rfl, ⟨nd, rfl⟩⟩; (try first | exact ⟨rfl, _, World.drewN_drewN _ _ _⟩ | exact ⟨rfl, _, Eq.trans (World.drewN_drewN _ _ _) (congrArg (World.drewN _) (Nat.add_assoc _ _ _))⟩)) | (go_at_call 157; (with_reducible refine (impl_TreeBody.calls k a0_2 false _ A12.out).mono ?_); rintro e w' ⟨rfl, ⟨nd, rfl⟩⟩; (try first | exact ⟨rfl, _, World.drewN_drewN _ _ _⟩ | exact ⟨rfl, _, Eq.trans (World.drewN_drewN _ _ _) (congrArg (World.drewN _) (Nat.add_assoc _ _ _))⟩))); try go_wp2_with (first | ((with_reducible refine gate_dst (N := 1) rfl ?_); (try (refine gate_guard (by rfl) ?_; dsimp only)); refine box_event ?hg (N := 1) ?hd (cs := #[.int .i64 a0_0, .int .i64 a0_1, .string a0_2, .slice A0_3 l0_3.length c0_3]) (t := 69) ?hr ?_; (case hd => rfl); (case hg => rfl); (case hr => first | (go_simp; done) | (go_simp; rfl)); intro gb396 hg w16 hbox hb; have n0_ := Aside0.mk (below_step (by repeat (first | (with_reducible first | exact HB.out | apply below_alloc | apply pw_below_drewN | apply below_drew1) | exact HB.out)) hb); have n1_ := Aside0.mk (hbox); have n2_ := Aside0.mk ((by rw [hg]; exact (below_size (by repeat (first | (with_reducible first | exact HB.out | apply below_alloc | apply pw_below_drewN | apply below_drew1) | exact HB.out))) : w.heap.size ≤ gb396)); have n3_ := Aside0.mk ((by rw [hg]; exact (below_size (by repeat (first | (with_reducible first | exact HB.out | apply below_alloc | apply pw_below_drewN | apply below_drew1) | exact HB.out))) : w.heap.size ≤ gb396)); clear HB; have HB := n0_; have BK396 := n1_; have GW396 := n2_; have GE396 := n3_; clear n0_ n1_ n2_ n3_; clear hb hbox hg; have hcz17_0 : w16.cell? ⟨gb396, 0, none⟩ = some (.int .i64 a0_0) := (blk_cell BK396.out 0).trans rfl; have hcz17_1 : w16.cell? ⟨gb396, 1, none⟩ = some (.int .i64 a0_1) := (blk_cell BK396.out 1).trans rfl; have hcz17_2 : w16.cell? ⟨gb396, 2, none⟩ = some (.string a0_2) := (blk_cell BK396.out 2).trans rfl; have hcz17_3 : w16.cell? ⟨gb396, 3, none⟩ = some (.slice A0_3 l0_3.length c0_3) := (blk_cell BK396.out 3).trans rfl; have hfz17_0 := blk_frozen BK396.out 0; have hfz17_1 := blk_frozen BK396.out 1; have hfz17_2 := blk_frozen BK396.out 2; have hfz17_3 := blk_frozen BK396.out 3) | (go_at_call 115; (with_reducible refine (impl_in.calls a0_1 0 1000000 true _ A2.out).mono ?_); rintro e w' ⟨rfl, ⟨nd, rfl⟩⟩; (try first | exact ⟨rfl, _, World.drewN_drewN _ _ _⟩ | exact ⟨rfl, _, Eq.trans (World.drewN_drewN _ _ _) (congrArg (World.drewN _) (Nat.add_assoc _ _ _))⟩)) | (go_at_call 157; (with_reducible refine (impl_TreeBody.calls k a0_2 false _ A12.out).mono ?_); rintro e w' ⟨rfl, ⟨nd, rfl⟩⟩; (try first | exact ⟨rfl, _, World.drewN_drewN _ _ _⟩ | exact ⟨rfl, _, Eq.trans (World.drewN_drewN _ _ _) (congrArg (World.drewN _) (Nat.add_assoc _ _ _))⟩))))
            go_ret
            exact ⟨by first | rfl | (simp [errW_none, errW_some] <;> rfl) | (simp [*, errW_none, errW_some] <;> rfl), by repeat (first | (with_reducible first | exact HB.out | apply below_alloc | apply pw_below_drewN | apply below_drew1 | refine below_set ?_ GE396.out) | exact HB.out)⟩
        · rw [if_neg c11] at H
          have c11b0 : decide (0 < a0_1) = false := decide_eq_false c11
          clear c11
          obtain rfl := Option.some.inj H
          go_enter Try.func105, Try.ntmps105
          go_wp2_with (first | ((with_reducible refine gate_dst (N := 1) rfl ?_); (try (refine gate_guard (by rfl) ?_; dsimp only)); refine box_event ?hg (N := 1) ?hd (cs := #[.int .i64 a0_0, .int .i64 a0_1, .string a0_2, .slice A0_3 l0_3.length c0_3]) (t := 69) ?hr ?_; (case hd => rfl); (case hg => rfl); (case hr => first | (go_simp; done) | (go_simp; rfl)); intro gb396 hg w18 hbox hb; have n0_ := Aside0.mk (below_step (by repeat (first | (with_reducible first | exact HB.out | apply below_alloc | apply pw_below_drewN | apply below_drew1) | exact HB.out)) hb); have n1_ := Aside0.mk (hbox); have n2_ := Aside0.mk ((by rw [hg]; exact (below_size (by repeat (first | (with_reducible first | exact HB.out | apply below_alloc | apply pw_below_drewN | apply below_drew1) | exact HB.out))) : w.heap.size ≤ gb396)); have n3_ := Aside0.mk ((by rw [hg]; exact (below_size (by repeat (first | (with_reducible first | exact HB.out | apply below_alloc | apply pw_below_drewN | apply below_drew1) | exact HB.out))) : w.heap.size ≤ gb396)); clear HB; have HB := n0_; have BK396 := n1_; have GW396 := n2_; have GE396 := n3_; clear n0_ n1_ n2_ n3_; clear hb hbox hg; have hcz19_0 : w18.cell? ⟨gb396, 0, none⟩ = some (.int .i64 a0_0) := (blk_cell BK396.out 0).trans rfl; have hcz19_1 : w18.cell? ⟨gb396, 1, none⟩ = some (.int .i64 a0_1) := (blk_cell BK396.out 1).trans rfl; have hcz19_2 : w18.cell? ⟨gb396, 2, none⟩ = some (.string a0_2) := (blk_cell BK396.out 2).trans rfl; have hcz19_3 : w18.cell? ⟨gb396, 3, none⟩ = some (.slice A0_3 l0_3.length c0_3) := (blk_cell BK396.out 3).trans rfl; have hfz19_0 := blk_frozen BK396.out 0; have hfz19_1 := blk_frozen BK396.out 1; have hfz19_2 := blk_frozen BK396.out 2; have hfz19_3 := blk_frozen BK396.out 3) | (go_at_call 115; (with_reducible refine (impl_in.calls a0_1 0 1000000 true _ A2.out).mono ?_); rintro e w' ⟨rfl, ⟨nd, rfl⟩⟩; (try first | exact ⟨rfl, _, World.drewN_drewN _ _ _⟩ | exact ⟨rfl, _, Eq.trans (World.drewN_drewN _ _ _) (congrArg (World.drewN _) (Nat.add_assoc _ _ _))⟩)))
          repeat (go_quiet (first | ((with_reducible refine gate_dst (N := 1) rfl ?_); (try (refine gate_guard (by rfl) ?_; dsimp only)); refine box_event ?hg (N := 1) ?hd (cs := #[.int .i64 a0_0, .int .i64 a0_1, .string a0_2, .slice A0_3 l0_3.length c0_3]) (t := 69) ?hr ?_; (case hd => rfl); (case hg => rfl); (case hr => first | (go_simp; done) | (go_simp; rfl)); intro gb396 hg w18 hbox hb; have n0_ := Aside0.mk (below_step (by repeat (first | (with_reducible first | exact HB.out | apply below_alloc | apply pw_below_drewN | apply below_drew1) | exact HB.out)) hb); have n1_ := Aside0.mk (hbox); have n2_ := Aside0.mk ((by rw [hg]; exact (below_size (by repeat (first | (with_reducible first | exact HB.out | apply below_alloc | apply pw_below_drewN | apply below_drew1) | exact HB.out))) : w.heap.size ≤ gb396)); have n3_ := Aside0.mk ((by rw [hg]; exact (below_size (by repeat (first | (with_reducible first | exact HB.out | apply below_alloc | apply pw_below_drewN | apply below_drew1) | exact HB.out))) : w.heap.size ≤ gb396)); clear HB; have HB := n0_; have BK396 := n1_; have GW396 := n2_; have GE396 := n3_; clear n0_ n1_ n2_ n3_; clear hb hbox hg; have hcz19_0 : w18.cell? ⟨gb396, 0, none⟩ = some (.int .i64 a0_0) := (blk_cell BK396.out 0).trans rfl; have hcz19_1 : w18.cell? ⟨gb396, 1, none⟩ = some (.int .i64 a0_1) := (blk_cell BK396.out 1).trans rfl; have hcz19_2 : w18.cell? ⟨gb396, 2, none⟩ = some (.string a0_2) := (blk_cell BK396.out 2).trans rfl; have hcz19_3 : w18.cell? ⟨gb396, 3, none⟩ = some (.slice A0_3 l0_3.length c0_3) := (blk_cell BK396.out 3).trans rfl; have hfz19_0 := blk_frozen BK396.out 0; have hfz19_1 := blk_frozen BK396.out 1; have hfz19_2 := blk_frozen BK396.out 2; have hfz19_3 := blk_frozen BK396.out 3) | (go_at_call 115; (with_reducible refine (impl_in.calls a0_1 0 1000000 true _ A2.out).mono ?_); rintro e w' ⟨rfl, ⟨nd, rfl⟩⟩; (try first | exact ⟨rfl, _, World.drewN_drewN _ _ _⟩ | exact ⟨rfl, _, Eq.trans (World.drewN_drewN _ _ _) (congrArg (World.drewN _) (Nat.add_assoc _ _ _))⟩))); try go_wp2_with (first | ((with_reducible refine gate_dst (N := 1) rfl ?_); (try (refine gate_guard (by rfl) ?_; dsimp only)); refine box_event ?hg (N := 1) ?hd (cs := #[.int .i64 a0_0, .int .i64 a0_1, .string a0_2, .slice A0_3 l0_3.length c0_3]) (t := 69) ?hr ?_; (case hd => rfl); (case hg => rfl); (case hr => first | (go_simp; done) | (go_simp; rfl)); intro gb396 hg w18 hbox hb; have n0_ := Aside0.mk (below_step (by repeat (first | (with_reducible first | exact HB.out | apply below_alloc | apply pw_below_drewN | apply below_drew1) | exact HB.out)) hb); have n1_ := Aside0.mk (hbox); have n2_ := Aside0.mk ((by rw [hg]; exact (below_size (by repeat (first | (with_reducible first | exact HB.out | apply below_alloc | apply pw_below_drewN | apply below_drew1) | exact HB.out))) : w.heap.size ≤ gb396)); have n3_ := Aside0.mk ((by rw [hg]; exact (below_size (by repeat (first | (with_reducible first | exact HB.out | apply below_alloc | apply pw_below_drewN | apply below_drew1) | exact HB.out))) : w.heap.size ≤ gb396)); clear HB; have HB := n0_; have BK396 := n1_; have GW396 := n2_; have GE396 := n3_; clear n0_ n1_ n2_ n3_; clear hb hbox hg; have hcz19_0 : w18.cell? ⟨gb396, 0, none⟩ = some (.int .i64 a0_0) := (blk_cell BK396.out 0).trans rfl; have hcz19_1 : w18.cell? ⟨gb396, 1, none⟩ = some (.int .i64 a0_1) := (blk_cell BK396.out 1).trans rfl; have hcz19_2 : w18.cell? ⟨gb396, 2, none⟩ = some (.string a0_2) := (blk_cell BK396.out 2).trans rfl; have hcz19_3 : w18.cell? ⟨gb396, 3, none⟩ = some (.slice A0_3 l0_3.length c0_3) := (blk_cell BK396.out 3).trans rfl; have hfz19_0 := blk_frozen BK396.out 0; have hfz19_1 := blk_frozen BK396.out 1; have hfz19_2 := blk_frozen BK396.out 2; have hfz19_3 := blk_frozen BK396.out 3) | (go_at_call 115; (with_reducible refine (impl_in.calls a0_1 0 1000000 true _ A2.out).mono ?_); rintro e w' ⟨rfl, ⟨nd, rfl⟩⟩; (try first | exact ⟨rfl, _, World.drewN_drewN _ _ _⟩ | exact ⟨rfl, _, Eq.trans (World.drewN_drewN _ _ _) (congrArg (World.drewN _) (Nat.add_assoc _ _ _))⟩))))
          go_ret
          exact ⟨by first | rfl | (simp [errW_none, errW_some] <;> rfl) | (simp [*, errW_none, errW_some] <;> rfl), by repeat (first | (with_reducible first | exact HB.out | apply below_alloc | apply pw_below_drewN | apply below_drew1 | refine below_set ?_ GE396.out) | exact HB.out)⟩
      · rw [if_neg c10] at H
        have c10b0 : (a0_0 == 1) = false := beq_eq_false_iff_ne.mpr c10
        have c10b1 : (a0_0 != 1) = true := bne_iff_ne.mpr c10
        by_cases c20 : a0_0 = 2
        · rw [if_pos c20] at H
          have c20b0 : (a0_0 == 2) = true := beq_iff_eq.mpr c20
          have c20b1 : (a0_0 != 2) = false := bne_eq_false_iff_eq.mpr c20
          clear c20
          have H' := Aside0.mk H
          clear H
          go_enter Try.func105, Try.ntmps105
          go_wp2_with (first | ((with_reducible refine gate_dst (N := 1) rfl ?_); (try (refine gate_guard (by rfl) ?_; dsimp only)); refine box_event ?hg (N := 1) ?hd (cs := #[.int .i64 a0_0, .int .i64 a0_1, .string a0_2, .slice A0_3 l0_3.length c0_3]) (t := 69) ?hr ?_; (case hd => rfl); (case hg => rfl); (case hr => first | (go_simp; done) | (go_simp; rfl)); intro gb396 hg w21 hbox hb; have n0_ := Aside0.mk (below_step (by repeat (first | (with_reducible first | exact HB.out | apply below_alloc | apply pw_below_drewN | apply below_drew1) | exact HB.out)) hb); have n1_ := Aside0.mk (hbox); have n2_ := Aside0.mk ((by rw [hg]; exact (below_size (by repeat (first | (with_reducible first | exact HB.out | apply below_alloc | apply pw_below_drewN | apply below_drew1) | exact HB.out))) : w.heap.size ≤ gb396)); have n3_ := Aside0.mk ((by rw [hg]; exact (below_size (by repeat (first | (with_reducible first | exact HB.out | apply below_alloc | apply pw_below_drewN | apply below_drew1) | exact HB.out))) : w.heap.size ≤ gb396)); clear HB; have HB := n0_; have BK396 := n1_; have GW396 := n2_; have GE396 := n3_; clear n0_ n1_ n2_ n3_; clear hb hbox hg; have hcz22_0 : w21.cell? ⟨gb396, 0, none⟩ = some (.int .i64 a0_0) := (blk_cell BK396.out 0).trans rfl; have hcz22_1 : w21.cell? ⟨gb396, 1, none⟩ = some (.int .i64 a0_1) := (blk_cell BK396.out 1).trans rfl; have hcz22_2 : w21.cell? ⟨gb396, 2, none⟩ = some (.string a0_2) := (blk_cell BK396.out 2).trans rfl; have hcz22_3 : w21.cell? ⟨gb396, 3, none⟩ = some (.slice A0_3 l0_3.length c0_3) := (blk_cell BK396.out 3).trans rfl; have hfz22_0 := blk_frozen BK396.out 0; have hfz22_1 := blk_frozen BK396.out 1; have hfz22_2 := blk_frozen BK396.out 2; have hfz22_3 := blk_frozen BK396.out 3) | (go_at_call 115; (with_reducible refine (impl_in.calls a0_1 0 1000000 true _ A2.out).mono ?_); rintro e w' ⟨rfl, ⟨nd, rfl⟩⟩; (try first | exact ⟨rfl, _, World.drewN_drewN _ _ _⟩ | exact ⟨rfl, _, Eq.trans (World.drewN_drewN _ _ _) (congrArg (World.drewN _) (Nat.add_assoc _ _ _))⟩)))
          repeat (go_quiet (first | ((with_reducible refine gate_dst (N := 1) rfl ?_); (try (refine gate_guard (by rfl) ?_; dsimp only)); refine box_event ?hg (N := 1) ?hd (cs := #[.int .i64 a0_0, .int .i64 a0_1, .string a0_2, .slice A0_3 l0_3.length c0_3]) (t := 69) ?hr ?_; (case hd => rfl); (case hg => rfl); (case hr => first | (go_simp; done) | (go_simp; rfl)); intro gb396 hg w21 hbox hb; have n0_ := Aside0.mk (below_step (by repeat (first | (with_reducible first | exact HB.out | apply below_alloc | apply pw_below_drewN | apply below_drew1) | exact HB.out)) hb); have n1_ := Aside0.mk (hbox); have n2_ := Aside0.mk ((by rw [hg]; exact (below_size (by repeat (first | (with_reducible first | exact HB.out | apply below_alloc | apply pw_below_drewN | apply below_drew1) | exact HB.out))) : w.heap.size ≤ gb396)); have n3_ := Aside0.mk ((by rw [hg]; exact (below_size (by repeat (first | (with_reducible first | exact HB.out | apply below_alloc | apply pw_below_drewN | apply below_drew1) | exact HB.out))) : w.heap.size ≤ gb396)); clear HB; have HB := n0_; have BK396 := n1_; have GW396 := n2_; have GE396 := n3_; clear n0_ n1_ n2_ n3_; clear hb hbox hg; have hcz22_0 : w21.cell? ⟨gb396, 0, none⟩ = some (.int .i64 a0_0) := (blk_cell BK396.out 0).trans rfl; have hcz22_1 : w21.cell? ⟨gb396, 1, none⟩ = some (.int .i64 a0_1) := (blk_cell BK396.out 1).trans rfl; have hcz22_2 : w21.cell? ⟨gb396, 2, none⟩ = some (.string a0_2) := (blk_cell BK396.out 2).trans rfl; have hcz22_3 : w21.cell? ⟨gb396, 3, none⟩ = some (.slice A0_3 l0_3.length c0_3) := (blk_cell BK396.out 3).trans rfl; have hfz22_0 := blk_frozen BK396.out 0; have hfz22_1 := blk_frozen BK396.out 1; have hfz22_2 := blk_frozen BK396.out 2; have hfz22_3 := blk_frozen BK396.out 3) | (go_at_call 115; (with_reducible refine (impl_in.calls a0_1 0 1000000 true _ A2.out).mono ?_); rintro e w' ⟨rfl, ⟨nd, rfl⟩⟩; (try first | exact ⟨rfl, _, World.drewN_drewN _ _ _⟩ | exact ⟨rfl, _, Eq.trans (World.drewN_drewN _ _ _) (congrArg (World.drewN _) (Nat.add_assoc _ _ _))⟩))); try go_wp2_with (first | ((with_reducible refine gate_dst (N := 1) rfl ?_); (try (refine gate_guard (by rfl) ?_; dsimp only)); refine box_event ?hg (N := 1) ?hd (cs := #[.int .i64 a0_0, .int .i64 a0_1, .string a0_2, .slice A0_3 l0_3.length c0_3]) (t := 69) ?hr ?_; (case hd => rfl); (case hg => rfl); (case hr => first | (go_simp; done) | (go_simp; rfl)); intro gb396 hg w21 hbox hb; have n0_ := Aside0.mk (below_step (by repeat (first | (with_reducible first | exact HB.out | apply below_alloc | apply pw_below_drewN | apply below_drew1) | exact HB.out)) hb); have n1_ := Aside0.mk (hbox); have n2_ := Aside0.mk ((by rw [hg]; exact (below_size (by repeat (first | (with_reducible first | exact HB.out | apply below_alloc | apply pw_below_drewN | apply below_drew1) | exact HB.out))) : w.heap.size ≤ gb396)); have n3_ := Aside0.mk ((by rw [hg]; exact (below_size (by repeat (first | (with_reducible first | exact HB.out | apply below_alloc | apply pw_below_drewN | apply below_drew1) | exact HB.out))) : w.heap.size ≤ gb396)); clear HB; have HB := n0_; have BK396 := n1_; have GW396 := n2_; have GE396 := n3_; clear n0_ n1_ n2_ n3_; clear hb hbox hg; have hcz22_0 : w21.cell? ⟨gb396, 0, none⟩ = some (.int .i64 a0_0) := (blk_cell BK396.out 0).trans rfl; have hcz22_1 : w21.cell? ⟨gb396, 1, none⟩ = some (.int .i64 a0_1) := (blk_cell BK396.out 1).trans rfl; have hcz22_2 : w21.cell? ⟨gb396, 2, none⟩ = some (.string a0_2) := (blk_cell BK396.out 2).trans rfl; have hcz22_3 : w21.cell? ⟨gb396, 3, none⟩ = some (.slice A0_3 l0_3.length c0_3) := (blk_cell BK396.out 3).trans rfl; have hfz22_0 := blk_frozen BK396.out 0; have hfz22_1 := blk_frozen BK396.out 1; have hfz22_2 := blk_frozen BK396.out 2; have hfz22_3 := blk_frozen BK396.out 3) | (go_at_call 115; (with_reducible refine (impl_in.calls a0_1 0 1000000 true _ A2.out).mono ?_); rintro e w' ⟨rfl, ⟨nd, rfl⟩⟩; (try first | exact ⟨rfl, _, World.drewN_drewN _ _ _⟩ | exact ⟨rfl, _, Eq.trans (World.drewN_drewN _ _ _) (congrArg (World.drewN _) (Nat.add_assoc _ _ _))⟩))))
          go_loopg [43] k (fun kq v43 w' => ∃ (x43_1 : Int), v43 = .int .i64 x43_1 ∧ Aside0 (impl_objOk.l0 kq l0_3 (l0_3.length : Int) x43_1 a0_0 a0_1 a0_2 l0_3 = some r) ∧ Aside0 (kq ≤ k) ∧ Aside0 (w'.heap[gb396]? = some (.cells #[.int .i64 a0_0, .int .i64 a0_1, .string a0_2, (.slice A0_3 l0_3.length c0_3)] 69 (0, 0))) ∧ Aside0 (Below w.heap.size w w'))
          case atStart => exact ⟨(0), (by first | rfl | (simp; done) | (simp [*]; done)), H', ⟨Nat.le_refl _⟩, ⟨by (with_reducible repeat (first | refine blk_drewN ?_ _ | refine blk_drew ?_ | refine blk_alloc ?_ _)); exact BK396.out⟩, ⟨by repeat (first | (with_reducible first | exact HB.out | apply below_alloc | apply pw_below_drewN | apply below_drew1 | refine below_set ?_ GE396.out) | exact HB.out)⟩⟩
          case round =>
            clear H'
            try clear c1
            try clear c2
            try clear p2
            try clear c3
            try clear c4
            try clear c4b0
            try clear c4b1
            try clear c5
            try clear c5b0
            try clear c5b1
            try clear c10
            try clear c10b0
            try clear c10b1
            try clear c11
            try clear c11b0
            try clear c13
            try clear c20
            try clear c20b0
            try clear c20b1
            try clear hcz15_0
            try clear hcz15_1
            try clear hcz15_2
            try clear hcz15_3
            try clear hcz17_0
            try clear hcz17_1
            try clear hcz17_2
            try clear hcz17_3
            try clear hcz19_0
            try clear hcz19_1
            try clear hcz19_2
            try clear hcz19_3
            try clear hcz22_0
            try clear hcz22_1
            try clear hcz22_2
            try clear hcz22_3
            try clear hcz7_0
            try clear hcz7_1
            try clear hcz7_2
            try clear hcz7_3
            try clear hcz9_0
            try clear hcz9_1
            try clear hcz9_2
            try clear hcz9_3
            try clear hfz15_0
            try clear hfz15_1
            try clear hfz15_2
            try clear hfz15_3
            try clear hfz17_0
            try clear hfz17_1
            try clear hfz17_2
            try clear hfz17_3
            try clear hfz19_0
            try clear hfz19_1
            try clear hfz19_2
            try clear hfz19_3
            try clear hfz22_0
            try clear hfz22_1
            try clear hfz22_2
            try clear hfz22_3
            try clear hfz7_0
            try clear hfz7_1
            try clear hfz7_2
            try clear hfz7_3
            try clear hfz9_0
            try clear hfz9_1
            try clear hfz9_2
            try clear hfz9_3
            obtain ⟨x43_1, rfl, HA, HK1, BK396, HB⟩ := hrel
            cases gk with
            | zero => exact absurd HA.out (by simp [impl_objOk.l0])
            | succ k1 =>
              have H := HA.out
              clear HA
              simp only [impl_objOk.l0] at H
              by_cases c23 : x43_1 < (l0_3.length : Int)
              · rw [if_pos c23] at H
                have c23b0 : decide (x43_1 < (l0_3.length : Int)) = true := decide_eq_true c23
                clear c23
                by_cases c24 : 0 ≤ x43_1
                · rw [if_pos c24] at H
                  have c24b0 : decide (0 ≤ x43_1) = true := decide_eq_true c24
                  clear c24
                  by_cases c25 : x43_1 < (l0_3.length : Int)
                  · rw [if_pos c25] at H
                    have c25b0 : decide (x43_1 < (l0_3.length : Int)) = true := decide_eq_true c25
                    clear c25
                    replace H := Option.bind_eq_some_iff.mp H
                    obtain ⟨t401, A260, H⟩ := H
                    replace H : (if t401 = true then (if x43_1 > 0 then (if 0 ≤ (wrap64 (x43_1 - 1)) then (if (wrap64 (x43_1 - 1)) < (l0_3.length : Int) then (if ((Op.bytesLess (((rd_T77 l0_3 (wrap64 (x43_1 - 1))).f0).toList) (((rd_T77 l0_3 x43_1).f0).toList)) = true) then ((impl_in.f ((rd_T77 l0_3 x43_1).f1) 1 31).bind fun t403 => (if t403 = true then (impl_objOk.l0 k1 l0_3 (l0_3.length : Int) (wrap64 (x43_1 + 1)) a0_0 a0_1 a0_2 l0_3) else (some false))) else (some false)) else (none)) else (none)) else ((impl_in.f ((rd_T77 l0_3 x43_1).f1) 1 31).bind fun t404 => (if t404 = true then (impl_objOk.l0 k1 l0_3 (l0_3.length : Int) (wrap64 (x43_1 + 1)) a0_0 a0_1 a0_2 l0_3) else (some false)))) else (some false)) = some r := H
                    have A26 := Aside0.mk A260
                    clear A260
                    by_cases c27 : t401 = true
                    · subst c27
                      have H1 : (if x43_1 > 0 then (if 0 ≤ (wrap64 (x43_1 - 1)) then (if (wrap64 (x43_1 - 1)) < (l0_3.length : Int) then (if ((Op.bytesLess (((rd_T77 l0_3 (wrap64 (x43_1 - 1))).f0).toList) (((rd_T77 l0_3 x43_1).f0).toList)) = true) then ((impl_in.f ((rd_T77 l0_3 x43_1).f1) 1 31).bind fun t403 => (if t403 = true then (impl_objOk.l0 k1 l0_3 (l0_3.length : Int) (wrap64 (x43_1 + 1)) a0_0 a0_1 a0_2 l0_3) else (some false))) else (some false)) else (none)) else (none)) else ((impl_in.f ((rd_T77 l0_3 x43_1).f1) 1 31).bind fun t404 => (if t404 = true then (impl_objOk.l0 k1 l0_3 (l0_3.length : Int) (wrap64 (x43_1 + 1)) a0_0 a0_1 a0_2 l0_3) else (some false)))) = some r := by rw [if_pos rfl] at H; exact H
                      clear H
                      have H := H1
                      clear H1
                      by_cases c28 : x43_1 > 0
                      · rw [if_pos c28] at H
                        have c28b0 : decide (0 < x43_1) = true := decide_eq_true c28
                        clear c28
                        obtain ⟨ji29, hji29⟩ : ∃ j_ : Int, (wrap64 (x43_1 - 1)) = j_ := ⟨_, rfl⟩
                        replace H : (if 0 ≤ (ji29) then (if (ji29) < (l0_3.length : Int) then (if ((Op.bytesLess (((rd_T77 l0_3 (ji29)).f0).toList) (((rd_T77 l0_3 x43_1).f0).toList)) = true) then ((impl_in.f ((rd_T77 l0_3 x43_1).f1) 1 31).bind fun t403 => (if t403 = true then (impl_objOk.l0 k1 l0_3 (l0_3.length : Int) (wrap64 (x43_1 + 1)) a0_0 a0_1 a0_2 l0_3) else (some false))) else (some false)) else (none)) else (none)) = some r := by first | (rw [hji29] at H; exact H) | (simp only [hji29] at H ⊢; exact H)
                        (try rw [hji29] at A26)
                        have hji29w : (IntKind.i64.wrap (x43_1 - 1)) = ji29 := (i64_w _).trans hji29
                        by_cases c30 : 0 ≤ (ji29)
                        · rw [if_pos c30] at H
                          have c30b0 : decide (0 ≤ (ji29)) = true := decide_eq_true c30
                          clear c30
                          by_cases c31 : (ji29) < (l0_3.length : Int)
                          · rw [if_pos c31] at H
                            have c31b0 : decide ((ji29) < (l0_3.length : Int)) = true := decide_eq_true c31
                            clear c31
                            by_cases c32 : ((Op.bytesLess (((rd_T77 l0_3 (ji29)).f0).toList) (((rd_T77 l0_3 x43_1).f0).toList)) = true)
                            · rw [if_pos c32] at H
                              have c32b0 : (Op.bytesLess (((rd_T77 l0_3 (ji29)).f0).toList) (((rd_T77 l0_3 x43_1).f0).toList)) = true := c32
                              clear c32
                              replace H := Option.bind_eq_some_iff.mp H
                              obtain ⟨t403, A330, H⟩ := H
                              replace H : (if t403 = true then (impl_objOk.l0 k1 l0_3 (l0_3.length : Int) (wrap64 (x43_1 + 1)) a0_0 a0_1 a0_2 l0_3) else (some false)) = some r := H
                              have A33 := Aside0.mk A330
                              clear A330
                              by_cases c34 : t403 = true
                              · subst c34
                                have H1 : (impl_objOk.l0 k1 l0_3 (l0_3.length : Int) (wrap64 (x43_1 + 1)) a0_0 a0_1 a0_2 l0_3) = some r := by rw [if_pos rfl] at H; exact H
                                clear H
                                have H := H1
                                clear H1
                                have H' := Aside0.mk H
                                clear H
                                have p399 : 0 ≤ (x43_1 : Int) := of_decide_eq_true (by first | (with_reducible assumption) | assumption)
                                have q399 : x43_1 < (l0_3.length : Int) := of_decide_eq_true (by first | (with_reducible assumption) | assumption)
                                obtain ⟨ad399, e399, hx399_0, hx399_1⟩ := at_T77 HR0_3.out x43_1 p399 q399
                                cases e399
                                replace hx399_0 := (HB.out.cell (World.block_lt_of_cell? w _ hx399_0)).trans hx399_0
                                replace hx399_1 := (HB.out.cell (World.block_lt_of_cell? w _ hx399_1)).trans hx399_1
                                replace p399 := eq_true p399
                                replace q399 := eq_true q399
                                go_wp2_with (first | ((with_reducible refine gate_dst (N := 4) rfl ?_); (try (refine gate_guard (by rfl) ?_; dsimp only)); refine box_event ?hg (N := 4) ?hd (cs := #[.string (⟨#[]⟩ : ByteArray), .int .i64 0]) (t := 77) ?hr ?_; (case hd => rfl); (case hg => rfl); (case hr => first | (go_simp; done) | (go_simp; rfl)); intro gb400 hg w35 hbox hb; have n0_ := Aside0.mk (blk_below (g := gb396) (o := .cells #[.int .i64 a0_0, .int .i64 a0_1, .string a0_2, .slice (some ad399) l0_3.length c0_3] 69 (0, 0)) (by (with_reducible repeat (first | refine blk_drewN ?_ _ | refine blk_drew ?_ | refine blk_alloc ?_ _)); exact BK396.out) hb); have n1_ := Aside0.mk (below_step (by repeat (first | (with_reducible first | exact HB.out | apply below_alloc | apply pw_below_drewN | apply below_drew1 | refine below_set ?_ GE396.out) | exact HB.out)) hb); have n2_ := Aside0.mk (hbox); have n3_ := Aside0.mk ((by rw [hg]; exact (below_size (by repeat (first | (with_reducible first | exact HB.out | apply below_alloc | apply pw_below_drewN | apply below_drew1 | refine below_set ?_ GE396.out) | exact HB.out))) : w.heap.size ≤ gb400)); have n4_ := Aside0.mk ((by rw [hg]; exact (below_size (by repeat (first | (with_reducible first | exact HB.out | apply below_alloc | apply pw_below_drewN | apply below_drew1 | refine below_set ?_ GE396.out) | exact HB.out))) : w.heap.size ≤ gb400)); have n5_ := Aside0.mk ((by rw [hg]; exact Nat.ne_of_lt (blk_lt (g := gb396) (o := .cells #[.int .i64 a0_0, .int .i64 a0_1, .string a0_2, .slice (some ad399) l0_3.length c0_3] 69 (0, 0)) (by (with_reducible repeat (first | refine blk_drewN ?_ _ | refine blk_drew ?_ | refine blk_alloc ?_ _)); exact BK396.out)) : gb396 ≠ gb400)); have n6_ := Aside0.mk ((by rw [hg]; exact Nat.ne_of_gt (blk_lt (g := gb396) (o := .cells #[.int .i64 a0_0, .int .i64 a0_1, .string a0_2, .slice (some ad399) l0_3.length c0_3] 69 (0, 0)) (by (with_reducible repeat (first | refine blk_drewN ?_ _ | refine blk_drew ?_ | refine blk_alloc ?_ _)); exact BK396.out)) : gb400 ≠ gb396)); clear BK396; clear HB; have BK396 := n0_; have HB := n1_; have BK400 := n2_; have GW400 := n3_; have GE400 := n4_; have NB396_400 := n5_; have NB400_396 := n6_; clear n0_ n1_ n2_ n3_ n4_ n5_ n6_; clear hb hbox hg; have hnb36 := NB400_396.out; have hnc36 := NB396_400.out; have hcz37_0 : w35.cell? ⟨gb400, 0, none⟩ = some (.string (⟨#[]⟩ : ByteArray)) := (blk_cell BK400.out 0).trans rfl; have hcz37_1 : w35.cell? ⟨gb400, 1, none⟩ = some (.int .i64 0) := (blk_cell BK400.out 1).trans rfl; have hfz37_0 := blk_frozen BK400.out 0; have hfz37_1 := blk_frozen BK400.out 1) | (go_at_call 158; (with_reducible refine (impl_TreeWord.calls k1 ((rd_T77 l0_3 x43_1).f0) true _ A26.out).mono ?_); rintro e w' ⟨rfl, ⟨nd, rfl⟩⟩; (try first | exact ⟨rfl, _, World.drewN_drewN _ _ _⟩ | exact ⟨rfl, _, Eq.trans (World.drewN_drewN _ _ _) (congrArg (World.drewN _) (Nat.add_assoc _ _ _))⟩); have hcz38_0 : w35.cell? ⟨gb396, 0, none⟩ = some (.int .i64 a0_0) := (blk_cell BK396.out 0).trans rfl; have hcz38_1 : w35.cell? ⟨gb396, 1, none⟩ = some (.int .i64 a0_1) := (blk_cell BK396.out 1).trans rfl; have hcz38_2 : w35.cell? ⟨gb396, 2, none⟩ = some (.string a0_2) := (blk_cell BK396.out 2).trans rfl; have hcz38_3 : w35.cell? ⟨gb396, 3, none⟩ = some (.slice (some ad399) l0_3.length c0_3) := (blk_cell BK396.out 3).trans rfl; have hfz38_0 := blk_frozen BK396.out 0; have hfz38_1 := blk_frozen BK396.out 1; have hfz38_2 := blk_frozen BK396.out 2; have hfz38_3 := blk_frozen BK396.out 3; have p402 : 0 ≤ ((ji29) : Int) := of_decide_eq_true (by first | (with_reducible assumption) | assumption); have q402 : (ji29) < (l0_3.length : Int) := of_decide_eq_true (by first | (with_reducible assumption) | assumption); obtain ⟨ad402, e402, hx402_0, hx402_1⟩ := at_T77 HR0_3.out (ji29) p402 q402; obtain rfl : ad399 = ad402 := (by injection e402); have hn402_0 : ad399.block ≠ gb400 := Nat.ne_of_lt (Nat.lt_of_lt_of_le (by have := World.block_lt_of_cell? _ _ hx402_0; first | rwa [add_block] at this | exact this) GW400.out); have hn402_1 : ad399.block ≠ gb400 := Nat.ne_of_lt (Nat.lt_of_lt_of_le (by have := World.block_lt_of_cell? _ _ hx402_0; first | rwa [add_block] at this | exact this) GW400.out); replace hx402_0 := (HB.out.cell (World.block_lt_of_cell? w _ hx402_0)).trans hx402_0; replace hx402_1 := (HB.out.cell (World.block_lt_of_cell? w _ hx402_1)).trans hx402_1; replace hx402_0 := (cell_far (p := ⟨gb400, 0, none⟩) (by first | (rw [add_block]; exact hn402_0) | (show (Addr.add _ _).block ≠ _; rw [add_block]; exact hn402_0) | exact hn402_0) (.string ((rd_T77 l0_3 x43_1).f0))).trans hx402_0; replace hx402_1 := (cell_far (p := ⟨gb400, 0, none⟩) (by first | (rw [add_block]; exact hn402_0) | (show (Addr.add _ _).block ≠ _; rw [add_block]; exact hn402_0) | exact hn402_0) (.string ((rd_T77 l0_3 x43_1).f0))).trans hx402_1; replace hx402_0 := (cell_far (p := ⟨gb400, 1, none⟩) (by first | (rw [add_block]; exact hn402_1) | (show (Addr.add _ _).block ≠ _; rw [add_block]; exact hn402_1) | exact hn402_1) (.int .i64 ((rd_T77 l0_3 x43_1).f1))).trans hx402_0; replace hx402_1 := (cell_far (p := ⟨gb400, 1, none⟩) (by first | (rw [add_block]; exact hn402_1) | (show (Addr.add _ _).block ≠ _; rw [add_block]; exact hn402_1) | exact hn402_1) (.int .i64 ((rd_T77 l0_3 x43_1).f1))).trans hx402_1; (try have hy402_0 := fun (n_ : Nat) => (show ((((w35.drewN n_).setCell ⟨gb400, 0, none⟩ (.string ((rd_T77 l0_3 x43_1).f0))).setCell ⟨gb400, 1, none⟩ (.int .i64 ((rd_T77 l0_3 x43_1).f1)))).cell? _ = some _ from hx402_0)); (try have hy402_1 := fun (n_ : Nat) => (show ((((w35.drewN n_).setCell ⟨gb400, 0, none⟩ (.string ((rd_T77 l0_3 x43_1).f0))).setCell ⟨gb400, 1, none⟩ (.int .i64 ((rd_T77 l0_3 x43_1).f1)))).cell? _ = some _ from hx402_1)); clear hn402_0; clear hn402_1; replace p402 := eq_true p402; replace q402 := eq_true q402) | (go_at_call 115; (with_reducible refine (impl_in.calls ((rd_T77 l0_3 x43_1).f1) 1 31 true _ A33.out).mono ?_); rintro e w' ⟨rfl, ⟨nd, rfl⟩⟩; (try first | exact ⟨rfl, _, World.drewN_drewN _ _ _⟩ | exact ⟨rfl, _, Eq.trans (World.drewN_drewN _ _ _) (congrArg (World.drewN _) (Nat.add_assoc _ _ _))⟩)))
                                repeat (go_quiet (first | ((with_reducible refine gate_dst (N := 4) rfl ?_); (try (refine gate_guard (by rfl) ?_; dsimp only)); refine box_event ?hg (N := 4) ?hd (cs := #[.string (⟨#[]⟩ : ByteArray), .int .i64 0]) (t := 77) ?hr ?_; (case hd => rfl); (case hg => rfl); (case hr => first | (go_simp; done) | (go_simp; rfl)); intro gb400 hg w35 hbox hb; have n0_ := Aside0.mk (blk_below (g := gb396) (o := .cells #[.int .i64 a0_0, .int .i64 a0_1, .string a0_2, .slice (some ad399) l0_3.length c0_3] 69 (0, 0)) (by (with_reducible repeat (first | refine blk_drewN ?_ _ | refine blk_drew ?_ | refine blk_alloc ?_ _)); exact BK396.out) hb); have n1_ := Aside0.mk (below_step (by repeat (first | (with_reducible first | exact HB.out | apply below_alloc | apply pw_below_drewN | apply below_drew1 | refine below_set ?_ GE396.out) | exact HB.out)) hb); have n2_ := Aside0.mk (hbox); have n3_ := Aside0.mk ((by rw [hg]; exact (below_size (by repeat (first | (with_reducible first | exact HB.out | apply below_alloc | apply pw_below_drewN | apply below_drew1 | refine below_set ?_ GE396.out) | exact HB.out))) : w.heap.size ≤ gb400)); have n4_ := Aside0.mk ((by rw [hg]; exact (below_size (by repeat (first | (with_reducible first | exact HB.out | apply below_alloc | apply pw_below_drewN | apply below_drew1 | refine below_set ?_ GE396.out) | exact HB.out))) : w.heap.size ≤ gb400)); have n5_ := Aside0.mk ((by rw [hg]; exact Nat.ne_of_lt (blk_lt (g := gb396) (o := .cells #[.int .i64 a0_0, .int .i64 a0_1, .string a0_2, .slice (some ad399) l0_3.length c0_3] 69 (0, 0)) (by (with_reducible repeat (first | refine blk_drewN ?_ _ | refine blk_drew ?_ | refine blk_alloc ?_ _)); exact BK396.out)) : gb396 ≠ gb400)); have n6_ := Aside0.mk ((by rw [hg]; exact Nat.ne_of_gt (blk_lt (g := gb396) (o := .cells #[.int .i64 a0_0, .int .i64 a0_1, .string a0_2, .slice (some ad399) l0_3.length c0_3] 69 (0, 0)) (by (with_reducible repeat (first | refine blk_drewN ?_ _ | refine blk_drew ?_ | refine blk_alloc ?_ _)); exact BK396.out)) : gb400 ≠ gb396)); clear BK396; clear HB; have BK396 := n0_; have HB := n1_; have BK400 := n2_; have GW400 := n3_; have GE400 := n4_; have NB396_400 := n5_; have NB400_396 := n6_; clear n0_ n1_ n2_ n3_ n4_ n5_ n6_; clear hb hbox hg; have hnb36 := NB400_396.out; have hnc36 := NB396_400.out; have hcz37_0 : w35.cell? ⟨gb400, 0, none⟩ = some (.string (⟨#[]⟩ : ByteArray)) := (blk_cell BK400.out 0).trans rfl; have hcz37_1 : w35.cell? ⟨gb400, 1, none⟩ = some (.int .i64 0) := (blk_cell BK400.out 1).trans rfl; have hfz37_0 := blk_frozen BK400.out 0; have hfz37_1 := blk_frozen BK400.out 1) | (go_at_call 158; (with_reducible refine (impl_TreeWord.calls k1 ((rd_T77 l0_3 x43_1).f0) true _ A26.out).mono ?_); rintro e w' ⟨rfl, ⟨nd, rfl⟩⟩; (try first | exact ⟨rfl, _, World.drewN_drewN _ _ _⟩ | exact ⟨rfl, _, Eq.trans (World.drewN_drewN _ _ _) (congrArg (World.drewN _) (Nat.add_assoc _ _ _))⟩); have hcz38_0 : w35.cell? ⟨gb396, 0, none⟩ = some (.int .i64 a0_0) := (blk_cell BK396.out 0).trans rfl; have hcz38_1 : w35.cell? ⟨gb396, 1, none⟩ = some (.int .i64 a0_1) := (blk_cell BK396.out 1).trans rfl; have hcz38_2 : w35.cell? ⟨gb396, 2, none⟩ = some (.string a0_2) := (blk_cell BK396.out 2).trans rfl; have hcz38_3 : w35.cell? ⟨gb396, 3, none⟩ = some (.slice (some ad399) l0_3.length c0_3) := (blk_cell BK396.out 3).trans rfl; have hfz38_0 := blk_frozen BK396.out 0; have hfz38_1 := blk_frozen BK396.out 1; have hfz38_2 := blk_frozen BK396.out 2; have hfz38_3 := blk_frozen BK396.out 3; have p402 : 0 ≤ ((ji29) : Int) := of_decide_eq_true (by first | (with_reducible assumption) | assumption); have q402 : (ji29) < (l0_3.length : Int) := of_decide_eq_true (by first | (with_reducible assumption) | assumption); obtain ⟨ad402, e402, hx402_0, hx402_1⟩ := at_T77 HR0_3.out (ji29) p402 q402; obtain rfl : ad399 = ad402 := (by injection e402); have hn402_0 : ad399.block ≠ gb400 := Nat.ne_of_lt (Nat.lt_of_lt_of_le (by have := World.block_lt_of_cell? _ _ hx402_0; first | rwa [add_block] at this | exact this) GW400.out); have hn402_1 : ad399.block ≠ gb400 := Nat.ne_of_lt (Nat.lt_of_lt_of_le (by have := World.block_lt_of_cell? _ _ hx402_0; first | rwa [add_block] at this | exact this) GW400.out); replace hx402_0 := (HB.out.cell (World.block_lt_of_cell? w _ hx402_0)).trans hx402_0; replace hx402_1 := (HB.out.cell (World.block_lt_of_cell? w _ hx402_1)).trans hx402_1; replace hx402_0 := (cell_far (p := ⟨gb400, 0, none⟩) (by first | (rw [add_block]; exact hn402_0) | (show (Addr.add _ _).block ≠ _; rw [add_block]; exact hn402_0) | exact hn402_0) (.string ((rd_T77 l0_3 x43_1).f0))).trans hx402_0; replace hx402_1 := (cell_far (p := ⟨gb400, 0, none⟩) (by first | (rw [add_block]; exact hn402_0) | (show (Addr.add _ _).block ≠ _; rw [add_block]; exact hn402_0) | exact hn402_0) (.string ((rd_T77 l0_3 x43_1).f0))).trans hx402_1; replace hx402_0 := (cell_far (p := ⟨gb400, 1, none⟩) (by first | (rw [add_block]; exact hn402_1) | (show (Addr.add _ _).block ≠ _; rw [add_block]; exact hn402_1) | exact hn402_1) (.int .i64 ((rd_T77 l0_3 x43_1).f1))).trans hx402_0; replace hx402_1 := (cell_far (p := ⟨gb400, 1, none⟩) (by first | (rw [add_block]; exact hn402_1) | (show (Addr.add _ _).block ≠ _; rw [add_block]; exact hn402_1) | exact hn402_1) (.int .i64 ((rd_T77 l0_3 x43_1).f1))).trans hx402_1; (try have hy402_0 := fun (n_ : Nat) => (show ((((w35.drewN n_).setCell ⟨gb400, 0, none⟩ (.string ((rd_T77 l0_3 x43_1).f0))).setCell ⟨gb400, 1, none⟩ (.int .i64 ((rd_T77 l0_3 x43_1).f1)))).cell? _ = some _ from hx402_0)); (try have hy402_1 := fun (n_ : Nat) => (show ((((w35.drewN n_).setCell ⟨gb400, 0, none⟩ (.string ((rd_T77 l0_3 x43_1).f0))).setCell ⟨gb400, 1, none⟩ (.int .i64 ((rd_T77 l0_3 x43_1).f1)))).cell? _ = some _ from hx402_1)); clear hn402_0; clear hn402_1; replace p402 := eq_true p402; replace q402 := eq_true q402) | (go_at_call 115; (with_reducible refine (impl_in.calls ((rd_T77 l0_3 x43_1).f1) 1 31 true _ A33.out).mono ?_); rintro e w' ⟨rfl, ⟨nd, rfl⟩⟩; (try first | exact ⟨rfl, _, World.drewN_drewN _ _ _⟩ | exact ⟨rfl, _, Eq.trans (World.drewN_drewN _ _ _) (congrArg (World.drewN _) (Nat.add_assoc _ _ _))⟩))); try go_wp2_with (first | ((with_reducible refine gate_dst (N := 4) rfl ?_); (try (refine gate_guard (by rfl) ?_; dsimp only)); refine box_event ?hg (N := 4) ?hd (cs := #[.string (⟨#[]⟩ : ByteArray), .int .i64 0]) (t := 77) ?hr ?_; (case hd => rfl); (case hg => rfl); (case hr => first | (go_simp; done) | (go_simp; rfl)); intro gb400 hg w35 hbox hb; have n0_ := Aside0.mk (blk_below (g := gb396) (o := .cells #[.int .i64 a0_0, .int .i64 a0_1, .string a0_2, .slice (some ad399) l0_3.length c0_3] 69 (0, 0)) (by (with_reducible repeat (first | refine blk_drewN ?_ _ | refine blk_drew ?_ | refine blk_alloc ?_ _)); exact BK396.out) hb); have n1_ := Aside0.mk (below_step (by repeat (first | (with_reducible first | exact HB.out | apply below_alloc | apply pw_below_drewN | apply below_drew1 | refine below_set ?_ GE396.out) | exact HB.out)) hb); have n2_ := Aside0.mk (hbox); have n3_ := Aside0.mk ((by rw [hg]; exact (below_size (by repeat (first | (with_reducible first | exact HB.out | apply below_alloc | apply pw_below_drewN | apply below_drew1 | refine below_set ?_ GE396.out) | exact HB.out))) : w.heap.size ≤ gb400)); have n4_ := Aside0.mk ((by rw [hg]; exact (below_size (by repeat (first | (with_reducible first | exact HB.out | apply below_alloc | apply pw_below_drewN | apply below_drew1 | refine below_set ?_ GE396.out) | exact HB.out))) : w.heap.size ≤ gb400)); have n5_ := Aside0.mk ((by rw [hg]; exact Nat.ne_of_lt (blk_lt (g := gb396) (o := .cells #[.int .i64 a0_0, .int .i64 a0_1, .string a0_2, .slice (some ad399) l0_3.length c0_3] 69 (0, 0)) (by (with_reducible repeat (first | refine blk_drewN ?_ _ | refine blk_drew ?_ | refine blk_alloc ?_ _)); exact BK396.out)) : gb396 ≠ gb400)); have n6_ := Aside0.mk ((by rw [hg]; exact Nat.ne_of_gt (blk_lt (g := gb396) (o := .cells #[.int .i64 a0_0, .int .i64 a0_1, .string a0_2, .slice (some ad399) l0_3.length c0_3] 69 (0, 0)) (by (with_reducible repeat (first | refine blk_drewN ?_ _ | refine blk_drew ?_ | refine blk_alloc ?_ _)); exact BK396.out)) : gb400 ≠ gb396)); clear BK396; clear HB; have BK396 := n0_; have HB := n1_; have BK400 := n2_; have GW400 := n3_; have GE400 := n4_; have NB396_400 := n5_; have NB400_396 := n6_; clear n0_ n1_ n2_ n3_ n4_ n5_ n6_; clear hb hbox hg; have hnb36 := NB400_396.out; have hnc36 := NB396_400.out; have hcz37_0 : w35.cell? ⟨gb400, 0, none⟩ = some (.string (⟨#[]⟩ : ByteArray)) := (blk_cell BK400.out 0).trans rfl; have hcz37_1 : w35.cell? ⟨gb400, 1, none⟩ = some (.int .i64 0) := (blk_cell BK400.out 1).trans rfl; have hfz37_0 := blk_frozen BK400.out 0; have hfz37_1 := blk_frozen BK400.out 1) | (go_at_call 158; (with_reducible refine (impl_TreeWord.calls k1 ((rd_T77 l0_3 x43_1).f0) true _ A26.out).mono ?_); rintro e w' ⟨rfl, ⟨nd, rfl⟩⟩; (try first | exact ⟨rfl, _, World.drewN_drewN _ _ _⟩ | exact ⟨rfl, _, Eq.trans (World.drewN_drewN _ _ _) (congrArg (World.drewN _) (Nat.add_assoc _ _ _))⟩); have hcz38_0 : w35.cell? ⟨gb396, 0, none⟩ = some (.int .i64 a0_0) := (blk_cell BK396.out 0).trans rfl; have hcz38_1 : w35.cell? ⟨gb396, 1, none⟩ = some (.int .i64 a0_1) := (blk_cell BK396.out 1).trans rfl; have hcz38_2 : w35.cell? ⟨gb396, 2, none⟩ = some (.string a0_2) := (blk_cell BK396.out 2).trans rfl; have hcz38_3 : w35.cell? ⟨gb396, 3, none⟩ = some (.slice (some ad399) l0_3.length c0_3) := (blk_cell BK396.out 3).trans rfl; have hfz38_0 := blk_frozen BK396.out 0; have hfz38_1 := blk_frozen BK396.out 1; have hfz38_2 := blk_frozen BK396.out 2; have hfz38_3 := blk_frozen BK396.out 3; have p402 : 0 ≤ ((ji29) : Int) := of_decide_eq_true (by first | (with_reducible assumption) | assumption); have q402 : (ji29) < (l0_3.length : Int) := of_decide_eq_true (by first | (with_reducible assumption) | assumption); obtain ⟨ad402, e402, hx402_0, hx402_1⟩ := at_T77 HR0_3.out (ji29) p402 q402; obtain rfl : ad399 = ad402 := (by injection e402); have hn402_0 : ad399.block ≠ gb400 := Nat.ne_of_lt (Nat.lt_of_lt_of_le (by have := World.block_lt_of_cell? _ _ hx402_0; first | rwa [add_block] at this | exact this) GW400.out); have hn402_1 : ad399.block ≠ gb400 := Nat.ne_of_lt (Nat.lt_of_lt_of_le (by have := World.block_lt_of_cell? _ _ hx402_0; first | rwa [add_block] at this | exact this) GW400.out); replace hx402_0 := (HB.out.cell (World.block_lt_of_cell? w _ hx402_0)).trans hx402_0; replace hx402_1 := (HB.out.cell (World.block_lt_of_cell? w _ hx402_1)).trans hx402_1; replace hx402_0 := (cell_far (p := ⟨gb400, 0, none⟩) (by first | (rw [add_block]; exact hn402_0) | (show (Addr.add _ _).block ≠ _; rw [add_block]; exact hn402_0) | exact hn402_0) (.string ((rd_T77 l0_3 x43_1).f0))).trans hx402_0; replace hx402_1 := (cell_far (p := ⟨gb400, 0, none⟩) (by first | (rw [add_block]; exact hn402_0) | (show (Addr.add _ _).block ≠ _; rw [add_block]; exact hn402_0) | exact hn402_0) (.string ((rd_T77 l0_3 x43_1).f0))).trans hx402_1; replace hx402_0 := (cell_far (p := ⟨gb400, 1, none⟩) (by first | (rw [add_block]; exact hn402_1) | (show (Addr.add _ _).block ≠ _; rw [add_block]; exact hn402_1) | exact hn402_1) (.int .i64 ((rd_T77 l0_3 x43_1).f1))).trans hx402_0; replace hx402_1 := (cell_far (p := ⟨gb400, 1, none⟩) (by first | (rw [add_block]; exact hn402_1) | (show (Addr.add _ _).block ≠ _; rw [add_block]; exact hn402_1) | exact hn402_1) (.int .i64 ((rd_T77 l0_3 x43_1).f1))).trans hx402_1; (try have hy402_0 := fun (n_ : Nat) => (show ((((w35.drewN n_).setCell ⟨gb400, 0, none⟩ (.string ((rd_T77 l0_3 x43_1).f0))).setCell ⟨gb400, 1, none⟩ (.int .i64 ((rd_T77 l0_3 x43_1).f1)))).cell? _ = some _ from hx402_0)); (try have hy402_1 := fun (n_ : Nat) => (show ((((w35.drewN n_).setCell ⟨gb400, 0, none⟩ (.string ((rd_T77 l0_3 x43_1).f0))).setCell ⟨gb400, 1, none⟩ (.int .i64 ((rd_T77 l0_3 x43_1).f1)))).cell? _ = some _ from hx402_1)); clear hn402_0; clear hn402_1; replace p402 := eq_true p402; replace q402 := eq_true q402) | (go_at_call 115; (with_reducible refine (impl_in.calls ((rd_T77 l0_3 x43_1).f1) 1 31 true _ A33.out).mono ?_); rintro e w' ⟨rfl, ⟨nd, rfl⟩⟩; (try first | exact ⟨rfl, _, World.drewN_drewN _ _ _⟩ | exact ⟨rfl, _, Eq.trans (World.drewN_drewN _ _ _) (congrArg (World.drewN _) (Nat.add_assoc _ _ _))⟩))))
                                go_roundg k1
                                case measure => have := HK1.out; omega
                                case rel => exact ⟨(wrap64 (x43_1 + 1)), (by first | rfl | (simp; done) | (simp [*]; done)), H', ⟨by have := HK1.out; omega⟩, ⟨by (with_reducible repeat (first | refine blk_drewN ?_ _ | refine blk_drew ?_ | refine blk_alloc ?_ _)); refine blk_far ?_ NB396_400.out _; (with_reducible repeat (first | refine blk_drewN ?_ _ | refine blk_drew ?_ | refine blk_alloc ?_ _)); refine blk_far ?_ NB396_400.out _; (with_reducible repeat (first | refine blk_drewN ?_ _ | refine blk_drew ?_ | refine blk_alloc ?_ _)); exact BK396.out⟩, ⟨by repeat (first | (with_reducible first | exact HB.out | apply below_alloc | apply pw_below_drewN | apply below_drew1 | refine below_set ?_ GE396.out | refine below_set ?_ GE400.out) | exact HB.out)⟩⟩
                              · replace c34 := Bool.eq_false_iff.mpr c34
                                subst c34
                                have H1 : (some false) = some r := by rw [if_neg (show ¬ (false = true) by decide)] at H; exact H
                                clear H
                                have H := H1
                                clear H1
                                obtain rfl := Option.some.inj H
                                have p399 : 0 ≤ (x43_1 : Int) := of_decide_eq_true (by first | (with_reducible assumption) | assumption)
                                have q399 : x43_1 < (l0_3.length : Int) := of_decide_eq_true (by first | (with_reducible assumption) | assumption)
                                obtain ⟨ad399, e399, hx399_0, hx399_1⟩ := at_T77 HR0_3.out x43_1 p399 q399
                                cases e399
                                replace hx399_0 := (HB.out.cell (World.block_lt_of_cell? w _ hx399_0)).trans hx399_0
                                replace hx399_1 := (HB.out.cell (World.block_lt_of_cell? w _ hx399_1)).trans hx399_1
                                replace p399 := eq_true p399
                                replace q399 := eq_true q399
                                go_wp2_with (first | ((with_reducible refine gate_dst (N := 4) rfl ?_); (try (refine gate_guard (by rfl) ?_; dsimp only)); refine box_event ?hg (N := 4) ?hd (cs := #[.string (⟨#[]⟩ : ByteArray), .int .i64 0]) (t := 77) ?hr ?_; (case hd => rfl); (case hg => rfl); (case hr => first | (go_simp; done) | (go_simp; rfl)); intro gb400 hg w39 hbox hb; have n0_ := Aside0.mk (blk_below (g := gb396) (o := .cells #[.int .i64 a0_0, .int .i64 a0_1, .string a0_2, .slice (some ad399) l0_3.length c0_3] 69 (0, 0)) (by (with_reducible repeat (first | refine blk_drewN ?_ _ | refine blk_drew ?_ | refine blk_alloc ?_ _)); exact BK396.out) hb); have n1_ := Aside0.mk (below_step (by repeat (first | (with_reducible first | exact HB.out | apply below_alloc | apply pw_below_drewN | apply below_drew1 | refine below_set ?_ GE396.out) | exact HB.out)) hb); have n2_ := Aside0.mk (hbox); have n3_ := Aside0.mk ((by rw [hg]; exact (below_size (by repeat (first | (with_reducible first | exact HB.out | apply below_alloc | apply pw_below_drewN | apply below_drew1 | refine below_set ?_ GE396.out) | exact HB.out))) : w.heap.size ≤ gb400)); have n4_ := Aside0.mk ((by rw [hg]; exact (below_size (by repeat (first | (with_reducible first | exact HB.out | apply below_alloc | apply pw_below_drewN | apply below_drew1 | refine below_set ?_ GE396.out) | exact HB.out))) : w.heap.size ≤ gb400)); have n5_ := Aside0.mk ((by rw [hg]; exact Nat.ne_of_lt (blk_lt (g := gb396) (o := .cells #[.int .i64 a0_0, .int .i64 a0_1, .string a0_2, .slice (some ad399) l0_3.length c0_3] 69 (0, 0)) (by (with_reducible repeat (first | refine blk_drewN ?_ _ | refine blk_drew ?_ | refine blk_alloc ?_ _)); exact BK396.out)) : gb396 ≠ gb400)); have n6_ := Aside0.mk ((by rw [hg]; exact Nat.ne_of_gt (blk_lt (g := gb396) (o := .cells #[.int .i64 a0_0, .int .i64 a0_1, .string a0_2, .slice (some ad399) l0_3.length c0_3] 69 (0, 0)) (by (with_reducible repeat (first | refine blk_drewN ?_ _ | refine blk_drew ?_ | refine blk_alloc ?_ _)); exact BK396.out)) : gb400 ≠ gb396)); clear BK396; clear HB; have BK396 := n0_; have HB := n1_; have BK400 := n2_; have GW400 := n3_; have GE400 := n4_; have NB396_400 := n5_; have NB400_396 := n6_; clear n0_ n1_ n2_ n3_ n4_ n5_ n6_; clear hb hbox hg; have hnb40 := NB400_396.out; have hnc40 := NB396_400.out; have hcz41_0 : w39.cell? ⟨gb400, 0, none⟩ = some (.string (⟨#[]⟩ : ByteArray)) := (blk_cell BK400.out 0).trans rfl; have hcz41_1 : w39.cell? ⟨gb400, 1, none⟩ = some (.int .i64 0) := (blk_cell BK400.out 1).trans rfl; have hfz41_0 := blk_frozen BK400.out 0; have hfz41_1 := blk_frozen BK400.out 1) | (go_at_call 158; (with_reducible refine (impl_TreeWord.calls k1 ((rd_T77 l0_3 x43_1).f0) true _ A26.out).mono ?_); rintro e w' ⟨rfl, ⟨nd, rfl⟩⟩; (try first | exact ⟨rfl, _, World.drewN_drewN _ _ _⟩ | exact ⟨rfl, _, Eq.trans (World.drewN_drewN _ _ _) (congrArg (World.drewN _) (Nat.add_assoc _ _ _))⟩); have hcz42_0 : w39.cell? ⟨gb396, 0, none⟩ = some (.int .i64 a0_0) := (blk_cell BK396.out 0).trans rfl; have hcz42_1 : w39.cell? ⟨gb396, 1, none⟩ = some (.int .i64 a0_1) := (blk_cell BK396.out 1).trans rfl; have hcz42_2 : w39.cell? ⟨gb396, 2, none⟩ = some (.string a0_2) := (blk_cell BK396.out 2).trans rfl; have hcz42_3 : w39.cell? ⟨gb396, 3, none⟩ = some (.slice (some ad399) l0_3.length c0_3) := (blk_cell BK396.out 3).trans rfl; have hfz42_0 := blk_frozen BK396.out 0; have hfz42_1 := blk_frozen BK396.out 1; have hfz42_2 := blk_frozen BK396.out 2; have hfz42_3 := blk_frozen BK396.out 3; have p402 : 0 ≤ ((ji29) : Int) := of_decide_eq_true (by first | (with_reducible assumption) | assumption); have q402 : (ji29) < (l0_3.length : Int) := of_decide_eq_true (by first | (with_reducible assumption) | assumption); obtain ⟨ad402, e402, hx402_0, hx402_1⟩ := at_T77 HR0_3.out (ji29) p402 q402; obtain rfl : ad399 = ad402 := (by injection e402); have hn402_0 : ad399.block ≠ gb400 := Nat.ne_of_lt (Nat.lt_of_lt_of_le (by have := World.block_lt_of_cell? _ _ hx402_0; first | rwa [add_block] at this | exact this) GW400.out); have hn402_1 : ad399.block ≠ gb400 := Nat.ne_of_lt (Nat.lt_of_lt_of_le (by have := World.block_lt_of_cell? _ _ hx402_0; first | rwa [add_block] at this | exact this) GW400.out); replace hx402_0 := (HB.out.cell (World.block_lt_of_cell? w _ hx402_0)).trans hx402_0; replace hx402_1 := (HB.out.cell (World.block_lt_of_cell? w _ hx402_1)).trans hx402_1; replace hx402_0 := (cell_far (p := ⟨gb400, 0, none⟩) (by first | (rw [add_block]; exact hn402_0) | (show (Addr.add _ _).block ≠ _; rw [add_block]; exact hn402_0) | exact hn402_0) (.string ((rd_T77 l0_3 x43_1).f0))).trans hx402_0; replace hx402_1 := (cell_far (p := ⟨gb400, 0, none⟩) (by first | (rw [add_block]; exact hn402_0) | (show (Addr.add _ _).block ≠ _; rw [add_block]; exact hn402_0) | exact hn402_0) (.string ((rd_T77 l0_3 x43_1).f0))).trans hx402_1; replace hx402_0 := (cell_far (p := ⟨gb400, 1, none⟩) (by first | (rw [add_block]; exact hn402_1) | (show (Addr.add _ _).block ≠ _; rw [add_block]; exact hn402_1) | exact hn402_1) (.int .i64 ((rd_T77 l0_3 x43_1).f1))).trans hx402_0; replace hx402_1 := (cell_far (p := ⟨gb400, 1, none⟩) (by first | (rw [add_block]; exact hn402_1) | (show (Addr.add _ _).block ≠ _; rw [add_block]; exact hn402_1) | exact hn402_1) (.int .i64 ((rd_T77 l0_3 x43_1).f1))).trans hx402_1; (try have hy402_0 := fun (n_ : Nat) => (show ((((w39.drewN n_).setCell ⟨gb400, 0, none⟩ (.string ((rd_T77 l0_3 x43_1).f0))).setCell ⟨gb400, 1, none⟩ (.int .i64 ((rd_T77 l0_3 x43_1).f1)))).cell? _ = some _ from hx402_0)); (try have hy402_1 := fun (n_ : Nat) => (show ((((w39.drewN n_).setCell ⟨gb400, 0, none⟩ (.string ((rd_T77 l0_3 x43_1).f0))).setCell ⟨gb400, 1, none⟩ (.int .i64 ((rd_T77 l0_3 x43_1).f1)))).cell? _ = some _ from hx402_1)); clear hn402_0; clear hn402_1; replace p402 := eq_true p402; replace q402 := eq_true q402) | (go_at_call 115; (with_reducible refine (impl_in.calls ((rd_T77 l0_3 x43_1).f1) 1 31 false _ A33.out).mono ?_); rintro e w' ⟨rfl, ⟨nd, rfl⟩⟩; (try first | exact ⟨rfl, _, World.drewN_drewN _ _ _⟩ | exact ⟨rfl, _, Eq.trans (World.drewN_drewN _ _ _) (congrArg (World.drewN _) (Nat.add_assoc _ _ _))⟩)))
                                repeat (go_quiet (first | ((with_reducible refine gate_dst (N := 4) rfl ?_); (try (refine gate_guard (by rfl) ?_; dsimp only)); refine box_event ?hg (N := 4) ?hd (cs := #[.string (⟨#[]⟩ : ByteArray), .int .i64 0]) (t := 77) ?hr ?_; (case hd => rfl); (case hg => rfl); (case hr => first | (go_simp; done) | (go_simp; rfl)); intro gb400 hg w39 hbox hb; have n0_ := Aside0.mk (blk_below (g := gb396) (o := .cells #[.int .i64 a0_0, .int .i64 a0_1, .string a0_2, .slice (some ad399) l0_3.length c0_3] 69 (0, 0)) (by (with_reducible repeat (first | refine blk_drewN ?_ _ | refine blk_drew ?_ | refine blk_alloc ?_ _)); exact BK396.out) hb); have n1_ := Aside0.mk (below_step (by repeat (first | (with_reducible first | exact HB.out | apply below_alloc | apply pw_below_drewN | apply below_drew1 | refine below_set ?_ GE396.out) | exact HB.out)) hb); have n2_ := Aside0.mk (hbox); have n3_ := Aside0.mk ((by rw [hg]; exact (below_size (by repeat (first | (with_reducible first | exact HB.out | apply below_alloc | apply pw_below_drewN | apply below_drew1 | refine below_set ?_ GE396.out) | exact HB.out))) : w.heap.size ≤ gb400)); have n4_ := Aside0.mk ((by rw [hg]; exact (below_size (by repeat (first | (with_reducible first | exact HB.out | apply below_alloc | apply pw_below_drewN | apply below_drew1 | refine below_set ?_ GE396.out) | exact HB.out))) : w.heap.size ≤ gb400)); have n5_ := Aside0.mk ((by rw [hg]; exact Nat.ne_of_lt (blk_lt (g := gb396) (o := .cells #[.int .i64 a0_0, .int .i64 a0_1, .string a0_2, .slice (some ad399) l0_3.length c0_3] 69 (0, 0)) (by (with_reducible repeat (first | refine blk_drewN ?_ _ | refine blk_drew ?_ | refine blk_alloc ?_ _)); exact BK396.out)) : gb396 ≠ gb400)); have n6_ := Aside0.mk ((by rw [hg]; exact Nat.ne_of_gt (blk_lt (g := gb396) (o := .cells #[.int .i64 a0_0, .int .i64 a0_1, .string a0_2, .slice (some ad399) l0_3.length c0_3] 69 (0, 0)) (by (with_reducible repeat (first | refine blk_drewN ?_ _ | refine blk_drew ?_ | refine blk_alloc ?_ _)); exact BK396.out)) : gb400 ≠ gb396)); clear BK396; clear HB; have BK396 := n0_; have HB := n1_; have BK400 := n2_; have GW400 := n3_; have GE400 := n4_; have NB396_400 := n5_; have NB400_396 := n6_; clear n0_ n1_ n2_ n3_ n4_ n5_ n6_; clear hb hbox hg; have hnb40 := NB400_396.out; have hnc40 := NB396_400.out; have hcz41_0 : w39.cell? ⟨gb400, 0, none⟩ = some (.string (⟨#[]⟩ : ByteArray)) := (blk_cell BK400.out 0).trans rfl; have hcz41_1 : w39.cell? ⟨gb400, 1, none⟩ = some (.int .i64 0) := (blk_cell BK400.out 1).trans rfl; have hfz41_0 := blk_frozen BK400.out 0; have hfz41_1 := blk_frozen BK400.out 1) | (go_at_call 158; (with_reducible refine (impl_TreeWord.calls k1 ((rd_T77 l0_3 x43_1).f0) true _ A26.out).mono ?_); rintro e w' ⟨rfl, ⟨nd, rfl⟩⟩; (try first | exact ⟨rfl, _, World.drewN_drewN _ _ _⟩ | exact ⟨rfl, _, Eq.trans (World.drewN_drewN _ _ _) (congrArg (World.drewN _) (Nat.add_assoc _ _ _))⟩); have hcz42_0 : w39.cell? ⟨gb396, 0, none⟩ = some (.int .i64 a0_0) := (blk_cell BK396.out 0).trans rfl; have hcz42_1 : w39.cell? ⟨gb396, 1, none⟩ = some (.int .i64 a0_1) := (blk_cell BK396.out 1).trans rfl; have hcz42_2 : w39.cell? ⟨gb396, 2, none⟩ = some (.string a0_2) := (blk_cell BK396.out 2).trans rfl; have hcz42_3 : w39.cell? ⟨gb396, 3, none⟩ = some (.slice (some ad399) l0_3.length c0_3) := (blk_cell BK396.out 3).trans rfl; have hfz42_0 := blk_frozen BK396.out 0; have hfz42_1 := blk_frozen BK396.out 1; have hfz42_2 := blk_frozen BK396.out 2; have hfz42_3 := blk_frozen BK396.out 3; have p402 : 0 ≤ ((ji29) : Int) := of_decide_eq_true (by first | (with_reducible assumption) | assumption); have q402 : (ji29) < (l0_3.length : Int) := of_decide_eq_true (by first | (with_reducible assumption) | assumption); obtain ⟨ad402, e402, hx402_0, hx402_1⟩ := at_T77 HR0_3.out (ji29) p402 q402; obtain rfl : ad399 = ad402 := (by injection e402); have hn402_0 : ad399.block ≠ gb400 := Nat.ne_of_lt (Nat.lt_of_lt_of_le (by have := World.block_lt_of_cell? _ _ hx402_0; first | rwa [add_block] at this | exact this) GW400.out); have hn402_1 : ad399.block ≠ gb400 := Nat.ne_of_lt (Nat.lt_of_lt_of_le (by have := World.block_lt_of_cell? _ _ hx402_0; first | rwa [add_block] at this | exact this) GW400.out); replace hx402_0 := (HB.out.cell (World.block_lt_of_cell? w _ hx402_0)).trans hx402_0; replace hx402_1 := (HB.out.cell (World.block_lt_of_cell? w _ hx402_1)).trans hx402_1; replace hx402_0 := (cell_far (p := ⟨gb400, 0, none⟩) (by first | (rw [add_block]; exact hn402_0) | (show (Addr.add _ _).block ≠ _; rw [add_block]; exact hn402_0) | exact hn402_0) (.string ((rd_T77 l0_3 x43_1).f0))).trans hx402_0; replace hx402_1 := (cell_far (p := ⟨gb400, 0, none⟩) (by first | (rw [add_block]; exact hn402_0) | (show (Addr.add _ _).block ≠ _; rw [add_block]; exact hn402_0) | exact hn402_0) (.string ((rd_T77 l0_3 x43_1).f0))).trans hx402_1; replace hx402_0 := (cell_far (p := ⟨gb400, 1, none⟩) (by first | (rw [add_block]; exact hn402_1) | (show (Addr.add _ _).block ≠ _; rw [add_block]; exact hn402_1) | exact hn402_1) (.int .i64 ((rd_T77 l0_3 x43_1).f1))).trans hx402_0; replace hx402_1 := (cell_far (p := ⟨gb400, 1, none⟩) (by first | (rw [add_block]; exact hn402_1) | (show (Addr.add _ _).block ≠ _; rw [add_block]; exact hn402_1) | exact hn402_1) (.int .i64 ((rd_T77 l0_3 x43_1).f1))).trans hx402_1; (try have hy402_0 := fun (n_ : Nat) => (show ((((w39.drewN n_).setCell ⟨gb400, 0, none⟩ (.string ((rd_T77 l0_3 x43_1).f0))).setCell ⟨gb400, 1, none⟩ (.int .i64 ((rd_T77 l0_3 x43_1).f1)))).cell? _ = some _ from hx402_0)); (try have hy402_1 := fun (n_ : Nat) => (show ((((w39.drewN n_).setCell ⟨gb400, 0, none⟩ (.string ((rd_T77 l0_3 x43_1).f0))).setCell ⟨gb400, 1, none⟩ (.int .i64 ((rd_T77 l0_3 x43_1).f1)))).cell? _ = some _ from hx402_1)); clear hn402_0; clear hn402_1; replace p402 := eq_true p402; replace q402 := eq_true q402) | (go_at_call 115; (with_reducible refine (impl_in.calls ((rd_T77 l0_3 x43_1).f1) 1 31 false _ A33.out).mono ?_); rintro e w' ⟨rfl, ⟨nd, rfl⟩⟩; (try first | exact ⟨rfl, _, World.drewN_drewN _ _ _⟩ | exact ⟨rfl, _, Eq.trans (World.drewN_drewN _ _ _) (congrArg (World.drewN _) (Nat.add_assoc _ _ _))⟩))); try go_wp2_with (first | ((with_reducible refine gate_dst (N := 4) rfl ?_); (try (refine gate_guard (by rfl) ?_; dsimp only)); refine box_event ?hg (N := 4) ?hd (cs := #[.string (⟨#[]⟩ : ByteArray), .int .i64 0]) (t := 77) ?hr ?_; (case hd => rfl); (case hg => rfl); (case hr => first | (go_simp; done) | (go_simp; rfl)); intro gb400 hg w39 hbox hb; have n0_ := Aside0.mk (blk_below (g := gb396) (o := .cells #[.int .i64 a0_0, .int .i64 a0_1, .string a0_2, .slice (some ad399) l0_3.length c0_3] 69 (0, 0)) (by (with_reducible repeat (first | refine blk_drewN ?_ _ | refine blk_drew ?_ | refine blk_alloc ?_ _)); exact BK396.out) hb); have n1_ := Aside0.mk (below_step (by repeat (first | (with_reducible first | exact HB.out | apply below_alloc | apply pw_below_drewN | apply below_drew1 | refine below_set ?_ GE396.out) | exact HB.out)) hb); have n2_ := Aside0.mk (hbox); have n3_ := Aside0.mk ((by rw [hg]; exact (below_size (by repeat (first | (with_reducible first | exact HB.out | apply below_alloc | apply pw_below_drewN | apply below_drew1 | refine below_set ?_ GE396.out) | exact HB.out))) : w.heap.size ≤ gb400)); have n4_ := Aside0.mk ((by rw [hg]; exact (below_size (by repeat (first | (with_reducible first | exact HB.out | apply below_alloc | apply pw_below_drewN | apply below_drew1 | refine below_set ?_ GE396.out) | exact HB.out))) : w.heap.size ≤ gb400)); have n5_ := Aside0.mk ((by rw [hg]; exact Nat.ne_of_lt (blk_lt (g := gb396) (o := .cells #[.int .i64 a0_0, .int .i64 a0_1, .string a0_2, .slice (some ad399) l0_3.length c0_3] 69 (0, 0)) (by (with_reducible repeat (first | refine blk_drewN ?_ _ | refine blk_drew ?_ | refine blk_alloc ?_ _)); exact BK396.out)) : gb396 ≠ gb400)); have n6_ := Aside0.mk ((by rw [hg]; exact Nat.ne_of_gt (blk_lt (g := gb396) (o := .cells #[.int .i64 a0_0, .int .i64 a0_1, .string a0_2, .slice (some ad399) l0_3.length c0_3] 69 (0, 0)) (by (with_reducible repeat (first | refine blk_drewN ?_ _ | refine blk_drew ?_ | refine blk_alloc ?_ _)); exact BK396.out)) : gb400 ≠ gb396)); clear BK396; clear HB; have BK396 := n0_; have HB := n1_; have BK400 := n2_; have GW400 := n3_; have GE400 := n4_; have NB396_400 := n5_; have NB400_396 := n6_; clear n0_ n1_ n2_ n3_ n4_ n5_ n6_; clear hb hbox hg; have hnb40 := NB400_396.out; have hnc40 := NB396_400.out; have hcz41_0 : w39.cell? ⟨gb400, 0, none⟩ = some (.string (⟨#[]⟩ : ByteArray)) := (blk_cell BK400.out 0).trans rfl; have hcz41_1 : w39.cell? ⟨gb400, 1, none⟩ = some (.int .i64 0) := (blk_cell BK400.out 1).trans rfl; have hfz41_0 := blk_frozen BK400.out 0; have hfz41_1 := blk_frozen BK400.out 1) | (go_at_call 158; (with_reducible refine (impl_TreeWord.calls k1 ((rd_T77 l0_3 x43_1).f0) true _ A26.out).mono ?_); rintro e w' ⟨rfl, ⟨nd, rfl⟩⟩; (try first | exact ⟨rfl, _, World.drewN_drewN _ _ _⟩ | exact ⟨rfl, _, Eq.trans (World.drewN_drewN _ _ _) (congrArg (World.drewN _) (Nat.add_assoc _ _ _))⟩); have hcz42_0 : w39.cell? ⟨gb396, 0, none⟩ = some (.int .i64 a0_0) := (blk_cell BK396.out 0).trans rfl; have hcz42_1 : w39.cell? ⟨gb396, 1, none⟩ = some (.int .i64 a0_1) := (blk_cell BK396.out 1).trans rfl; have hcz42_2 : w39.cell? ⟨gb396, 2, none⟩ = some (.string a0_2) := (blk_cell BK396.out 2).trans rfl; have hcz42_3 : w39.cell? ⟨gb396, 3, none⟩ = some (.slice (some ad399) l0_3.length c0_3) := (blk_cell BK396.out 3).trans rfl; have hfz42_0 := blk_frozen BK396.out 0; have hfz42_1 := blk_frozen BK396.out 1; have hfz42_2 := blk_frozen BK396.out 2; have hfz42_3 := blk_frozen BK396.out 3; have p402 : 0 ≤ ((ji29) : Int) := of_decide_eq_true (by first | (with_reducible assumption) | assumption); have q402 : (ji29) < (l0_3.length : Int) := of_decide_eq_true (by first | (with_reducible assumption) | assumption); obtain ⟨ad402, e402, hx402_0, hx402_1⟩ := at_T77 HR0_3.out (ji29) p402 q402; obtain rfl : ad399 = ad402 := (by injection e402); have hn402_0 : ad399.block ≠ gb400 := Nat.ne_of_lt (Nat.lt_of_lt_of_le (by have := World.block_lt_of_cell? _ _ hx402_0; first | rwa [add_block] at this | exact this) GW400.out); have hn402_1 : ad399.block ≠ gb400 := Nat.ne_of_lt (Nat.lt_of_lt_of_le (by have := World.block_lt_of_cell? _ _ hx402_0; first | rwa [add_block] at this | exact this) GW400.out); replace hx402_0 := (HB.out.cell (World.block_lt_of_cell? w _ hx402_0)).trans hx402_0; replace hx402_1 := (HB.out.cell (World.block_lt_of_cell? w _ hx402_1)).trans hx402_1; replace hx402_0 := (cell_far (p := ⟨gb400, 0, none⟩) (by first | (rw [add_block]; exact hn402_0) | (show (Addr.add _ _).block ≠ _; rw [add_block]; exact hn402_0) | exact hn402_0) (.string ((rd_T77 l0_3 x43_1).f0))).trans hx402_0; replace hx402_1 := (cell_far (p := ⟨gb400, 0, none⟩) (by first | (rw [add_block]; exact hn402_0) | (show (Addr.add _ _).block ≠ _; rw [add_block]; exact hn402_0) | exact hn402_0) (.string ((rd_T77 l0_3 x43_1).f0))).trans hx402_1; replace hx402_0 := (cell_far (p := ⟨gb400, 1, none⟩) (by first | (rw [add_block]; exact hn402_1) | (show (Addr.add _ _).block ≠ _; rw [add_block]; exact hn402_1) | exact hn402_1) (.int .i64 ((rd_T77 l0_3 x43_1).f1))).trans hx402_0; replace hx402_1 := (cell_far (p := ⟨gb400, 1, none⟩) (by first | (rw [add_block]; exact hn402_1) | (show (Addr.add _ _).block ≠ _; rw [add_block]; exact hn402_1) | exact hn402_1) (.int .i64 ((rd_T77 l0_3 x43_1).f1))).trans hx402_1; (try have hy402_0 := fun (n_ : Nat) => (show ((((w39.drewN n_).setCell ⟨gb400, 0, none⟩ (.string ((rd_T77 l0_3 x43_1).f0))).setCell ⟨gb400, 1, none⟩ (.int .i64 ((rd_T77 l0_3 x43_1).f1)))).cell? _ = some _ from hx402_0)); (try have hy402_1 := fun (n_ : Nat) => (show ((((w39.drewN n_).setCell ⟨gb400, 0, none⟩ (.string ((rd_T77 l0_3 x43_1).f0))).setCell ⟨gb400, 1, none⟩ (.int .i64 ((rd_T77 l0_3 x43_1).f1)))).cell? _ = some _ from hx402_1)); clear hn402_0; clear hn402_1; replace p402 := eq_true p402; replace q402 := eq_true q402) | (go_at_call 115; (with_reducible refine (impl_in.calls ((rd_T77 l0_3 x43_1).f1) 1 31 false _ A33.out).mono ?_); rintro e w' ⟨rfl, ⟨nd, rfl⟩⟩; (try first | exact ⟨rfl, _, World.drewN_drewN _ _ _⟩ | exact ⟨rfl, _, Eq.trans (World.drewN_drewN _ _ _) (congrArg (World.drewN _) (Nat.add_assoc _ _ _))⟩))))
                                go_ret
                                exact ⟨by first | rfl | (simp [errW_none, errW_some] <;> rfl) | (simp only [← hji29]; first | rfl | (simp [errW_none, errW_some] <;> rfl)) | (simp [*, errW_none, errW_some] <;> rfl), by repeat (first | (with_reducible first | exact HB.out | apply below_alloc | apply pw_below_drewN | apply below_drew1 | refine below_set ?_ GE396.out | refine below_set ?_ GE400.out) | exact HB.out)⟩
                            · rw [if_neg c32] at H
                              have c32b0 : (Op.bytesLess (((rd_T77 l0_3 (ji29)).f0).toList) (((rd_T77 l0_3 x43_1).f0).toList)) = false := by simpa using c32
                              clear c32
                              obtain rfl := Option.some.inj H
                              have p399 : 0 ≤ (x43_1 : Int) := of_decide_eq_true (by first | (with_reducible assumption) | assumption)
                              have q399 : x43_1 < (l0_3.length : Int) := of_decide_eq_true (by first | (with_reducible assumption) | assumption)
                              obtain ⟨ad399, e399, hx399_0, hx399_1⟩ := at_T77 HR0_3.out x43_1 p399 q399
                              cases e399
                              replace hx399_0 := (HB.out.cell (World.block_lt_of_cell? w _ hx399_0)).trans hx399_0
                              replace hx399_1 := (HB.out.cell (World.block_lt_of_cell? w _ hx399_1)).trans hx399_1
                              replace p399 := eq_true p399
                              replace q399 := eq_true q399
                              go_wp2_with (first | ((with_reducible refine gate_dst (N := 4) rfl ?_); (try (refine gate_guard (by rfl) ?_; dsimp only)); refine box_event ?hg (N := 4) ?hd (cs := #[.string (⟨#[]⟩ : ByteArray), .int .i64 0]) (t := 77) ?hr ?_; (case hd => rfl); (case hg => rfl); (case hr => first | (go_simp; done) | (go_simp; rfl)); intro gb400 hg w43 hbox hb; have n0_ := Aside0.mk (blk_below (g := gb396) (o := .cells #[.int .i64 a0_0, .int .i64 a0_1, .string a0_2, .slice (some ad399) l0_3.length c0_3] 69 (0, 0)) (by (with_reducible repeat (first | refine blk_drewN ?_ _ | refine blk_drew ?_ | refine blk_alloc ?_ _)); exact BK396.out) hb); have n1_ := Aside0.mk (below_step (by repeat (first | (with_reducible first | exact HB.out | apply below_alloc | apply pw_below_drewN | apply below_drew1 | refine below_set ?_ GE396.out) | exact HB.out)) hb); have n2_ := Aside0.mk (hbox); have n3_ := Aside0.mk ((by rw [hg]; exact (below_size (by repeat (first | (with_reducible first | exact HB.out | apply below_alloc | apply pw_below_drewN | apply below_drew1 | refine below_set ?_ GE396.out) | exact HB.out))) : w.heap.size ≤ gb400)); have n4_ := Aside0.mk ((by rw [hg]; exact (below_size (by repeat (first | (with_reducible first | exact HB.out | apply below_alloc | apply pw_below_drewN | apply below_drew1 | refine below_set ?_ GE396.out) | exact HB.out))) : w.heap.size ≤ gb400)); have n5_ := Aside0.mk ((by rw [hg]; exact Nat.ne_of_lt (blk_lt (g := gb396) (o := .cells #[.int .i64 a0_0, .int .i64 a0_1, .string a0_2, .slice (some ad399) l0_3.length c0_3] 69 (0, 0)) (by (with_reducible repeat (first | refine blk_drewN ?_ _ | refine blk_drew ?_ | refine blk_alloc ?_ _)); exact BK396.out)) : gb396 ≠ gb400)); have n6_ := Aside0.mk ((by rw [hg]; exact Nat.ne_of_gt (blk_lt (g := gb396) (o := .cells #[.int .i64 a0_0, .int .i64 a0_1, .string a0_2, .slice (some ad399) l0_3.length c0_3] 69 (0, 0)) (by (with_reducible repeat (first | refine blk_drewN ?_ _ | refine blk_drew ?_ | refine blk_alloc ?_ _)); exact BK396.out)) : gb400 ≠ gb396)); clear BK396; clear HB; have BK396 := n0_; have HB := n1_; have BK400 := n2_; have GW400 := n3_; have GE400 := n4_; have NB396_400 := n5_; have NB400_396 := n6_; clear n0_ n1_ n2_ n3_ n4_ n5_ n6_; clear hb hbox hg; have hnb44 := NB400_396.out; have hnc44 := NB396_400.out; have hcz45_0 : w43.cell? ⟨gb400, 0, none⟩ = some (.string (⟨#[]⟩ : ByteArray)) := (blk_cell BK400.out 0).trans rfl; have hcz45_1 : w43.cell? ⟨gb400, 1, none⟩ = some (.int .i64 0) := (blk_cell BK400.out 1).trans rfl; have hfz45_0 := blk_frozen BK400.out 0; have hfz45_1 := blk_frozen BK400.out 1) | (go_at_call 158; (with_reducible refine (impl_TreeWord.calls k1 ((rd_T77 l0_3 x43_1).f0) true _ A26.out).mono ?_); rintro e w' ⟨rfl, ⟨nd, rfl⟩⟩; (try first | exact ⟨rfl, _, World.drewN_drewN _ _ _⟩ | exact ⟨rfl, _, Eq.trans (World.drewN_drewN _ _ _) (congrArg (World.drewN _) (Nat.add_assoc _ _ _))⟩); have hcz46_0 : w43.cell? ⟨gb396, 0, none⟩ = some (.int .i64 a0_0) := (blk_cell BK396.out 0).trans rfl; have hcz46_1 : w43.cell? ⟨gb396, 1, none⟩ = some (.int .i64 a0_1) := (blk_cell BK396.out 1).trans rfl; have hcz46_2 : w43.cell? ⟨gb396, 2, none⟩ = some (.string a0_2) := (blk_cell BK396.out 2).trans rfl; have hcz46_3 : w43.cell? ⟨gb396, 3, none⟩ = some (.slice (some ad399) l0_3.length c0_3) := (blk_cell BK396.out 3).trans rfl; have hfz46_0 := blk_frozen BK396.out 0; have hfz46_1 := blk_frozen BK396.out 1; have hfz46_2 := blk_frozen BK396.out 2; have hfz46_3 := blk_frozen BK396.out 3; have p402 : 0 ≤ ((ji29) : Int) := of_decide_eq_true (by first | (with_reducible assumption) | assumption); have q402 : (ji29) < (l0_3.length : Int) := of_decide_eq_true (by first | (with_reducible assumption) | assumption); obtain ⟨ad402, e402, hx402_0, hx402_1⟩ := at_T77 HR0_3.out (ji29) p402 q402; obtain rfl : ad399 = ad402 := (by injection e402); have hn402_0 : ad399.block ≠ gb400 := Nat.ne_of_lt (Nat.lt_of_lt_of_le (by have := World.block_lt_of_cell? _ _ hx402_0; first | rwa [add_block] at this | exact this) GW400.out); have hn402_1 : ad399.block ≠ gb400 := Nat.ne_of_lt (Nat.lt_of_lt_of_le (by have := World.block_lt_of_cell? _ _ hx402_0; first | rwa [add_block] at this | exact this) GW400.out); replace hx402_0 := (HB.out.cell (World.block_lt_of_cell? w _ hx402_0)).trans hx402_0; replace hx402_1 := (HB.out.cell (World.block_lt_of_cell? w _ hx402_1)).trans hx402_1; replace hx402_0 := (cell_far (p := ⟨gb400, 0, none⟩) (by first | (rw [add_block]; exact hn402_0) | (show (Addr.add _ _).block ≠ _; rw [add_block]; exact hn402_0) | exact hn402_0) (.string ((rd_T77 l0_3 x43_1).f0))).trans hx402_0; replace hx402_1 := (cell_far (p := ⟨gb400, 0, none⟩) (by first | (rw [add_block]; exact hn402_0) | (show (Addr.add _ _).block ≠ _; rw [add_block]; exact hn402_0) | exact hn402_0) (.string ((rd_T77 l0_3 x43_1).f0))).trans hx402_1; replace hx402_0 := (cell_far (p := ⟨gb400, 1, none⟩) (by first | (rw [add_block]; exact hn402_1) | (show (Addr.add _ _).block ≠ _; rw [add_block]; exact hn402_1) | exact hn402_1) (.int .i64 ((rd_T77 l0_3 x43_1).f1))).trans hx402_0; replace hx402_1 := (cell_far (p := ⟨gb400, 1, none⟩) (by first | (rw [add_block]; exact hn402_1) | (show (Addr.add _ _).block ≠ _; rw [add_block]; exact hn402_1) | exact hn402_1) (.int .i64 ((rd_T77 l0_3 x43_1).f1))).trans hx402_1; (try have hy402_0 := fun (n_ : Nat) => (show ((((w43.drewN n_).setCell ⟨gb400, 0, none⟩ (.string ((rd_T77 l0_3 x43_1).f0))).setCell ⟨gb400, 1, none⟩ (.int .i64 ((rd_T77 l0_3 x43_1).f1)))).cell? _ = some _ from hx402_0)); (try have hy402_1 := fun (n_ : Nat) => (show ((((w43.drewN n_).setCell ⟨gb400, 0, none⟩ (.string ((rd_T77 l0_3 x43_1).f0))).setCell ⟨gb400, 1, none⟩ (.int .i64 ((rd_T77 l0_3 x43_1).f1)))).cell? _ = some _ from hx402_1)); clear hn402_0; clear hn402_1; replace p402 := eq_true p402; replace q402 := eq_true q402))
                              repeat (go_quiet (first | ((with_reducible refine gate_dst (N := 4) rfl ?_); (try (refine gate_guard (by rfl) ?_; dsimp only)); refine box_event ?hg (N := 4) ?hd (cs := #[.string (⟨#[]⟩ : ByteArray), .int .i64 0]) (t := 77) ?hr ?_; (case hd => rfl); (case hg => rfl); (case hr => first | (go_simp; done) | (go_simp; rfl)); intro gb400 hg w43 hbox hb; have n0_ := Aside0.mk (blk_below (g := gb396) (o := .cells #[.int .i64 a0_0, .int .i64 a0_1, .string a0_2, .slice (some ad399) l0_3.length c0_3] 69 (0, 0)) (by (with_reducible repeat (first | refine blk_drewN ?_ _ | refine blk_drew ?_ | refine blk_alloc ?_ _)); exact BK396.out) hb); have n1_ := Aside0.mk (below_step (by repeat (first | (with_reducible first | exact HB.out | apply below_alloc | apply pw_below_drewN | apply below_drew1 | refine below_set ?_ GE396.out) | exact HB.out)) hb); have n2_ := Aside0.mk (hbox); have n3_ := Aside0.mk ((by rw [hg]; exact (below_size (by repeat (first | (with_reducible first | exact HB.out | apply below_alloc | apply pw_below_drewN | apply below_drew1 | refine below_set ?_ GE396.out) | exact HB.out))) : w.heap.size ≤ gb400)); have n4_ := Aside0.mk ((by rw [hg]; exact (below_size (by repeat (first | (with_reducible first | exact HB.out | apply below_alloc | apply pw_below_drewN | apply below_drew1 | refine below_set ?_ GE396.out) | exact HB.out))) : w.heap.size ≤ gb400)); have n5_ := Aside0.mk ((by rw [hg]; exact Nat.ne_of_lt (blk_lt (g := gb396) (o := .cells #[.int .i64 a0_0, .int .i64 a0_1, .string a0_2, .slice (some ad399) l0_3.length c0_3] 69 (0, 0)) (by (with_reducible repeat (first | refine blk_drewN ?_ _ | refine blk_drew ?_ | refine blk_alloc ?_ _)); exact BK396.out)) : gb396 ≠ gb400)); have n6_ := Aside0.mk ((by rw [hg]; exact Nat.ne_of_gt (blk_lt (g := gb396) (o := .cells #[.int .i64 a0_0, .int .i64 a0_1, .string a0_2, .slice (some ad399) l0_3.length c0_3] 69 (0, 0)) (by (with_reducible repeat (first | refine blk_drewN ?_ _ | refine blk_drew ?_ | refine blk_alloc ?_ _)); exact BK396.out)) : gb400 ≠ gb396)); clear BK396; clear HB; have BK396 := n0_; have HB := n1_; have BK400 := n2_; have GW400 := n3_; have GE400 := n4_; have NB396_400 := n5_; have NB400_396 := n6_; clear n0_ n1_ n2_ n3_ n4_ n5_ n6_; clear hb hbox hg; have hnb44 := NB400_396.out; have hnc44 := NB396_400.out; have hcz45_0 : w43.cell? ⟨gb400, 0, none⟩ = some (.string (⟨#[]⟩ : ByteArray)) := (blk_cell BK400.out 0).trans rfl; have hcz45_1 : w43.cell? ⟨gb400, 1, none⟩ = some (.int .i64 0) := (blk_cell BK400.out 1).trans rfl; have hfz45_0 := blk_frozen BK400.out 0; have hfz45_1 := blk_frozen BK400.out 1) | (go_at_call 158; (with_reducible refine (impl_TreeWord.calls k1 ((rd_T77 l0_3 x43_1).f0) true _ A26.out).mono ?_); rintro e w' ⟨rfl, ⟨nd, rfl⟩⟩; (try first | exact ⟨rfl, _, World.drewN_drewN _ _ _⟩ | exact ⟨rfl, _, Eq.trans (World.drewN_drewN _ _ _) (congrArg (World.drewN _) (Nat.add_assoc _ _ _))⟩); have hcz46_0 : w43.cell? ⟨gb396, 0, none⟩ = some (.int .i64 a0_0) := (blk_cell BK396.out 0).trans rfl; have hcz46_1 : w43.cell? ⟨gb396, 1, none⟩ = some (.int .i64 a0_1) := (blk_cell BK396.out 1).trans rfl; have hcz46_2 : w43.cell? ⟨gb396, 2, none⟩ = some (.string a0_2) := (blk_cell BK396.out 2).trans rfl; have hcz46_3 : w43.cell? ⟨gb396, 3, none⟩ = some (.slice (some ad399) l0_3.length c0_3) := (blk_cell BK396.out 3).trans rfl; have hfz46_0 := blk_frozen BK396.out 0; have hfz46_1 := blk_frozen BK396.out 1; have hfz46_2 := blk_frozen BK396.out 2; have hfz46_3 := blk_frozen BK396.out 3; have p402 : 0 ≤ ((ji29) : Int) := of_decide_eq_true (by first | (with_reducible assumption) | assumption); have q402 : (ji29) < (l0_3.length : Int) := of_decide_eq_true (by first | (with_reducible assumption) | assumption); obtain ⟨ad402, e402, hx402_0, hx402_1⟩ := at_T77 HR0_3.out (ji29) p402 q402; obtain rfl : ad399 = ad402 := (by injection e402); have hn402_0 : ad399.block ≠ gb400 := Nat.ne_of_lt (Nat.lt_of_lt_of_le (by have := World.block_lt_of_cell? _ _ hx402_0; first | rwa [add_block] at this | exact this) GW400.out); have hn402_1 : ad399.block ≠ gb400 := Nat.ne_of_lt (Nat.lt_of_lt_of_le (by have := World.block_lt_of_cell? _ _ hx402_0; first | rwa [add_block] at this | exact this) GW400.out); replace hx402_0 := (HB.out.cell (World.block_lt_of_cell? w _ hx402_0)).trans hx402_0; replace hx402_1 := (HB.out.cell (World.block_lt_of_cell? w _ hx402_1)).trans hx402_1; replace hx402_0 := (cell_far (p := ⟨gb400, 0, none⟩) (by first | (rw [add_block]; exact hn402_0) | (show (Addr.add _ _).block ≠ _; rw [add_block]; exact hn402_0) | exact hn402_0) (.string ((rd_T77 l0_3 x43_1).f0))).trans hx402_0; replace hx402_1 := (cell_far (p := ⟨gb400, 0, none⟩) (by first | (rw [add_block]; exact hn402_0) | (show (Addr.add _ _).block ≠ _; rw [add_block]; exact hn402_0) | exact hn402_0) (.string ((rd_T77 l0_3 x43_1).f0))).trans hx402_1; replace hx402_0 := (cell_far (p := ⟨gb400, 1, none⟩) (by first | (rw [add_block]; exact hn402_1) | (show (Addr.add _ _).block ≠ _; rw [add_block]; exact hn402_1) | exact hn402_1) (.int .i64 ((rd_T77 l0_3 x43_1).f1))).trans hx402_0; replace hx402_1 := (cell_far (p := ⟨gb400, 1, none⟩) (by first | (rw [add_block]; exact hn402_1) | (show (Addr.add _ _).block ≠ _; rw [add_block]; exact hn402_1) | exact hn402_1) (.int .i64 ((rd_T77 l0_3 x43_1).f1))).trans hx402_1; (try have hy402_0 := fun (n_ : Nat) => (show ((((w43.drewN n_).setCell ⟨gb400, 0, none⟩ (.string ((rd_T77 l0_3 x43_1).f0))).setCell ⟨gb400, 1, none⟩ (.int .i64 ((rd_T77 l0_3 x43_1).f1)))).cell? _ = some _ from hx402_0)); (try have hy402_1 := fun (n_ : Nat) => (show ((((w43.drewN n_).setCell ⟨gb400, 0, none⟩ (.string ((rd_T77 l0_3 x43_1).f0))).setCell ⟨gb400, 1, none⟩ (.int .i64 ((rd_T77 l0_3 x43_1).f1)))).cell? _ = some _ from hx402_1)); clear hn402_0; clear hn402_1; replace p402 := eq_true p402; replace q402 := eq_true q402)); try go_wp2_with (first | ((with_reducible refine gate_dst (N := 4) rfl ?_); (try (refine gate_guard (by rfl) ?_; dsimp only)); refine box_event ?hg (N := 4) ?hd (cs := #[.string (⟨#[]⟩ : ByteArray), .int .i64 0]) (t := 77) ?hr ?_; (case hd => rfl); (case hg => rfl); (case hr => first | (go_simp; done) | (go_simp; rfl)); intro gb400 hg w43 hbox hb; have n0_ := Aside0.mk (blk_below (g := gb396) (o := .cells #[.int .i64 a0_0, .int .i64 a0_1, .string a0_2, .slice (some ad399) l0_3.length c0_3] 69 (0, 0)) (by (with_reducible repeat (first | refine blk_drewN ?_ _ | refine blk_drew ?_ | refine blk_alloc ?_ _)); exact BK396.out) hb); have n1_ := Aside0.mk (below_step (by repeat (first | (with_reducible first | exact HB.out | apply below_alloc | apply pw_below_drewN | apply below_drew1 | refine below_set ?_ GE396.out) | exact HB.out)) hb); have n2_ := Aside0.mk (hbox); have n3_ := Aside0.mk ((by rw [hg]; exact (below_size (by repeat (first | (with_reducible first | exact HB.out | apply below_alloc | apply pw_below_drewN | apply below_drew1 | refine below_set ?_ GE396.out) | exact HB.out))) : w.heap.size ≤ gb400)); have n4_ := Aside0.mk ((by rw [hg]; exact (below_size (by repeat (first | (with_reducible first | exact HB.out | apply below_alloc | apply pw_below_drewN | apply below_drew1 | refine below_set ?_ GE396.out) | exact HB.out))) : w.heap.size ≤ gb400)); have n5_ := Aside0.mk ((by rw [hg]; exact Nat.ne_of_lt (blk_lt (g := gb396) (o := .cells #[.int .i64 a0_0, .int .i64 a0_1, .string a0_2, .slice (some ad399) l0_3.length c0_3] 69 (0, 0)) (by (with_reducible repeat (first | refine blk_drewN ?_ _ | refine blk_drew ?_ | refine blk_alloc ?_ _)); exact BK396.out)) : gb396 ≠ gb400)); have n6_ := Aside0.mk ((by rw [hg]; exact Nat.ne_of_gt (blk_lt (g := gb396) (o := .cells #[.int .i64 a0_0, .int .i64 a0_1, .string a0_2, .slice (some ad399) l0_3.length c0_3] 69 (0, 0)) (by (with_reducible repeat (first | refine blk_drewN ?_ _ | refine blk_drew ?_ | refine blk_alloc ?_ _)); exact BK396.out)) : gb400 ≠ gb396)); clear BK396; clear HB; have BK396 := n0_; have HB := n1_; have BK400 := n2_; have GW400 := n3_; have GE400 := n4_; have NB396_400 := n5_; have NB400_396 := n6_; clear n0_ n1_ n2_ n3_ n4_ n5_ n6_; clear hb hbox hg; have hnb44 := NB400_396.out; have hnc44 := NB396_400.out; have hcz45_0 : w43.cell? ⟨gb400, 0, none⟩ = some (.string (⟨#[]⟩ : ByteArray)) := (blk_cell BK400.out 0).trans rfl; have hcz45_1 : w43.cell? ⟨gb400, 1, none⟩ = some (.int .i64 0) := (blk_cell BK400.out 1).trans rfl; have hfz45_0 := blk_frozen BK400.out 0; have hfz45_1 := blk_frozen BK400.out 1) | (go_at_call 158; (with_reducible refine (impl_TreeWord.calls k1 ((rd_T77 l0_3 x43_1).f0) true _ A26.out).mono ?_); rintro e w' ⟨rfl, ⟨nd, rfl⟩⟩; (try first | exact ⟨rfl, _, World.drewN_drewN _ _ _⟩ | exact ⟨rfl, _, Eq.trans (World.drewN_drewN _ _ _) (congrArg (World.drewN _) (Nat.add_assoc _ _ _))⟩); have hcz46_0 : w43.cell? ⟨gb396, 0, none⟩ = some (.int .i64 a0_0) := (blk_cell BK396.out 0).trans rfl; have hcz46_1 : w43.cell? ⟨gb396, 1, none⟩ = some (.int .i64 a0_1) := (blk_cell BK396.out 1).trans rfl; have hcz46_2 : w43.cell? ⟨gb396, 2, none⟩ = some (.string a0_2) := (blk_cell BK396.out 2).trans rfl; have hcz46_3 : w43.cell? ⟨gb396, 3, none⟩ = some (.slice (some ad399) l0_3.length c0_3) := (blk_cell BK396.out 3).trans rfl; have hfz46_0 := blk_frozen BK396.out 0; have hfz46_1 := blk_frozen BK396.out 1; have hfz46_2 := blk_frozen BK396.out 2; have hfz46_3 := blk_frozen BK396.out 3; have p402 : 0 ≤ ((ji29) : Int) := of_decide_eq_true (by first | (with_reducible assumption) | assumption); have q402 : (ji29) < (l0_3.length : Int) := of_decide_eq_true (by first | (with_reducible assumption) | assumption); obtain ⟨ad402, e402, hx402_0, hx402_1⟩ := at_T77 HR0_3.out (ji29) p402 q402; obtain rfl : ad399 = ad402 := (by injection e402); have hn402_0 : ad399.block ≠ gb400 := Nat.ne_of_lt (Nat.lt_of_lt_of_le (by have := World.block_lt_of_cell? _ _ hx402_0; first | rwa [add_block] at this | exact this) GW400.out); have hn402_1 : ad399.block ≠ gb400 := Nat.ne_of_lt (Nat.lt_of_lt_of_le (by have := World.block_lt_of_cell? _ _ hx402_0; first | rwa [add_block] at this | exact this) GW400.out); replace hx402_0 := (HB.out.cell (World.block_lt_of_cell? w _ hx402_0)).trans hx402_0; replace hx402_1 := (HB.out.cell (World.block_lt_of_cell? w _ hx402_1)).trans hx402_1; replace hx402_0 := (cell_far (p := ⟨gb400, 0, none⟩) (by first | (rw [add_block]; exact hn402_0) | (show (Addr.add _ _).block ≠ _; rw [add_block]; exact hn402_0) | exact hn402_0) (.string ((rd_T77 l0_3 x43_1).f0))).trans hx402_0; replace hx402_1 := (cell_far (p := ⟨gb400, 0, none⟩) (by first | (rw [add_block]; exact hn402_0) | (show (Addr.add _ _).block ≠ _; rw [add_block]; exact hn402_0) | exact hn402_0) (.string ((rd_T77 l0_3 x43_1).f0))).trans hx402_1; replace hx402_0 := (cell_far (p := ⟨gb400, 1, none⟩) (by first | (rw [add_block]; exact hn402_1) | (show (Addr.add _ _).block ≠ _; rw [add_block]; exact hn402_1) | exact hn402_1) (.int .i64 ((rd_T77 l0_3 x43_1).f1))).trans hx402_0; replace hx402_1 := (cell_far (p := ⟨gb400, 1, none⟩) (by first | (rw [add_block]; exact hn402_1) | (show (Addr.add _ _).block ≠ _; rw [add_block]; exact hn402_1) | exact hn402_1) (.int .i64 ((rd_T77 l0_3 x43_1).f1))).trans hx402_1; (try have hy402_0 := fun (n_ : Nat) => (show ((((w43.drewN n_).setCell ⟨gb400, 0, none⟩ (.string ((rd_T77 l0_3 x43_1).f0))).setCell ⟨gb400, 1, none⟩ (.int .i64 ((rd_T77 l0_3 x43_1).f1)))).cell? _ = some _ from hx402_0)); (try have hy402_1 := fun (n_ : Nat) => (show ((((w43.drewN n_).setCell ⟨gb400, 0, none⟩ (.string ((rd_T77 l0_3 x43_1).f0))).setCell ⟨gb400, 1, none⟩ (.int .i64 ((rd_T77 l0_3 x43_1).f1)))).cell? _ = some _ from hx402_1)); clear hn402_0; clear hn402_1; replace p402 := eq_true p402; replace q402 := eq_true q402)))
                              go_ret
                              exact ⟨by first | rfl | (simp [errW_none, errW_some] <;> rfl) | (simp only [← hji29]; first | rfl | (simp [errW_none, errW_some] <;> rfl)) | (simp [*, errW_none, errW_some] <;> rfl), by repeat (first | (with_reducible first | exact HB.out | apply below_alloc | apply pw_below_drewN | apply below_drew1 | refine below_set ?_ GE396.out | refine below_set ?_ GE400.out) | exact HB.out)⟩
                          · rw [if_neg c31] at H
                            exact absurd H (by simp)
                        · rw [if_neg c30] at H
                          exact absurd H (by simp)
                      · rw [if_neg c28] at H
                        have c28b0 : decide (0 < x43_1) = false := decide_eq_false c28
                        clear c28
                        replace H := Option.bind_eq_some_iff.mp H
                        obtain ⟨t404, A470, H⟩ := H
                        replace H : (if t404 = true then (impl_objOk.l0 k1 l0_3 (l0_3.length : Int) (wrap64 (x43_1 + 1)) a0_0 a0_1 a0_2 l0_3) else (some false)) = some r := H
                        have A47 := Aside0.mk A470
                        clear A470
                        by_cases c48 : t404 = true
                        · subst c48
                          have H1 : (impl_objOk.l0 k1 l0_3 (l0_3.length : Int) (wrap64 (x43_1 + 1)) a0_0 a0_1 a0_2 l0_3) = some r := by rw [if_pos rfl] at H; exact H
                          clear H
                          have H := H1
                          clear H1
                          have H' := Aside0.mk H
                          clear H
                          have p399 : 0 ≤ (x43_1 : Int) := of_decide_eq_true (by first | (with_reducible assumption) | assumption)
                          have q399 : x43_1 < (l0_3.length : Int) := of_decide_eq_true (by first | (with_reducible assumption) | assumption)
                          obtain ⟨ad399, e399, hx399_0, hx399_1⟩ := at_T77 HR0_3.out x43_1 p399 q399
                          cases e399
                          replace hx399_0 := (HB.out.cell (World.block_lt_of_cell? w _ hx399_0)).trans hx399_0
                          replace hx399_1 := (HB.out.cell (World.block_lt_of_cell? w _ hx399_1)).trans hx399_1
                          replace p399 := eq_true p399
                          replace q399 := eq_true q399
                          go_wp2_with (first | ((with_reducible refine gate_dst (N := 4) rfl ?_); (try (refine gate_guard (by rfl) ?_; dsimp only)); refine box_event ?hg (N := 4) ?hd (cs := #[.string (⟨#[]⟩ : ByteArray), .int .i64 0]) (t := 77) ?hr ?_; (case hd => rfl); (case hg => rfl); (case hr => first | (go_simp; done) | (go_simp; rfl)); intro gb400 hg w49 hbox hb; have n0_ := Aside0.mk (blk_below (g := gb396) (o := .cells #[.int .i64 a0_0, .int .i64 a0_1, .string a0_2, .slice (some ad399) l0_3.length c0_3] 69 (0, 0)) (by (with_reducible repeat (first | refine blk_drewN ?_ _ | refine blk_drew ?_ | refine blk_alloc ?_ _)); exact BK396.out) hb); have n1_ := Aside0.mk (below_step (by repeat (first | (with_reducible first | exact HB.out | apply below_alloc | apply pw_below_drewN | apply below_drew1 | refine below_set ?_ GE396.out) | exact HB.out)) hb); have n2_ := Aside0.mk (hbox); have n3_ := Aside0.mk ((by rw [hg]; exact (below_size (by repeat (first | (with_reducible first | exact HB.out | apply below_alloc | apply pw_below_drewN | apply below_drew1 | refine below_set ?_ GE396.out) | exact HB.out))) : w.heap.size ≤ gb400)); have n4_ := Aside0.mk ((by rw [hg]; exact (below_size (by repeat (first | (with_reducible first | exact HB.out | apply below_alloc | apply pw_below_drewN | apply below_drew1 | refine below_set ?_ GE396.out) | exact HB.out))) : w.heap.size ≤ gb400)); have n5_ := Aside0.mk ((by rw [hg]; exact Nat.ne_of_lt (blk_lt (g := gb396) (o := .cells #[.int .i64 a0_0, .int .i64 a0_1, .string a0_2, .slice (some ad399) l0_3.length c0_3] 69 (0, 0)) (by (with_reducible repeat (first | refine blk_drewN ?_ _ | refine blk_drew ?_ | refine blk_alloc ?_ _)); exact BK396.out)) : gb396 ≠ gb400)); have n6_ := Aside0.mk ((by rw [hg]; exact Nat.ne_of_gt (blk_lt (g := gb396) (o := .cells #[.int .i64 a0_0, .int .i64 a0_1, .string a0_2, .slice (some ad399) l0_3.length c0_3] 69 (0, 0)) (by (with_reducible repeat (first | refine blk_drewN ?_ _ | refine blk_drew ?_ | refine blk_alloc ?_ _)); exact BK396.out)) : gb400 ≠ gb396)); clear BK396; clear HB; have BK396 := n0_; have HB := n1_; have BK400 := n2_; have GW400 := n3_; have GE400 := n4_; have NB396_400 := n5_; have NB400_396 := n6_; clear n0_ n1_ n2_ n3_ n4_ n5_ n6_; clear hb hbox hg; have hnb50 := NB400_396.out; have hnc50 := NB396_400.out; have hcz51_0 : w49.cell? ⟨gb400, 0, none⟩ = some (.string (⟨#[]⟩ : ByteArray)) := (blk_cell BK400.out 0).trans rfl; have hcz51_1 : w49.cell? ⟨gb400, 1, none⟩ = some (.int .i64 0) := (blk_cell BK400.out 1).trans rfl; have hfz51_0 := blk_frozen BK400.out 0; have hfz51_1 := blk_frozen BK400.out 1) | (go_at_call 158; (with_reducible refine (impl_TreeWord.calls k1 ((rd_T77 l0_3 x43_1).f0) true _ A26.out).mono ?_); rintro e w' ⟨rfl, ⟨nd, rfl⟩⟩; (try first | exact ⟨rfl, _, World.drewN_drewN _ _ _⟩ | exact ⟨rfl, _, Eq.trans (World.drewN_drewN _ _ _) (congrArg (World.drewN _) (Nat.add_assoc _ _ _))⟩)) | (go_at_call 115; (with_reducible refine (impl_in.calls ((rd_T77 l0_3 x43_1).f1) 1 31 true _ A47.out).mono ?_); rintro e w' ⟨rfl, ⟨nd, rfl⟩⟩; (try first | exact ⟨rfl, _, World.drewN_drewN _ _ _⟩ | exact ⟨rfl, _, Eq.trans (World.drewN_drewN _ _ _) (congrArg (World.drewN _) (Nat.add_assoc _ _ _))⟩)))
                          repeat (go_quiet (first | ((with_reducible refine gate_dst (N := 4) rfl ?_); (try (refine gate_guard (by rfl) ?_; dsimp only)); refine box_event ?hg (N := 4) ?hd (cs := #[.string (⟨#[]⟩ : ByteArray), .int .i64 0]) (t := 77) ?hr ?_; (case hd => rfl); (case hg => rfl); (case hr => first | (go_simp; done) | (go_simp; rfl)); intro gb400 hg w49 hbox hb; have n0_ := Aside0.mk (blk_below (g := gb396) (o := .cells #[.int .i64 a0_0, .int .i64 a0_1, .string a0_2, .slice (some ad399) l0_3.length c0_3] 69 (0, 0)) (by (with_reducible repeat (first | refine blk_drewN ?_ _ | refine blk_drew ?_ | refine blk_alloc ?_ _)); exact BK396.out) hb); have n1_ := Aside0.mk (below_step (by repeat (first | (with_reducible first | exact HB.out | apply below_alloc | apply pw_below_drewN | apply below_drew1 | refine below_set ?_ GE396.out) | exact HB.out)) hb); have n2_ := Aside0.mk (hbox); have n3_ := Aside0.mk ((by rw [hg]; exact (below_size (by repeat (first | (with_reducible first | exact HB.out | apply below_alloc | apply pw_below_drewN | apply below_drew1 | refine below_set ?_ GE396.out) | exact HB.out))) : w.heap.size ≤ gb400)); have n4_ := Aside0.mk ((by rw [hg]; exact (below_size (by repeat (first | (with_reducible first | exact HB.out | apply below_alloc | apply pw_below_drewN | apply below_drew1 | refine below_set ?_ GE396.out) | exact HB.out))) : w.heap.size ≤ gb400)); have n5_ := Aside0.mk ((by rw [hg]; exact Nat.ne_of_lt (blk_lt (g := gb396) (o := .cells #[.int .i64 a0_0, .int .i64 a0_1, .string a0_2, .slice (some ad399) l0_3.length c0_3] 69 (0, 0)) (by (with_reducible repeat (first | refine blk_drewN ?_ _ | refine blk_drew ?_ | refine blk_alloc ?_ _)); exact BK396.out)) : gb396 ≠ gb400)); have n6_ := Aside0.mk ((by rw [hg]; exact Nat.ne_of_gt (blk_lt (g := gb396) (o := .cells #[.int .i64 a0_0, .int .i64 a0_1, .string a0_2, .slice (some ad399) l0_3.length c0_3] 69 (0, 0)) (by (with_reducible repeat (first | refine blk_drewN ?_ _ | refine blk_drew ?_ | refine blk_alloc ?_ _)); exact BK396.out)) : gb400 ≠ gb396)); clear BK396; clear HB; have BK396 := n0_; have HB := n1_; have BK400 := n2_; have GW400 := n3_; have GE400 := n4_; have NB396_400 := n5_; have NB400_396 := n6_; clear n0_ n1_ n2_ n3_ n4_ n5_ n6_; clear hb hbox hg; have hnb50 := NB400_396.out; have hnc50 := NB396_400.out; have hcz51_0 : w49.cell? ⟨gb400, 0, none⟩ = some (.string (⟨#[]⟩ : ByteArray)) := (blk_cell BK400.out 0).trans rfl; have hcz51_1 : w49.cell? ⟨gb400, 1, none⟩ = some (.int .i64 0) := (blk_cell BK400.out 1).trans rfl; have hfz51_0 := blk_frozen BK400.out 0; have hfz51_1 := blk_frozen BK400.out 1) | (go_at_call 158; (with_reducible refine (impl_TreeWord.calls k1 ((rd_T77 l0_3 x43_1).f0) true _ A26.out).mono ?_); rintro e w' ⟨rfl, ⟨nd, rfl⟩⟩; (try first | exact ⟨rfl, _, World.drewN_drewN _ _ _⟩ | exact ⟨rfl, _, Eq.trans (World.drewN_drewN _ _ _) (congrArg (World.drewN _) (Nat.add_assoc _ _ _))⟩)) | (go_at_call 115; (with_reducible refine (impl_in.calls ((rd_T77 l0_3 x43_1).f1) 1 31 true _ A47.out).mono ?_); rintro e w' ⟨rfl, ⟨nd, rfl⟩⟩; (try first | exact ⟨rfl, _, World.drewN_drewN _ _ _⟩ | exact ⟨rfl, _, Eq.trans (World.drewN_drewN _ _ _) (congrArg (World.drewN _) (Nat.add_assoc _ _ _))⟩))); try go_wp2_with (first | ((with_reducible refine gate_dst (N := 4) rfl ?_); (try (refine gate_guard (by rfl) ?_; dsimp only)); refine box_event ?hg (N := 4) ?hd (cs := #[.string (⟨#[]⟩ : ByteArray), .int .i64 0]) (t := 77) ?hr ?_; (case hd => rfl); (case hg => rfl); (case hr => first | (go_simp; done) | (go_simp; rfl)); intro gb400 hg w49 hbox hb; have n0_ := Aside0.mk (blk_below (g := gb396) (o := .cells #[.int .i64 a0_0, .int .i64 a0_1, .string a0_2, .slice (some ad399) l0_3.length c0_3] 69 (0, 0)) (by (with_reducible repeat (first | refine blk_drewN ?_ _ | refine blk_drew ?_ | refine blk_alloc ?_ _)); exact BK396.out) hb); have n1_ := Aside0.mk (below_step (by repeat (first | (with_reducible first | exact HB.out | apply below_alloc | apply pw_below_drewN | apply below_drew1 | refine below_set ?_ GE396.out) | exact HB.out)) hb); have n2_ := Aside0.mk (hbox); have n3_ := Aside0.mk ((by rw [hg]; exact (below_size (by repeat (first | (with_reducible first | exact HB.out | apply below_alloc | apply pw_below_drewN | apply below_drew1 | refine below_set ?_ GE396.out) | exact HB.out))) : w.heap.size ≤ gb400)); have n4_ := Aside0.mk ((by rw [hg]; exact (below_size (by repeat (first | (with_reducible first | exact HB.out | apply below_alloc | apply pw_below_drewN | apply below_drew1 | refine below_set ?_ GE396.out) | exact HB.out))) : w.heap.size ≤ gb400)); have n5_ := Aside0.mk ((by rw [hg]; exact Nat.ne_of_lt (blk_lt (g := gb396) (o := .cells #[.int .i64 a0_0, .int .i64 a0_1, .string a0_2, .slice (some ad399) l0_3.length c0_3] 69 (0, 0)) (by (with_reducible repeat (first | refine blk_drewN ?_ _ | refine blk_drew ?_ | refine blk_alloc ?_ _)); exact BK396.out)) : gb396 ≠ gb400)); have n6_ := Aside0.mk ((by rw [hg]; exact Nat.ne_of_gt (blk_lt (g := gb396) (o := .cells #[.int .i64 a0_0, .int .i64 a0_1, .string a0_2, .slice (some ad399) l0_3.length c0_3] 69 (0, 0)) (by (with_reducible repeat (first | refine blk_drewN ?_ _ | refine blk_drew ?_ | refine blk_alloc ?_ _)); exact BK396.out)) : gb400 ≠ gb396)); clear BK396; clear HB; have BK396 := n0_; have HB := n1_; have BK400 := n2_; have GW400 := n3_; have GE400 := n4_; have NB396_400 := n5_; have NB400_396 := n6_; clear n0_ n1_ n2_ n3_ n4_ n5_ n6_; clear hb hbox hg; have hnb50 := NB400_396.out; have hnc50 := NB396_400.out; have hcz51_0 : w49.cell? ⟨gb400, 0, none⟩ = some (.string (⟨#[]⟩ : ByteArray)) := (blk_cell BK400.out 0).trans rfl; have hcz51_1 : w49.cell? ⟨gb400, 1, none⟩ = some (.int .i64 0) := (blk_cell BK400.out 1).trans rfl; have hfz51_0 := blk_frozen BK400.out 0; have hfz51_1 := blk_frozen BK400.out 1) | (go_at_call 158; (with_reducible refine (impl_TreeWord.calls k1 ((rd_T77 l0_3 x43_1).f0) true _ A26.out).mono ?_); rintro e w' ⟨rfl, ⟨nd, rfl⟩⟩; (try first | exact ⟨rfl, _, World.drewN_drewN _ _ _⟩ | exact ⟨rfl, _, Eq.trans (World.drewN_drewN _ _ _) (congrArg (World.drewN _) (Nat.add_assoc _ _ _))⟩)) | (go_at_call 115; (with_reducible refine (impl_in.calls ((rd_T77 l0_3 x43_1).f1) 1 31 true _ A47.out).mono ?_); rintro e w' ⟨rfl, ⟨nd, rfl⟩⟩; (try first | exact ⟨rfl, _, World.drewN_drewN _ _ _⟩ | exact ⟨rfl, _, Eq.trans (World.drewN_drewN _ _ _) (congrArg (World.drewN _) (Nat.add_assoc _ _ _))⟩))))
                          go_roundg k1
                          case measure => have := HK1.out; omega
                          case rel => exact ⟨(wrap64 (x43_1 + 1)), (by first | rfl | (simp; done) | (simp [*]; done)), H', ⟨by have := HK1.out; omega⟩, ⟨by (with_reducible repeat (first | refine blk_drewN ?_ _ | refine blk_drew ?_ | refine blk_alloc ?_ _)); refine blk_far ?_ NB396_400.out _; (with_reducible repeat (first | refine blk_drewN ?_ _ | refine blk_drew ?_ | refine blk_alloc ?_ _)); refine blk_far ?_ NB396_400.out _; (with_reducible repeat (first | refine blk_drewN ?_ _ | refine blk_drew ?_ | refine blk_alloc ?_ _)); exact BK396.out⟩, ⟨by repeat (first | (with_reducible first | exact HB.out | apply below_alloc | apply pw_below_drewN | apply below_drew1 | refine below_set ?_ GE396.out | refine below_set ?_ GE400.out) | exact HB.out)⟩⟩
                        · replace c48 := Bool.eq_false_iff.mpr c48
                          subst c48
                          have H1 : (some false) = some r := by rw [if_neg (show ¬ (false = true) by decide)] at H; exact H
                          clear H
                          have H := H1
                          clear H1
                          obtain rfl := Option.some.inj H
                          have p399 : 0 ≤ (x43_1 : Int) := of_decide_eq_true (by first | (with_reducible assumption) | assumption)
                          have q399 : x43_1 < (l0_3.length : Int) := of_decide_eq_true (by first | (with_reducible assumption) | assumption)
                          obtain ⟨ad399, e399, hx399_0, hx399_1⟩ := at_T77 HR0_3.out x43_1 p399 q399
                          cases e399
                          replace hx399_0 := (HB.out.cell (World.block_lt_of_cell? w _ hx399_0)).trans hx399_0
                          replace hx399_1 := (HB.out.cell (World.block_lt_of_cell? w _ hx399_1)).trans hx399_1
                          replace p399 := eq_true p399
                          replace q399 := eq_true q399
                          go_wp2_with (first | ((with_reducible refine gate_dst (N := 4) rfl ?_); (try (refine gate_guard (by rfl) ?_; dsimp only)); refine box_event ?hg (N := 4) ?hd (cs := #[.string (⟨#[]⟩ : ByteArray), .int .i64 0]) (t := 77) ?hr ?_; (case hd => rfl); (case hg => rfl); (case hr => first | (go_simp; done) | (go_simp; rfl)); intro gb400 hg w52 hbox hb; have n0_ := Aside0.mk (blk_below (g := gb396) (o := .cells #[.int .i64 a0_0, .int .i64 a0_1, .string a0_2, .slice (some ad399) l0_3.length c0_3] 69 (0, 0)) (by (with_reducible repeat (first | refine blk_drewN ?_ _ | refine blk_drew ?_ | refine blk_alloc ?_ _)); exact BK396.out) hb); have n1_ := Aside0.mk (below_step (by repeat (first | (with_reducible first | exact HB.out | apply below_alloc | apply pw_below_drewN | apply below_drew1 | refine below_set ?_ GE396.out) | exact HB.out)) hb); have n2_ := Aside0.mk (hbox); have n3_ := Aside0.mk ((by rw [hg]; exact (below_size (by repeat (first | (with_reducible first | exact HB.out | apply below_alloc | apply pw_below_drewN | apply below_drew1 | refine below_set ?_ GE396.out) | exact HB.out))) : w.heap.size ≤ gb400)); have n4_ := Aside0.mk ((by rw [hg]; exact (below_size (by repeat (first | (with_reducible first | exact HB.out | apply below_alloc | apply pw_below_drewN | apply below_drew1 | refine below_set ?_ GE396.out) | exact HB.out))) : w.heap.size ≤ gb400)); have n5_ := Aside0.mk ((by rw [hg]; exact Nat.ne_of_lt (blk_lt (g := gb396) (o := .cells #[.int .i64 a0_0, .int .i64 a0_1, .string a0_2, .slice (some ad399) l0_3.length c0_3] 69 (0, 0)) (by (with_reducible repeat (first | refine blk_drewN ?_ _ | refine blk_drew ?_ | refine blk_alloc ?_ _)); exact BK396.out)) : gb396 ≠ gb400)); have n6_ := Aside0.mk ((by rw [hg]; exact Nat.ne_of_gt (blk_lt (g := gb396) (o := .cells #[.int .i64 a0_0, .int .i64 a0_1, .string a0_2, .slice (some ad399) l0_3.length c0_3] 69 (0, 0)) (by (with_reducible repeat (first | refine blk_drewN ?_ _ | refine blk_drew ?_ | refine blk_alloc ?_ _)); exact BK396.out)) : gb400 ≠ gb396)); clear BK396; clear HB; have BK396 := n0_; have HB := n1_; have BK400 := n2_; have GW400 := n3_; have GE400 := n4_; have NB396_400 := n5_; have NB400_396 := n6_; clear n0_ n1_ n2_ n3_ n4_ n5_ n6_; clear hb hbox hg; have hnb53 := NB400_396.out; have hnc53 := NB396_400.out; have hcz54_0 : w52.cell? ⟨gb400, 0, none⟩ = some (.string (⟨#[]⟩ : ByteArray)) := (blk_cell BK400.out 0).trans rfl; have hcz54_1 : w52.cell? ⟨gb400, 1, none⟩ = some (.int .i64 0) := (blk_cell BK400.out 1).trans rfl; have hfz54_0 := blk_frozen BK400.out 0; have hfz54_1 := blk_frozen BK400.out 1) | (go_at_call 158; (with_reducible refine (impl_TreeWord.calls k1 ((rd_T77 l0_3 x43_1).f0) true _ A26.out).mono ?_); rintro e w' ⟨rfl, ⟨nd, rfl⟩⟩; (try first | exact ⟨rfl, _, World.drewN_drewN _ _ _⟩ | exact ⟨rfl, _, Eq.trans (World.drewN_drewN _ _ _) (congrArg (World.drewN _) (Nat.add_assoc _ _ _))⟩)) | (go_at_call 115; (with_reducible refine (impl_in.calls ((rd_T77 l0_3 x43_1).f1) 1 31 false _ A47.out).mono ?_); rintro e w' ⟨rfl, ⟨nd, rfl⟩⟩; (try first | exact ⟨rfl, _, World.drewN_drewN _ _ _⟩ | exact ⟨rfl, _, Eq.trans (World.drewN_drewN _ _ _) (congrArg (World.drewN _) (Nat.add_assoc _ _ _))⟩)))
                          repeat (go_quiet (first | ((with_reducible refine gate_dst (N := 4) rfl ?_); (try (refine gate_guard (by rfl) ?_; dsimp only)); refine box_event ?hg (N := 4) ?hd (cs := #[.string (⟨#[]⟩ : ByteArray), .int .i64 0]) (t := 77) ?hr ?_; (case hd => rfl); (case hg => rfl); (case hr => first | (go_simp; done) | (go_simp; rfl)); intro gb400 hg w52 hbox hb; have n0_ := Aside0.mk (blk_below (g := gb396) (o := .cells #[.int .i64 a0_0, .int .i64 a0_1, .string a0_2, .slice (some ad399) l0_3.length c0_3] 69 (0, 0)) (by (with_reducible repeat (first | refine blk_drewN ?_ _ | refine blk_drew ?_ | refine blk_alloc ?_ _)); exact BK396.out) hb); have n1_ := Aside0.mk (below_step (by repeat (first | (with_reducible first | exact HB.out | apply below_alloc | apply pw_below_drewN | apply below_drew1 | refine below_set ?_ GE396.out) | exact HB.out)) hb); have n2_ := Aside0.mk (hbox); have n3_ := Aside0.mk ((by rw [hg]; exact (below_size (by repeat (first | (with_reducible first | exact HB.out | apply below_alloc | apply pw_below_drewN | apply below_drew1 | refine below_set ?_ GE396.out) | exact HB.out))) : w.heap.size ≤ gb400)); have n4_ := Aside0.mk ((by rw [hg]; exact (below_size (by repeat (first | (with_reducible first | exact HB.out | apply below_alloc | apply pw_below_drewN | apply below_drew1 | refine below_set ?_ GE396.out) | exact HB.out))) : w.heap.size ≤ gb400)); have n5_ := Aside0.mk ((by rw [hg]; exact Nat.ne_of_lt (blk_lt (g := gb396) (o := .cells #[.int .i64 a0_0, .int .i64 a0_1, .string a0_2, .slice (some ad399) l0_3.length c0_3] 69 (0, 0)) (by (with_reducible repeat (first | refine blk_drewN ?_ _ | refine blk_drew ?_ | refine blk_alloc ?_ _)); exact BK396.out)) : gb396 ≠ gb400)); have n6_ := Aside0.mk ((by rw [hg]; exact Nat.ne_of_gt (blk_lt (g := gb396) (o := .cells #[.int .i64 a0_0, .int .i64 a0_1, .string a0_2, .slice (some ad399) l0_3.length c0_3] 69 (0, 0)) (by (with_reducible repeat (first | refine blk_drewN ?_ _ | refine blk_drew ?_ | refine blk_alloc ?_ _)); exact BK396.out)) : gb400 ≠ gb396)); clear BK396; clear HB; have BK396 := n0_; have HB := n1_; have BK400 := n2_; have GW400 := n3_; have GE400 := n4_; have NB396_400 := n5_; have NB400_396 := n6_; clear n0_ n1_ n2_ n3_ n4_ n5_ n6_; clear hb hbox hg; have hnb53 := NB400_396.out; have hnc53 := NB396_400.out; have hcz54_0 : w52.cell? ⟨gb400, 0, none⟩ = some (.string (⟨#[]⟩ : ByteArray)) := (blk_cell BK400.out 0).trans rfl; have hcz54_1 : w52.cell? ⟨gb400, 1, none⟩ = some (.int .i64 0) := (blk_cell BK400.out 1).trans rfl; have hfz54_0 := blk_frozen BK400.out 0; have hfz54_1 := blk_frozen BK400.out 1) | (go_at_call 158; (with_reducible refine (impl_TreeWord.calls k1 ((rd_T77 l0_3 x43_1).f0) true _ A26.out).mono ?_); rintro e w' ⟨rfl, ⟨nd, rfl⟩⟩; (try first | exact ⟨rfl, _, World.drewN_drewN _ _ _⟩ | exact ⟨rfl, _, Eq.trans (World.drewN_drewN _ _ _) (congrArg (World.drewN _) (Nat.add_assoc _ _ _))⟩)) | (go_at_call 115; (with_reducible refine (impl_in.calls ((rd_T77 l0_3 x43_1).f1) 1 31 false _ A47.out).mono ?_); rintro e w' ⟨rfl, ⟨nd, rfl⟩⟩; (try first | exact ⟨rfl, _, World.drewN_drewN _ _ _⟩ | exact ⟨rfl, _, Eq.trans (World.drewN_drewN _ _ _) (congrArg (World.drewN _) (Nat.add_assoc _ _ _))⟩))); try go_wp2_with (first | ((with_reducible refine gate_dst (N := 4) rfl ?_); (try (refine gate_guard (by rfl) ?_; dsimp only)); refine box_event ?hg (N := 4) ?hd (cs := #[.string (⟨#[]⟩ : ByteArray), .int .i64 0]) (t := 77) ?hr ?_; (case hd => rfl); (case hg => rfl); (case hr => first | (go_simp; done) | (go_simp; rfl)); intro gb400 hg w52 hbox hb; have n0_ := Aside0.mk (blk_below (g := gb396) (o := .cells #[.int .i64 a0_0, .int .i64 a0_1, .string a0_2, .slice (some ad399) l0_3.length c0_3] 69 (0, 0)) (by (with_reducible repeat (first | refine blk_drewN ?_ _ | refine blk_drew ?_ | refine blk_alloc ?_ _)); exact BK396.out) hb); have n1_ := Aside0.mk (below_step (by repeat (first | (with_reducible first | exact HB.out | apply below_alloc | apply pw_below_drewN | apply below_drew1 | refine below_set ?_ GE396.out) | exact HB.out)) hb); have n2_ := Aside0.mk (hbox); have n3_ := Aside0.mk ((by rw [hg]; exact (below_size (by repeat (first | (with_reducible first | exact HB.out | apply below_alloc | apply pw_below_drewN | apply below_drew1 | refine below_set ?_ GE396.out) | exact HB.out))) : w.heap.size ≤ gb400)); have n4_ := Aside0.mk ((by rw [hg]; exact (below_size (by repeat (first | (with_reducible first | exact HB.out | apply below_alloc | apply pw_below_drewN | apply below_drew1 | refine below_set ?_ GE396.out) | exact HB.out))) : w.heap.size ≤ gb400)); have n5_ := Aside0.mk ((by rw [hg]; exact Nat.ne_of_lt (blk_lt (g := gb396) (o := .cells #[.int .i64 a0_0, .int .i64 a0_1, .string a0_2, .slice (some ad399) l0_3.length c0_3] 69 (0, 0)) (by (with_reducible repeat (first | refine blk_drewN ?_ _ | refine blk_drew ?_ | refine blk_alloc ?_ _)); exact BK396.out)) : gb396 ≠ gb400)); have n6_ := Aside0.mk ((by rw [hg]; exact Nat.ne_of_gt (blk_lt (g := gb396) (o := .cells #[.int .i64 a0_0, .int .i64 a0_1, .string a0_2, .slice (some ad399) l0_3.length c0_3] 69 (0, 0)) (by (with_reducible repeat (first | refine blk_drewN ?_ _ | refine blk_drew ?_ | refine blk_alloc ?_ _)); exact BK396.out)) : gb400 ≠ gb396)); clear BK396; clear HB; have BK396 := n0_; have HB := n1_; have BK400 := n2_; have GW400 := n3_; have GE400 := n4_; have NB396_400 := n5_; have NB400_396 := n6_; clear n0_ n1_ n2_ n3_ n4_ n5_ n6_; clear hb hbox hg; have hnb53 := NB400_396.out; have hnc53 := NB396_400.out; have hcz54_0 : w52.cell? ⟨gb400, 0, none⟩ = some (.string (⟨#[]⟩ : ByteArray)) := (blk_cell BK400.out 0).trans rfl; have hcz54_1 : w52.cell? ⟨gb400, 1, none⟩ = some (.int .i64 0) := (blk_cell BK400.out 1).trans rfl; have hfz54_0 := blk_frozen BK400.out 0; have hfz54_1 := blk_frozen BK400.out 1) | (go_at_call 158; (with_reducible refine (impl_TreeWord.calls k1 ((rd_T77 l0_3 x43_1).f0) true _ A26.out).mono ?_); rintro e w' ⟨rfl, ⟨nd, rfl⟩⟩; (try first | exact ⟨rfl, _, World.drewN_drewN _ _ _⟩ | exact ⟨rfl, _, Eq.trans (World.drewN_drewN _ _ _) (congrArg (World.drewN _) (Nat.add_assoc _ _ _))⟩)) | (go_at_call 115; (with_reducible refine (impl_in.calls ((rd_T77 l0_3 x43_1).f1) 1 31 false _ A47.out).mono ?_); rintro e w' ⟨rfl, ⟨nd, rfl⟩⟩; (try first | exact ⟨rfl, _, World.drewN_drewN _ _ _⟩ | exact ⟨rfl, _, Eq.trans (World.drewN_drewN _ _ _) (congrArg (World.drewN _) (Nat.add_assoc _ _ _))⟩))))
                          go_ret
                          exact ⟨by first | rfl | (simp [errW_none, errW_some] <;> rfl) | (simp [*, errW_none, errW_some] <;> rfl), by repeat (first | (with_reducible first | exact HB.out | apply below_alloc | apply pw_below_drewN | apply below_drew1 | refine below_set ?_ GE396.out | refine below_set ?_ GE400.out) | exact HB.out)⟩
                    · replace c27 := Bool.eq_false_iff.mpr c27
                      subst c27
                      have H1 : (some false) = some r := by rw [if_neg (show ¬ (false = true) by decide)] at H; exact H
                      clear H
                      have H := H1
                      clear H1
                      obtain rfl := Option.some.inj H
                      have p399 : 0 ≤ (x43_1 : Int) := of_decide_eq_true (by first | (with_reducible assumption) | assumption)
                      have q399 : x43_1 < (l0_3.length : Int) := of_decide_eq_true (by first | (with_reducible assumption) | assumption)
                      obtain ⟨ad399, e399, hx399_0, hx399_1⟩ := at_T77 HR0_3.out x43_1 p399 q399
                      cases e399
                      replace hx399_0 := (HB.out.cell (World.block_lt_of_cell? w _ hx399_0)).trans hx399_0
                      replace hx399_1 := (HB.out.cell (World.block_lt_of_cell? w _ hx399_1)).trans hx399_1
                      replace p399 := eq_true p399
                      replace q399 := eq_true q399
                      go_wp2_with (first | ((with_reducible refine gate_dst (N := 4) rfl ?_); (try (refine gate_guard (by rfl) ?_; dsimp only)); refine box_event ?hg (N := 4) ?hd (cs := #[.string (⟨#[]⟩ : ByteArray), .int .i64 0]) (t := 77) ?hr ?_; (case hd => rfl); (case hg => rfl); (case hr => first | (go_simp; done) | (go_simp; rfl)); intro gb400 hg w55 hbox hb; have n0_ := Aside0.mk (blk_below (g := gb396) (o := .cells #[.int .i64 a0_0, .int .i64 a0_1, .string a0_2, .slice (some ad399) l0_3.length c0_3] 69 (0, 0)) (by (with_reducible repeat (first | refine blk_drewN ?_ _ | refine blk_drew ?_ | refine blk_alloc ?_ _)); exact BK396.out) hb); have n1_ := Aside0.mk (below_step (by repeat (first | (with_reducible first | exact HB.out | apply below_alloc | apply pw_below_drewN | apply below_drew1 | refine below_set ?_ GE396.out) | exact HB.out)) hb); have n2_ := Aside0.mk (hbox); have n3_ := Aside0.mk ((by rw [hg]; exact (below_size (by repeat (first | (with_reducible first | exact HB.out | apply below_alloc | apply pw_below_drewN | apply below_drew1 | refine below_set ?_ GE396.out) | exact HB.out))) : w.heap.size ≤ gb400)); have n4_ := Aside0.mk ((by rw [hg]; exact (below_size (by repeat (first | (with_reducible first | exact HB.out | apply below_alloc | apply pw_below_drewN | apply below_drew1 | refine below_set ?_ GE396.out) | exact HB.out))) : w.heap.size ≤ gb400)); have n5_ := Aside0.mk ((by rw [hg]; exact Nat.ne_of_lt (blk_lt (g := gb396) (o := .cells #[.int .i64 a0_0, .int .i64 a0_1, .string a0_2, .slice (some ad399) l0_3.length c0_3] 69 (0, 0)) (by (with_reducible repeat (first | refine blk_drewN ?_ _ | refine blk_drew ?_ | refine blk_alloc ?_ _)); exact BK396.out)) : gb396 ≠ gb400)); have n6_ := Aside0.mk ((by rw [hg]; exact Nat.ne_of_gt (blk_lt (g := gb396) (o := .cells #[.int .i64 a0_0, .int .i64 a0_1, .string a0_2, .slice (some ad399) l0_3.length c0_3] 69 (0, 0)) (by (with_reducible repeat (first | refine blk_drewN ?_ _ | refine blk_drew ?_ | refine blk_alloc ?_ _)); exact BK396.out)) : gb400 ≠ gb396)); clear BK396; clear HB; have BK396 := n0_; have HB := n1_; have BK400 := n2_; have GW400 := n3_; have GE400 := n4_; have NB396_400 := n5_; have NB400_396 := n6_; clear n0_ n1_ n2_ n3_ n4_ n5_ n6_; clear hb hbox hg; have hnb56 := NB400_396.out; have hnc56 := NB396_400.out; have hcz57_0 : w55.cell? ⟨gb400, 0, none⟩ = some (.string (⟨#[]⟩ : ByteArray)) := (blk_cell BK400.out 0).trans rfl; have hcz57_1 : w55.cell? ⟨gb400, 1, none⟩ = some (.int .i64 0) := (blk_cell BK400.out 1).trans rfl; have hfz57_0 := blk_frozen BK400.out 0; have hfz57_1 := blk_frozen BK400.out 1) | (go_at_call 158; (with_reducible refine (impl_TreeWord.calls k1 ((rd_T77 l0_3 x43_1).f0) false _ A26.out).mono ?_); rintro e w' ⟨rfl, ⟨nd, rfl⟩⟩; (try first | exact ⟨rfl, _, World.drewN_drewN _ _ _⟩ | exact ⟨rfl, _, Eq.trans (World.drewN_drewN _ _ _) (congrArg (World.drewN _) (Nat.add_assoc _ _ _))⟩)))
                      repeat (go_quiet (first | ((with_reducible refine gate_dst (N := 4) rfl ?_); (try (refine gate_guard (by rfl) ?_; dsimp only)); refine box_event ?hg (N := 4) ?hd (cs := #[.string (⟨#[]⟩ : ByteArray), .int .i64 0]) (t := 77) ?hr ?_; (case hd => rfl); (case hg => rfl); (case hr => first | (go_simp; done) | (go_simp; rfl)); intro gb400 hg w55 hbox hb; have n0_ := Aside0.mk (blk_below (g := gb396) (o := .cells #[.int .i64 a0_0, .int .i64 a0_1, .string a0_2, .slice (some ad399) l0_3.length c0_3] 69 (0, 0)) (by (with_reducible repeat (first | refine blk_drewN ?_ _ | refine blk_drew ?_ | refine blk_alloc ?_ _)); exact BK396.out) hb); have n1_ := Aside0.mk (below_step (by repeat (first | (with_reducible first | exact HB.out | apply below_alloc | apply pw_below_drewN | apply below_drew1 | refine below_set ?_ GE396.out) | exact HB.out)) hb); have n2_ := Aside0.mk (hbox); have n3_ := Aside0.mk ((by rw [hg]; exact (below_size (by repeat (first | (with_reducible first | exact HB.out | apply below_alloc | apply pw_below_drewN | apply below_drew1 | refine below_set ?_ GE396.out) | exact HB.out))) : w.heap.size ≤ gb400)); have n4_ := Aside0.mk ((by rw [hg]; exact (below_size (by repeat (first | (with_reducible first | exact HB.out | apply below_alloc | apply pw_below_drewN | apply below_drew1 | refine below_set ?_ GE396.out) | exact HB.out))) : w.heap.size ≤ gb400)); have n5_ := Aside0.mk ((by rw [hg]; exact Nat.ne_of_lt (blk_lt (g := gb396) (o := .cells #[.int .i64 a0_0, .int .i64 a0_1, .string a0_2, .slice (some ad399) l0_3.length c0_3] 69 (0, 0)) (by (with_reducible repeat (first | refine blk_drewN ?_ _ | refine blk_drew ?_ | refine blk_alloc ?_ _)); exact BK396.out)) : gb396 ≠ gb400)); have n6_ := Aside0.mk ((by rw [hg]; exact Nat.ne_of_gt (blk_lt (g := gb396) (o := .cells #[.int .i64 a0_0, .int .i64 a0_1, .string a0_2, .slice (some ad399) l0_3.length c0_3] 69 (0, 0)) (by (with_reducible repeat (first | refine blk_drewN ?_ _ | refine blk_drew ?_ | refine blk_alloc ?_ _)); exact BK396.out)) : gb400 ≠ gb396)); clear BK396; clear HB; have BK396 := n0_; have HB := n1_; have BK400 := n2_; have GW400 := n3_; have GE400 := n4_; have NB396_400 := n5_; have NB400_396 := n6_; clear n0_ n1_ n2_ n3_ n4_ n5_ n6_; clear hb hbox hg; have hnb56 := NB400_396.out; have hnc56 := NB396_400.out; have hcz57_0 : w55.cell? ⟨gb400, 0, none⟩ = some (.string (⟨#[]⟩ : ByteArray)) := (blk_cell BK400.out 0).trans rfl; have hcz57_1 : w55.cell? ⟨gb400, 1, none⟩ = some (.int .i64 0) := (blk_cell BK400.out 1).trans rfl; have hfz57_0 := blk_frozen BK400.out 0; have hfz57_1 := blk_frozen BK400.out 1) | (go_at_call 158; (with_reducible refine (impl_TreeWord.calls k1 ((rd_T77 l0_3 x43_1).f0) false _ A26.out).mono ?_); rintro e w' ⟨rfl, ⟨nd, rfl⟩⟩; (try first | exact ⟨rfl, _, World.drewN_drewN _ _ _⟩ | exact ⟨rfl, _, Eq.trans (World.drewN_drewN _ _ _) (congrArg (World.drewN _) (Nat.add_assoc _ _ _))⟩))); try go_wp2_with (first | ((with_reducible refine gate_dst (N := 4) rfl ?_); (try (refine gate_guard (by rfl) ?_; dsimp only)); refine box_event ?hg (N := 4) ?hd (cs := #[.string (⟨#[]⟩ : ByteArray), .int .i64 0]) (t := 77) ?hr ?_; (case hd => rfl); (case hg => rfl); (case hr => first | (go_simp; done) | (go_simp; rfl)); intro gb400 hg w55 hbox hb; have n0_ := Aside0.mk (blk_below (g := gb396) (o := .cells #[.int .i64 a0_0, .int .i64 a0_1, .string a0_2, .slice (some ad399) l0_3.length c0_3] 69 (0, 0)) (by (with_reducible repeat (first | refine blk_drewN ?_ _ | refine blk_drew ?_ | refine blk_alloc ?_ _)); exact BK396.out) hb); have n1_ := Aside0.mk (below_step (by repeat (first | (with_reducible first | exact HB.out | apply below_alloc | apply pw_below_drewN | apply below_drew1 | refine below_set ?_ GE396.out) | exact HB.out)) hb); have n2_ := Aside0.mk (hbox); have n3_ := Aside0.mk ((by rw [hg]; exact (below_size (by repeat (first | (with_reducible first | exact HB.out | apply below_alloc | apply pw_below_drewN | apply below_drew1 | refine below_set ?_ GE396.out) | exact HB.out))) : w.heap.size ≤ gb400)); have n4_ := Aside0.mk ((by rw [hg]; exact (below_size (by repeat (first | (with_reducible first | exact HB.out | apply below_alloc | apply pw_below_drewN | apply below_drew1 | refine below_set ?_ GE396.out) | exact HB.out))) : w.heap.size ≤ gb400)); have n5_ := Aside0.mk ((by rw [hg]; exact Nat.ne_of_lt (blk_lt (g := gb396) (o := .cells #[.int .i64 a0_0, .int .i64 a0_1, .string a0_2, .slice (some ad399) l0_3.length c0_3] 69 (0, 0)) (by (with_reducible repeat (first | refine blk_drewN ?_ _ | refine blk_drew ?_ | refine blk_alloc ?_ _)); exact BK396.out)) : gb396 ≠ gb400)); have n6_ := Aside0.mk ((by rw [hg]; exact Nat.ne_of_gt (blk_lt (g := gb396) (o := .cells #[.int .i64 a0_0, .int .i64 a0_1, .string a0_2, .slice (some ad399) l0_3.length c0_3] 69 (0, 0)) (by (with_reducible repeat (first | refine blk_drewN ?_ _ | refine blk_drew ?_ | refine blk_alloc ?_ _)); exact BK396.out)) : gb400 ≠ gb396)); clear BK396; clear HB; have BK396 := n0_; have HB := n1_; have BK400 := n2_; have GW400 := n3_; have GE400 := n4_; have NB396_400 := n5_; have NB400_396 := n6_; clear n0_ n1_ n2_ n3_ n4_ n5_ n6_; clear hb hbox hg; have hnb56 := NB400_396.out; have hnc56 := NB396_400.out; have hcz57_0 : w55.cell? ⟨gb400, 0, none⟩ = some (.string (⟨#[]⟩ : ByteArray)) := (blk_cell BK400.out 0).trans rfl; have hcz57_1 : w55.cell? ⟨gb400, 1, none⟩ = some (.int .i64 0) := (blk_cell BK400.out 1).trans rfl; have hfz57_0 := blk_frozen BK400.out 0; have hfz57_1 := blk_frozen BK400.out 1) | (go_at_call 158; (with_reducible refine (impl_TreeWord.calls k1 ((rd_T77 l0_3 x43_1).f0) false _ A26.out).mono ?_); rintro e w' ⟨rfl, ⟨nd, rfl⟩⟩; (try first | exact ⟨rfl, _, World.drewN_drewN _ _ _⟩ | exact ⟨rfl, _, Eq.trans (World.drewN_drewN _ _ _) (congrArg (World.drewN _) (Nat.add_assoc _ _ _))⟩))))
                      go_ret
                      exact ⟨by first | rfl | (simp [errW_none, errW_some] <;> rfl) | (simp [*, errW_none, errW_some] <;> rfl), by repeat (first | (with_reducible first | exact HB.out | apply below_alloc | apply pw_below_drewN | apply below_drew1 | refine below_set ?_ GE396.out | refine below_set ?_ GE400.out) | exact HB.out)⟩
                  · rw [if_neg c25] at H
                    exact absurd H (by simp)
                · rw [if_neg c24] at H
                  exact absurd H (by simp)
              · rw [if_neg c23] at H
                have c23b0 : decide (x43_1 < (l0_3.length : Int)) = false := decide_eq_false c23
                clear c23
                by_cases c58 : a0_1 > 0
                · rw [if_pos c58] at H
                  have c58b0 : decide (0 < a0_1) = true := decide_eq_true c58
                  clear c58
                  obtain rfl := Option.some.inj H
                  have hcz59_0 : wr.cell? ⟨gb396, 0, none⟩ = some (.int .i64 a0_0) := (blk_cell BK396.out 0).trans rfl
                  have hcz59_1 : wr.cell? ⟨gb396, 1, none⟩ = some (.int .i64 a0_1) := (blk_cell BK396.out 1).trans rfl
                  have hcz59_2 : wr.cell? ⟨gb396, 2, none⟩ = some (.string a0_2) := (blk_cell BK396.out 2).trans rfl
                  have hcz59_3 : wr.cell? ⟨gb396, 3, none⟩ = some (.slice A0_3 l0_3.length c0_3) := (blk_cell BK396.out 3).trans rfl
                  have hfz59_0 := blk_frozen BK396.out 0
                  have hfz59_1 := blk_frozen BK396.out 1
                  have hfz59_2 := blk_frozen BK396.out 2
                  have hfz59_3 := blk_frozen BK396.out 3
                  go_wp2
                  repeat (go_quiet (fail); try go_wp2)
                  go_ret
                  exact ⟨by first | rfl | (simp [errW_none, errW_some] <;> rfl) | (simp [*, errW_none, errW_some] <;> rfl), by repeat (first | (with_reducible first | exact HB.out | apply below_alloc | apply pw_below_drewN | apply below_drew1 | refine below_set ?_ GE396.out) | exact HB.out)⟩
                · rw [if_neg c58] at H
                  have c58b0 : decide (0 < a0_1) = false := decide_eq_false c58
                  clear c58
                  obtain rfl := Option.some.inj H
                  have hcz60_0 : wr.cell? ⟨gb396, 0, none⟩ = some (.int .i64 a0_0) := (blk_cell BK396.out 0).trans rfl
                  have hcz60_1 : wr.cell? ⟨gb396, 1, none⟩ = some (.int .i64 a0_1) := (blk_cell BK396.out 1).trans rfl
                  have hcz60_2 : wr.cell? ⟨gb396, 2, none⟩ = some (.string a0_2) := (blk_cell BK396.out 2).trans rfl
                  have hcz60_3 : wr.cell? ⟨gb396, 3, none⟩ = some (.slice A0_3 l0_3.length c0_3) := (blk_cell BK396.out 3).trans rfl
                  have hfz60_0 := blk_frozen BK396.out 0
                  have hfz60_1 := blk_frozen BK396.out 1
                  have hfz60_2 := blk_frozen BK396.out 2
                  have hfz60_3 := blk_frozen BK396.out 3
                  go_wp2
                  repeat (go_quiet (fail); try go_wp2)
                  go_ret
                  exact ⟨by first | rfl | (simp [errW_none, errW_some] <;> rfl) | (simp [*, errW_none, errW_some] <;> rfl), by repeat (first | (with_reducible first | exact HB.out | apply below_alloc | apply pw_below_drewN | apply below_drew1 | refine below_set ?_ GE396.out) | exact HB.out)⟩
        · rw [if_neg c20] at H
          have c20b0 : (a0_0 == 2) = false := beq_eq_false_iff_ne.mpr c20
          have c20b1 : (a0_0 != 2) = true := bne_iff_ne.mpr c20
          obtain rfl := Option.some.inj H
          go_enter Try.func105, Try.ntmps105
          go_wp2_with (first | ((with_reducible refine gate_dst (N := 1) rfl ?_); (try (refine gate_guard (by rfl) ?_; dsimp only)); refine box_event ?hg (N := 1) ?hd (cs := #[.int .i64 a0_0, .int .i64 a0_1, .string a0_2, .slice A0_3 l0_3.length c0_3]) (t := 69) ?hr ?_; (case hd => rfl); (case hg => rfl); (case hr => first | (go_simp; done) | (go_simp; rfl)); intro gb396 hg w61 hbox hb; have n0_ := Aside0.mk (below_step (by repeat (first | (with_reducible first | exact HB.out | apply below_alloc | apply pw_below_drewN | apply below_drew1) | exact HB.out)) hb); have n1_ := Aside0.mk (hbox); have n2_ := Aside0.mk ((by rw [hg]; exact (below_size (by repeat (first | (with_reducible first | exact HB.out | apply below_alloc | apply pw_below_drewN | apply below_drew1) | exact HB.out))) : w.heap.size ≤ gb396)); have n3_ := Aside0.mk ((by rw [hg]; exact (below_size (by repeat (first | (with_reducible first | exact HB.out | apply below_alloc | apply pw_below_drewN | apply below_drew1) | exact HB.out))) : w.heap.size ≤ gb396)); clear HB; have HB := n0_; have BK396 := n1_; have GW396 := n2_; have GE396 := n3_; clear n0_ n1_ n2_ n3_; clear hb hbox hg; have hcz62_0 : w61.cell? ⟨gb396, 0, none⟩ = some (.int .i64 a0_0) := (blk_cell BK396.out 0).trans rfl; have hcz62_1 : w61.cell? ⟨gb396, 1, none⟩ = some (.int .i64 a0_1) := (blk_cell BK396.out 1).trans rfl; have hcz62_2 : w61.cell? ⟨gb396, 2, none⟩ = some (.string a0_2) := (blk_cell BK396.out 2).trans rfl; have hcz62_3 : w61.cell? ⟨gb396, 3, none⟩ = some (.slice A0_3 l0_3.length c0_3) := (blk_cell BK396.out 3).trans rfl; have hfz62_0 := blk_frozen BK396.out 0; have hfz62_1 := blk_frozen BK396.out 1; have hfz62_2 := blk_frozen BK396.out 2; have hfz62_3 := blk_frozen BK396.out 3) | (go_at_call 115; (with_reducible refine (impl_in.calls a0_1 0 1000000 true _ A2.out).mono ?_); rintro e w' ⟨rfl, ⟨nd, rfl⟩⟩; (try first | exact ⟨rfl, _, World.drewN_drewN _ _ _⟩ | exact ⟨rfl, _, Eq.trans (World.drewN_drewN _ _ _) (congrArg (World.drewN _) (Nat.add_assoc _ _ _))⟩)))
          repeat (go_quiet (first | ((with_reducible refine gate_dst (N := 1) rfl ?_); (try (refine gate_guard (by rfl) ?_; dsimp only)); refine box_event ?hg (N := 1) ?hd (cs := #[.int .i64 a0_0, .int .i64 a0_1, .string a0_2, .slice A0_3 l0_3.length c0_3]) (t := 69) ?hr ?_; (case hd => rfl); (case hg => rfl); (case hr => first | (go_simp; done) | (go_simp; rfl)); intro gb396 hg w61 hbox hb; have n0_ := Aside0.mk (below_step (by repeat (first | (with_reducible first | exact HB.out | apply below_alloc | apply pw_below_drewN | apply below_drew1) | exact HB.out)) hb); have n1_ := Aside0.mk (hbox); have n2_ := Aside0.mk ((by rw [hg]; exact (below_size (by repeat (first | (with_reducible first | exact HB.out | apply below_alloc | apply pw_below_drewN | apply below_drew1) | exact HB.out))) : w.heap.size ≤ gb396)); have n3_ := Aside0.mk ((by rw [hg]; exact (below_size (by repeat (first | (with_reducible first | exact HB.out | apply below_alloc | apply pw_below_drewN | apply below_drew1) | exact HB.out))) : w.heap.size ≤ gb396)); clear HB; have HB := n0_; have BK396 := n1_; have GW396 := n2_; have GE396 := n3_; clear n0_ n1_ n2_ n3_; clear hb hbox hg; have hcz62_0 : w61.cell? ⟨gb396, 0, none⟩ = some (.int .i64 a0_0) := (blk_cell BK396.out 0).trans rfl; have hcz62_1 : w61.cell? ⟨gb396, 1, none⟩ = some (.int .i64 a0_1) := (blk_cell BK396.out 1).trans rfl; have hcz62_2 : w61.cell? ⟨gb396, 2, none⟩ = some (.string a0_2) := (blk_cell BK396.out 2).trans rfl; have hcz62_3 : w61.cell? ⟨gb396, 3, none⟩ = some (.slice A0_3 l0_3.length c0_3) := (blk_cell BK396.out 3).trans rfl; have hfz62_0 := blk_frozen BK396.out 0; have hfz62_1 := blk_frozen BK396.out 1; have hfz62_2 := blk_frozen BK396.out 2; have hfz62_3 := blk_frozen BK396.out 3) | (go_at_call 115; (with_reducible refine (impl_in.calls a0_1 0 1000000 true _ A2.out).mono ?_); rintro e w' ⟨rfl, ⟨nd, rfl⟩⟩; (try first | exact ⟨rfl, _, World.drewN_drewN _ _ _⟩ | exact ⟨rfl, _, Eq.trans (World.drewN_drewN _ _ _) (congrArg (World.drewN _) (Nat.add_assoc _ _ _))⟩))); try go_wp2_with (first | ((with_reducible refine gate_dst (N := 1) rfl ?_); (try (refine gate_guard (by rfl) ?_; dsimp only)); refine box_event ?hg (N := 1) ?hd (cs := #[.int .i64 a0_0, .int .i64 a0_1, .string a0_2, .slice A0_3 l0_3.length c0_3]) (t := 69) ?hr ?_; (case hd => rfl); (case hg => rfl); (case hr => first | (go_simp; done) | (go_simp; rfl)); intro gb396 hg w61 hbox hb; have n0_ := Aside0.mk (below_step (by repeat (first | (with_reducible first | exact HB.out | apply below_alloc | apply pw_below_drewN | apply below_drew1) | exact HB.out)) hb); have n1_ := Aside0.mk (hbox); have n2_ := Aside0.mk ((by rw [hg]; exact (below_size (by repeat (first | (with_reducible first | exact HB.out | apply below_alloc | apply pw_below_drewN | apply below_drew1) | exact HB.out))) : w.heap.size ≤ gb396)); have n3_ := Aside0.mk ((by rw [hg]; exact (below_size (by repeat (first | (with_reducible first | exact HB.out | apply below_alloc | apply pw_below_drewN | apply below_drew1) | exact HB.out))) : w.heap.size ≤ gb396)); clear HB; have HB := n0_; have BK396 := n1_; have GW396 := n2_; have GE396 := n3_; clear n0_ n1_ n2_ n3_; clear hb hbox hg; have hcz62_0 : w61.cell? ⟨gb396, 0, none⟩ = some (.int .i64 a0_0) := (blk_cell BK396.out 0).trans rfl; have hcz62_1 : w61.cell? ⟨gb396, 1, none⟩ = some (.int .i64 a0_1) := (blk_cell BK396.out 1).trans rfl; have hcz62_2 : w61.cell? ⟨gb396, 2, none⟩ = some (.string a0_2) := (blk_cell BK396.out 2).trans rfl; have hcz62_3 : w61.cell? ⟨gb396, 3, none⟩ = some (.slice A0_3 l0_3.length c0_3) := (blk_cell BK396.out 3).trans rfl; have hfz62_0 := blk_frozen BK396.out 0; have hfz62_1 := blk_frozen BK396.out 1; have hfz62_2 := blk_frozen BK396.out 2; have hfz62_3 := blk_frozen BK396.out 3) | (go_at_call 115; (with_reducible refine (impl_in.calls a0_1 0 1000000 true _ A2.out).mono ?_); rintro e w' ⟨rfl, ⟨nd, rfl⟩⟩; (try first | exact ⟨rfl, _, World.drewN_drewN _ _ _⟩ | exact ⟨rfl, _, Eq.trans (World.drewN_drewN _ _ _) (congrArg (World.drewN _) (Nat.add_assoc _ _ _))⟩))))
          go_ret
          exact ⟨by first | rfl | (simp [errW_none, errW_some] <;> rfl) | (simp [*, errW_none, errW_some] <;> rfl), by repeat (first | (with_reducible first | exact HB.out | apply below_alloc | apply pw_below_drewN | apply below_drew1 | refine below_set ?_ GE396.out) | exact HB.out)⟩
  · replace c3 := Bool.eq_false_iff.mpr c3
    subst c3
    have H1 : (some false) = some r := by rw [if_neg (show ¬ (false = true) by decide)] at H; exact H
    clear H
    have H := H1
    clear H1
    obtain rfl := Option.some.inj H
    go_enter Try.func105, Try.ntmps105
    go_wp2_with (first | ((with_reducible refine gate_dst (N := 1) rfl ?_); (try (refine gate_guard (by rfl) ?_; dsimp only)); refine box_event ?hg (N := 1) ?hd (cs := #[.int .i64 a0_0, .int .i64 a0_1, .string a0_2, .slice A0_3 l0_3.length c0_3]) (t := 69) ?hr ?_; (case hd => rfl); (case hg => rfl); (case hr => first | (go_simp; done) | (go_simp; rfl)); intro gb396 hg w63 hbox hb; have n0_ := Aside0.mk (below_step (by repeat (first | (with_reducible first | exact HB.out | apply below_alloc | apply pw_below_drewN | apply below_drew1) | exact HB.out)) hb); have n1_ := Aside0.mk (hbox); have n2_ := Aside0.mk ((by rw [hg]; exact (below_size (by repeat (first | (with_reducible first | exact HB.out | apply below_alloc | apply pw_below_drewN | apply below_drew1) | exact HB.out))) : w.heap.size ≤ gb396)); have n3_ := Aside0.mk ((by rw [hg]; exact (below_size (by repeat (first | (with_reducible first | exact HB.out | apply below_alloc | apply pw_below_drewN | apply below_drew1) | exact HB.out))) : w.heap.size ≤ gb396)); clear HB; have HB := n0_; have BK396 := n1_; have GW396 := n2_; have GE396 := n3_; clear n0_ n1_ n2_ n3_; clear hb hbox hg; have hcz64_0 : w63.cell? ⟨gb396, 0, none⟩ = some (.int .i64 a0_0) := (blk_cell BK396.out 0).trans rfl; have hcz64_1 : w63.cell? ⟨gb396, 1, none⟩ = some (.int .i64 a0_1) := (blk_cell BK396.out 1).trans rfl; have hcz64_2 : w63.cell? ⟨gb396, 2, none⟩ = some (.string a0_2) := (blk_cell BK396.out 2).trans rfl; have hcz64_3 : w63.cell? ⟨gb396, 3, none⟩ = some (.slice A0_3 l0_3.length c0_3) := (blk_cell BK396.out 3).trans rfl; have hfz64_0 := blk_frozen BK396.out 0; have hfz64_1 := blk_frozen BK396.out 1; have hfz64_2 := blk_frozen BK396.out 2; have hfz64_3 := blk_frozen BK396.out 3) | (go_at_call 115; (with_reducible refine (impl_in.calls a0_1 0 1000000 false _ A2.out).mono ?_); rintro e w' ⟨rfl, ⟨nd, rfl⟩⟩; (try first | exact ⟨rfl, _, World.drewN_drewN _ _ _⟩ | exact ⟨rfl, _, Eq.trans (World.drewN_drewN _ _ _) (congrArg (World.drewN _) (Nat.add_assoc _ _ _))⟩)))
    repeat (go_quiet (first | ((with_reducible refine gate_dst (N := 1) rfl ?_); (try (refine gate_guard (by rfl) ?_; dsimp only)); refine box_event ?hg (N := 1) ?hd (cs := #[.int .i64 a0_0, .int .i64 a0_1, .string a0_2, .slice A0_3 l0_3.length c0_3]) (t := 69) ?hr ?_; (case hd => rfl); (case hg => rfl); (case hr => first | (go_simp; done) | (go_simp; rfl)); intro gb396 hg w63 hbox hb; have n0_ := Aside0.mk (below_step (by repeat (first | (with_reducible first | exact HB.out | apply below_alloc | apply pw_below_drewN | apply below_drew1) | exact HB.out)) hb); have n1_ := Aside0.mk (hbox); have n2_ := Aside0.mk ((by rw [hg]; exact (below_size (by repeat (first | (with_reducible first | exact HB.out | apply below_alloc | apply pw_below_drewN | apply below_drew1) | exact HB.out))) : w.heap.size ≤ gb396)); have n3_ := Aside0.mk ((by rw [hg]; exact (below_size (by repeat (first | (with_reducible first | exact HB.out | apply below_alloc | apply pw_below_drewN | apply below_drew1) | exact HB.out))) : w.heap.size ≤ gb396)); clear HB; have HB := n0_; have BK396 := n1_; have GW396 := n2_; have GE396 := n3_; clear n0_ n1_ n2_ n3_; clear hb hbox hg; have hcz64_0 : w63.cell? ⟨gb396, 0, none⟩ = some (.int .i64 a0_0) := (blk_cell BK396.out 0).trans rfl; have hcz64_1 : w63.cell? ⟨gb396, 1, none⟩ = some (.int .i64 a0_1) := (blk_cell BK396.out 1).trans rfl; have hcz64_2 : w63.cell? ⟨gb396, 2, none⟩ = some (.string a0_2) := (blk_cell BK396.out 2).trans rfl; have hcz64_3 : w63.cell? ⟨gb396, 3, none⟩ = some (.slice A0_3 l0_3.length c0_3) := (blk_cell BK396.out 3).trans rfl; have hfz64_0 := blk_frozen BK396.out 0; have hfz64_1 := blk_frozen BK396.out 1; have hfz64_2 := blk_frozen BK396.out 2; have hfz64_3 := blk_frozen BK396.out 3) | (go_at_call 115; (with_reducible refine (impl_in.calls a0_1 0 1000000 false _ A2.out).mono ?_); rintro e w' ⟨rfl, ⟨nd, rfl⟩⟩; (try first | exact ⟨rfl, _, World.drewN_drewN _ _ _⟩ | exact ⟨rfl, _, Eq.trans (World.drewN_drewN _ _ _) (congrArg (World.drewN _) (Nat.add_assoc _ _ _))⟩))); try go_wp2_with (first | ((with_reducible refine gate_dst (N := 1) rfl ?_); (try (refine gate_guard (by rfl) ?_; dsimp only)); refine box_event ?hg (N := 1) ?hd (cs := #[.int .i64 a0_0, .int .i64 a0_1, .string a0_2, .slice A0_3 l0_3.length c0_3]) (t := 69) ?hr ?_; (case hd => rfl); (case hg => rfl); (case hr => first | (go_simp; done) | (go_simp; rfl)); intro gb396 hg w63 hbox hb; have n0_ := Aside0.mk (below_step (by repeat (first | (with_reducible first | exact HB.out | apply below_alloc | apply pw_below_drewN | apply below_drew1) | exact HB.out)) hb); have n1_ := Aside0.mk (hbox); have n2_ := Aside0.mk ((by rw [hg]; exact (below_size (by repeat (first | (with_reducible first | exact HB.out | apply below_alloc | apply pw_below_drewN | apply below_drew1) | exact HB.out))) : w.heap.size ≤ gb396)); have n3_ := Aside0.mk ((by rw [hg]; exact (below_size (by repeat (first | (with_reducible first | exact HB.out | apply below_alloc | apply pw_below_drewN | apply below_drew1) | exact HB.out))) : w.heap.size ≤ gb396)); clear HB; have HB := n0_; have BK396 := n1_; have GW396 := n2_; have GE396 := n3_; clear n0_ n1_ n2_ n3_; clear hb hbox hg; have hcz64_0 : w63.cell? ⟨gb396, 0, none⟩ = some (.int .i64 a0_0) := (blk_cell BK396.out 0).trans rfl; have hcz64_1 : w63.cell? ⟨gb396, 1, none⟩ = some (.int .i64 a0_1) := (blk_cell BK396.out 1).trans rfl; have hcz64_2 : w63.cell? ⟨gb396, 2, none⟩ = some (.string a0_2) := (blk_cell BK396.out 2).trans rfl; have hcz64_3 : w63.cell? ⟨gb396, 3, none⟩ = some (.slice A0_3 l0_3.length c0_3) := (blk_cell BK396.out 3).trans rfl; have hfz64_0 := blk_frozen BK396.out 0; have hfz64_1 := blk_frozen BK396.out 1; have hfz64_2 := blk_frozen BK396.out 2; have hfz64_3 := blk_frozen BK396.out 3) | (go_at_call 115; (with_reducible refine (impl_in.calls a0_1 0 1000000 false _ A2.out).mono ?_); rintro e w' ⟨rfl, ⟨nd, rfl⟩⟩; (try first | exact ⟨rfl, _, World.drewN_drewN _ _ _⟩ | exact ⟨rfl, _, Eq.trans (World.drewN_drewN _ _ _) (congrArg (World.drewN _) (Nat.add_assoc _ _ _))⟩))))
    go_ret
    exact ⟨by first | rfl | (simp [errW_none, errW_some] <;> rfl) | (simp [*, errW_none, errW_some] <;> rfl), by repeat (first | (with_reducible first | exact HB.out | apply below_alloc | apply pw_below_drewN | apply below_drew1 | refine below_set ?_ GE396.out) | exact HB.out)⟩
end Go.Proofs.Ytlaichooanflaaa.Q
namespace Go.Proofs.Ytlaichooanflaaa.Q
open Go.RowKit Go.Proofs.YtlaichooanflaaaW.PrintWords Go.Proofs.YtlaichooanflaaaW.PrintLast Go.Proofs.YtlaichooanflaaaW.PrintMore
attribute [local go_sem] Go.Proofs.Ytlaichooanflaaa.Mem.str_leq Go.Proofs.Ytlaichooanflaaa.Mem.str_gtr Go.Proofs.Ytlaichooanflaaa.Mem.str_geq max2_int min2_int max_two min_two max_three min_three max_four min_four   -- for this text's walks alone
set_option linter.unusedVariables false
set_option linter.unusedSimpArgs false
mutual
def impl_walk.f : Nat → List (S69) → Int → List Int → Int → Option (List Int)
  | 0, _, _, _, _ => none
  | k + 1, l, i, out, deep => if out.length < 17592186044416 then (if deep > 32 then some (out ++ [i]) else (if 0 ≤ i then (if i < (l.length : Int) then impl_walk.l0 k l (out ++ [i]) deep ((rd_T69 l i).f3) 0 else none) else none)) else none
def impl_walk.l0 : Nat → List (S69) → List Int → Int → List (S77) → Int → Option (List Int)
  | 0, _, _, _, _, _ => none
  | k + 1, l, out, deep, kids, j => if j < (kids.length : Int) then (if 0 ≤ j then ((impl_walk.f k l ((rd_T77 kids j).f1) out (wrap64 (deep + 1))).bind fun o => impl_walk.l0 k l o deep kids (wrap64 (j + 1))) else none) else some out
end
set_option maxHeartbeats 8000000 in
set_option maxRecDepth 100000 in
theorem impl_walk.calls : ∀ (k : Nat) (P0_ : Nat → Prop) (A : Option Addr) (c : Nat) (l : List S69) (i : Int) (u : Value) (out : List Int) (deep : Int) (r : List Int) (w0 w : World) (hB : Below w0.heap.size w0 w) (hr : Kd.C k69 w0 A l.length l) (hc : l.length ≤ c) (ho : Kd.R (Kd.int .i64) 3 w w0.heap.size P0_ u out) (h : impl_walk.f k l i out deep = some r),
    Calls Try.prog 106 #[.agg #[.slice A l.length c], .int .i64 i, u, .int .i64 deep] w fun e w' => ∃ v : Value, e = .returned v ∧ Kd.R (Kd.int .i64) 3 w' w0.heap.size (fun k_ => P0_ k_ ∨ w.heap.size ≤ k_) v r ∧ Below w0.heap.size w0 w' ∧ Kept w w' P0_ := by
  intro k
  induction k using Nat.strongRecOn with
  | _ k ih =>
  intro P0_ A c l i u out deep r w0 w hB hr hc ho h
  cases k with
  | zero => exact absurd h (by simp [impl_walk.f])
  | succ k =>
  simp only [impl_walk.f] at h
  by_cases c0 : out.length < 17592186044416
  case neg => rw [if_neg c0] at h; cases h
  rw [if_pos c0] at h
  have hsz := hB.size
  have HO := Aside0.mk (Kd.R_alloc (Kd.R_mono (ok' := fun k_ => (P0_ k_ ∨ w.heap.size ≤ k_) ∧ k_ ≠ w.heap.size) (Kd.R_elderB ho w.heap.size (Nat.le_refl _)) (fun k_ hk => ⟨.inl hk.1, hk.2⟩)) (.cells #[.slice A l.length c] 30))
  have HB0 := Aside0.mk (hB.alloc hsz (.cells #[.slice A l.length c] 30))
  have HS := Aside0.mk hsz
  have HL := Aside0.mk (show (out.length + 1) * 8 ≤ 140737488355328 by omega)
  have HC := Aside0.mk hr
  have HCC := Aside0.mk hc
  have HH := Aside0.mk h
  have HU := Aside0.mk (Kd.R_lt ho)
  have HKB := Aside0.mk (show ∀ k_, u.ownBlock = some k_ → P0_ k_ from ho.1)
  clear hB hr hc ho h hsz c0
  by_cases c1 : deep > 32
  · have hres : r = out ++ [i] := by have := HH.out; rw [if_pos c1] at this; exact (Option.some.inj this).symm
    have HR := Aside0.mk hres
    clear HH hres
    have d1 : decide (deep > 32) = true := decide_eq_true c1
    have d2 : decide (32 < deep) = true := decide_eq_true c1
    go_enter Try.func106, Try.ntmps106
    go_wp2_with ((with_reducible refine gate_dst (N := 14) rfl ?_); refine Kd.R_append (Kd.int .i64) (w0 := w0) w0.heap.size rfl (.tmp 11) (.tmp 13) 86 3 (.int .i64 0) 8 rfl Try.underlying86 info3 rfl (by decide) (by omega) u out i [.int .i64 i] (fun k_ => (P0_ k_ ∨ w.heap.size ≤ k_) ∧ k_ ≠ w.heap.size) (fun _ => False) rfl (by rw [World.size_alloc]; rfl) rfl (fun _ hk => hk.elim) (fun k_ hk => by simp only [World.size_alloc] at hk; exact ⟨.inr (by omega), by omega⟩) HO.out HB0.out (by have := HS.out; simp only [World.size_alloc]; omega) HL.out ?_; intro v1 w1 ho hb hg hat; have HO1 := Aside0.mk ho; have HB1 := Aside0.mk hb; have HG1 := Aside0.mk hg; clear ho hb hg hat)
    go_ret
    exact ⟨_, rfl, by rw [HR.out]; exact Kd.R_mono HO1.out (fun k_ hk => hk.1), HB1.out, (Kept.of_grown HG1.out ((Kept.refl w P0_).alloc _) (fun k_ hk => .inl (HKB.out k_ hk)))⟩
  · have hh := HH.out
    rw [if_neg c1] at hh
    by_cases i0 : 0 ≤ i
    case neg => rw [if_neg i0] at hh; cases hh
    rw [if_pos i0] at hh
    by_cases i1 : i < (l.length : Int)
    case neg => rw [if_neg i1] at hh; cases hh
    rw [if_pos i1] at hh
    have HF := Aside0.mk hh
    obtain ⟨ad, A3, c3, e0, y0, y1, y2, y3, hl3, hi3⟩ := at_T69 HC.out i i0 i1
    have HAD := Aside0.mk e0
    have HY := Aside0.mk y3
    have HI3 := Aside0.mk hi3
    have HL3 := Aside0.mk hl3
    subst e0
    clear HH hh y0 y1 y2 y3 hi3 hl3
    obtain ⟨kids, hkids⟩ : ∃ q, q = (rd_T69 l i).f3 := ⟨_, rfl⟩
    rw [← hkids] at HF HY HI3 HL3
    clear hkids
    have d1 : decide (deep > 32) = false := decide_eq_false c1
    have d2 : decide (32 < deep) = false := decide_eq_false c1
    have di0 : decide (0 ≤ i) = true := decide_eq_true i0
    have di1 : decide (i < (l.length : Int)) = true := decide_eq_true i1
    go_enter Try.func106, Try.ntmps106
    go_wp2_with ((with_reducible refine gate_dst (N := 14) rfl ?_); refine Kd.R_append (Kd.int .i64) (w0 := w0) w0.heap.size rfl (.tmp 11) (.tmp 13) 86 3 (.int .i64 0) 8 rfl Try.underlying86 info3 rfl (by decide) (by omega) u out i [.int .i64 i] (fun k_ => (P0_ k_ ∨ w.heap.size ≤ k_) ∧ k_ ≠ w.heap.size) (fun _ => False) rfl (by rw [World.size_alloc]; rfl) rfl (fun _ hk => hk.elim) (fun k_ hk => by simp only [World.size_alloc] at hk; exact ⟨.inr (by omega), by omega⟩) HO.out HB0.out (by have := HS.out; simp only [World.size_alloc]; omega) HL.out ?_; intro v1 w1 ho hb hg hat; have HO1 := Aside0.mk ho; have HB1 := Aside0.mk hb; have HG1 := Aside0.mk hg; have hcz : w1.cell? ⟨w.heap.size, 0, none⟩ = some (.slice (some ad) l.length c) := (by rw [blk_cell (blk_grown (blk_new w _) hg (fun e => by have := HU.out _ e.symm; omega)) 0]; rfl); have hy3 := pw_cell_below hb HY.out; clear ho hb hg hat)
    have HBX := Aside0.mk (show w1.heap[w.heap.size]? = some (.cells #[.slice (some ad) l.length c] 30 (0, 0)) from blk_grown (blk_new w _) HG1.out (fun e => by have := HU.out _ e.symm; omega))
    have HKP := Aside0.mk (show Kept w w1 P0_ from Kept.of_grown HG1.out ((Kept.refl w P0_).alloc _) (fun k_ hk => .inl (HKB.out k_ hk)))
    clear hcz hy3 HG1 HO HB0
    go_loopg [2, 25] k (fun m v2 v25 w' => ∃ (o : List Int) (j : Int), v25 = .int .i64 j ∧ Aside0 (impl_walk.l0 m l o deep kids j = some r) ∧ Aside0 (m ≤ k) ∧ Aside0 (Kd.R (Kd.int .i64) 3 w' w0.heap.size (fun k_ => (P0_ k_ ∨ w.heap.size ≤ k_) ∧ k_ ≠ w.heap.size) v2 o) ∧ Aside0 (w'.heap[w.heap.size]? = some (.cells #[.slice (some ad) l.length c] 30 (0, 0))) ∧ Aside0 (Below w0.heap.size w0 w') ∧ Aside0 (Kept w w' P0_))
    case atStart => exact ⟨out ++ [i], 0, rfl, ⟨HF.out⟩, ⟨Nat.le_refl _⟩, HO1, HBX, HB1, HKP⟩
    case round =>
      obtain ⟨o, j, rfl, HA, HM, HO, HX, HBL, HKK⟩ := hrel
      cases gk with
      | zero => exact absurd HA.out (by simp [impl_walk.l0])
      | succ k1 =>
        have hh := HA.out
        rw [impl_walk.l0] at hh
        clear HA HO1 HBX HB1 HKP
        by_cases j1 : j < (kids.length : Int)
        · rw [if_pos j1] at hh
          by_cases j0 : 0 ≤ j
          case neg => rw [if_neg j0] at hh; cases hh
          rw [if_pos j0] at hh
          obtain ⟨o1, ho1, hh⟩ := Option.bind_eq_some_iff.1 hh
          have HF1 := Aside0.mk ho1
          have HF2 := Aside0.mk hh
          clear ho1 hh
          obtain ⟨ak, e1, z0, z1⟩ := at_T77 HI3.out j j0 j1
          subst e1
          have d3 : decide (j < (kids.length : Int)) = true := decide_eq_true j1
          have d4 : decide (0 ≤ j) = true := decide_eq_true j0
          replace z0 := pw_cell_below HBL.out z0
          replace z1 := pw_cell_below HBL.out z1
          have hcz := (blk_cell HX.out 0).trans (rfl : _ = some (Value.slice (some ad) l.length c))
          have hlt := blk_lt HX.out
          have hn1 := Nat.ne_of_lt hlt
          have hn2 := Nat.ne_of_gt hlt
          go_wp2_with fail
          have HR2 := Aside0.mk (Kd.R_alloc (Kd.R_elderB HO.out wr.heap.size (Nat.le_refl _)) (.cells #[.string (rd_T77 kids j).f0, .int .i64 (rd_T77 kids j).f1] 77))
          have HK2 := Aside0.mk (HKK.out.alloc (.cells #[.string (rd_T77 kids j).f0, .int .i64 (rd_T77 kids j).f1] 77))
          refine (ih k1 (by have := HM.out; omega) _ (some ad) c l _ u2 o _ o1 w0 _ (HBL.out.alloc HBL.out.size _) HC.out HCC.out HR2.out HF1.out).mono ?_
          rintro e w2 ⟨v2, rfl, ho2, hb2, hk2⟩
          have HX2 := Aside0.mk (blk_kept (blk_alloc HX.out _) hk2 (fun h => h.1.2 rfl))
          have HKK2 := Aside0.mk (Kept.then_ HK2.out hk2 (fun k_ hk => hk.1.1))
          have HO2 := Aside0.mk (Kd.R_mono (ok' := fun k_ => (P0_ k_ ∨ w.heap.size ≤ k_) ∧ k_ ≠ w.heap.size) ho2 (fun k_ hk => by
            rcases hk with hk | hk
            · exact hk.1
            · simp only [World.size_alloc] at hk
              exact ⟨.inr (by omega), by omega⟩))
          have HB2 := Aside0.mk hb2
          clear ho2 hb2 hk2 HO HX HBL HKK HK2 HR2 z0 z1 hcz hlt hn1 hn2
          go_wp2
          go_roundg k1
          case measure => omega
          case rel => exact ⟨o1, wrap64 (j + 1), rfl, HF2, ⟨by have := HM.out; omega⟩, HO2, HX2, HB2, HKK2⟩
        · rw [if_neg j1] at hh
          have hres : r = o := (Option.some.inj hh).symm
          have HR := Aside0.mk hres
          have d3 : decide (j < (kids.length : Int)) = false := decide_eq_false j1
          clear hh hres
          go_wp2
          go_ret
          exact ⟨_, rfl, by rw [HR.out]; exact Kd.R_mono HO.out (fun k_ hk => hk.1), HBL.out, HKK.out⟩
end Go.Proofs.Ytlaichooanflaaa.Q
namespace Go.Proofs.Ytlaichooanflaaa.Q
open Go.RowKit Go.Proofs.YtlaichooanflaaaW.PrintWords Go.Proofs.YtlaichooanflaaaW.PrintLast Go.Proofs.YtlaichooanflaaaW.PrintMore
attribute [local go_sem] Go.Proofs.Ytlaichooanflaaa.Mem.str_leq Go.Proofs.Ytlaichooanflaaa.Mem.str_gtr Go.Proofs.Ytlaichooanflaaa.Mem.str_geq max2_int min2_int max_two min_two max_three min_three max_four min_four   -- for this text's walks alone
set_option linter.unusedVariables false
set_option linter.unusedSimpArgs false
/-- The ids of a directory's names, counted. -/
def okCnt : List S77 → List Int → Option (List Int)
  | [], m => some m
  | x :: xs, m => if 0 ≤ x.f1 ∧ x.f1 < 32 then okCnt xs (m.set x.f1.toNat (wrap64 (rd m x.f1 + 1))) else none
/-- All objects looked at, one by one: none, if one is not right. -/
def okAll (k : Nat) : List S69 → List Int → Option (Option (List Int))
  | [], m => some (some m)
  | x :: xs, m => (impl_objOk.f k x.f0 x.f1 x.f2 x.f3).bind fun b => if b = true then (okCnt x.f3 m).bind fun m' => okAll k xs m' else some none
/-- The counts compared. -/
def okSame (m : List Int) : Nat → List S69 → Bool
  | _, [] => true
  | i, x :: xs => if rd m (i : Int) = (if i = 0 ∨ x.f0 = 0 then 0 else 1) then okSame m (i + 1) xs else false
def okLive (l : List S69) : Nat := (l.filter fun x => decide (x.f0 ≠ 0)).length
def okRest (k : Nat) (l : List S69) : Option (List Int) → Option Bool
  | none => some false
  | some m => if okSame m 0 l = true then (impl_walk.f k l 0 [] 0).bind fun q => some (decide (q.length = okLive l)) else some false
def impl_TreeOk.f (k : Nat) (l0_0 : List (S69)) : Option Bool :=
  if l0_0.length = 32 then (if (rd_T69 l0_0 0).f0 = 2 then (okAll k l0_0 (List.replicate 32 0)).bind fun o => okRest k l0_0 o else some false) else some false
theorem okLive_le (l : List S69) : okLive l ≤ l.length := List.length_filter_le _ _
theorem okLive_take {l : List S69} {n : Nat} (h : n < l.length) : okLive (l.take (n + 1)) = okLive (l.take n) + (if (rd_T69 l (n : Int)).f0 = 0 then 0 else 1) := by
  have e : rd_T69 l (n : Int) = l[n] := by simp [rd_T69, List.getD_eq_getElem?_getD, List.getElem?_eq_getElem h]
  rw [List.take_succ_eq_append_getElem h, okLive, List.filter_append, List.length_append, e]
  by_cases c : l[n].f0 = 0 <;> simp [okLive, List.filter_cons, c]
theorem blk_num {w : World} {g t : Nat} {b : List Int} (h : w.heap[g]? = some (.cells (nums .i64 b).toArray t (0, 0))) (i : Int) (h0 : 0 ≤ i) (h1 : i < b.length) : w.cell? ⟨g, i.toNat, none⟩ = some (.int .i64 (rd b i)) := by
  rw [blk_cell h]
  simp only [nums, List.getElem?_toArray, List.getElem?_map]
  rw [List.getElem?_eq_getElem (by omega)]
  simp [rd, List.getD_eq_getElem?_getD, List.getElem?_eq_getElem (show i.toNat < b.length by omega)]
theorem blk_num_set {w : World} {g t : Nat} {b : List Int} (h : w.heap[g]? = some (.cells (nums .i64 b).toArray t (0, 0))) (i : Nat) (v : Int) : (w.setCell ⟨g, i, none⟩ (.int .i64 v)).heap[g]? = some (.cells (nums .i64 (b.set i v)).toArray t (0, 0)) := by
  rw [blk_set h]
  simp [nums, List.map_set]
set_option maxHeartbeats 8000000 in
set_option maxRecDepth 100000 in
theorem impl_TreeOk.calls (k : Nat) (A0_0 : Option Addr) (c0_0 : Nat) (l0_0 : List (S69)) (r : Bool) (w : World) (hr0_0 : Kd.C k69 w A0_0 l0_0.length l0_0) (hc0_0 : l0_0.length ≤ c0_0) (h : impl_TreeOk.f k l0_0 = some r) :
    Calls Try.prog 47 #[.agg #[.slice A0_0 l0_0.length c0_0]] w fun e w' => e = .returned (.bool r) ∧ Below w.heap.size w w' := by
  unfold impl_TreeOk.f at h
  have HC := Aside0.mk hr0_0
  have HCC := Aside0.mk hc0_0
  clear hr0_0 hc0_0
  by_cases n32 : l0_0.length = 32
  case neg =>
    rw [if_neg n32] at h
    have HR := Aside0.mk (Option.some.inj h)
    have b0 : ((l0_0.length : Int) != 32) = true := by simp; omega
    have b1 : ((l0_0.length : Int) == 32) = false := by simp; omega
    have b2 : (l0_0.length == 32) = false := by simp; omega
    have b3 : (l0_0.length != 32) = true := by simp; omega
    clear h n32
    go_enter Try.func47, Try.ntmps47
    go_wp2
    go_ret
    obtain rfl := HR.out
    exact ⟨rfl, below_alloc (Below.refl _ _) _⟩
  rw [if_pos n32] at h
  have b0 : ((l0_0.length : Int) != 32) = false := by simp; omega
  have b1 : ((l0_0.length : Int) == 32) = true := by simp; omega
  obtain ⟨ad, A3, c3, e0, y0, y1, y2, y3, hl3, hi3⟩ := at_T69 HC.out 0 (by omega) (by omega)
  have HN := Aside0.mk n32
  subst e0
  replace y0 : (w.alloc (.cells #[.slice (some ad) l0_0.length c0_0] 30)).cell? ad = some (.int .i64 (rd_T69 l0_0 0).f0) := by simpa [Addr.add] using pw_cell_below (below_alloc (Below.refl w.heap.size w) (.cells #[.slice (some ad) l0_0.length c0_0] 30)) y0
  clear y1 y2 y3 hl3 hi3 A3 c3
  by_cases r0 : (rd_T69 l0_0 0).f0 = 2
  case neg =>
    rw [if_neg r0] at h
    have HR := Aside0.mk (Option.some.inj h)
    have f0 : ((rd_T69 l0_0 0).f0 != 2) = true := by simp; omega
    have f1 : ((rd_T69 l0_0 0).f0 == 2) = false := by simp; omega
    have hl0 : (0 : Int) < (l0_0.length : Int) := by omega
    have hl1 : decide ((0 : Int) < (l0_0.length : Int)) = true := decide_eq_true hl0
    have hl2 : 0 < l0_0.length := by omega
    clear h n32 r0
    go_enter Try.func47, Try.ntmps47
    go_wp2
    go_ret
    obtain rfl := HR.out
    exact ⟨rfl, below_alloc (Below.refl _ _) _⟩
  rw [if_pos r0] at h
  obtain ⟨o, hall, hrest⟩ := Option.bind_eq_some_iff.1 h
  have HALL := Aside0.mk hall
  have HREST := Aside0.mk hrest
  have f0 : ((rd_T69 l0_0 0).f0 != 2) = false := by simp; omega
  have f1 : ((rd_T69 l0_0 0).f0 == 2) = true := by simp; omega
  have hl0 : (0 : Int) < (l0_0.length : Int) := by omega
  have hl1 : decide ((0 : Int) < (l0_0.length : Int)) = true := decide_eq_true hl0
  have hl2 : 0 < l0_0.length := by omega
  clear h hall hrest n32 r0
  go_enter Try.func47, Try.ntmps47
  go_wp2
  clear y0 f0 f1 hl0 hl1 hl2 b0 b1
  go_loopg [29] l0_0.length (fun m v29 w' => ∃ (n : Nat) (b : List Int), v29 = .int .i64 (n : Int) ∧ Aside0 (n + m = l0_0.length) ∧ Aside0 (b.length = 32) ∧ Aside0 (okAll k (l0_0.drop n) b = some o) ∧ Aside0 (w'.heap[w.heap.size]? = some (.cells #[.slice (some ad) l0_0.length c0_0] 30 (0, 0))) ∧ Aside0 (w'.heap[w.heap.size + 1]? = some (.cells (nums .i64 b).toArray 111 (0, 0))) ∧ Aside0 (Below w.heap.size w w'))
  case atStart =>
    refine ⟨0, List.replicate 32 0, rfl, ⟨Nat.zero_add _⟩, ⟨by simp⟩, ⟨HALL.out⟩, ⟨blk_alloc (blk_new w _) _⟩, ⟨?_⟩, ⟨below_alloc (below_alloc (Below.refl _ _) _) _⟩⟩
    have e := heap_alloc_new (w.alloc (.cells #[.slice (some ad) l0_0.length c0_0] 30)) (.cells (nums .i64 (List.replicate 32 0)).toArray 111)
    simp only [World.size_alloc] at e
    exact e
  case round =>
    obtain ⟨n, b, rfl, HM, HLb, HS, HX, HA, HB⟩ := hrel
    by_cases hlt : n < l0_0.length
    · cases gk with
      | zero => have := HM.out; omega
      | succ k1 =>
        have d0 : decide (n < l0_0.length) = true := decide_eq_true hlt
        have d1 : decide ((n : Int) < (l0_0.length : Int)) = true := decide_eq_true (by omega)
        obtain ⟨ad2, A3, c3, e0, z0, z1, z2, z3, hl3, hi3⟩ := at_T69 HC.out (n : Int) (by omega) (by omega)
        have hdr : l0_0.drop n = rd_T69 l0_0 (n : Int) :: l0_0.drop (n + 1) := by
          rw [List.drop_eq_getElem_cons hlt]
          simp [rd_T69, List.getD_eq_getElem?_getD, List.getElem?_eq_getElem hlt]
        have hs := HS.out
        rw [hdr, okAll] at hs
        obtain ⟨t, ht, hs⟩ := Option.bind_eq_some_iff.1 hs
        have HT := Aside0.mk ht
        have HI3 := Aside0.mk hi3
        have HL3 := Aside0.mk hl3
        have hI3 := Aside0.mk (Kd.C_below hi3 HB.out)
        have HAD := Aside0.mk e0
        obtain ⟨kids, hkids⟩ : ∃ q, q = (rd_T69 l0_0 (n : Int)).f3 := ⟨_, rfl⟩
        rw [← hkids] at HT HI3 HL3 hI3 hs z3
        clear ht hdr HS hi3 hl3 hkids
        subst_eqs
        replace z0 := pw_cell_below HB.out z0
        replace z1 := pw_cell_below HB.out z1
        replace z2 := pw_cell_below HB.out z2
        replace z3 := pw_cell_below HB.out z3
        simp only [Int.toNat_natCast] at z0 z1 z2 z3
        have hblt := blk_lt HX.out
        have hblt2 := blk_lt HA.out
        cases t with
        | false =>
          have HO := Aside0.mk (show none = o from by simpa using hs)
          clear hs
          go_wp2_with (go_at_call 105; refine (impl_objOk.calls k _ _ _ _ _ _ false _ (Kd.C_alloc hI3.out _) HL3.out HT.out).mono ?_; rintro e w1 ⟨rfl, hb1⟩)
          go_ret
          have hr := HREST.out
          rw [← HO.out, okRest] at hr
          obtain rfl := Option.some.inj hr
          exact ⟨rfl, below_step (below_alloc HB.out _) hb1⟩
        | true =>
          rw [if_pos rfl] at hs
          obtain ⟨bn, hbn, hs⟩ := Option.bind_eq_some_iff.1 hs
          have HBN := Aside0.mk hbn
          have HS := Aside0.mk hs
          clear hbn hs
          go_wp2_with (go_at_call 105; refine (impl_objOk.calls k _ _ _ _ _ _ true _ (Kd.C_alloc hI3.out _) HL3.out HT.out).mono ?_; rintro e w1 ⟨rfl, hb1⟩; have HB1 := Aside0.mk (below_step (below_alloc HB.out _) hb1); have HX1 := Aside0.mk (blk_below (blk_alloc HX.out _) hb1); have HA1 := Aside0.mk (blk_below (blk_alloc HA.out _) hb1); have HO1 := Aside0.mk (blk_below (blk_new _ _) hb1); have hz3 := (blk_cell HO1.out 3).trans (rfl : _ = some (Value.slice A3 kids.length c3)); clear hb1)
          clear hz3 z0 z1 z2 z3 HB HX HA hblt hblt2 HO1 hI3
          go_loopg [39] kids.length (fun m v39 w' => ∃ (q : Nat) (b1 : List Int), v39 = .int .i64 (q : Int) ∧ Aside0 (q + m = kids.length) ∧ Aside0 (b1.length = 32) ∧ Aside0 (okCnt (kids.drop q) b1 = some bn) ∧ Aside0 (w'.heap[w.heap.size]? = some (.cells #[.slice (some ad) l0_0.length c0_0] 30 (0, 0))) ∧ Aside0 (w'.heap[w.heap.size + 1]? = some (.cells (nums .i64 b1).toArray 111 (0, 0))) ∧ Aside0 (Below w.heap.size w w'))
          case atStart => exact ⟨0, b, rfl, ⟨Nat.zero_add _⟩, HLb, HBN, HX1, HA1, HB1⟩
          case round =>
            obtain ⟨q, b1, rfl, HM1, HLb1, HC1, HX, HA, HB⟩ := hrel
            clear HX1 HA1 HB1 HBN
            by_cases hq : q < kids.length
            · cases gk with
              | zero => have := HM1.out; omega
              | succ k2 =>
                have d2 : decide (q < kids.length) = true := decide_eq_true hq
                have d3 : decide ((q : Int) < (kids.length : Int)) = true := decide_eq_true (by omega)
                obtain ⟨ak, e1, y0, y1⟩ := at_T77 HI3.out (q : Int) (by omega) (by omega)
                have hdr : kids.drop q = rd_T77 kids (q : Int) :: kids.drop (q + 1) := by
                  rw [List.drop_eq_getElem_cons hq]
                  simp [rd_T77, List.getD_eq_getElem?_getD, List.getElem?_eq_getElem hq]
                have hs := HC1.out
                rw [hdr, okCnt] at hs
                by_cases hid : 0 ≤ (rd_T77 kids (q : Int)).f1 ∧ (rd_T77 kids (q : Int)).f1 < 32
                case neg => rw [if_neg hid] at hs; cases hs
                rw [if_pos hid] at hs
                obtain ⟨i0, i1⟩ := hid
                have HS1 := Aside0.mk hs
                have HAK := Aside0.mk e1
                clear hs hdr HC1
                subst_eqs
                replace y0 := pw_cell_below HB.out y0
                replace y1 := pw_cell_below HB.out y1
                simp only [Int.toNat_natCast] at y0 y1
                have di1 : decide ((rd_T77 kids (q : Int)).f1 < 32) = true := decide_eq_true i1
                have di0 : decide (0 ≤ (rd_T77 kids (q : Int)).f1) = true := decide_eq_true i0
                have ha := blk_num HA.out _ i0 (by have := HLb1.out; omega)
                have hf := blk_frozen HA.out (rd_T77 kids (q : Int)).f1.toNat
                have hlt1 := blk_lt HA.out
                have hn1 := Nat.ne_of_lt hlt1
                have hn2 := Nat.ne_of_gt hlt1
                go_wp2
                go_roundg k2
                case measure => have := HM1.out; omega
                case rel => exact ⟨q + 1, b1.set (rd_T77 kids (q : Int)).f1.toNat (wrap64 (rd b1 (rd_T77 kids (q : Int)).f1 + 1)), by rw [show wrap64 ((q : Int) + 1) = ((q + 1 : Nat) : Int) from by have := Kd.C_max HI3.out; unfold wrap64; omega], ⟨by have := HM1.out; omega⟩, ⟨by have := HLb1.out; simpa using this⟩, HS1, ⟨blk_alloc (blk_far (p := ⟨w.heap.size + 1, _, none⟩) HX.out (by show w.heap.size ≠ w.heap.size + 1; omega) _) _⟩, ⟨blk_alloc (blk_num_set HA.out _ _) _⟩, ⟨below_alloc (below_set HB.out (by omega)) _⟩⟩
            · have hq2 : q = kids.length := by have := HM1.out; omega
              have hs := HC1.out
              rw [hq2, List.drop_length, okCnt] at hs
              obtain rfl := Option.some.inj hs
              have d2 : decide (q < kids.length) = false := decide_eq_false hq
              have d3 : decide ((q : Int) < (kids.length : Int)) = false := decide_eq_false (by omega)
              clear hs hq hq2 HC1
              go_wp2
              go_roundg k1
              case measure => have := HM.out; omega
              case rel => exact ⟨n + 1, b1, by first | (rw [show wrap64 ((n : Int) + 1) = ((n + 1 : Nat) : Int) from by have := HN.out; unfold wrap64; omega]) | rfl | (simp; done), ⟨by have := HM.out; omega⟩, HLb1, HS, HX, HA, HB⟩
    · have hn : n = l0_0.length := by have := HM.out; omega
      have hs := HS.out
      rw [hn, List.drop_length, okAll] at hs
      have HO := Aside0.mk (Option.some.inj hs)
      have d0 : decide (n < l0_0.length) = false := decide_eq_false hlt
      have d1 : decide ((n : Int) < (l0_0.length : Int)) = false := decide_eq_false (by omega)
      have hcz := (blk_cell HX.out 0).trans (rfl : _ = some (Value.slice (some ad) l0_0.length c0_0))
      have HR := Aside0.mk (show (if okSame b 0 l0_0 = true then (impl_walk.f k l0_0 0 [] 0).bind fun q => some (decide (q.length = okLive l0_0)) else some false) = some r from by have := HREST.out; rw [← HO.out, okRest] at this; exact this)
      clear hs hn hlt HS HREST HALL HO
      go_wp2
      clear hcz d0 d1
      go_loopg [54] l0_0.length (fun m v54 w' => ∃ (n : Nat), v54 = .int .i64 (n : Int) ∧ Aside0 (n + m = l0_0.length) ∧ Aside0 (okSame b n (l0_0.drop n) = okSame b 0 l0_0) ∧ Aside0 (w'.heap[w.heap.size]? = some (.cells #[.slice (some ad) l0_0.length c0_0] 30 (0, 0))) ∧ Aside0 (w'.heap[w.heap.size + 1]? = some (.cells (nums .i64 b).toArray 111 (0, 0))) ∧ Aside0 (Below w.heap.size w w'))
      case atStart => exact ⟨0, rfl, ⟨Nat.zero_add _⟩, ⟨by rw [List.drop_zero]⟩, HX, HA, HB⟩
      case round =>
        clear HX HA HB
        obtain ⟨n, rfl, HM, HS, HX, HA, HB⟩ := hrel
        by_cases hlt : n < l0_0.length
        · cases gk with
          | zero => have := HM.out; omega
          | succ k1 =>
            have d0 : decide (n < l0_0.length) = true := decide_eq_true hlt
            have d1 : decide ((n : Int) < (l0_0.length : Int)) = true := decide_eq_true (by omega)
            obtain ⟨ad2, A3, c3, e0, z0, z1, z2, z3, hl3, hi3⟩ := at_T69 HC.out (n : Int) (by omega) (by omega)
            have hdr : l0_0.drop n = rd_T69 l0_0 (n : Int) :: l0_0.drop (n + 1) := by
              rw [List.drop_eq_getElem_cons hlt]
              simp [rd_T69, List.getD_eq_getElem?_getD, List.getElem?_eq_getElem hlt]
            have hs := HS.out
            rw [hdr, okSame] at hs
            have HAD := Aside0.mk e0
            clear hdr HS hi3 hl3
            subst_eqs
            replace z0 := pw_cell_below HB.out z0
            replace z1 := pw_cell_below HB.out z1
            replace z2 := pw_cell_below HB.out z2
            replace z3 := pw_cell_below HB.out z3
            simp only [Int.toNat_natCast] at z0 z1 z2 z3
            have hn32 : (n : Int) < 32 := by have := HN.out; omega
            have hn32d : decide ((n : Int) < 32) = true := decide_eq_true hn32
            have ha := blk_num HA.out (n : Int) (by omega) (by have := HLb.out; have := HN.out; omega)
            have hlt1 := blk_lt HA.out
            have hn1 := Nat.ne_of_lt hlt1
            have hn2 := Nat.ne_of_gt hlt1
            simp only [Int.toNat_natCast] at ha
            have fin : ∀ v : Bool, (v = true → rd b (n : Int) = (if n = 0 ∨ (rd_T69 l0_0 (n : Int)).f0 = 0 then 0 else 1)) → (v = false → rd b (n : Int) ≠ (if n = 0 ∨ (rd_T69 l0_0 (n : Int)).f0 = 0 then 0 else 1)) → (v = true → okSame b (n + 1) (l0_0.drop (n + 1)) = okSame b 0 l0_0) ∧ (v = false → r = false) := by
              intro v h1 h2
              constructor
              · intro hv
                rw [if_pos (h1 hv)] at hs
                exact hs
              · intro hv
                rw [if_neg (h2 hv)] at hs
                have := HR.out
                rw [← hs, if_neg (by decide)] at this
                exact (Option.some.inj this).symm
            clear hs
            by_cases cw : n = 0 ∨ (rd_T69 l0_0 (n : Int)).f0 = 0
            · simp only [if_pos cw] at fin
              by_cases cv : rd b (n : Int) = 0
              · have HF := Aside0.mk ((fin true (fun _ => cv) (fun h => by cases h)).1 rfl)
                have v0 : (rd b (n : Int) != 0) = false := by simp [cv]
                have v1 : (rd b (n : Int) == 0) = true := by simp [cv]
                clear fin
                by_cases c0 : n = 0
                · have w0 : ((n : Int) == 0) = true := by simp [c0]
                  have w1 : (n == 0) = true := by simp [c0]
                  clear cw cv c0
                  go_wp2
                  go_roundg k1
                  case measure => have := HM.out; omega
                  case rel => exact ⟨n + 1, by first | rfl | (rw [show wrap64 ((n : Int) + 1) = ((n + 1 : Nat) : Int) from by unfold wrap64; omega]), ⟨by have := HM.out; omega⟩, HF, ⟨blk_alloc HX.out _⟩, ⟨blk_alloc HA.out _⟩, ⟨below_alloc HB.out _⟩⟩
                · have w0 : ((n : Int) == 0) = false := by simp; omega
                  have w1 : (n == 0) = false := by simp; omega
                  have cf : (rd_T69 l0_0 (n : Int)).f0 = 0 := cw.resolve_left c0
                  have w2 : ((rd_T69 l0_0 (n : Int)).f0 == 0) = true := by simp [cf]
                  clear cw cv c0 cf
                  go_wp2
                  go_roundg k1
                  case measure => have := HM.out; omega
                  case rel => exact ⟨n + 1, by first | rfl | (rw [show wrap64 ((n : Int) + 1) = ((n + 1 : Nat) : Int) from by unfold wrap64; omega]), ⟨by have := HM.out; omega⟩, HF, ⟨blk_alloc HX.out _⟩, ⟨blk_alloc HA.out _⟩, ⟨below_alloc HB.out _⟩⟩
              · have HF := Aside0.mk ((fin false (fun h => by cases h) (fun _ => cv)).2 rfl)
                have v0 : (rd b (n : Int) != 0) = true := by simp [cv]
                have v1 : (rd b (n : Int) == 0) = false := by simp [cv]
                clear fin
                by_cases c0 : n = 0
                · have w0 : ((n : Int) == 0) = true := by simp [c0]
                  have w1 : (n == 0) = true := by simp [c0]
                  clear cw cv c0
                  go_wp2
                  go_ret
                  obtain rfl := HF.out
                  exact ⟨rfl, below_alloc HB.out _⟩
                · have w0 : ((n : Int) == 0) = false := by simp; omega
                  have w1 : (n == 0) = false := by simp; omega
                  have cf : (rd_T69 l0_0 (n : Int)).f0 = 0 := cw.resolve_left c0
                  have w2 : ((rd_T69 l0_0 (n : Int)).f0 == 0) = true := by simp [cf]
                  clear cw cv c0 cf
                  go_wp2
                  go_ret
                  obtain rfl := HF.out
                  exact ⟨rfl, below_alloc HB.out _⟩
            · simp only [if_neg cw] at fin
              by_cases cv : rd b (n : Int) = 1
              · have HF := Aside0.mk ((fin true (fun _ => cv) (fun h => by cases h)).1 rfl)
                have v0 : (rd b (n : Int) != 1) = false := by simp [cv]
                have v1 : (rd b (n : Int) == 1) = true := by simp [cv]
                clear fin
                have w0 : ((n : Int) == 0) = false := by simp; omega
                have w1 : (n == 0) = false := by simp; omega
                have w2 : ((rd_T69 l0_0 (n : Int)).f0 == 0) = false := by simp; omega
                clear cw cv
                go_wp2
                go_roundg k1
                case measure => have := HM.out; omega
                case rel => exact ⟨n + 1, by first | rfl | (rw [show wrap64 ((n : Int) + 1) = ((n + 1 : Nat) : Int) from by unfold wrap64; omega]), ⟨by have := HM.out; omega⟩, HF, ⟨blk_alloc HX.out _⟩, ⟨blk_alloc HA.out _⟩, ⟨below_alloc HB.out _⟩⟩
              · have HF := Aside0.mk ((fin false (fun h => by cases h) (fun _ => cv)).2 rfl)
                have v0 : (rd b (n : Int) != 1) = true := by simp [cv]
                have v1 : (rd b (n : Int) == 1) = false := by simp [cv]
                clear fin
                have w0 : ((n : Int) == 0) = false := by simp; omega
                have w1 : (n == 0) = false := by simp; omega
                have w2 : ((rd_T69 l0_0 (n : Int)).f0 == 0) = false := by simp; omega
                clear cw cv
                go_wp2
                go_ret
                obtain rfl := HF.out
                exact ⟨rfl, below_alloc HB.out _⟩
        · have hn : n = l0_0.length := by have := HM.out; omega
          have hs := HS.out
          rw [hn, List.drop_length, okSame] at hs
          have hr2 := HR.out
          rw [← hs, if_pos rfl] at hr2
          obtain ⟨qs, hqs, hr2⟩ := Option.bind_eq_some_iff.1 hr2
          have HQ := Aside0.mk hqs
          have HR2 := Aside0.mk (Option.some.inj hr2)
          have d0 : decide (n < l0_0.length) = false := decide_eq_false hlt
          have d1 : decide ((n : Int) < (l0_0.length : Int)) = false := decide_eq_false (by omega)
          have hcz := (blk_cell HX.out 0).trans (rfl : _ = some (Value.slice (some ad) l0_0.length c0_0))
          clear hs hn hlt HS HR hqs hr2 HA
          go_wp2
          clear hcz d0 d1
          go_loopg [11, 75] l0_0.length (fun m v11 v75 w' => ∃ (n : Nat), v75 = .int .i64 (n : Int) ∧ v11 = .int .i64 ((okLive (l0_0.take n) : Nat) : Int) ∧ Aside0 (n + m = l0_0.length) ∧ Aside0 (w'.heap[w.heap.size]? = some (.cells #[.slice (some ad) l0_0.length c0_0] 30 (0, 0))) ∧ Aside0 (Below w.heap.size w w'))
          case atStart => exact ⟨0, rfl, rfl, ⟨Nat.zero_add _⟩, HX, HB⟩
          case round =>
            clear HX HB HM
            obtain ⟨n, rfl, rfl, HM, HX, HB⟩ := hrel
            by_cases hlt : n < l0_0.length
            · cases gk with
              | zero => have := HM.out; omega
              | succ k1 =>
                have d0 : decide (n < l0_0.length) = true := decide_eq_true hlt
                have d1 : decide ((n : Int) < (l0_0.length : Int)) = true := decide_eq_true (by omega)
                obtain ⟨ad2, A3, c3, e0, z0, z1, z2, z3, hl3, hi3⟩ := at_T69 HC.out (n : Int) (by omega) (by omega)
                have HAD := Aside0.mk e0
                have hn32 : n < 32 := by have := HN.out; omega
                have HTK := Aside0.mk (okLive_take hlt)
                have HLE := Aside0.mk (okLive_le (l0_0.take n))
                clear hi3 hl3
                subst_eqs
                replace z0 := pw_cell_below HB.out z0
                replace z1 := pw_cell_below HB.out z1
                replace z2 := pw_cell_below HB.out z2
                replace z3 := pw_cell_below HB.out z3
                simp only [Int.toNat_natCast] at z0 z1 z2 z3
                by_cases cf : (rd_T69 l0_0 (n : Int)).f0 = 0
                · have w2 : ((rd_T69 l0_0 (n : Int)).f0 == 0) = true := by simp [cf]
                  have w3 : ((rd_T69 l0_0 (n : Int)).f0 != 0) = false := by simp [cf]
                  have HT2 := Aside0.mk (show okLive (l0_0.take (n + 1)) = okLive (l0_0.take n) from by rw [HTK.out, if_pos cf]; rfl)
                  clear cf HTK
                  go_wp2
                  go_roundg k1
                  case measure => have := HM.out; omega
                  case rel => exact ⟨n + 1, by first | rfl | (rw [show wrap64 ((n : Int) + 1) = ((n + 1 : Nat) : Int) from by unfold wrap64; omega]), by rw [HT2.out], ⟨by have := HM.out; omega⟩, ⟨blk_alloc HX.out _⟩, ⟨below_alloc HB.out _⟩⟩
                · have w2 : ((rd_T69 l0_0 (n : Int)).f0 == 0) = false := by simp [cf]
                  have w3 : ((rd_T69 l0_0 (n : Int)).f0 != 0) = true := by simp [cf]
                  have HT2 := Aside0.mk (show okLive (l0_0.take (n + 1)) = okLive (l0_0.take n) + 1 from by rw [HTK.out, if_neg cf])
                  have hsm : okLive (l0_0.take n) ≤ n := by have := HLE.out; rw [List.length_take] at this; omega
                  have HSM := Aside0.mk hsm
                  clear cf HTK hsm
                  go_wp2
                  go_roundg k1
                  case measure => have := HM.out; omega
                  case rel => exact ⟨n + 1, by first | rfl | (rw [show wrap64 ((n : Int) + 1) = ((n + 1 : Nat) : Int) from by unfold wrap64; omega]), by rw [HT2.out]; first | rfl | (rw [show wrap64 (((okLive (l0_0.take n) : Nat) : Int) + 1) = ((okLive (l0_0.take n) + 1 : Nat) : Int) from by have := HSM.out; unfold wrap64; omega]), ⟨by have := HM.out; omega⟩, ⟨blk_alloc HX.out _⟩, ⟨below_alloc HB.out _⟩⟩
            · have hn : n = l0_0.length := by have := HM.out; omega
              have d0 : decide (n < l0_0.length) = false := decide_eq_false hlt
              have d1 : decide ((n : Int) < (l0_0.length : Int)) = false := decide_eq_false (by omega)
              have hcz := (blk_cell HX.out 0).trans (rfl : _ = some (Value.slice (some ad) l0_0.length c0_0))
              have HTA := Aside0.mk (show okLive (l0_0.take n) = okLive l0_0 from by rw [hn, List.take_length])
              clear hn hlt
              go_wp2_with (go_at_call 106; refine (impl_walk.calls k (fun _ => False) (some ad) c0_0 l0_0 0 (.slice none 0 0) [] 0 qs w _ HB.out HC.out HCC.out (Kd.R_nil _ _ _ _ _) HQ.out).mono ?_; rintro e w2 ⟨v2, rfl, ho, hb, hk⟩; obtain ⟨A2, c2, e2⟩ := Kd.R_slice ho; subst e2; have HB2 := Aside0.mk hb; clear ho hb hk)
              go_ret
              have hr := HR2.out
              rw [← HTA.out] at hr
              refine ⟨?_, HB2.out⟩
              rw [← hr]
              show Ending.returned (.bool ((qs.length : Int) == ((okLive (l0_0.take n) : Nat) : Int))) = _
              have e : ((qs.length : Int) == ((okLive (l0_0.take n) : Nat) : Int)) = decide (qs.length = okLive (l0_0.take n)) := by
                rw [Bool.eq_iff_iff, beq_iff_eq, decide_eq_true_iff]
                omega
              rw [e]
end Go.Proofs.Ytlaichooanflaaa.Q
namespace Go.Proofs.Ytlaichooanflaaa.Q
open Go.RowKit Go.Proofs.YtlaichooanflaaaW.PrintWords Go.Proofs.YtlaichooanflaaaW.PrintLast Go.Proofs.YtlaichooanflaaaW.PrintMore
attribute [local go_sem] Go.Proofs.Ytlaichooanflaaa.Mem.str_leq Go.Proofs.Ytlaichooanflaaa.Mem.str_gtr Go.Proofs.Ytlaichooanflaaa.Mem.str_geq max2_int min2_int max_two min_two max_three min_three max_four min_four   -- for this text's walks alone
set_option linter.unusedVariables false
set_option linter.unusedSimpArgs false
def impl_find.l0 : Nat → ByteArray → List (S77) → Int → Int → Option (Int)
  | 0, _, _, _, _ => none
  | k + 1, x2, x14, x15, x16 => if x16 < x15 then (if 0 ≤ x16 then (if x16 < (x14.length : Int) then (if ((rd_T77 x14 x16).f0).toList = x2.toList then (some ((rd_T77 x14 x16).f1)) else (impl_find.l0 k x2 x14 x15 (wrap64 (x16 + 1)))) else (none)) else (none)) else (some (-1))
def impl_find.f (k : Nat) (l0_0 : List (S69)) (a1 : Int) (a2 : ByteArray) : Option (Int) := if 0 ≤ a1 then (if a1 < (l0_0.length : Int) then (impl_find.l0 k a2 ((rd_T69 l0_0 a1).f3) (((rd_T69 l0_0 a1).f3).length : Int) 0) else (none)) else (none)
set_option maxHeartbeats 8000000 in
set_option maxRecDepth 100000 in
theorem impl_find.calls (k : Nat) (A0_0 : Option Addr) (c0_0 : Nat) (l0_0 : List (S69)) (a1 : Int) (a2 : ByteArray) (r : Int) (w : World) (hr0_0 : Kd.C k69 w A0_0 l0_0.length l0_0) (hc0_0 : l0_0.length ≤ c0_0) (h : impl_find.f k l0_0 a1 a2 = some r) :
    Calls Try.prog 116 #[.agg #[.slice A0_0 l0_0.length c0_0], .int .i64 a1, .string a2] w fun e w' => e = .returned (.int .i64 r) ∧ Below w.heap.size w w' := by
  have hu30 := Try.underlying30
  have hu77 := Try.underlying77
  have HR0_0 := Aside0.mk hr0_0
  have HC0_0 := Aside0.mk hc0_0
  clear hr0_0 hc0_0
  have HB := Aside0.mk (Below.refl w.heap.size w)
  have H : (if 0 ≤ a1 then (if a1 < (l0_0.length : Int) then (impl_find.l0 k a2 ((rd_T69 l0_0 a1).f3) (((rd_T69 l0_0 a1).f3).length : Int) 0) else (none)) else (none)) = some r := h
  clear h
  by_cases c4 : 0 ≤ a1
  · rw [if_pos c4] at H
    have c4b0 : decide (0 ≤ a1) = true := decide_eq_true c4
    clear c4
    by_cases c5 : a1 < (l0_0.length : Int)
    · rw [if_pos c5] at H
      have c5b0 : decide (a1 < (l0_0.length : Int)) = true := decide_eq_true c5
      clear c5
      have H' := Aside0.mk H
      clear H
      go_enter Try.func116, Try.ntmps116
      go_wp2_with (first | ((with_reducible refine gate_dst (N := 3) rfl ?_); refine box_event ?hg (N := 3) ?hd (cs := #[.slice A0_0 l0_0.length c0_0]) (t := 30) ?hr ?_; (case hd => rfl); (case hg => rfl); (case hr => first | (go_simp; done) | (go_simp; rfl)); intro gb424 hg w6 hbox hb; have n0_ := Aside0.mk (below_step (by repeat (first | (with_reducible first | exact HB.out | apply below_alloc | apply pw_below_drewN | apply below_drew1) | exact HB.out)) hb); have n1_ := Aside0.mk (hbox); have n2_ := Aside0.mk ((by rw [hg]; exact (below_size (by repeat (first | (with_reducible first | exact HB.out | apply below_alloc | apply pw_below_drewN | apply below_drew1) | exact HB.out))) : w.heap.size ≤ gb424)); have n3_ := Aside0.mk ((by rw [hg]; exact (below_size (by repeat (first | (with_reducible first | exact HB.out | apply below_alloc | apply pw_below_drewN | apply below_drew1) | exact HB.out))) : w.heap.size ≤ gb424)); clear HB; have HB := n0_; have BK424 := n1_; have GW424 := n2_; have GE424 := n3_; clear n0_ n1_ n2_ n3_; clear hb hbox hg; have hcz7_0 : w6.cell? ⟨gb424, 0, none⟩ = some (.slice A0_0 l0_0.length c0_0) := (blk_cell BK424.out 0).trans rfl; have hfz7_0 := blk_frozen BK424.out 0; have p425 : 0 ≤ (a1 : Int) := of_decide_eq_true (by first | (with_reducible assumption) | assumption); have q425 : a1 < (l0_0.length : Int) := of_decide_eq_true (by first | (with_reducible assumption) | assumption); obtain ⟨ad425, A425_3, c425_3, e425, hx425_0, hx425_1, hx425_2, hx425_3, hl425_3, hi425_3⟩ := at_T69 HR0_0.out a1 p425 q425; cases e425; replace hx425_0 := (HB.out.cell (World.block_lt_of_cell? w _ hx425_0)).trans hx425_0; replace hx425_1 := (HB.out.cell (World.block_lt_of_cell? w _ hx425_1)).trans hx425_1; replace hx425_2 := (HB.out.cell (World.block_lt_of_cell? w _ hx425_2)).trans hx425_2; replace hx425_3 := (HB.out.cell (World.block_lt_of_cell? w _ hx425_3)).trans hx425_3; have HR425_3 := Aside0.mk hi425_3; have HC425_3 := Aside0.mk hl425_3; clear hi425_3 hl425_3; replace p425 := eq_true p425; replace q425 := eq_true q425))
      go_loopg [16] k (fun kq v16 w' => ∃ (x16_1 : Int), v16 = .int .i64 x16_1 ∧ Aside0 (impl_find.l0 kq a2 ((rd_T69 l0_0 a1).f3) (((rd_T69 l0_0 a1).f3).length : Int) x16_1 = some r) ∧ Aside0 (kq ≤ k) ∧ Aside0 (w'.heap[gb424]? = some (.cells #[(.slice (some ad425) l0_0.length c0_0)] 30 (0, 0))) ∧ Aside0 (Below w.heap.size w w'))
      case atStart => exact ⟨(0), (by first | rfl | (simp; done) | (simp [*]; done)), H', ⟨Nat.le_refl _⟩, ⟨by (with_reducible repeat (first | refine blk_drewN ?_ _ | refine blk_drew ?_ | refine blk_alloc ?_ _)); exact BK424.out⟩, ⟨by repeat (first | (with_reducible first | exact HB.out | apply below_alloc | apply pw_below_drewN | apply below_drew1 | refine below_set ?_ GE424.out) | exact HB.out)⟩⟩
      case round =>
        clear H'
        try clear c1
        try clear p2
        try clear c4
        try clear c4b0
        try clear p4
        try clear q4
        try clear hx4
        try clear c5
        try clear c5b0
        try clear hcz7_0
        try clear hfz7_0
        try clear hx425_0
        try clear hx425_1
        try clear hx425_2
        try clear hx425_3
        try clear p425
        try clear q425
        obtain ⟨x16_1, rfl, HA, HK1, BK424, HB⟩ := hrel
        cases gk with
        | zero => exact absurd HA.out (by simp [impl_find.l0])
        | succ k1 =>
          have H := HA.out
          clear HA
          simp only [impl_find.l0] at H
          by_cases c8 : x16_1 < (((rd_T69 l0_0 a1).f3).length : Int)
          · rw [if_pos c8] at H
            have c8b0 : decide (x16_1 < (((rd_T69 l0_0 a1).f3).length : Int)) = true := decide_eq_true c8
            clear c8
            by_cases c9 : 0 ≤ x16_1
            · rw [if_pos c9] at H
              have c9b0 : decide (0 ≤ x16_1) = true := decide_eq_true c9
              clear c9
              by_cases c10 : x16_1 < (((rd_T69 l0_0 a1).f3).length : Int)
              · rw [if_pos c10] at H
                have c10b0 : decide (x16_1 < (((rd_T69 l0_0 a1).f3).length : Int)) = true := decide_eq_true c10
                clear c10
                by_cases c11 : ((rd_T77 ((rd_T69 l0_0 a1).f3) x16_1).f0).toList = a2.toList
                · rw [if_pos c11] at H
                  have c11b0 : (((rd_T77 ((rd_T69 l0_0 a1).f3) x16_1).f0).toList == a2.toList) = true := beq_iff_eq.mpr c11
                  have c11b1 : (((rd_T77 ((rd_T69 l0_0 a1).f3) x16_1).f0).toList != a2.toList) = false := bne_eq_false_iff_eq.mpr c11
                  clear c11
                  obtain rfl := Option.some.inj H
                  have p426 : 0 ≤ (x16_1 : Int) := of_decide_eq_true (by first | (with_reducible assumption) | assumption)
                  have q426 : x16_1 < (((rd_T69 l0_0 a1).f3).length : Int) := of_decide_eq_true (by first | (with_reducible assumption) | assumption)
                  obtain ⟨ad426, e426, hx426_0, hx426_1⟩ := at_T77 HR425_3.out x16_1 p426 q426
                  cases e426
                  replace hx426_0 := (HB.out.cell (World.block_lt_of_cell? w _ hx426_0)).trans hx426_0
                  replace hx426_1 := (HB.out.cell (World.block_lt_of_cell? w _ hx426_1)).trans hx426_1
                  replace p426 := eq_true p426
                  replace q426 := eq_true q426
                  go_wp2_with (first | ((with_reducible refine gate_dst (N := 8) rfl ?_); refine box_event ?hg (N := 8) ?hd (cs := #[.string (⟨#[]⟩ : ByteArray), .int .i64 0]) (t := 77) ?hr ?_; (case hd => rfl); (case hg => rfl); (case hr => first | (go_simp; done) | (go_simp; rfl)); intro gb427 hg w12 hbox hb; have n0_ := Aside0.mk (blk_below (g := gb424) (o := .cells #[.slice (some ad425) l0_0.length c0_0] 30 (0, 0)) (by (with_reducible repeat (first | refine blk_drewN ?_ _ | refine blk_drew ?_ | refine blk_alloc ?_ _)); exact BK424.out) hb); have n1_ := Aside0.mk (below_step (by repeat (first | (with_reducible first | exact HB.out | apply below_alloc | apply pw_below_drewN | apply below_drew1 | refine below_set ?_ GE424.out) | exact HB.out)) hb); have n2_ := Aside0.mk (hbox); have n3_ := Aside0.mk ((by rw [hg]; exact (below_size (by repeat (first | (with_reducible first | exact HB.out | apply below_alloc | apply pw_below_drewN | apply below_drew1 | refine below_set ?_ GE424.out) | exact HB.out))) : w.heap.size ≤ gb427)); have n4_ := Aside0.mk ((by rw [hg]; exact (below_size (by repeat (first | (with_reducible first | exact HB.out | apply below_alloc | apply pw_below_drewN | apply below_drew1 | refine below_set ?_ GE424.out) | exact HB.out))) : w.heap.size ≤ gb427)); have n5_ := Aside0.mk ((by rw [hg]; exact Nat.ne_of_lt (blk_lt (g := gb424) (o := .cells #[.slice (some ad425) l0_0.length c0_0] 30 (0, 0)) (by (with_reducible repeat (first | refine blk_drewN ?_ _ | refine blk_drew ?_ | refine blk_alloc ?_ _)); exact BK424.out)) : gb424 ≠ gb427)); have n6_ := Aside0.mk ((by rw [hg]; exact Nat.ne_of_gt (blk_lt (g := gb424) (o := .cells #[.slice (some ad425) l0_0.length c0_0] 30 (0, 0)) (by (with_reducible repeat (first | refine blk_drewN ?_ _ | refine blk_drew ?_ | refine blk_alloc ?_ _)); exact BK424.out)) : gb427 ≠ gb424)); clear BK424; clear HB; have BK424 := n0_; have HB := n1_; have BK427 := n2_; have GW427 := n3_; have GE427 := n4_; have NB424_427 := n5_; have NB427_424 := n6_; clear n0_ n1_ n2_ n3_ n4_ n5_ n6_; clear hb hbox hg; have hnb13 := NB427_424.out; have hnc13 := NB424_427.out; have hcz14_0 : w12.cell? ⟨gb427, 0, none⟩ = some (.string (⟨#[]⟩ : ByteArray)) := (blk_cell BK427.out 0).trans rfl; have hcz14_1 : w12.cell? ⟨gb427, 1, none⟩ = some (.int .i64 0) := (blk_cell BK427.out 1).trans rfl; have hfz14_0 := blk_frozen BK427.out 0; have hfz14_1 := blk_frozen BK427.out 1))
                  go_ret
                  exact ⟨by first | rfl | (simp [errW_none, errW_some] <;> rfl) | (simp [*, errW_none, errW_some] <;> rfl), by repeat (first | (with_reducible first | exact HB.out | apply below_alloc | apply pw_below_drewN | apply below_drew1 | refine below_set ?_ GE424.out | refine below_set ?_ GE427.out) | exact HB.out)⟩
                · rw [if_neg c11] at H
                  have c11b0 : (((rd_T77 ((rd_T69 l0_0 a1).f3) x16_1).f0).toList == a2.toList) = false := beq_eq_false_iff_ne.mpr c11
                  have c11b1 : (((rd_T77 ((rd_T69 l0_0 a1).f3) x16_1).f0).toList != a2.toList) = true := bne_iff_ne.mpr c11
                  have H' := Aside0.mk H
                  clear H
                  have p426 : 0 ≤ (x16_1 : Int) := of_decide_eq_true (by first | (with_reducible assumption) | assumption)
                  have q426 : x16_1 < (((rd_T69 l0_0 a1).f3).length : Int) := of_decide_eq_true (by first | (with_reducible assumption) | assumption)
                  obtain ⟨ad426, e426, hx426_0, hx426_1⟩ := at_T77 HR425_3.out x16_1 p426 q426
                  cases e426
                  replace hx426_0 := (HB.out.cell (World.block_lt_of_cell? w _ hx426_0)).trans hx426_0
                  replace hx426_1 := (HB.out.cell (World.block_lt_of_cell? w _ hx426_1)).trans hx426_1
                  replace p426 := eq_true p426
                  replace q426 := eq_true q426
                  go_wp2_with (first | ((with_reducible refine gate_dst (N := 8) rfl ?_); refine box_event ?hg (N := 8) ?hd (cs := #[.string (⟨#[]⟩ : ByteArray), .int .i64 0]) (t := 77) ?hr ?_; (case hd => rfl); (case hg => rfl); (case hr => first | (go_simp; done) | (go_simp; rfl)); intro gb427 hg w15 hbox hb; have n0_ := Aside0.mk (blk_below (g := gb424) (o := .cells #[.slice (some ad425) l0_0.length c0_0] 30 (0, 0)) (by (with_reducible repeat (first | refine blk_drewN ?_ _ | refine blk_drew ?_ | refine blk_alloc ?_ _)); exact BK424.out) hb); have n1_ := Aside0.mk (below_step (by repeat (first | (with_reducible first | exact HB.out | apply below_alloc | apply pw_below_drewN | apply below_drew1 | refine below_set ?_ GE424.out) | exact HB.out)) hb); have n2_ := Aside0.mk (hbox); have n3_ := Aside0.mk ((by rw [hg]; exact (below_size (by repeat (first | (with_reducible first | exact HB.out | apply below_alloc | apply pw_below_drewN | apply below_drew1 | refine below_set ?_ GE424.out) | exact HB.out))) : w.heap.size ≤ gb427)); have n4_ := Aside0.mk ((by rw [hg]; exact (below_size (by repeat (first | (with_reducible first | exact HB.out | apply below_alloc | apply pw_below_drewN | apply below_drew1 | refine below_set ?_ GE424.out) | exact HB.out))) : w.heap.size ≤ gb427)); have n5_ := Aside0.mk ((by rw [hg]; exact Nat.ne_of_lt (blk_lt (g := gb424) (o := .cells #[.slice (some ad425) l0_0.length c0_0] 30 (0, 0)) (by (with_reducible repeat (first | refine blk_drewN ?_ _ | refine blk_drew ?_ | refine blk_alloc ?_ _)); exact BK424.out)) : gb424 ≠ gb427)); have n6_ := Aside0.mk ((by rw [hg]; exact Nat.ne_of_gt (blk_lt (g := gb424) (o := .cells #[.slice (some ad425) l0_0.length c0_0] 30 (0, 0)) (by (with_reducible repeat (first | refine blk_drewN ?_ _ | refine blk_drew ?_ | refine blk_alloc ?_ _)); exact BK424.out)) : gb427 ≠ gb424)); clear BK424; clear HB; have BK424 := n0_; have HB := n1_; have BK427 := n2_; have GW427 := n3_; have GE427 := n4_; have NB424_427 := n5_; have NB427_424 := n6_; clear n0_ n1_ n2_ n3_ n4_ n5_ n6_; clear hb hbox hg; have hnb16 := NB427_424.out; have hnc16 := NB424_427.out; have hcz17_0 : w15.cell? ⟨gb427, 0, none⟩ = some (.string (⟨#[]⟩ : ByteArray)) := (blk_cell BK427.out 0).trans rfl; have hcz17_1 : w15.cell? ⟨gb427, 1, none⟩ = some (.int .i64 0) := (blk_cell BK427.out 1).trans rfl; have hfz17_0 := blk_frozen BK427.out 0; have hfz17_1 := blk_frozen BK427.out 1))
                  go_roundg k1
                  case measure => have := HK1.out; omega
                  case rel => exact ⟨(wrap64 (x16_1 + 1)), (by first | rfl | (simp; done) | (simp [*]; done)), H', ⟨by have := HK1.out; omega⟩, ⟨by (with_reducible repeat (first | refine blk_drewN ?_ _ | refine blk_drew ?_ | refine blk_alloc ?_ _)); refine blk_far ?_ NB424_427.out _; (with_reducible repeat (first | refine blk_drewN ?_ _ | refine blk_drew ?_ | refine blk_alloc ?_ _)); refine blk_far ?_ NB424_427.out _; (with_reducible repeat (first | refine blk_drewN ?_ _ | refine blk_drew ?_ | refine blk_alloc ?_ _)); exact BK424.out⟩, ⟨by repeat (first | (with_reducible first | exact HB.out | apply below_alloc | apply pw_below_drewN | apply below_drew1 | refine below_set ?_ GE424.out | refine below_set ?_ GE427.out) | exact HB.out)⟩⟩
              · rw [if_neg c10] at H
                exact absurd H (by simp)
            · rw [if_neg c9] at H
              exact absurd H (by simp)
          · rw [if_neg c8] at H
            have c8b0 : decide (x16_1 < (((rd_T69 l0_0 a1).f3).length : Int)) = false := decide_eq_false c8
            clear c8
            obtain rfl := Option.some.inj H
            go_wp2
            go_ret
            exact ⟨by first | rfl | (simp [errW_none, errW_some] <;> rfl) | (simp [*, errW_none, errW_some] <;> rfl), by repeat (first | (with_reducible first | exact HB.out | apply below_alloc | apply pw_below_drewN | apply below_drew1 | refine below_set ?_ GE424.out) | exact HB.out)⟩
    · rw [if_neg c5] at H
      exact absurd H (by simp)
  · rw [if_neg c4] at H
    exact absurd H (by simp)
end Go.Proofs.Ytlaichooanflaaa.Q
namespace Go.Proofs.Ytlaichooanflaaa.Q
open Go.RowKit Go.Proofs.YtlaichooanflaaaW.PrintWords Go.Proofs.YtlaichooanflaaaW.PrintLast Go.Proofs.YtlaichooanflaaaW.PrintMore
attribute [local go_sem] Go.Proofs.Ytlaichooanflaaa.Mem.str_leq Go.Proofs.Ytlaichooanflaaa.Mem.str_gtr Go.Proofs.Ytlaichooanflaaa.Mem.str_geq max2_int min2_int max_two min_two max_three min_three max_four min_four   -- for this text's walks alone
set_option linter.unusedVariables false
set_option linter.unusedSimpArgs false
def impl_TreeFind.f (k : Nat) (l0_0 : List (S69)) (a1 : Int) (a2 : ByteArray) : Option (Int) := (impl_TreeOk.f k l0_0).bind fun t819 => (if t819 = true then ((impl_in.f a1 0 31).bind fun t820 => (if t820 = true then ((impl_find.f k l0_0 a1 a2).bind fun t821 => (some t821)) else (some (-1)))) else (some (-1)))
set_option maxHeartbeats 8000000 in
set_option maxRecDepth 100000 in
theorem impl_TreeFind.calls (k : Nat) (A0_0 : Option Addr) (c0_0 : Nat) (l0_0 : List (S69)) (a1 : Int) (a2 : ByteArray) (r : Int) (w : World) (hr0_0 : Kd.C k69 w A0_0 l0_0.length l0_0) (hc0_0 : l0_0.length ≤ c0_0) (h : impl_TreeFind.f k l0_0 a1 a2 = some r) :
    Calls Try.prog 56 #[.agg #[.slice A0_0 l0_0.length c0_0], .int .i64 a1, .string a2] w fun e w' => e = .returned (.int .i64 r) ∧ Below w.heap.size w w' := by
  have hu30 := Try.underlying30
  have HR0_0 := Aside0.mk hr0_0
  have HC0_0 := Aside0.mk hc0_0
  clear hr0_0 hc0_0
  have HB := Aside0.mk (Below.refl w.heap.size w)
  have H : ((impl_TreeOk.f k l0_0).bind fun t819 => (if t819 = true then ((impl_in.f a1 0 31).bind fun t820 => (if t820 = true then ((impl_find.f k l0_0 a1 a2).bind fun t821 => (some t821)) else (some (-1)))) else (some (-1)))) = some r := h
  clear h
  replace H := Option.bind_eq_some_iff.mp H
  obtain ⟨t819, A40, H⟩ := H
  replace H : (if t819 = true then ((impl_in.f a1 0 31).bind fun t820 => (if t820 = true then ((impl_find.f k l0_0 a1 a2).bind fun t821 => (some t821)) else (some (-1)))) else (some (-1))) = some r := H
  have A4 := Aside0.mk A40
  clear A40
  by_cases c5 : t819 = true
  · subst c5
    have H1 : ((impl_in.f a1 0 31).bind fun t820 => (if t820 = true then ((impl_find.f k l0_0 a1 a2).bind fun t821 => (some t821)) else (some (-1)))) = some r := by rw [if_pos rfl] at H; exact H
    clear H
    have H := H1
    clear H1
    replace H := Option.bind_eq_some_iff.mp H
    obtain ⟨t820, A60, H⟩ := H
    replace H : (if t820 = true then ((impl_find.f k l0_0 a1 a2).bind fun t821 => (some t821)) else (some (-1))) = some r := H
    have A6 := Aside0.mk A60
    clear A60
    by_cases c7 : t820 = true
    · subst c7
      have H1 : ((impl_find.f k l0_0 a1 a2).bind fun t821 => (some t821)) = some r := by rw [if_pos rfl] at H; exact H
      clear H
      have H := H1
      clear H1
      replace H := Option.bind_eq_some_iff.mp H
      obtain ⟨t821, A80, H⟩ := H
      replace H : (some t821) = some r := H
      have A8 := Aside0.mk A80
      clear A80
      obtain rfl := Option.some.inj H
      go_enter Try.func56, Try.ntmps56
      go_wp2_with (first | ((with_reducible refine gate_dst (N := 3) rfl ?_); refine box_event ?hg (N := 3) ?hd (cs := #[.slice A0_0 l0_0.length c0_0]) (t := 30) ?hr ?_; (case hd => rfl); (case hg => rfl); (case hr => first | (go_simp; done) | (go_simp; rfl)); intro gb818 hg w9 hbox hb; have n0_ := Aside0.mk (below_step (by repeat (first | (with_reducible first | exact HB.out | apply below_alloc | apply pw_below_drewN | apply below_drew1) | exact HB.out)) hb); have n1_ := Aside0.mk (hbox); have n2_ := Aside0.mk ((by rw [hg]; exact (below_size (by repeat (first | (with_reducible first | exact HB.out | apply below_alloc | apply pw_below_drewN | apply below_drew1) | exact HB.out))) : w.heap.size ≤ gb818)); have n3_ := Aside0.mk ((by rw [hg]; exact (below_size (by repeat (first | (with_reducible first | exact HB.out | apply below_alloc | apply pw_below_drewN | apply below_drew1) | exact HB.out))) : w.heap.size ≤ gb818)); clear HB; have HB := n0_; have BK818 := n1_; have GW818 := n2_; have GE818 := n3_; clear n0_ n1_ n2_ n3_; clear hb hbox hg; have hcz10_0 : w9.cell? ⟨gb818, 0, none⟩ = some (.slice A0_0 l0_0.length c0_0) := (blk_cell BK818.out 0).trans rfl; have hfz10_0 := blk_frozen BK818.out 0) | ((with_reducible refine gate_callee (f := 47) rfl ?_); refine goesL_ (some 8) rfl rfl Try.func47 (by kernel_rfl) rfl #[.agg #[.slice A0_0 l0_0.length c0_0]] rfl (by (try simp only [List.map_toArray, List.map_cons, List.map_nil]); first | done | rfl | (simp only [List.length_drop, List.length_take]; rfl)) ?_; (with_reducible refine (impl_TreeOk.calls k _ _ l0_0 true _ ?side1 ?side2 A4.out).mono ?_); (case side1 => repeat (first | exact (Kd.C_below HR0_0.out HB.out) | (with_reducible refine Kd.C_alloc ?_ _) | (with_reducible refine Kd.C_drewN ?_ _) | (with_reducible refine Kd.C_drew ?_))); (case side2 => exact HC0_0.out); rintro e w11 ⟨rfl, hb⟩; refine ⟨_, rfl, ?_⟩; have n0_ := Aside0.mk (blk_below (g := gb818) (o := .cells #[.slice A0_0 l0_0.length c0_0] 30 (0, 0)) (by (with_reducible repeat (first | refine blk_drewN ?_ _ | refine blk_drew ?_ | refine blk_alloc ?_ _)); exact BK818.out) hb); have n1_ := Aside0.mk (below_step (by repeat (first | (with_reducible first | exact HB.out | apply below_alloc | apply pw_below_drewN | apply below_drew1 | refine below_set ?_ GE818.out) | exact HB.out)) hb); clear BK818; clear HB; have BK818 := n0_; have HB := n1_; clear n0_ n1_; (try clear hb); (try clear hb2); (try clear hk); (try clear hi)) | (go_at_call 115; (with_reducible refine (impl_in.calls a1 0 31 true _ A6.out).mono ?_); rintro e w' ⟨rfl, ⟨nd, rfl⟩⟩; have hcz12_0 : w11.cell? ⟨gb818, 0, none⟩ = some (.slice A0_0 l0_0.length c0_0) := (blk_cell BK818.out 0).trans rfl; have hfz12_0 := blk_frozen BK818.out 0) | ((with_reducible refine gate_callee (f := 116) rfl ?_); refine goesL_ (some 18) rfl rfl Try.func116 (by kernel_rfl) rfl #[.agg #[.slice A0_0 l0_0.length c0_0], .int .i64 a1, .string a2] rfl (by (try simp only [List.map_toArray, List.map_cons, List.map_nil]); first | done | rfl | (simp only [List.length_drop, List.length_take]; rfl)) ?_; (with_reducible refine (impl_find.calls k _ _ l0_0 a1 a2 t821 _ ?side1 ?side2 A8.out).mono ?_); (case side1 => repeat (first | exact (Kd.C_below HR0_0.out (by repeat (first | (with_reducible first | exact HB.out | apply below_alloc | apply pw_below_drewN | apply below_drew1 | refine below_set ?_ GE818.out) | exact HB.out))) | (with_reducible refine Kd.C_alloc ?_ _) | (with_reducible refine Kd.C_drewN ?_ _) | (with_reducible refine Kd.C_drew ?_))); (case side2 => exact HC0_0.out); rintro e w13 ⟨rfl, hb⟩; refine ⟨_, rfl, ?_⟩; have n0_ := Aside0.mk (blk_below (g := gb818) (o := .cells #[.slice A0_0 l0_0.length c0_0] 30 (0, 0)) (by (with_reducible repeat (first | refine blk_drewN ?_ _ | refine blk_drew ?_ | refine blk_alloc ?_ _)); exact BK818.out) hb); have n1_ := Aside0.mk (below_step (by repeat (first | (with_reducible first | exact HB.out | apply below_alloc | apply pw_below_drewN | apply below_drew1 | refine below_set ?_ GE818.out) | exact HB.out)) hb); clear BK818; clear HB; have BK818 := n0_; have HB := n1_; clear n0_ n1_; (try clear hb); (try clear hb2); (try clear hk); (try clear hi)))
      go_ret
      exact ⟨by first | rfl | (simp [errW_none, errW_some] <;> rfl) | (simp [*, errW_none, errW_some] <;> rfl), by repeat (first | (with_reducible first | exact HB.out | apply below_alloc | apply pw_below_drewN | apply below_drew1 | refine below_set ?_ GE818.out) | exact HB.out)⟩
    · replace c7 := Bool.eq_false_iff.mpr c7
      subst c7
      have H1 : (some (-1)) = some r := by rw [if_neg (show ¬ (false = true) by decide)] at H; exact H
      clear H
      have H := H1
      clear H1
      obtain rfl := Option.some.inj H
      go_enter Try.func56, Try.ntmps56
      go_wp2_with (first | ((with_reducible refine gate_dst (N := 3) rfl ?_); refine box_event ?hg (N := 3) ?hd (cs := #[.slice A0_0 l0_0.length c0_0]) (t := 30) ?hr ?_; (case hd => rfl); (case hg => rfl); (case hr => first | (go_simp; done) | (go_simp; rfl)); intro gb818 hg w14 hbox hb; have n0_ := Aside0.mk (below_step (by repeat (first | (with_reducible first | exact HB.out | apply below_alloc | apply pw_below_drewN | apply below_drew1) | exact HB.out)) hb); have n1_ := Aside0.mk (hbox); have n2_ := Aside0.mk ((by rw [hg]; exact (below_size (by repeat (first | (with_reducible first | exact HB.out | apply below_alloc | apply pw_below_drewN | apply below_drew1) | exact HB.out))) : w.heap.size ≤ gb818)); have n3_ := Aside0.mk ((by rw [hg]; exact (below_size (by repeat (first | (with_reducible first | exact HB.out | apply below_alloc | apply pw_below_drewN | apply below_drew1) | exact HB.out))) : w.heap.size ≤ gb818)); clear HB; have HB := n0_; have BK818 := n1_; have GW818 := n2_; have GE818 := n3_; clear n0_ n1_ n2_ n3_; clear hb hbox hg; have hcz15_0 : w14.cell? ⟨gb818, 0, none⟩ = some (.slice A0_0 l0_0.length c0_0) := (blk_cell BK818.out 0).trans rfl; have hfz15_0 := blk_frozen BK818.out 0) | ((with_reducible refine gate_callee (f := 47) rfl ?_); refine goesL_ (some 8) rfl rfl Try.func47 (by kernel_rfl) rfl #[.agg #[.slice A0_0 l0_0.length c0_0]] rfl (by (try simp only [List.map_toArray, List.map_cons, List.map_nil]); first | done | rfl | (simp only [List.length_drop, List.length_take]; rfl)) ?_; (with_reducible refine (impl_TreeOk.calls k _ _ l0_0 true _ ?side1 ?side2 A4.out).mono ?_); (case side1 => repeat (first | exact (Kd.C_below HR0_0.out HB.out) | (with_reducible refine Kd.C_alloc ?_ _) | (with_reducible refine Kd.C_drewN ?_ _) | (with_reducible refine Kd.C_drew ?_))); (case side2 => exact HC0_0.out); rintro e w16 ⟨rfl, hb⟩; refine ⟨_, rfl, ?_⟩; have n0_ := Aside0.mk (blk_below (g := gb818) (o := .cells #[.slice A0_0 l0_0.length c0_0] 30 (0, 0)) (by (with_reducible repeat (first | refine blk_drewN ?_ _ | refine blk_drew ?_ | refine blk_alloc ?_ _)); exact BK818.out) hb); have n1_ := Aside0.mk (below_step (by repeat (first | (with_reducible first | exact HB.out | apply below_alloc | apply pw_below_drewN | apply below_drew1 | refine below_set ?_ GE818.out) | exact HB.out)) hb); clear BK818; clear HB; have BK818 := n0_; have HB := n1_; clear n0_ n1_; (try clear hb); (try clear hb2); (try clear hk); (try clear hi)) | (go_at_call 115; (with_reducible refine (impl_in.calls a1 0 31 false _ A6.out).mono ?_); rintro e w' ⟨rfl, ⟨nd, rfl⟩⟩))
      go_ret
      exact ⟨by first | rfl | (simp [errW_none, errW_some] <;> rfl) | (simp [*, errW_none, errW_some] <;> rfl), by repeat (first | (with_reducible first | exact HB.out | apply below_alloc | apply pw_below_drewN | apply below_drew1 | refine below_set ?_ GE818.out) | exact HB.out)⟩
  · replace c5 := Bool.eq_false_iff.mpr c5
    subst c5
    have H1 : (some (-1)) = some r := by rw [if_neg (show ¬ (false = true) by decide)] at H; exact H
    clear H
    have H := H1
    clear H1
    obtain rfl := Option.some.inj H
    go_enter Try.func56, Try.ntmps56
    go_wp2_with (first | ((with_reducible refine gate_dst (N := 3) rfl ?_); refine box_event ?hg (N := 3) ?hd (cs := #[.slice A0_0 l0_0.length c0_0]) (t := 30) ?hr ?_; (case hd => rfl); (case hg => rfl); (case hr => first | (go_simp; done) | (go_simp; rfl)); intro gb818 hg w17 hbox hb; have n0_ := Aside0.mk (below_step (by repeat (first | (with_reducible first | exact HB.out | apply below_alloc | apply pw_below_drewN | apply below_drew1) | exact HB.out)) hb); have n1_ := Aside0.mk (hbox); have n2_ := Aside0.mk ((by rw [hg]; exact (below_size (by repeat (first | (with_reducible first | exact HB.out | apply below_alloc | apply pw_below_drewN | apply below_drew1) | exact HB.out))) : w.heap.size ≤ gb818)); have n3_ := Aside0.mk ((by rw [hg]; exact (below_size (by repeat (first | (with_reducible first | exact HB.out | apply below_alloc | apply pw_below_drewN | apply below_drew1) | exact HB.out))) : w.heap.size ≤ gb818)); clear HB; have HB := n0_; have BK818 := n1_; have GW818 := n2_; have GE818 := n3_; clear n0_ n1_ n2_ n3_; clear hb hbox hg; have hcz18_0 : w17.cell? ⟨gb818, 0, none⟩ = some (.slice A0_0 l0_0.length c0_0) := (blk_cell BK818.out 0).trans rfl; have hfz18_0 := blk_frozen BK818.out 0) | ((with_reducible refine gate_callee (f := 47) rfl ?_); refine goesL_ (some 8) rfl rfl Try.func47 (by kernel_rfl) rfl #[.agg #[.slice A0_0 l0_0.length c0_0]] rfl (by (try simp only [List.map_toArray, List.map_cons, List.map_nil]); first | done | rfl | (simp only [List.length_drop, List.length_take]; rfl)) ?_; (with_reducible refine (impl_TreeOk.calls k _ _ l0_0 false _ ?side1 ?side2 A4.out).mono ?_); (case side1 => repeat (first | exact (Kd.C_below HR0_0.out HB.out) | (with_reducible refine Kd.C_alloc ?_ _) | (with_reducible refine Kd.C_drewN ?_ _) | (with_reducible refine Kd.C_drew ?_))); (case side2 => exact HC0_0.out); rintro e w19 ⟨rfl, hb⟩; refine ⟨_, rfl, ?_⟩; have n0_ := Aside0.mk (blk_below (g := gb818) (o := .cells #[.slice A0_0 l0_0.length c0_0] 30 (0, 0)) (by (with_reducible repeat (first | refine blk_drewN ?_ _ | refine blk_drew ?_ | refine blk_alloc ?_ _)); exact BK818.out) hb); have n1_ := Aside0.mk (below_step (by repeat (first | (with_reducible first | exact HB.out | apply below_alloc | apply pw_below_drewN | apply below_drew1 | refine below_set ?_ GE818.out) | exact HB.out)) hb); clear BK818; clear HB; have BK818 := n0_; have HB := n1_; clear n0_ n1_; (try clear hb); (try clear hb2); (try clear hk); (try clear hi)))
    go_ret
    exact ⟨by first | rfl | (simp [errW_none, errW_some] <;> rfl) | (simp [*, errW_none, errW_some] <;> rfl), by repeat (first | (with_reducible first | exact HB.out | apply below_alloc | apply pw_below_drewN | apply below_drew1 | refine below_set ?_ GE818.out) | exact HB.out)⟩
end Go.Proofs.Ytlaichooanflaaa.Q
