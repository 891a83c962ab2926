/- Part 2 of what the proof of FnExactLogOk uses: plain functions with the answers of the Go functions, the proofs that the calls come to them, and plain lemmas. -/
import Derived.Test.YtjcpkplneflleaaVFnExactLogOk0
import Derived.Test.YtjcpkplneflleaaVFnExactLogOk1
namespace Go.Proofs.Ytjcpkplneflleaa.Q
open Go.RowKit Go.Proofs.YtjcpkplneflleaaW.PrintWords Go.Proofs.YtjcpkplneflleaaW.PrintLast Go.Proofs.YtjcpkplneflleaaW.PrintMore
attribute [local go_sem] max2_int min2_int max_two min_two max_three min_three max_four min_four   -- for this text's walks alone
set_option linter.unusedVariables false
set_option linter.unusedSimpArgs false
def idsU (b : List Bool) (n : Nat) : List Int := ((List.range n).filter (fun i => b.getD i false)).map (fun (i : Nat) => (i : Int))
theorem idsU_succ (b : List Bool) (n : Nat) : idsU b (n + 1) = if b.getD n false = true then idsU b n ++ [(n : Int)] else idsU b n := by
  unfold idsU
  rw [List.range_succ, List.filter_append, List.map_append]
  generalize h : b.getD n false = t
  cases t
  · simp only [List.filter_cons, List.filter_nil, h, Bool.false_eq_true, if_false, List.map_nil, List.append_nil]
  · simp only [List.filter_cons, List.filter_nil, h, if_true, List.map_cons, List.map_nil]
theorem idsU_length (b : List Bool) (n : Nat) : (idsU b n).length ≤ n := by
  unfold idsU
  rw [List.length_map]
  have := List.length_filter_le (fun i => b.getD i false) (List.range n)
  rw [List.length_range] at this
  exact this
theorem bools_index (b : List Bool) (hl : b.length = 32) (i : Nat) (hi : i < 32) (w : World) : (Instr.index 131 (.agg (bools b).toArray) (.int .i64 (i : Int))).run Try.prog w = .ok (.bool (b.getD i false)) w := by
  have hs : (Try.prog.info? 4).map (·.size) = some 1 := by kernel_rfl
  cases hq : Try.prog.info? 4 with
  | none => simp [hq] at hs
  | some x =>
    have hx : x.size = 1 := by simpa [hq] using hs
    have hlt : i < b.length := by omega
    have hu : Try.prog.underlying 131 = some (.array 32 4) := Try.underlying131
    have hb : Try.prog.underlying 4 = some .bool := Try.underlying4
    have hget : (bools b).toArray[i]? = some (.bool (b.getD i false)) := by
      simp [bools, List.getElem?_map, List.getElem?_eq_getElem hlt, List.getD_eq_getElem?_getD]
    have hget2 : (bools b)[i]? = some (.bool (b.getD i false)) := by simpa using hget
    generalize b.getD i false = u at hget2 ⊢
    unfold Instr.index
    simp [asIntOf, run_underlying hu, sizeOf, typeInfo, hq, hx, part, isAgg, run_underlying hb, hget2, hi]
set_option maxHeartbeats 8000000 in
set_option maxRecDepth 100000 in
theorem idsOf_calls (b : List Bool) (w : World) (hl : b.length = 32) :
    Calls Try.prog 140 #[.agg (bools b).toArray] w fun e w' => ∃ v0_ : Value, e = .returned (v0_) ∧ Kd.R (Kd.int .i64) 3 w' w.heap.size (fun _ => True) v0_ (idsU b 32) ∧ Below w.heap.size w w' := by
  have HL := Aside0.mk hl
  have HS := Aside0.mk (show (Try.prog.info? 131).map (·.size) = some (bools b).toArray.size from by rw [show (bools b).toArray.size = 32 by simp [bools, hl]]; kernel_rfl)
  clear hl
  have HB := Aside0.mk (Below.refl w.heap.size w)
  go_enter Try.func140, Try.ntmps140
  go_wp2_with (first | ((with_reducible refine gate_dst (N := 6) rfl ?_); refine wpList_load_row rfl 131 (.tmp 1) rfl w.heap.size rfl 131 (bools b).toArray (0, 0) _ (heap_alloc_new w _) Try.underlying131 rfl HS.out ?_))
  go_loopg [3, 7] 32 (fun m v3 v7 w' => ∃ n : Nat, v7 = .int .i64 (n : Int) ∧ Aside0 (n + m = 32) ∧ Aside0 (Kd.R (Kd.int .i64) 3 w' w.heap.size (fun _ => True) v3 (idsU b n)) ∧ Aside0 (Below w.heap.size w w'))
  case atStart => exact ⟨0, rfl, ⟨rfl⟩, ⟨Kd.R_nil _ _ _ _ _⟩, ⟨below_alloc (Below.refl _ _) _⟩⟩
  case round =>
    clear HB
    obtain ⟨n, rfl, HM, HO, HB⟩ := hrel
    have hn : n ≤ 32 := by have := HM.out; omega
    by_cases h32 : n < 32
    · have d0 : decide ((n : Int) < 32) = true := decide_eq_true (by omega)
      have hix := bools_index b HL.out n h32
      have hsu := idsU_succ b n
      generalize b.getD n false = t at hix hsu
      have n1 : (n : Int) + 1 = ((n + 1 : Nat) : Int) := by omega
      cases t with
      | true =>
        have HSU := Aside0.mk (hsu.trans (if_pos rfl))
        clear hsu
        have N1 := Aside0.mk n1
        clear n1
        go_wp2_with (first | ((with_reducible refine gate_builtin (b := .append) (xs := #[.tmp 12, .tmp 14]) rfl ?_); at_builtin; refine Kd.R_append (Kd.int .i64) (w0 := w) w.heap.size rfl (.tmp 12) (.tmp 14) 85 3 (.int .i64 0) 8 rfl Try.underlying85 info3 rfl (by decide) (by omega) u3 (idsU b n) (n : Int) [.int .i64 (n : Int)] (fun _ => True) (fun _ => False) rfl rfl ?aP (fun _ hk => hk.elim) ?aF ?aO ?aB ?aS ?aL ?_; (case aP => exact rfl); (case aB => exact (by repeat (first | (with_reducible first | exact HB.out | apply below_alloc | apply pw_below_drewN | apply below_drew1) | exact HB.out))); (case aF => exact (fun _ _ => trivial)); (case aO => exact (by (with_reducible repeat (first | apply Kd.R_alloc | apply Kd.R_drewN | apply Kd.R_drew)); exact HO.out)); (case aS => exact (below_size (by repeat (first | (with_reducible first | exact HB.out | apply below_alloc | apply pw_below_drewN | apply below_drew1) | exact HB.out)))); (case aL => have := idsU_length b n; omega); intro v845 w13 ho hb hg hat; have HO2 := Aside0.mk ho; have HB2 := Aside0.mk hb; clear ho hb hg hat))
        go_roundg (gk - 1)
        case measure => have := HM.out; omega
        case rel => exact ⟨n + 1, by first | rfl | (simp; done), ⟨by have := HM.out; omega⟩, ⟨by rw [HSU.out]; exact HO2.out⟩, ⟨HB2.out⟩⟩
      | false =>
        have HSU := Aside0.mk (hsu.trans (if_neg (by decide)))
        clear hsu
        have N1 := Aside0.mk n1
        clear n1
        go_wp2
        go_roundg (gk - 1)
        case measure => have := HM.out; omega
        case rel => exact ⟨n + 1, by first | rfl | (simp; done), ⟨by have := HM.out; omega⟩, ⟨by rw [HSU.out]; exact HO.out⟩, ⟨HB.out⟩⟩
    · obtain rfl : n = 32 := by omega
      clear hn h32
      have hA : ∃ A c, u3 = .slice A (idsU b 32).length c ∧ (idsU b 32).length ≤ c ∧ Kd.C (Kd.int .i64) wr A (idsU b 32).length (idsU b 32) := Kd.R_reads HO.out
      obtain ⟨A, c, rfl, hc, hC⟩ := hA
      have HC := Aside0.mk hC
      have HCC := Aside0.mk hc
      have HF := Aside0.mk (show impl_copied_int.f (idsU b 32) = some (idsU b 32) from if_pos (by have := idsU_length b 32; omega))
      clear hc hC
      go_wp2_with (go_at_call 177; refine (impl_copied_int.calls A c (idsU b 32) (idsU b 32) _ HC.out HCC.out HF.out).mono ?_; rintro e w2 ⟨v2, rfl, ho, hb⟩; have HO2 := Aside0.mk (Kd.R_lower ho HB.out.size); have HB2 := Aside0.mk (below_step HB.out hb); clear ho hb)
      go_ret
      exact ⟨_, rfl, HO2.out, HB2.out⟩
end Go.Proofs.Ytjcpkplneflleaa.Q
namespace Go.Proofs.Ytjcpkplneflleaa.Q
open Go.RowKit Go.Proofs.YtjcpkplneflleaaW.PrintWords Go.Proofs.YtjcpkplneflleaaW.PrintLast Go.Proofs.YtjcpkplneflleaaW.PrintMore
attribute [local go_sem] max2_int min2_int max_two min_two max_three min_three max_four min_four   -- for this text's walks alone
set_option linter.unusedVariables false
set_option linter.unusedSimpArgs false
theorem nameSet_length {b b' : List Bool} {x0 x1 x3 x5 : Int} (h : nameSet b x0 x1 x3 x5 = some b') : b'.length = b.length := by
  unfold nameSet at h
  repeat' split at h
  all_goals first | (cases h; done) | (obtain rfl := Option.some.inj h; simp)
theorem nameF_length {k : Nat} {a0 a1 : Int} {a2 : ByteArray} {a3 : Int} {a4 : ByteArray} {a5 : Int} {a6 : ByteArray} {b b' : List Bool} (h : nameF k a0 a1 a2 a3 a4 a5 a6 b = some b') : b'.length = b.length := by
  obtain ⟨t, _, h⟩ := Option.bind_eq_some_iff.1 h
  split at h
  · exact nameSet_length h
  · obtain rfl := Option.some.inj h; rfl
end Go.Proofs.Ytjcpkplneflleaa.Q
namespace Go.Proofs.Ytjcpkplneflleaa.Q
open Go.RowKit Go.Proofs.YtjcpkplneflleaaW.PrintWords Go.Proofs.YtjcpkplneflleaaW.PrintLast Go.Proofs.YtjcpkplneflleaaW.PrintMore
attribute [local go_sem] max2_int min2_int max_two min_two max_three min_three max_four min_four   -- for this text's walks alone
set_option linter.unusedVariables false
set_option linter.unusedSimpArgs false
def logSet (k : Nat) : List S72 → List Bool → Option (List Bool)
  | [], b => some b
  | x :: xs, b => (nameF k x.f0 x.f1 x.f2 x.f3 x.f4 x.f5 x.f6 b).bind fun b' => logSet k xs b'
def impl_LogIds.f (k : Nat) (l0 : List S72) : Option (List Int) := (logSet k (l0.take 60) (List.replicate 32 false)).bind fun b => some (idsU b 32)
attribute [local go_sem] max2_int min2_int max_two min_two
set_option maxHeartbeats 8000000 in
set_option maxRecDepth 100000 in
theorem impl_LogIds.calls (k : Nat) (A0 : Option Addr) (c0 : Nat) (l0 : List S72) (r : List Int) (w : World) (hr0 : Kd.C k72 w A0 l0.length l0) (hc0 : l0.length ≤ c0) (h : impl_LogIds.f k l0 = some r) :
    Calls Try.prog 117 #[.slice A0 l0.length c0] w fun e w' => ∃ v0_ : Value, e = .returned (v0_) ∧ Kd.R (Kd.int .i64) 3 w' w.heap.size (fun _ => True) v0_ r ∧ Below w.heap.size w w' := by
  unfold impl_LogIds.f at h
  obtain ⟨bf, hb, h⟩ := Option.bind_eq_some_iff.1 h
  obtain rfl := Option.some.inj h
  clear h
  obtain ⟨i0, hi0, hz0, hz1, hz2⟩ := info_parts info72
  by_cases c60 : 60 < l0.length
  · have hl60 : (l0.take 60).length = 60 := by rw [List.length_take]; omega
    have hcut := cut_to (P := Try.prog) 34 72 .i64 Try.underlying34 hi0 A0 l0.length c0 60 (by omega) (by omega) hc0
    have hrl := Kd.C_take hr0 (m := 60) (by omega)
    have m0 : (60 : Int) < (l0.length : Int) := by omega
    have m1 : decide ((60 : Int) < (l0.length : Int)) = true := decide_eq_true m0
    have m2 : decide (60 < l0.length) = true := decide_eq_true c60
    have HF := Aside0.mk hb
    have HC0 := Aside0.mk hc0
    have HC := Aside0.mk c60
    clear hb hr0 hc0 hi0 hz0 hz1 hz2 c60
    obtain ⟨L, hL⟩ : ∃ L, L = l0.take 60 := ⟨_, rfl⟩
    rw [← hL] at HF hl60 hrl
    have hcut2 : ∀ W : World, (Instr.slice 34 (.slice A0 l0.length c0) none (some (.int .i64 60)) none).run Try.prog W = .ok (.slice A0 L.length c0) W := by rw [hl60]; exact hcut
    have HRL := Aside0.mk hrl
    have H60 := Aside0.mk (show L.length ≤ 60 by omega)
    clear hL hrl hcut hl60
    go_enter Try.func117, Try.ntmps117
    go_wp2
    go_loopg [12] L.length (fun m v12 w' => ∃ (n : Nat) (b : List Bool), v12 = .int .i64 (n : Int) ∧ Aside0 (n + m = L.length) ∧ Aside0 (b.length = 32) ∧ Aside0 (logSet k (L.drop n) b = some bf) ∧ Aside0 (w'.heap[w.heap.size]? = some (.cells (bools b).toArray 131 (0, 0))) ∧ Aside0 (Below w.heap.size w w'))
    case atStart => exact ⟨0, List.replicate 32 false, rfl, ⟨Nat.zero_add _⟩, ⟨by simp⟩, ⟨HF.out⟩, ⟨heap_alloc_new w _⟩, ⟨below_alloc (Below.refl _ _) _⟩⟩
    case round =>
      obtain ⟨n, b, rfl, HM, HLb, HS, HK, HB⟩ := hrel
      by_cases hlt : n < L.length
      · have hn60 : n < 60 := by have := H60.out; omega
        have d0 : decide (n < L.length) = true := decide_eq_true hlt
        have d1 : decide ((n : Int) < (L.length : Int)) = true := decide_eq_true (by omega)
        obtain ⟨ad, e0, z0, z1, z2, z3, z4, z5, z6⟩ := at_T72 HRL.out (n : Int) (by omega) (by omega)
        have hdr : L.drop n = rd_T72 L (n : Int) :: L.drop (n + 1) := by
          rw [List.drop_eq_getElem_cons hlt]
          simp [rd_T72, List.getD_eq_getElem?_getD, List.getElem?_eq_getElem hlt]
        have hs := HS.out
        rw [hdr, logSet] at hs
        obtain ⟨b1, hb1, hs⟩ := Option.bind_eq_some_iff.1 hs
        have HF1 := Aside0.mk hb1
        have HS1 := Aside0.mk hs
        have HL1 := Aside0.mk ((nameF_length hb1).trans HLb.out)
        have HAD := Aside0.mk e0
        clear hb1 hs hdr HS
        subst_eqs
        replace z0 := pw_cell_below HB.out z0
        replace z1 := pw_cell_below HB.out z1
        replace z2 := pw_cell_below HB.out z2
        replace z3 := pw_cell_below HB.out z3
        replace z4 := pw_cell_below HB.out z4
        replace z5 := pw_cell_below HB.out z5
        replace z6 := pw_cell_below HB.out z6
        simp only [Int.toNat_natCast] at z0 z1 z2 z3 z4 z5 z6
        go_wp2_with fail
        refine (name_calls k _ _ _ _ _ _ _ w.heap.size b b1 _ (blk_alloc HK.out _) HLb.out HF1.out).mono ?_
        rintro e w1 ⟨rfl, hk, hg⟩
        have HK1 := Aside0.mk hk
        have HB1 := Aside0.mk (pw_below_grown (below_alloc HB.out _) _ (by have := HB.out.size; simp only [World.size_alloc]; omega) hg (fun q hq => by injection hq with hq; omega))
        clear hk hg HB HK z0 z1 z2 z3 z4 z5 z6
        go_wp2
        go_roundg (gk - 1)
        case measure => have := HM.out; omega
        case rel => exact ⟨n + 1, b1, by first | (rw [show wrap64 ((n : Int) + 1) = ((n + 1 : Nat) : Int) from by unfold wrap64; omega]) | rfl | (simp; done), ⟨by have := HM.out; omega⟩, HL1, HS1, HK1, HB1⟩
      · have hn : n = L.length := by have := HM.out; omega
        have hs := HS.out
        rw [hn, List.drop_length, logSet] at hs
        obtain rfl := Option.some.inj hs
        have d0 : decide (n < L.length) = false := decide_eq_false hlt
        have d1 : decide ((n : Int) < (L.length : Int)) = false := decide_eq_false (by omega)
        have HSZ := Aside0.mk (show (Try.prog.info? 131).map (·.size) = some (bools b).toArray.size from by rw [show (bools b).toArray.size = 32 by simp [bools, HLb.out]]; kernel_rfl)
        clear hs hn hlt HS
        go_wp2_with (first | ((with_reducible refine gate_dst (N := 19) rfl ?_); refine wpList_load_row rfl 131 (.tmp 3) rfl w.heap.size rfl 131 (bools b).toArray (0, 0) _ HK.out Try.underlying131 rfl HSZ.out ?_) | (go_at_call 140; refine (idsOf_calls b _ HLb.out).mono ?_; rintro e w2 ⟨v2, rfl, ho, hb⟩; have HO2 := Aside0.mk (Kd.R_lower ho HB.out.size); have HB2 := Aside0.mk (below_step HB.out hb); clear ho hb))
        go_ret
        exact ⟨_, rfl, HO2.out, HB2.out⟩
  · have hl60 : l0.take 60 = l0 := List.take_of_length_le (by omega)
    rw [hl60] at hb
    have hcut2 := cut_to (P := Try.prog) 34 72 .i64 Try.underlying34 hi0 A0 l0.length c0 (l0.length : Int) (by omega) (by omega) hc0
    simp only [Int.toNat_natCast] at hcut2
    have m0 : ¬ ((60 : Int) < (l0.length : Int)) := by omega
    have m1 : decide ((60 : Int) < (l0.length : Int)) = false := decide_eq_false m0
    have m2 : decide (60 < l0.length) = false := decide_eq_false c60
    have HF := Aside0.mk hb
    have HC0 := Aside0.mk hc0
    have HRL := Aside0.mk hr0
    have H60 := Aside0.mk (show l0.length ≤ 60 by omega)
    clear hb hr0 hc0 hi0 hz0 hz1 hz2 hl60
    go_enter Try.func117, Try.ntmps117
    go_wp2
    go_loopg [12] l0.length (fun m v12 w' => ∃ (n : Nat) (b : List Bool), v12 = .int .i64 (n : Int) ∧ Aside0 (n + m = l0.length) ∧ Aside0 (b.length = 32) ∧ Aside0 (logSet k (l0.drop n) b = some bf) ∧ Aside0 (w'.heap[w.heap.size]? = some (.cells (bools b).toArray 131 (0, 0))) ∧ Aside0 (Below w.heap.size w w'))
    case atStart => exact ⟨0, List.replicate 32 false, rfl, ⟨Nat.zero_add _⟩, ⟨by simp⟩, ⟨HF.out⟩, ⟨heap_alloc_new w _⟩, ⟨below_alloc (Below.refl _ _) _⟩⟩
    case round =>
      obtain ⟨n, b, rfl, HM, HLb, HS, HK, HB⟩ := hrel
      by_cases hlt : n < l0.length
      · have hn60 : n < 60 := by have := H60.out; omega
        have d0 : decide (n < l0.length) = true := decide_eq_true hlt
        have d1 : decide ((n : Int) < (l0.length : Int)) = true := decide_eq_true (by omega)
        obtain ⟨ad, e0, z0, z1, z2, z3, z4, z5, z6⟩ := at_T72 HRL.out (n : Int) (by omega) (by omega)
        have hdr : l0.drop n = rd_T72 l0 (n : Int) :: l0.drop (n + 1) := by
          rw [List.drop_eq_getElem_cons hlt]
          simp [rd_T72, List.getD_eq_getElem?_getD, List.getElem?_eq_getElem hlt]
        have hs := HS.out
        rw [hdr, logSet] at hs
        obtain ⟨b1, hb1, hs⟩ := Option.bind_eq_some_iff.1 hs
        have HF1 := Aside0.mk hb1
        have HS1 := Aside0.mk hs
        have HL1 := Aside0.mk ((nameF_length hb1).trans HLb.out)
        have HAD := Aside0.mk e0
        clear hb1 hs hdr HS
        subst_eqs
        replace z0 := pw_cell_below HB.out z0
        replace z1 := pw_cell_below HB.out z1
        replace z2 := pw_cell_below HB.out z2
        replace z3 := pw_cell_below HB.out z3
        replace z4 := pw_cell_below HB.out z4
        replace z5 := pw_cell_below HB.out z5
        replace z6 := pw_cell_below HB.out z6
        simp only [Int.toNat_natCast] at z0 z1 z2 z3 z4 z5 z6
        go_wp2_with fail
        refine (name_calls k _ _ _ _ _ _ _ w.heap.size b b1 _ (blk_alloc HK.out _) HLb.out HF1.out).mono ?_
        rintro e w1 ⟨rfl, hk, hg⟩
        have HK1 := Aside0.mk hk
        have HB1 := Aside0.mk (pw_below_grown (below_alloc HB.out _) _ (by have := HB.out.size; simp only [World.size_alloc]; omega) hg (fun q hq => by injection hq with hq; omega))
        clear hk hg HB HK z0 z1 z2 z3 z4 z5 z6
        go_wp2
        go_roundg (gk - 1)
        case measure => have := HM.out; omega
        case rel => exact ⟨n + 1, b1, by first | (rw [show wrap64 ((n : Int) + 1) = ((n + 1 : Nat) : Int) from by unfold wrap64; omega]) | rfl | (simp; done), ⟨by have := HM.out; omega⟩, HL1, HS1, HK1, HB1⟩
      · have hn : n = l0.length := by have := HM.out; omega
        have hs := HS.out
        rw [hn, List.drop_length, logSet] at hs
        obtain rfl := Option.some.inj hs
        have d0 : decide (n < l0.length) = false := decide_eq_false hlt
        have d1 : decide ((n : Int) < (l0.length : Int)) = false := decide_eq_false (by omega)
        have HSZ := Aside0.mk (show (Try.prog.info? 131).map (·.size) = some (bools b).toArray.size from by rw [show (bools b).toArray.size = 32 by simp [bools, HLb.out]]; kernel_rfl)
        clear hs hn hlt HS
        go_wp2_with (first | ((with_reducible refine gate_dst (N := 19) rfl ?_); refine wpList_load_row rfl 131 (.tmp 3) rfl w.heap.size rfl 131 (bools b).toArray (0, 0) _ HK.out Try.underlying131 rfl HSZ.out ?_) | (go_at_call 140; refine (idsOf_calls b _ HLb.out).mono ?_; rintro e w2 ⟨v2, rfl, ho, hb⟩; have HO2 := Aside0.mk (Kd.R_lower ho HB.out.size); have HB2 := Aside0.mk (below_step HB.out hb); clear ho hb))
        go_ret
        exact ⟨_, rfl, HO2.out, HB2.out⟩
end Go.Proofs.Ytjcpkplneflleaa.Q
namespace Go.Proofs.Ytjcpkplneflleaa.Q
open Go.RowKit Go.Proofs.YtjcpkplneflleaaW.PrintWords Go.Proofs.YtjcpkplneflleaaW.PrintLast Go.Proofs.YtjcpkplneflleaaW.PrintMore
attribute [local go_sem] max2_int min2_int max_two min_two max_three min_three max_four min_four   -- for this text's walks alone
set_option linter.unusedVariables false
set_option linter.unusedSimpArgs false
mutual
def impl_LogOk.j0 : Nat → Bool → Int → Int → List (S115) → List (S72) → Option (Bool)
  | 0, _, _, _, _, _ => none
  | k + 1, x21, x831000, x831001, x831002, x831003 => if x21 = true then (some false) else ((impl_LogIds.f k x831003).bind fun t834 => (if (t834.length : Int) = (x831002.length : Int) then (impl_LogOk.l0 k t834 x831002 (x831002.length : Int) 0) else (some false)))
def impl_LogOk.l0 : Nat → List Int → List (S115) → Int → Int → Option (Bool)
  | 0, _, _, _, _ => none
  | k + 1, x3, x32, x33, x34 => if x34 < x33 then (if 0 ≤ x34 then (if x34 < (x32.length : Int) then (if x34 < (x3.length : Int) then (if ((rd_T115 x32 x34).f0) = (rd x3 x34) then ((impl_in.f ((rd_T115 x32 x34).f1) 0 1000000).bind fun t840 => (if t840 = true then (impl_LogOk.l0 k x3 x32 x33 (wrap64 (x34 + 1))) else (some false))) else (some false)) else (none)) else (none)) else (none)) else (some true)
end
def impl_LogOk.f (k : Nat) (a0_0 : Int) (a0_1 : Int) (l0_2 : List (S115)) (l0_3 : List (S72)) : Option (Bool) := (impl_isClient.f a0_0).bind fun t831 => (if t831 = true then ((impl_in.f a0_1 1 1000).bind fun t832 => (if t832 = true then ((impl_opsOk.f k l0_3 60).bind fun t833 => (impl_LogOk.j0 k (!t833) a0_0 a0_1 l0_2 l0_3)) else (impl_LogOk.j0 k true a0_0 a0_1 l0_2 l0_3))) else (impl_LogOk.j0 k true a0_0 a0_1 l0_2 l0_3))
set_option maxHeartbeats 8000000 in
set_option maxRecDepth 100000 in
theorem impl_LogOk.calls (k : Nat) (a0_0 : Int) (a0_1 : Int) (A0_2 : Option Addr) (c0_2 : Nat) (l0_2 : List (S115)) (A0_3 : Option Addr) (c0_3 : Nat) (l0_3 : List (S72)) (r : Bool) (w : World) (hr0_2 : Kd.C k115 w A0_2 l0_2.length l0_2) (hc0_2 : l0_2.length ≤ c0_2) (hr0_3 : Kd.C k72 w A0_3 l0_3.length l0_3) (hc0_3 : l0_3.length ≤ c0_3) (h : impl_LogOk.f k a0_0 a0_1 l0_2 l0_3 = some r) :
    Calls Try.prog 57 #[.agg #[.int .i64 a0_0, .int .i64 a0_1, .slice A0_2 l0_2.length c0_2, .slice A0_3 l0_3.length c0_3]] w fun e w' => e = .returned (.bool r) ∧ Below w.heap.size w w' := by
  have hu58 := Try.underlying58
  have hu115 := Try.underlying115
  have HR0_2 := Aside0.mk hr0_2
  have HC0_2 := Aside0.mk hc0_2
  clear hr0_2 hc0_2
  have HR0_3 := Aside0.mk hr0_3
  have HC0_3 := Aside0.mk hc0_3
  clear hr0_3 hc0_3
  have HB := Aside0.mk (Below.refl w.heap.size w)
  have H : ((impl_isClient.f a0_0).bind fun t831 => (if t831 = true then ((impl_in.f a0_1 1 1000).bind fun t832 => (if t832 = true then ((impl_opsOk.f k l0_3 60).bind fun t833 => (impl_LogOk.j0 k (!t833) a0_0 a0_1 l0_2 l0_3)) else (impl_LogOk.j0 k true a0_0 a0_1 l0_2 l0_3))) else (impl_LogOk.j0 k true a0_0 a0_1 l0_2 l0_3))) = some r := h
  clear h
  have HC2 := Aside0.mk H
  clear H
  go_enter Try.func57, Try.ntmps57
  go_upto_region 1 with (first | ((with_reducible refine gate_dst (N := 1) rfl ?_); refine box_event ?hg (N := 1) ?hd (cs := #[.int .i64 a0_0, .int .i64 a0_1, .slice A0_2 l0_2.length c0_2, .slice A0_3 l0_3.length c0_3]) (t := 58) ?hr ?_; (case hd => rfl); (case hg => rfl); (case hr => first | (go_simp; done) | (go_simp; rfl)); intro gb830 hg w3 hbox hb; have n0_ := Aside0.mk (below_step (by repeat (first | (with_reducible first | exact HB.out | apply below_alloc | apply pw_below_drewN | apply below_drew1) | exact HB.out)) hb); have n1_ := Aside0.mk (hbox); have n2_ := Aside0.mk ((by rw [hg]; exact (below_size (by repeat (first | (with_reducible first | exact HB.out | apply below_alloc | apply pw_below_drewN | apply below_drew1) | exact HB.out))) : w.heap.size ≤ gb830)); have n3_ := Aside0.mk ((by rw [hg]; exact (below_size (by repeat (first | (with_reducible first | exact HB.out | apply below_alloc | apply pw_below_drewN | apply below_drew1) | exact HB.out))) : w.heap.size ≤ gb830)); clear HB; have HB := n0_; have BK830 := n1_; have GW830 := n2_; have GE830 := n3_; clear n0_ n1_ n2_ n3_; clear hb hbox hg))
  repeat (go_quiet (first | ((with_reducible refine gate_dst (N := 1) rfl ?_); refine box_event ?hg (N := 1) ?hd (cs := #[.int .i64 a0_0, .int .i64 a0_1, .slice A0_2 l0_2.length c0_2, .slice A0_3 l0_3.length c0_3]) (t := 58) ?hr ?_; (case hd => rfl); (case hg => rfl); (case hr => first | (go_simp; done) | (go_simp; rfl)); intro gb830 hg w3 hbox hb; have n0_ := Aside0.mk (below_step (by repeat (first | (with_reducible first | exact HB.out | apply below_alloc | apply pw_below_drewN | apply below_drew1) | exact HB.out)) hb); have n1_ := Aside0.mk (hbox); have n2_ := Aside0.mk ((by rw [hg]; exact (below_size (by repeat (first | (with_reducible first | exact HB.out | apply below_alloc | apply pw_below_drewN | apply below_drew1) | exact HB.out))) : w.heap.size ≤ gb830)); have n3_ := Aside0.mk ((by rw [hg]; exact (below_size (by repeat (first | (with_reducible first | exact HB.out | apply below_alloc | apply pw_below_drewN | apply below_drew1) | exact HB.out))) : w.heap.size ≤ gb830)); clear HB; have HB := n0_; have BK830 := n1_; have GW830 := n2_; have GE830 := n3_; clear n0_ n1_ n2_ n3_; clear hb hbox hg)); go_upto_region 1 with (first | ((with_reducible refine gate_dst (N := 1) rfl ?_); refine box_event ?hg (N := 1) ?hd (cs := #[.int .i64 a0_0, .int .i64 a0_1, .slice A0_2 l0_2.length c0_2, .slice A0_3 l0_3.length c0_3]) (t := 58) ?hr ?_; (case hd => rfl); (case hg => rfl); (case hr => first | (go_simp; done) | (go_simp; rfl)); intro gb830 hg w3 hbox hb; have n0_ := Aside0.mk (below_step (by repeat (first | (with_reducible first | exact HB.out | apply below_alloc | apply pw_below_drewN | apply below_drew1) | exact HB.out)) hb); have n1_ := Aside0.mk (hbox); have n2_ := Aside0.mk ((by rw [hg]; exact (below_size (by repeat (first | (with_reducible first | exact HB.out | apply below_alloc | apply pw_below_drewN | apply below_drew1) | exact HB.out))) : w.heap.size ≤ gb830)); have n3_ := Aside0.mk ((by rw [hg]; exact (below_size (by repeat (first | (with_reducible first | exact HB.out | apply below_alloc | apply pw_below_drewN | apply below_drew1) | exact HB.out))) : w.heap.size ≤ gb830)); clear HB; have HB := n0_; have BK830 := n1_; have GW830 := n2_; have GE830 := n3_; clear n0_ n1_ n2_ n3_; clear hb hbox hg)))
  (try simp only [Act.put, List.setIfInBounds_toArray, List.set_cons_zero, List.set_cons_succ])
  go_cut [21] (fun v21 wc => ∃ (kq : Nat) (x21_1 : Bool), v21 = .bool x21_1 ∧ Aside0 (impl_LogOk.j0 kq x21_1 a0_0 a0_1 l0_2 l0_3 = some r) ∧ Aside0 (kq ≤ k) ∧ Aside0 (wc.heap[gb830]? = some (.cells #[.int .i64 a0_0, .int .i64 a0_1, (.slice A0_2 l0_2.length c0_2), (.slice A0_3 l0_3.length c0_3)] 58 (0, 0))) ∧ Aside0 (Below w.heap.size w wc))
  case first =>
    have H := HC2.out
    clear HC2
    replace H := Option.bind_eq_some_iff.mp H
    obtain ⟨t831, A40, H⟩ := H
    replace H : (if t831 = true then ((impl_in.f a0_1 1 1000).bind fun t832 => (if t832 = true then ((impl_opsOk.f k l0_3 60).bind fun t833 => (impl_LogOk.j0 k (!t833) a0_0 a0_1 l0_2 l0_3)) else (impl_LogOk.j0 k true a0_0 a0_1 l0_2 l0_3))) else (impl_LogOk.j0 k true a0_0 a0_1 l0_2 l0_3)) = some r := H
    have A4 := Aside0.mk A40
    clear A40
    by_cases c5 : t831 = true
    · subst c5
      have H1 : ((impl_in.f a0_1 1 1000).bind fun t832 => (if t832 = true then ((impl_opsOk.f k l0_3 60).bind fun t833 => (impl_LogOk.j0 k (!t833) a0_0 a0_1 l0_2 l0_3)) else (impl_LogOk.j0 k true a0_0 a0_1 l0_2 l0_3))) = some r := by rw [if_pos rfl] at H; exact H
      clear H
      have H := H1
      clear H1
      replace H := Option.bind_eq_some_iff.mp H
      obtain ⟨t832, A60, H⟩ := H
      replace H : (if t832 = true then ((impl_opsOk.f k l0_3 60).bind fun t833 => (impl_LogOk.j0 k (!t833) a0_0 a0_1 l0_2 l0_3)) else (impl_LogOk.j0 k true a0_0 a0_1 l0_2 l0_3)) = some r := H
      have A6 := Aside0.mk A60
      clear A60
      by_cases c7 : t832 = true
      · subst c7
        have H1 : ((impl_opsOk.f k l0_3 60).bind fun t833 => (impl_LogOk.j0 k (!t833) a0_0 a0_1 l0_2 l0_3)) = some r := by rw [if_pos rfl] at H; exact H
        clear H
        have H := H1
        clear H1
        replace H := Option.bind_eq_some_iff.mp H
        obtain ⟨t833, A80, H⟩ := H
        replace H : (impl_LogOk.j0 k (!t833) a0_0 a0_1 l0_2 l0_3) = some r := H
        have A8 := Aside0.mk A80
        clear A80
        have H' := Aside0.mk H
        clear H
        have hcz9_0 : w3.cell? ⟨gb830, 0, none⟩ = some (.int .i64 a0_0) := (blk_cell BK830.out 0).trans rfl
        have hcz9_1 : w3.cell? ⟨gb830, 1, none⟩ = some (.int .i64 a0_1) := (blk_cell BK830.out 1).trans rfl
        have hcz9_2 : w3.cell? ⟨gb830, 2, none⟩ = some (.slice A0_2 l0_2.length c0_2) := (blk_cell BK830.out 2).trans rfl
        have hcz9_3 : w3.cell? ⟨gb830, 3, none⟩ = some (.slice A0_3 l0_3.length c0_3) := (blk_cell BK830.out 3).trans rfl
        have hfz9_0 := blk_frozen BK830.out 0
        have hfz9_1 := blk_frozen BK830.out 1
        have hfz9_2 := blk_frozen BK830.out 2
        have hfz9_3 := blk_frozen BK830.out 3
        go_wp2_with (first | (go_at_call 116; (with_reducible refine (impl_isClient.calls a0_0 true _ A4.out).mono ?_); rintro e w' ⟨rfl, ⟨nd, rfl⟩⟩; (try first | exact ⟨rfl, _, World.drewN_drewN _ _ _⟩ | exact ⟨rfl, _, Eq.trans (World.drewN_drewN _ _ _) (congrArg (World.drewN _) (Nat.add_assoc _ _ _))⟩)) | (go_at_call 109; (with_reducible refine (impl_in.calls a0_1 1 1000 true _ A6.out).mono ?_); rintro e w' ⟨rfl, ⟨nd, rfl⟩⟩; (try first | exact ⟨rfl, _, World.drewN_drewN _ _ _⟩ | exact ⟨rfl, _, Eq.trans (World.drewN_drewN _ _ _) (congrArg (World.drewN _) (Nat.add_assoc _ _ _))⟩)) | (go_at_call 86; (with_reducible refine (impl_opsOk.calls k _ _ l0_3 60 t833 _ ?side1 ?side2 A8.out).mono ?_); (case side1 => repeat (first | exact (Kd.C_below HR0_3.out (by repeat (first | (with_reducible first | exact HB.out | apply below_alloc | apply pw_below_drewN | apply below_drew1 | refine below_set ?_ GE830.out) | exact HB.out))) | (with_reducible refine Kd.C_alloc ?_ _) | (with_reducible refine Kd.C_drewN ?_ _) | (with_reducible refine Kd.C_drew ?_))); (case side2 => exact HC0_3.out); rintro e w10 ⟨rfl, hb⟩; have n0_ := Aside0.mk (blk_below (g := gb830) (o := .cells #[.int .i64 a0_0, .int .i64 a0_1, .slice A0_2 l0_2.length c0_2, .slice A0_3 l0_3.length c0_3] 58 (0, 0)) (by (with_reducible repeat (first | refine blk_drewN ?_ _ | refine blk_drew ?_ | refine blk_alloc ?_ _)); exact BK830.out) hb); have n1_ := Aside0.mk (below_step (by repeat (first | (with_reducible first | exact HB.out | apply below_alloc | apply pw_below_drewN | apply below_drew1 | refine below_set ?_ GE830.out) | exact HB.out)) hb); clear BK830; clear HB; have BK830 := n0_; have HB := n1_; clear n0_ n1_; (try clear hb); (try clear hb2); (try clear hk); (try clear hi)))
        repeat (go_quiet (first | (go_at_call 116; (with_reducible refine (impl_isClient.calls a0_0 true _ A4.out).mono ?_); rintro e w' ⟨rfl, ⟨nd, rfl⟩⟩; (try first | exact ⟨rfl, _, World.drewN_drewN _ _ _⟩ | exact ⟨rfl, _, Eq.trans (World.drewN_drewN _ _ _) (congrArg (World.drewN _) (Nat.add_assoc _ _ _))⟩)) | (go_at_call 109; (with_reducible refine (impl_in.calls a0_1 1 1000 true _ A6.out).mono ?_); rintro e w' ⟨rfl, ⟨nd, rfl⟩⟩; (try first | exact ⟨rfl, _, World.drewN_drewN _ _ _⟩ | exact ⟨rfl, _, Eq.trans (World.drewN_drewN _ _ _) (congrArg (World.drewN _) (Nat.add_assoc _ _ _))⟩)) | (go_at_call 86; (with_reducible refine (impl_opsOk.calls k _ _ l0_3 60 t833 _ ?side1 ?side2 A8.out).mono ?_); (case side1 => repeat (first | exact (Kd.C_below HR0_3.out (by repeat (first | (with_reducible first | exact HB.out | apply below_alloc | apply pw_below_drewN | apply below_drew1 | refine below_set ?_ GE830.out) | exact HB.out))) | (with_reducible refine Kd.C_alloc ?_ _) | (with_reducible refine Kd.C_drewN ?_ _) | (with_reducible refine Kd.C_drew ?_))); (case side2 => exact HC0_3.out); rintro e w10 ⟨rfl, hb⟩; have n0_ := Aside0.mk (blk_below (g := gb830) (o := .cells #[.int .i64 a0_0, .int .i64 a0_1, .slice A0_2 l0_2.length c0_2, .slice A0_3 l0_3.length c0_3] 58 (0, 0)) (by (with_reducible repeat (first | refine blk_drewN ?_ _ | refine blk_drew ?_ | refine blk_alloc ?_ _)); exact BK830.out) hb); have n1_ := Aside0.mk (below_step (by repeat (first | (with_reducible first | exact HB.out | apply below_alloc | apply pw_below_drewN | apply below_drew1 | refine below_set ?_ GE830.out) | exact HB.out)) hb); clear BK830; clear HB; have BK830 := n0_; have HB := n1_; clear n0_ n1_; (try clear hb); (try clear hb2); (try clear hk); (try clear hi))); try go_wp2_with (first | (go_at_call 116; (with_reducible refine (impl_isClient.calls a0_0 true _ A4.out).mono ?_); rintro e w' ⟨rfl, ⟨nd, rfl⟩⟩; (try first | exact ⟨rfl, _, World.drewN_drewN _ _ _⟩ | exact ⟨rfl, _, Eq.trans (World.drewN_drewN _ _ _) (congrArg (World.drewN _) (Nat.add_assoc _ _ _))⟩)) | (go_at_call 109; (with_reducible refine (impl_in.calls a0_1 1 1000 true _ A6.out).mono ?_); rintro e w' ⟨rfl, ⟨nd, rfl⟩⟩; (try first | exact ⟨rfl, _, World.drewN_drewN _ _ _⟩ | exact ⟨rfl, _, Eq.trans (World.drewN_drewN _ _ _) (congrArg (World.drewN _) (Nat.add_assoc _ _ _))⟩)) | (go_at_call 86; (with_reducible refine (impl_opsOk.calls k _ _ l0_3 60 t833 _ ?side1 ?side2 A8.out).mono ?_); (case side1 => repeat (first | exact (Kd.C_below HR0_3.out (by repeat (first | (with_reducible first | exact HB.out | apply below_alloc | apply pw_below_drewN | apply below_drew1 | refine below_set ?_ GE830.out) | exact HB.out))) | (with_reducible refine Kd.C_alloc ?_ _) | (with_reducible refine Kd.C_drewN ?_ _) | (with_reducible refine Kd.C_drew ?_))); (case side2 => exact HC0_3.out); rintro e w10 ⟨rfl, hb⟩; have n0_ := Aside0.mk (blk_below (g := gb830) (o := .cells #[.int .i64 a0_0, .int .i64 a0_1, .slice A0_2 l0_2.length c0_2, .slice A0_3 l0_3.length c0_3] 58 (0, 0)) (by (with_reducible repeat (first | refine blk_drewN ?_ _ | refine blk_drew ?_ | refine blk_alloc ?_ _)); exact BK830.out) hb); have n1_ := Aside0.mk (below_step (by repeat (first | (with_reducible first | exact HB.out | apply below_alloc | apply pw_below_drewN | apply below_drew1 | refine below_set ?_ GE830.out) | exact HB.out)) hb); clear BK830; clear HB; have BK830 := n0_; have HB := n1_; clear n0_ n1_; (try clear hb); (try clear hb2); (try clear hk); (try clear hi))))
        go_meet
        case rel => exact ⟨_, (!t833), (by first | rfl | (simp; done) | (simp [*]; done)), H', ⟨by first | omega | exact Nat.le_refl _⟩, ⟨by (with_reducible repeat (first | refine blk_drewN ?_ _ | refine blk_drew ?_ | refine blk_alloc ?_ _)); exact BK830.out⟩, ⟨by repeat (first | (with_reducible first | exact HB.out | apply below_alloc | apply pw_below_drewN | apply below_drew1 | refine below_set ?_ GE830.out) | exact HB.out)⟩⟩
      · replace c7 := Bool.eq_false_iff.mpr c7
        subst c7
        have H1 : (impl_LogOk.j0 k true a0_0 a0_1 l0_2 l0_3) = some r := by rw [if_neg (show ¬ (false = true) by decide)] at H; exact H
        clear H
        have H := H1
        clear H1
        have H' := Aside0.mk H
        clear H
        have hcz11_0 : w3.cell? ⟨gb830, 0, none⟩ = some (.int .i64 a0_0) := (blk_cell BK830.out 0).trans rfl
        have hcz11_1 : w3.cell? ⟨gb830, 1, none⟩ = some (.int .i64 a0_1) := (blk_cell BK830.out 1).trans rfl
        have hcz11_2 : w3.cell? ⟨gb830, 2, none⟩ = some (.slice A0_2 l0_2.length c0_2) := (blk_cell BK830.out 2).trans rfl
        have hcz11_3 : w3.cell? ⟨gb830, 3, none⟩ = some (.slice A0_3 l0_3.length c0_3) := (blk_cell BK830.out 3).trans rfl
        have hfz11_0 := blk_frozen BK830.out 0
        have hfz11_1 := blk_frozen BK830.out 1
        have hfz11_2 := blk_frozen BK830.out 2
        have hfz11_3 := blk_frozen BK830.out 3
        go_wp2_with (first | (go_at_call 116; (with_reducible refine (impl_isClient.calls a0_0 true _ A4.out).mono ?_); rintro e w' ⟨rfl, ⟨nd, rfl⟩⟩; (try first | exact ⟨rfl, _, World.drewN_drewN _ _ _⟩ | exact ⟨rfl, _, Eq.trans (World.drewN_drewN _ _ _) (congrArg (World.drewN _) (Nat.add_assoc _ _ _))⟩)) | (go_at_call 109; (with_reducible refine (impl_in.calls a0_1 1 1000 false _ A6.out).mono ?_); rintro e w' ⟨rfl, ⟨nd, rfl⟩⟩; (try first | exact ⟨rfl, _, World.drewN_drewN _ _ _⟩ | exact ⟨rfl, _, Eq.trans (World.drewN_drewN _ _ _) (congrArg (World.drewN _) (Nat.add_assoc _ _ _))⟩)))
        repeat (go_quiet (first | (go_at_call 116; (with_reducible refine (impl_isClient.calls a0_0 true _ A4.out).mono ?_); rintro e w' ⟨rfl, ⟨nd, rfl⟩⟩; (try first | exact ⟨rfl, _, World.drewN_drewN _ _ _⟩ | exact ⟨rfl, _, Eq.trans (World.drewN_drewN _ _ _) (congrArg (World.drewN _) (Nat.add_assoc _ _ _))⟩)) | (go_at_call 109; (with_reducible refine (impl_in.calls a0_1 1 1000 false _ A6.out).mono ?_); rintro e w' ⟨rfl, ⟨nd, rfl⟩⟩; (try first | exact ⟨rfl, _, World.drewN_drewN _ _ _⟩ | exact ⟨rfl, _, Eq.trans (World.drewN_drewN _ _ _) (congrArg (World.drewN _) (Nat.add_assoc _ _ _))⟩))); try go_wp2_with (first | (go_at_call 116; (with_reducible refine (impl_isClient.calls a0_0 true _ A4.out).mono ?_); rintro e w' ⟨rfl, ⟨nd, rfl⟩⟩; (try first | exact ⟨rfl, _, World.drewN_drewN _ _ _⟩ | exact ⟨rfl, _, Eq.trans (World.drewN_drewN _ _ _) (congrArg (World.drewN _) (Nat.add_assoc _ _ _))⟩)) | (go_at_call 109; (with_reducible refine (impl_in.calls a0_1 1 1000 false _ A6.out).mono ?_); rintro e w' ⟨rfl, ⟨nd, rfl⟩⟩; (try first | exact ⟨rfl, _, World.drewN_drewN _ _ _⟩ | exact ⟨rfl, _, Eq.trans (World.drewN_drewN _ _ _) (congrArg (World.drewN _) (Nat.add_assoc _ _ _))⟩))))
        go_meet
        case rel => exact ⟨_, (true), (by first | rfl | (simp; done) | (simp [*]; done)), H', ⟨by first | omega | exact Nat.le_refl _⟩, ⟨by (with_reducible repeat (first | refine blk_drewN ?_ _ | refine blk_drew ?_ | refine blk_alloc ?_ _)); exact BK830.out⟩, ⟨by repeat (first | (with_reducible first | exact HB.out | apply below_alloc | apply pw_below_drewN | apply below_drew1 | refine below_set ?_ GE830.out) | exact HB.out)⟩⟩
    · replace c5 := Bool.eq_false_iff.mpr c5
      subst c5
      have H1 : (impl_LogOk.j0 k true a0_0 a0_1 l0_2 l0_3) = some r := by rw [if_neg (show ¬ (false = true) by decide)] at H; exact H
      clear H
      have H := H1
      clear H1
      have H' := Aside0.mk H
      clear H
      have hcz12_0 : w3.cell? ⟨gb830, 0, none⟩ = some (.int .i64 a0_0) := (blk_cell BK830.out 0).trans rfl
      have hcz12_1 : w3.cell? ⟨gb830, 1, none⟩ = some (.int .i64 a0_1) := (blk_cell BK830.out 1).trans rfl
      have hcz12_2 : w3.cell? ⟨gb830, 2, none⟩ = some (.slice A0_2 l0_2.length c0_2) := (blk_cell BK830.out 2).trans rfl
      have hcz12_3 : w3.cell? ⟨gb830, 3, none⟩ = some (.slice A0_3 l0_3.length c0_3) := (blk_cell BK830.out 3).trans rfl
      have hfz12_0 := blk_frozen BK830.out 0
      have hfz12_1 := blk_frozen BK830.out 1
      have hfz12_2 := blk_frozen BK830.out 2
      have hfz12_3 := blk_frozen BK830.out 3
      go_wp2_with (first | (go_at_call 116; (with_reducible refine (impl_isClient.calls a0_0 false _ A4.out).mono ?_); rintro e w' ⟨rfl, ⟨nd, rfl⟩⟩; (try first | exact ⟨rfl, _, World.drewN_drewN _ _ _⟩ | exact ⟨rfl, _, Eq.trans (World.drewN_drewN _ _ _) (congrArg (World.drewN _) (Nat.add_assoc _ _ _))⟩)))
      repeat (go_quiet (first | (go_at_call 116; (with_reducible refine (impl_isClient.calls a0_0 false _ A4.out).mono ?_); rintro e w' ⟨rfl, ⟨nd, rfl⟩⟩; (try first | exact ⟨rfl, _, World.drewN_drewN _ _ _⟩ | exact ⟨rfl, _, Eq.trans (World.drewN_drewN _ _ _) (congrArg (World.drewN _) (Nat.add_assoc _ _ _))⟩))); try go_wp2_with (first | (go_at_call 116; (with_reducible refine (impl_isClient.calls a0_0 false _ A4.out).mono ?_); rintro e w' ⟨rfl, ⟨nd, rfl⟩⟩; (try first | exact ⟨rfl, _, World.drewN_drewN _ _ _⟩ | exact ⟨rfl, _, Eq.trans (World.drewN_drewN _ _ _) (congrArg (World.drewN _) (Nat.add_assoc _ _ _))⟩))))
      go_meet
      case rel => exact ⟨_, (true), (by first | rfl | (simp; done) | (simp [*]; done)), H', ⟨by first | omega | exact Nat.le_refl _⟩, ⟨by (with_reducible repeat (first | refine blk_drewN ?_ _ | refine blk_drew ?_ | refine blk_alloc ?_ _)); exact BK830.out⟩, ⟨by repeat (first | (with_reducible first | exact HB.out | apply below_alloc | apply pw_below_drewN | apply below_drew1 | refine below_set ?_ GE830.out) | exact HB.out)⟩⟩
  case rest =>
    clear HC2
    try clear p2
    try clear c5
    try clear c7
    try clear hcz11_0
    try clear hcz11_1
    try clear hcz11_2
    try clear hcz11_3
    try clear hcz12_0
    try clear hcz12_1
    try clear hcz12_2
    try clear hcz12_3
    try clear hcz9_0
    try clear hcz9_1
    try clear hcz9_2
    try clear hcz9_3
    try clear hfz11_0
    try clear hfz11_1
    try clear hfz11_2
    try clear hfz11_3
    try clear hfz12_0
    try clear hfz12_1
    try clear hfz12_2
    try clear hfz12_3
    try clear hfz9_0
    try clear hfz9_1
    try clear hfz9_2
    try clear hfz9_3
    obtain ⟨kq, x21_1, rfl, HA, HJ1, BK830, HB⟩ := hcut
    cases kq with
    | zero => exact absurd HA.out (by simp [impl_LogOk.j0])
    | succ kj1 =>
      have H := HA.out
      clear HA
      simp only [impl_LogOk.j0] at H
      by_cases c13 : x21_1 = true
      · subst c13
        have H1 : (some false) = some r := by rw [if_pos rfl] at H; exact H
        clear H
        have H := H1
        clear H1
        obtain rfl := Option.some.inj H
        go_wp2
        repeat (go_quiet (fail); try go_wp2)
        go_ret
        exact ⟨by first | rfl | (simp [errW_none, errW_some] <;> rfl) | (simp [*, errW_none, errW_some] <;> rfl), by repeat (first | (with_reducible first | exact HB.out | apply below_alloc | apply pw_below_drewN | apply below_drew1 | refine below_set ?_ GE830.out) | exact HB.out)⟩
      · replace c13 := Bool.eq_false_iff.mpr c13
        subst c13
        have H1 : ((impl_LogIds.f kj1 l0_3).bind fun t834 => (if (t834.length : Int) = (l0_2.length : Int) then (impl_LogOk.l0 kj1 t834 l0_2 (l0_2.length : Int) 0) else (some false))) = some r := by rw [if_neg (show ¬ (false = true) by decide)] at H; exact H
        clear H
        have H := H1
        clear H1
        replace H := Option.bind_eq_some_iff.mp H
        obtain ⟨t834, A140, H⟩ := H
        replace H : (if (t834.length : Int) = (l0_2.length : Int) then (impl_LogOk.l0 kj1 t834 l0_2 (l0_2.length : Int) 0) else (some false)) = some r := H
        have A14 := Aside0.mk A140
        clear A140
        by_cases c15 : (t834.length : Int) = (l0_2.length : Int)
        · rw [if_pos c15] at H
          have c15b0 : ((t834.length : Int) == (l0_2.length : Int)) = true := beq_iff_eq.mpr c15
          have c15b1 : ((t834.length : Int) != (l0_2.length : Int)) = false := bne_eq_false_iff_eq.mpr c15
          have c15b2 : (t834.length == l0_2.length) = true := by first | simpa using c15 | (simp at c15 ⊢; omega)
          clear c15
          have H' := Aside0.mk H
          clear H
          have hcz16_0 : wc.cell? ⟨gb830, 0, none⟩ = some (.int .i64 a0_0) := (blk_cell BK830.out 0).trans rfl
          have hcz16_1 : wc.cell? ⟨gb830, 1, none⟩ = some (.int .i64 a0_1) := (blk_cell BK830.out 1).trans rfl
          have hcz16_2 : wc.cell? ⟨gb830, 2, none⟩ = some (.slice A0_2 l0_2.length c0_2) := (blk_cell BK830.out 2).trans rfl
          have hcz16_3 : wc.cell? ⟨gb830, 3, none⟩ = some (.slice A0_3 l0_3.length c0_3) := (blk_cell BK830.out 3).trans rfl
          have hfz16_0 := blk_frozen BK830.out 0
          have hfz16_1 := blk_frozen BK830.out 1
          have hfz16_2 := blk_frozen BK830.out 2
          have hfz16_3 := blk_frozen BK830.out 3
          go_wp2_with (first | (go_at_call 117; (with_reducible refine (impl_LogIds.calls kj1 _ _ l0_3 t834 _ ?side1 ?side2 A14.out).mono ?_); (case side1 => repeat (first | exact (Kd.C_below HR0_3.out HB.out) | (with_reducible refine Kd.C_alloc ?_ _) | (with_reducible refine Kd.C_drewN ?_ _) | (with_reducible refine Kd.C_drew ?_))); (case side2 => exact HC0_3.out); rintro e w17 ⟨v835, rfl, ho0, hb⟩; have n0_ := Aside0.mk (Kd.R_lower ho0 (below_size (by repeat (first | (with_reducible first | exact HB.out | apply below_alloc | apply pw_below_drewN | apply below_drew1 | refine below_set ?_ GE830.out) | exact HB.out)))); have n1_ := Aside0.mk (blk_below (g := gb830) (o := .cells #[.int .i64 a0_0, .int .i64 a0_1, .slice A0_2 l0_2.length c0_2, .slice A0_3 l0_3.length c0_3] 58 (0, 0)) (by (with_reducible repeat (first | refine blk_drewN ?_ _ | refine blk_drew ?_ | refine blk_alloc ?_ _)); exact BK830.out) hb); have n2_ := Aside0.mk (below_step (by repeat (first | (with_reducible first | exact HB.out | apply below_alloc | apply pw_below_drewN | apply below_drew1 | refine below_set ?_ GE830.out) | exact HB.out)) hb); clear BK830; clear HB; have HO836 := n0_; have BK830 := n1_; have HB := n2_; clear n0_ n1_ n2_; (try clear hb); (try clear hb2); (try clear hk); (try clear hi); (try clear ho0); obtain ⟨Ao18, co18, eo18⟩ := Kd.R_slice HO836.out; subst eo18; have hcz19_0 : w17.cell? ⟨gb830, 0, none⟩ = some (.int .i64 a0_0) := (blk_cell BK830.out 0).trans rfl; have hcz19_1 : w17.cell? ⟨gb830, 1, none⟩ = some (.int .i64 a0_1) := (blk_cell BK830.out 1).trans rfl; have hcz19_2 : w17.cell? ⟨gb830, 2, none⟩ = some (.slice A0_2 l0_2.length c0_2) := (blk_cell BK830.out 2).trans rfl; have hcz19_3 : w17.cell? ⟨gb830, 3, none⟩ = some (.slice A0_3 l0_3.length c0_3) := (blk_cell BK830.out 3).trans rfl; have hfz19_0 := blk_frozen BK830.out 0; have hfz19_1 := blk_frozen BK830.out 1; have hfz19_2 := blk_frozen BK830.out 2; have hfz19_3 := blk_frozen BK830.out 3))
          repeat (go_quiet (first | (go_at_call 117; (with_reducible refine (impl_LogIds.calls kj1 _ _ l0_3 t834 _ ?side1 ?side2 A14.out).mono ?_); (case side1 => repeat (first | exact (Kd.C_below HR0_3.out HB.out) | (with_reducible refine Kd.C_alloc ?_ _) | (with_reducible refine Kd.C_drewN ?_ _) | (with_reducible refine Kd.C_drew ?_))); (case side2 => exact HC0_3.out); rintro e w17 ⟨v835, rfl, ho0, hb⟩; have n0_ := Aside0.mk (Kd.R_lower ho0 (below_size (by repeat (first | (with_reducible first | exact HB.out | apply below_alloc | apply pw_below_drewN | apply below_drew1 | refine below_set ?_ GE830.out) | exact HB.out)))); have n1_ := Aside0.mk (blk_below (g := gb830) (o := .cells #[.int .i64 a0_0, .int .i64 a0_1, .slice A0_2 l0_2.length c0_2, .slice A0_3 l0_3.length c0_3] 58 (0, 0)) (by (with_reducible repeat (first | refine blk_drewN ?_ _ | refine blk_drew ?_ | refine blk_alloc ?_ _)); exact BK830.out) hb); have n2_ := Aside0.mk (below_step (by repeat (first | (with_reducible first | exact HB.out | apply below_alloc | apply pw_below_drewN | apply below_drew1 | refine below_set ?_ GE830.out) | exact HB.out)) hb); clear BK830; clear HB; have HO836 := n0_; have BK830 := n1_; have HB := n2_; clear n0_ n1_ n2_; (try clear hb); (try clear hb2); (try clear hk); (try clear hi); (try clear ho0); obtain ⟨Ao18, co18, eo18⟩ := Kd.R_slice HO836.out; subst eo18; have hcz19_0 : w17.cell? ⟨gb830, 0, none⟩ = some (.int .i64 a0_0) := (blk_cell BK830.out 0).trans rfl; have hcz19_1 : w17.cell? ⟨gb830, 1, none⟩ = some (.int .i64 a0_1) := (blk_cell BK830.out 1).trans rfl; have hcz19_2 : w17.cell? ⟨gb830, 2, none⟩ = some (.slice A0_2 l0_2.length c0_2) := (blk_cell BK830.out 2).trans rfl; have hcz19_3 : w17.cell? ⟨gb830, 3, none⟩ = some (.slice A0_3 l0_3.length c0_3) := (blk_cell BK830.out 3).trans rfl; have hfz19_0 := blk_frozen BK830.out 0; have hfz19_1 := blk_frozen BK830.out 1; have hfz19_2 := blk_frozen BK830.out 2; have hfz19_3 := blk_frozen BK830.out 3)); try go_wp2_with (first | (go_at_call 117; (with_reducible refine (impl_LogIds.calls kj1 _ _ l0_3 t834 _ ?side1 ?side2 A14.out).mono ?_); (case side1 => repeat (first | exact (Kd.C_below HR0_3.out HB.out) | (with_reducible refine Kd.C_alloc ?_ _) | (with_reducible refine Kd.C_drewN ?_ _) | (with_reducible refine Kd.C_drew ?_))); (case side2 => exact HC0_3.out); rintro e w17 ⟨v835, rfl, ho0, hb⟩; have n0_ := Aside0.mk (Kd.R_lower ho0 (below_size (by repeat (first | (with_reducible first | exact HB.out | apply below_alloc | apply pw_below_drewN | apply below_drew1 | refine below_set ?_ GE830.out) | exact HB.out)))); have n1_ := Aside0.mk (blk_below (g := gb830) (o := .cells #[.int .i64 a0_0, .int .i64 a0_1, .slice A0_2 l0_2.length c0_2, .slice A0_3 l0_3.length c0_3] 58 (0, 0)) (by (with_reducible repeat (first | refine blk_drewN ?_ _ | refine blk_drew ?_ | refine blk_alloc ?_ _)); exact BK830.out) hb); have n2_ := Aside0.mk (below_step (by repeat (first | (with_reducible first | exact HB.out | apply below_alloc | apply pw_below_drewN | apply below_drew1 | refine below_set ?_ GE830.out) | exact HB.out)) hb); clear BK830; clear HB; have HO836 := n0_; have BK830 := n1_; have HB := n2_; clear n0_ n1_ n2_; (try clear hb); (try clear hb2); (try clear hk); (try clear hi); (try clear ho0); obtain ⟨Ao18, co18, eo18⟩ := Kd.R_slice HO836.out; subst eo18; have hcz19_0 : w17.cell? ⟨gb830, 0, none⟩ = some (.int .i64 a0_0) := (blk_cell BK830.out 0).trans rfl; have hcz19_1 : w17.cell? ⟨gb830, 1, none⟩ = some (.int .i64 a0_1) := (blk_cell BK830.out 1).trans rfl; have hcz19_2 : w17.cell? ⟨gb830, 2, none⟩ = some (.slice A0_2 l0_2.length c0_2) := (blk_cell BK830.out 2).trans rfl; have hcz19_3 : w17.cell? ⟨gb830, 3, none⟩ = some (.slice A0_3 l0_3.length c0_3) := (blk_cell BK830.out 3).trans rfl; have hfz19_0 := blk_frozen BK830.out 0; have hfz19_1 := blk_frozen BK830.out 1; have hfz19_2 := blk_frozen BK830.out 2; have hfz19_3 := blk_frozen BK830.out 3)))
          go_loopg [34] kj1 (fun kq v34 w' => ∃ (x34_2 : Int), v34 = .int .i64 x34_2 ∧ Aside0 (impl_LogOk.l0 kq t834 l0_2 (l0_2.length : Int) x34_2 = some r) ∧ Aside0 (kq ≤ kj1) ∧ Aside0 (Kd.R (Kd.int .i64) 3 w' w.heap.size (fun _ => True) (.slice Ao18 t834.length co18) t834) ∧ Aside0 (w'.heap[gb830]? = some (.cells #[.int .i64 a0_0, .int .i64 a0_1, (.slice A0_2 l0_2.length c0_2), (.slice A0_3 l0_3.length c0_3)] 58 (0, 0))) ∧ Aside0 (Below w.heap.size w w'))
          case atStart => exact ⟨(0), (by first | rfl | (simp; done) | (simp [*]; done)), H', ⟨Nat.le_refl _⟩, ⟨by (with_reducible repeat (first | apply Kd.R_alloc | apply Kd.R_drewN | apply Kd.R_drew)); exact HO836.out⟩, ⟨by (with_reducible repeat (first | refine blk_drewN ?_ _ | refine blk_drew ?_ | refine blk_alloc ?_ _)); exact BK830.out⟩, ⟨by repeat (first | (with_reducible first | exact HB.out | apply below_alloc | apply pw_below_drewN | apply below_drew1 | refine below_set ?_ GE830.out) | exact HB.out)⟩⟩
          case round =>
            clear H'
            try clear c1
            try clear p2
            try clear c5
            try clear c7
            try clear c13
            try clear c15
            try clear c15b0
            try clear c15b1
            try clear c15b2
            try clear hcz11_0
            try clear hcz11_1
            try clear hcz11_2
            try clear hcz11_3
            try clear hcz12_0
            try clear hcz12_1
            try clear hcz12_2
            try clear hcz12_3
            try clear hcz16_0
            try clear hcz16_1
            try clear hcz16_2
            try clear hcz16_3
            try clear hcz19_0
            try clear hcz19_1
            try clear hcz19_2
            try clear hcz19_3
            try clear hcz9_0
            try clear hcz9_1
            try clear hcz9_2
            try clear hcz9_3
            try clear hfz11_0
            try clear hfz11_1
            try clear hfz11_2
            try clear hfz11_3
            try clear hfz12_0
            try clear hfz12_1
            try clear hfz12_2
            try clear hfz12_3
            try clear hfz16_0
            try clear hfz16_1
            try clear hfz16_2
            try clear hfz16_3
            try clear hfz19_0
            try clear hfz19_1
            try clear hfz19_2
            try clear hfz19_3
            try clear hfz9_0
            try clear hfz9_1
            try clear hfz9_2
            try clear hfz9_3
            try clear p2
            obtain ⟨x34_2, rfl, HA, HK2, HO_3, BK830, HB⟩ := hrel
            cases gk with
            | zero => exact absurd HA.out (by simp [impl_LogOk.l0])
            | succ k2 =>
              have H := HA.out
              clear HA
              simp only [impl_LogOk.l0] at H
              by_cases c20 : x34_2 < (l0_2.length : Int)
              · rw [if_pos c20] at H
                have c20b0 : decide (x34_2 < (l0_2.length : Int)) = true := decide_eq_true c20
                clear c20
                by_cases c21 : 0 ≤ x34_2
                · rw [if_pos c21] at H
                  have c21b0 : decide (0 ≤ x34_2) = true := decide_eq_true c21
                  clear c21
                  by_cases c22 : x34_2 < (l0_2.length : Int)
                  · rw [if_pos c22] at H
                    have c22b0 : decide (x34_2 < (l0_2.length : Int)) = true := decide_eq_true c22
                    clear c22
                    by_cases c23 : x34_2 < (t834.length : Int)
                    · rw [if_pos c23] at H
                      have c23b0 : decide (x34_2 < (t834.length : Int)) = true := decide_eq_true c23
                      clear c23
                      by_cases c24 : ((rd_T115 l0_2 x34_2).f0) = (rd t834 x34_2)
                      · rw [if_pos c24] at H
                        have c24b0 : (((rd_T115 l0_2 x34_2).f0) == (rd t834 x34_2)) = true := beq_iff_eq.mpr c24
                        have c24b1 : (((rd_T115 l0_2 x34_2).f0) != (rd t834 x34_2)) = false := bne_eq_false_iff_eq.mpr c24
                        clear c24
                        replace H := Option.bind_eq_some_iff.mp H
                        obtain ⟨t840, A250, H⟩ := H
                        replace H : (if t840 = true then (impl_LogOk.l0 k2 t834 l0_2 (l0_2.length : Int) (wrap64 (x34_2 + 1))) else (some false)) = some r := H
                        have A25 := Aside0.mk A250
                        clear A250
                        by_cases c26 : t840 = true
                        · subst c26
                          have H1 : (impl_LogOk.l0 k2 t834 l0_2 (l0_2.length : Int) (wrap64 (x34_2 + 1))) = some r := by rw [if_pos rfl] at H; exact H
                          clear H
                          have H := H1
                          clear H1
                          have H' := Aside0.mk H
                          clear H
                          have p837 : 0 ≤ (x34_2 : Int) := of_decide_eq_true (by first | (with_reducible assumption) | assumption)
                          have q837 : x34_2 < (l0_2.length : Int) := of_decide_eq_true (by first | (with_reducible assumption) | assumption)
                          obtain ⟨ad837, e837, hx837_0, hx837_1⟩ := at_T115 HR0_2.out x34_2 p837 q837
                          cases e837
                          replace hx837_0 := (HB.out.cell (World.block_lt_of_cell? w _ hx837_0)).trans hx837_0
                          replace hx837_1 := (HB.out.cell (World.block_lt_of_cell? w _ hx837_1)).trans hx837_1
                          replace p837 := eq_true p837
                          replace q837 := eq_true q837
                          go_wp2_with (first | ((with_reducible refine gate_dst (N := 5) rfl ?_); refine box_event ?hg (N := 5) ?hd (cs := #[.int .i64 0, .int .i64 0]) (t := 115) ?hr ?_; (case hd => rfl); (case hg => rfl); (case hr => first | (go_simp; done) | (go_simp; rfl)); intro gb838 hg w27 hbox hb; have n0_ := Aside0.mk (Kd.R_below (by (with_reducible repeat (first | apply Kd.R_alloc | apply Kd.R_drewN | apply Kd.R_drew)); exact HO_3.out) hb); have n1_ := Aside0.mk (blk_below (g := gb830) (o := .cells #[.int .i64 a0_0, .int .i64 a0_1, .slice (some ad837) l0_2.length c0_2, .slice A0_3 l0_3.length c0_3] 58 (0, 0)) (by (with_reducible repeat (first | refine blk_drewN ?_ _ | refine blk_drew ?_ | refine blk_alloc ?_ _)); exact BK830.out) hb); have n2_ := Aside0.mk (below_step (by repeat (first | (with_reducible first | exact HB.out | apply below_alloc | apply pw_below_drewN | apply below_drew1 | refine below_set ?_ GE830.out) | exact HB.out)) hb); have n3_ := Aside0.mk (hbox); have n4_ := Aside0.mk ((by rw [hg]; exact (below_size (by repeat (first | (with_reducible first | exact HB.out | apply below_alloc | apply pw_below_drewN | apply below_drew1 | refine below_set ?_ GE830.out) | exact HB.out))) : w.heap.size ≤ gb838)); have n5_ := Aside0.mk ((by rw [hg]; exact (below_size (by repeat (first | (with_reducible first | exact HB.out | apply below_alloc | apply pw_below_drewN | apply below_drew1 | refine below_set ?_ GE830.out) | exact HB.out))) : w.heap.size ≤ gb838)); have n6_ := Aside0.mk ((by rw [hg]; exact Nat.ne_of_lt (blk_lt (g := gb830) (o := .cells #[.int .i64 a0_0, .int .i64 a0_1, .slice (some ad837) l0_2.length c0_2, .slice A0_3 l0_3.length c0_3] 58 (0, 0)) (by (with_reducible repeat (first | refine blk_drewN ?_ _ | refine blk_drew ?_ | refine blk_alloc ?_ _)); exact BK830.out)) : gb830 ≠ gb838)); have n7_ := Aside0.mk ((by rw [hg]; exact Nat.ne_of_gt (blk_lt (g := gb830) (o := .cells #[.int .i64 a0_0, .int .i64 a0_1, .slice (some ad837) l0_2.length c0_2, .slice A0_3 l0_3.length c0_3] 58 (0, 0)) (by (with_reducible repeat (first | refine blk_drewN ?_ _ | refine blk_drew ?_ | refine blk_alloc ?_ _)); exact BK830.out)) : gb838 ≠ gb830)); clear HO_3; clear BK830; clear HB; have HO_3 := n0_; have BK830 := n1_; have HB := n2_; have BK838 := n3_; have GW838 := n4_; have GE838 := n5_; have NB830_838 := n6_; have NB838_830 := n7_; clear n0_ n1_ n2_ n3_ n4_ n5_ n6_ n7_; clear hb hbox hg; have hnb28 := NB838_830.out; have hnc28 := NB830_838.out; have hcz29_0 : w27.cell? ⟨gb838, 0, none⟩ = some (.int .i64 0) := (blk_cell BK838.out 0).trans rfl; have hcz29_1 : w27.cell? ⟨gb838, 1, none⟩ = some (.int .i64 0) := (blk_cell BK838.out 1).trans rfl; have hfz29_0 := blk_frozen BK838.out 0; have hfz29_1 := blk_frozen BK838.out 1; have p839 : 0 ≤ (x34_2 : Int) := of_decide_eq_true (by first | (with_reducible assumption) | assumption); have q839 : x34_2 < (t834.length : Int) := of_decide_eq_true (by first | (with_reducible assumption) | assumption); obtain ⟨ad839, e839, hx839_0⟩ := Kd.at_int (Kd.R_reads' HO_3.out).2.2 x34_2 p839 q839; cases e839; have hn839_0 : ad839.block ≠ gb838 := Kd.own_blk (Kd.R_ne HO_3.out BK838.out (by decide)); have hn839_1 : ad839.block ≠ gb838 := Kd.own_blk (Kd.R_ne HO_3.out BK838.out (by decide)); replace hx839_0 := (cell_far (p := ⟨gb838, 0, none⟩) (by first | (rw [add_block]; exact hn839_0) | (show (Addr.add _ _).block ≠ _; rw [add_block]; exact hn839_0) | exact hn839_0) (.int .i64 ((rd_T115 l0_2 x34_2).f0))).trans hx839_0; replace hx839_0 := (cell_far (p := ⟨gb838, 1, none⟩) (by first | (rw [add_block]; exact hn839_1) | (show (Addr.add _ _).block ≠ _; rw [add_block]; exact hn839_1) | exact hn839_1) (.int .i64 ((rd_T115 l0_2 x34_2).f1))).trans hx839_0; (try have hy839_0 := fun (n_ : Nat) => (show ((((w27.drewN n_).setCell ⟨gb838, 0, none⟩ (.int .i64 ((rd_T115 l0_2 x34_2).f0))).setCell ⟨gb838, 1, none⟩ (.int .i64 ((rd_T115 l0_2 x34_2).f1)))).cell? _ = some _ from hx839_0)); clear hn839_0; clear hn839_1; replace p839 := eq_true p839; replace q839 := eq_true q839) | (go_at_call 109; (with_reducible refine (impl_in.calls ((rd_T115 l0_2 x34_2).f1) 0 1000000 true _ A25.out).mono ?_); rintro e w' ⟨rfl, ⟨nd, rfl⟩⟩; (try first | exact ⟨rfl, _, World.drewN_drewN _ _ _⟩ | exact ⟨rfl, _, Eq.trans (World.drewN_drewN _ _ _) (congrArg (World.drewN _) (Nat.add_assoc _ _ _))⟩)))
                          repeat (go_quiet (first | ((with_reducible refine gate_dst (N := 5) rfl ?_); refine box_event ?hg (N := 5) ?hd (cs := #[.int .i64 0, .int .i64 0]) (t := 115) ?hr ?_; (case hd => rfl); (case hg => rfl); (case hr => first | (go_simp; done) | (go_simp; rfl)); intro gb838 hg w27 hbox hb; have n0_ := Aside0.mk (Kd.R_below (by (with_reducible repeat (first | apply Kd.R_alloc | apply Kd.R_drewN | apply Kd.R_drew)); exact HO_3.out) hb); have n1_ := Aside0.mk (blk_below (g := gb830) (o := .cells #[.int .i64 a0_0, .int .i64 a0_1, .slice (some ad837) l0_2.length c0_2, .slice A0_3 l0_3.length c0_3] 58 (0, 0)) (by (with_reducible repeat (first | refine blk_drewN ?_ _ | refine blk_drew ?_ | refine blk_alloc ?_ _)); exact BK830.out) hb); have n2_ := Aside0.mk (below_step (by repeat (first | (with_reducible first | exact HB.out | apply below_alloc | apply pw_below_drewN | apply below_drew1 | refine below_set ?_ GE830.out) | exact HB.out)) hb); have n3_ := Aside0.mk (hbox); have n4_ := Aside0.mk ((by rw [hg]; exact (below_size (by repeat (first | (with_reducible first | exact HB.out | apply below_alloc | apply pw_below_drewN | apply below_drew1 | refine below_set ?_ GE830.out) | exact HB.out))) : w.heap.size ≤ gb838)); have n5_ := Aside0.mk ((by rw [hg]; exact (below_size (by repeat (first | (with_reducible first | exact HB.out | apply below_alloc | apply pw_below_drewN | apply below_drew1 | refine below_set ?_ GE830.out) | exact HB.out))) : w.heap.size ≤ gb838)); have n6_ := Aside0.mk ((by rw [hg]; exact Nat.ne_of_lt (blk_lt (g := gb830) (o := .cells #[.int .i64 a0_0, .int .i64 a0_1, .slice (some ad837) l0_2.length c0_2, .slice A0_3 l0_3.length c0_3] 58 (0, 0)) (by (with_reducible repeat (first | refine blk_drewN ?_ _ | refine blk_drew ?_ | refine blk_alloc ?_ _)); exact BK830.out)) : gb830 ≠ gb838)); have n7_ := Aside0.mk ((by rw [hg]; exact Nat.ne_of_gt (blk_lt (g := gb830) (o := .cells #[.int .i64 a0_0, .int .i64 a0_1, .slice (some ad837) l0_2.length c0_2, .slice A0_3 l0_3.length c0_3] 58 (0, 0)) (by (with_reducible repeat (first | refine blk_drewN ?_ _ | refine blk_drew ?_ | refine blk_alloc ?_ _)); exact BK830.out)) : gb838 ≠ gb830)); clear HO_3; clear BK830; clear HB; have HO_3 := n0_; have BK830 := n1_; have HB := n2_; have BK838 := n3_; have GW838 := n4_; have GE838 := n5_; have NB830_838 := n6_; have NB838_830 := n7_; clear n0_ n1_ n2_ n3_ n4_ n5_ n6_ n7_; clear hb hbox hg; have hnb28 := NB838_830.out; have hnc28 := NB830_838.out; have hcz29_0 : w27.cell? ⟨gb838, 0, none⟩ = some (.int .i64 0) := (blk_cell BK838.out 0).trans rfl; have hcz29_1 : w27.cell? ⟨gb838, 1, none⟩ = some (.int .i64 0) := (blk_cell BK838.out 1).trans rfl; have hfz29_0 := blk_frozen BK838.out 0; have hfz29_1 := blk_frozen BK838.out 1; have p839 : 0 ≤ (x34_2 : Int) := of_decide_eq_true (by first | (with_reducible assumption) | assumption); have q839 : x34_2 < (t834.length : Int) := of_decide_eq_true (by first | (with_reducible assumption) | assumption); obtain ⟨ad839, e839, hx839_0⟩ := Kd.at_int (Kd.R_reads' HO_3.out).2.2 x34_2 p839 q839; cases e839; have hn839_0 : ad839.block ≠ gb838 := Kd.own_blk (Kd.R_ne HO_3.out BK838.out (by decide)); have hn839_1 : ad839.block ≠ gb838 := Kd.own_blk (Kd.R_ne HO_3.out BK838.out (by decide)); replace hx839_0 := (cell_far (p := ⟨gb838, 0, none⟩) (by first | (rw [add_block]; exact hn839_0) | (show (Addr.add _ _).block ≠ _; rw [add_block]; exact hn839_0) | exact hn839_0) (.int .i64 ((rd_T115 l0_2 x34_2).f0))).trans hx839_0; replace hx839_0 := (cell_far (p := ⟨gb838, 1, none⟩) (by first | (rw [add_block]; exact hn839_1) | (show (Addr.add _ _).block ≠ _; rw [add_block]; exact hn839_1) | exact hn839_1) (.int .i64 ((rd_T115 l0_2 x34_2).f1))).trans hx839_0; (try have hy839_0 := fun (n_ : Nat) => (show ((((w27.drewN n_).setCell ⟨gb838, 0, none⟩ (.int .i64 ((rd_T115 l0_2 x34_2).f0))).setCell ⟨gb838, 1, none⟩ (.int .i64 ((rd_T115 l0_2 x34_2).f1)))).cell? _ = some _ from hx839_0)); clear hn839_0; clear hn839_1; replace p839 := eq_true p839; replace q839 := eq_true q839) | (go_at_call 109; (with_reducible refine (impl_in.calls ((rd_T115 l0_2 x34_2).f1) 0 1000000 true _ A25.out).mono ?_); rintro e w' ⟨rfl, ⟨nd, rfl⟩⟩; (try first | exact ⟨rfl, _, World.drewN_drewN _ _ _⟩ | exact ⟨rfl, _, Eq.trans (World.drewN_drewN _ _ _) (congrArg (World.drewN _) (Nat.add_assoc _ _ _))⟩))); try go_wp2_with (first | ((with_reducible refine gate_dst (N := 5) rfl ?_); refine box_event ?hg (N := 5) ?hd (cs := #[.int .i64 0, .int .i64 0]) (t := 115) ?hr ?_; (case hd => rfl); (case hg => rfl); (case hr => first | (go_simp; done) | (go_simp; rfl)); intro gb838 hg w27 hbox hb; have n0_ := Aside0.mk (Kd.R_below (by (with_reducible repeat (first | apply Kd.R_alloc | apply Kd.R_drewN | apply Kd.R_drew)); exact HO_3.out) hb); have n1_ := Aside0.mk (blk_below (g := gb830) (o := .cells #[.int .i64 a0_0, .int .i64 a0_1, .slice (some ad837) l0_2.length c0_2, .slice A0_3 l0_3.length c0_3] 58 (0, 0)) (by (with_reducible repeat (first | refine blk_drewN ?_ _ | refine blk_drew ?_ | refine blk_alloc ?_ _)); exact BK830.out) hb); have n2_ := Aside0.mk (below_step (by repeat (first | (with_reducible first | exact HB.out | apply below_alloc | apply pw_below_drewN | apply below_drew1 | refine below_set ?_ GE830.out) | exact HB.out)) hb); have n3_ := Aside0.mk (hbox); have n4_ := Aside0.mk ((by rw [hg]; exact (below_size (by repeat (first | (with_reducible first | exact HB.out | apply below_alloc | apply pw_below_drewN | apply below_drew1 | refine below_set ?_ GE830.out) | exact HB.out))) : w.heap.size ≤ gb838)); have n5_ := Aside0.mk ((by rw [hg]; exact (below_size (by repeat (first | (with_reducible first | exact HB.out | apply below_alloc | apply pw_below_drewN | apply below_drew1 | refine below_set ?_ GE830.out) | exact HB.out))) : w.heap.size ≤ gb838)); have n6_ := Aside0.mk ((by rw [hg]; exact Nat.ne_of_lt (blk_lt (g := gb830) (o := .cells #[.int .i64 a0_0, .int .i64 a0_1, .slice (some ad837) l0_2.length c0_2, .slice A0_3 l0_3.length c0_3] 58 (0, 0)) (by (with_reducible repeat (first | refine blk_drewN ?_ _ | refine blk_drew ?_ | refine blk_alloc ?_ _)); exact BK830.out)) : gb830 ≠ gb838)); have n7_ := Aside0.mk ((by rw [hg]; exact Nat.ne_of_gt (blk_lt (g := gb830) (o := .cells #[.int .i64 a0_0, .int .i64 a0_1, .slice (some ad837) l0_2.length c0_2, .slice A0_3 l0_3.length c0_3] 58 (0, 0)) (by (with_reducible repeat (first | refine blk_drewN ?_ _ | refine blk_drew ?_ | refine blk_alloc ?_ _)); exact BK830.out)) : gb838 ≠ gb830)); clear HO_3; clear BK830; clear HB; have HO_3 := n0_; have BK830 := n1_; have HB := n2_; have BK838 := n3_; have GW838 := n4_; have GE838 := n5_; have NB830_838 := n6_; have NB838_830 := n7_; clear n0_ n1_ n2_ n3_ n4_ n5_ n6_ n7_; clear hb hbox hg; have hnb28 := NB838_830.out; have hnc28 := NB830_838.out; have hcz29_0 : w27.cell? ⟨gb838, 0, none⟩ = some (.int .i64 0) := (blk_cell BK838.out 0).trans rfl; have hcz29_1 : w27.cell? ⟨gb838, 1, none⟩ = some (.int .i64 0) := (blk_cell BK838.out 1).trans rfl; have hfz29_0 := blk_frozen BK838.out 0; have hfz29_1 := blk_frozen BK838.out 1; have p839 : 0 ≤ (x34_2 : Int) := of_decide_eq_true (by first | (with_reducible assumption) | assumption); have q839 : x34_2 < (t834.length : Int) := of_decide_eq_true (by first | (with_reducible assumption) | assumption); obtain ⟨ad839, e839, hx839_0⟩ := Kd.at_int (Kd.R_reads' HO_3.out).2.2 x34_2 p839 q839; cases e839; have hn839_0 : ad839.block ≠ gb838 := Kd.own_blk (Kd.R_ne HO_3.out BK838.out (by decide)); have hn839_1 : ad839.block ≠ gb838 := Kd.own_blk (Kd.R_ne HO_3.out BK838.out (by decide)); replace hx839_0 := (cell_far (p := ⟨gb838, 0, none⟩) (by first | (rw [add_block]; exact hn839_0) | (show (Addr.add _ _).block ≠ _; rw [add_block]; exact hn839_0) | exact hn839_0) (.int .i64 ((rd_T115 l0_2 x34_2).f0))).trans hx839_0; replace hx839_0 := (cell_far (p := ⟨gb838, 1, none⟩) (by first | (rw [add_block]; exact hn839_1) | (show (Addr.add _ _).block ≠ _; rw [add_block]; exact hn839_1) | exact hn839_1) (.int .i64 ((rd_T115 l0_2 x34_2).f1))).trans hx839_0; (try have hy839_0 := fun (n_ : Nat) => (show ((((w27.drewN n_).setCell ⟨gb838, 0, none⟩ (.int .i64 ((rd_T115 l0_2 x34_2).f0))).setCell ⟨gb838, 1, none⟩ (.int .i64 ((rd_T115 l0_2 x34_2).f1)))).cell? _ = some _ from hx839_0)); clear hn839_0; clear hn839_1; replace p839 := eq_true p839; replace q839 := eq_true q839) | (go_at_call 109; (with_reducible refine (impl_in.calls ((rd_T115 l0_2 x34_2).f1) 0 1000000 true _ A25.out).mono ?_); rintro e w' ⟨rfl, ⟨nd, rfl⟩⟩; (try first | exact ⟨rfl, _, World.drewN_drewN _ _ _⟩ | exact ⟨rfl, _, Eq.trans (World.drewN_drewN _ _ _) (congrArg (World.drewN _) (Nat.add_assoc _ _ _))⟩))))
                          go_roundg k2
                          case measure => have := HJ1.out; have := HK2.out; omega
                          case rel => exact ⟨(wrap64 (x34_2 + 1)), (by first | rfl | (simp; done) | (simp [*]; done)), H', ⟨by have := HJ1.out; have := HK2.out; omega⟩, ⟨by (with_reducible repeat (first | apply Kd.R_alloc | apply Kd.R_drewN | apply Kd.R_drew)); exact Kd.R_mono (Kd.R_far (p := ⟨gb838, 1, none⟩) (Kd.R_far (p := ⟨gb838, 0, none⟩) (Kd.R_types HO_3.out BK838.out (by decide)) (fun _ hk => hk.2) (.int .i64 ((rd_T115 l0_2 x34_2).f0))) (fun _ hk => hk.2) (.int .i64 ((rd_T115 l0_2 x34_2).f1))) (fun _ hk => trivial)⟩, ⟨by (with_reducible repeat (first | refine blk_drewN ?_ _ | refine blk_drew ?_ | refine blk_alloc ?_ _)); refine blk_far ?_ NB830_838.out _; (with_reducible repeat (first | refine blk_drewN ?_ _ | refine blk_drew ?_ | refine blk_alloc ?_ _)); refine blk_far ?_ NB830_838.out _; (with_reducible repeat (first | refine blk_drewN ?_ _ | refine blk_drew ?_ | refine blk_alloc ?_ _)); exact BK830.out⟩, ⟨by repeat (first | (with_reducible first | exact HB.out | apply below_alloc | apply pw_below_drewN | apply below_drew1 | refine below_set ?_ GE830.out | refine below_set ?_ GE838.out) | exact HB.out)⟩⟩
                        · replace c26 := Bool.eq_false_iff.mpr c26
                          subst c26
                          have H1 : (some false) = some r := by rw [if_neg (show ¬ (false = true) by decide)] at H; exact H
                          clear H
                          have H := H1
                          clear H1
                          obtain rfl := Option.some.inj H
                          have p837 : 0 ≤ (x34_2 : Int) := of_decide_eq_true (by first | (with_reducible assumption) | assumption)
                          have q837 : x34_2 < (l0_2.length : Int) := of_decide_eq_true (by first | (with_reducible assumption) | assumption)
                          obtain ⟨ad837, e837, hx837_0, hx837_1⟩ := at_T115 HR0_2.out x34_2 p837 q837
                          cases e837
                          replace hx837_0 := (HB.out.cell (World.block_lt_of_cell? w _ hx837_0)).trans hx837_0
                          replace hx837_1 := (HB.out.cell (World.block_lt_of_cell? w _ hx837_1)).trans hx837_1
                          replace p837 := eq_true p837
                          replace q837 := eq_true q837
                          go_wp2_with (first | ((with_reducible refine gate_dst (N := 5) rfl ?_); refine box_event ?hg (N := 5) ?hd (cs := #[.int .i64 0, .int .i64 0]) (t := 115) ?hr ?_; (case hd => rfl); (case hg => rfl); (case hr => first | (go_simp; done) | (go_simp; rfl)); intro gb838 hg w30 hbox hb; have n0_ := Aside0.mk (Kd.R_below (by (with_reducible repeat (first | apply Kd.R_alloc | apply Kd.R_drewN | apply Kd.R_drew)); exact HO_3.out) hb); have n1_ := Aside0.mk (blk_below (g := gb830) (o := .cells #[.int .i64 a0_0, .int .i64 a0_1, .slice (some ad837) l0_2.length c0_2, .slice A0_3 l0_3.length c0_3] 58 (0, 0)) (by (with_reducible repeat (first | refine blk_drewN ?_ _ | refine blk_drew ?_ | refine blk_alloc ?_ _)); exact BK830.out) hb); have n2_ := Aside0.mk (below_step (by repeat (first | (with_reducible first | exact HB.out | apply below_alloc | apply pw_below_drewN | apply below_drew1 | refine below_set ?_ GE830.out) | exact HB.out)) hb); have n3_ := Aside0.mk (hbox); have n4_ := Aside0.mk ((by rw [hg]; exact (below_size (by repeat (first | (with_reducible first | exact HB.out | apply below_alloc | apply pw_below_drewN | apply below_drew1 | refine below_set ?_ GE830.out) | exact HB.out))) : w.heap.size ≤ gb838)); have n5_ := Aside0.mk ((by rw [hg]; exact (below_size (by repeat (first | (with_reducible first | exact HB.out | apply below_alloc | apply pw_below_drewN | apply below_drew1 | refine below_set ?_ GE830.out) | exact HB.out))) : w.heap.size ≤ gb838)); have n6_ := Aside0.mk ((by rw [hg]; exact Nat.ne_of_lt (blk_lt (g := gb830) (o := .cells #[.int .i64 a0_0, .int .i64 a0_1, .slice (some ad837) l0_2.length c0_2, .slice A0_3 l0_3.length c0_3] 58 (0, 0)) (by (with_reducible repeat (first | refine blk_drewN ?_ _ | refine blk_drew ?_ | refine blk_alloc ?_ _)); exact BK830.out)) : gb830 ≠ gb838)); have n7_ := Aside0.mk ((by rw [hg]; exact Nat.ne_of_gt (blk_lt (g := gb830) (o := .cells #[.int .i64 a0_0, .int .i64 a0_1, .slice (some ad837) l0_2.length c0_2, .slice A0_3 l0_3.length c0_3] 58 (0, 0)) (by (with_reducible repeat (first | refine blk_drewN ?_ _ | refine blk_drew ?_ | refine blk_alloc ?_ _)); exact BK830.out)) : gb838 ≠ gb830)); clear HO_3; clear BK830; clear HB; have HO_3 := n0_; have BK830 := n1_; have HB := n2_; have BK838 := n3_; have GW838 := n4_; have GE838 := n5_; have NB830_838 := n6_; have NB838_830 := n7_; clear n0_ n1_ n2_ n3_ n4_ n5_ n6_ n7_; clear hb hbox hg; have hnb31 := NB838_830.out; have hnc31 := NB830_838.out; have hcz32_0 : w30.cell? ⟨gb838, 0, none⟩ = some (.int .i64 0) := (blk_cell BK838.out 0).trans rfl; have hcz32_1 : w30.cell? ⟨gb838, 1, none⟩ = some (.int .i64 0) := (blk_cell BK838.out 1).trans rfl; have hfz32_0 := blk_frozen BK838.out 0; have hfz32_1 := blk_frozen BK838.out 1; have p839 : 0 ≤ (x34_2 : Int) := of_decide_eq_true (by first | (with_reducible assumption) | assumption); have q839 : x34_2 < (t834.length : Int) := of_decide_eq_true (by first | (with_reducible assumption) | assumption); obtain ⟨ad839, e839, hx839_0⟩ := Kd.at_int (Kd.R_reads' HO_3.out).2.2 x34_2 p839 q839; cases e839; have hn839_0 : ad839.block ≠ gb838 := Kd.own_blk (Kd.R_ne HO_3.out BK838.out (by decide)); have hn839_1 : ad839.block ≠ gb838 := Kd.own_blk (Kd.R_ne HO_3.out BK838.out (by decide)); replace hx839_0 := (cell_far (p := ⟨gb838, 0, none⟩) (by first | (rw [add_block]; exact hn839_0) | (show (Addr.add _ _).block ≠ _; rw [add_block]; exact hn839_0) | exact hn839_0) (.int .i64 ((rd_T115 l0_2 x34_2).f0))).trans hx839_0; replace hx839_0 := (cell_far (p := ⟨gb838, 1, none⟩) (by first | (rw [add_block]; exact hn839_1) | (show (Addr.add _ _).block ≠ _; rw [add_block]; exact hn839_1) | exact hn839_1) (.int .i64 ((rd_T115 l0_2 x34_2).f1))).trans hx839_0; (try have hy839_0 := fun (n_ : Nat) => (show ((((w30.drewN n_).setCell ⟨gb838, 0, none⟩ (.int .i64 ((rd_T115 l0_2 x34_2).f0))).setCell ⟨gb838, 1, none⟩ (.int .i64 ((rd_T115 l0_2 x34_2).f1)))).cell? _ = some _ from hx839_0)); clear hn839_0; clear hn839_1; replace p839 := eq_true p839; replace q839 := eq_true q839) | (go_at_call 109; (with_reducible refine (impl_in.calls ((rd_T115 l0_2 x34_2).f1) 0 1000000 false _ A25.out).mono ?_); rintro e w' ⟨rfl, ⟨nd, rfl⟩⟩; (try first | exact ⟨rfl, _, World.drewN_drewN _ _ _⟩ | exact ⟨rfl, _, Eq.trans (World.drewN_drewN _ _ _) (congrArg (World.drewN _) (Nat.add_assoc _ _ _))⟩)))
                          repeat (go_quiet (first | ((with_reducible refine gate_dst (N := 5) rfl ?_); refine box_event ?hg (N := 5) ?hd (cs := #[.int .i64 0, .int .i64 0]) (t := 115) ?hr ?_; (case hd => rfl); (case hg => rfl); (case hr => first | (go_simp; done) | (go_simp; rfl)); intro gb838 hg w30 hbox hb; have n0_ := Aside0.mk (Kd.R_below (by (with_reducible repeat (first | apply Kd.R_alloc | apply Kd.R_drewN | apply Kd.R_drew)); exact HO_3.out) hb); have n1_ := Aside0.mk (blk_below (g := gb830) (o := .cells #[.int .i64 a0_0, .int .i64 a0_1, .slice (some ad837) l0_2.length c0_2, .slice A0_3 l0_3.length c0_3] 58 (0, 0)) (by (with_reducible repeat (first | refine blk_drewN ?_ _ | refine blk_drew ?_ | refine blk_alloc ?_ _)); exact BK830.out) hb); have n2_ := Aside0.mk (below_step (by repeat (first | (with_reducible first | exact HB.out | apply below_alloc | apply pw_below_drewN | apply below_drew1 | refine below_set ?_ GE830.out) | exact HB.out)) hb); have n3_ := Aside0.mk (hbox); have n4_ := Aside0.mk ((by rw [hg]; exact (below_size (by repeat (first | (with_reducible first | exact HB.out | apply below_alloc | apply pw_below_drewN | apply below_drew1 | refine below_set ?_ GE830.out) | exact HB.out))) : w.heap.size ≤ gb838)); have n5_ := Aside0.mk ((by rw [hg]; exact (below_size (by repeat (first | (with_reducible first | exact HB.out | apply below_alloc | apply pw_below_drewN | apply below_drew1 | refine below_set ?_ GE830.out) | exact HB.out))) : w.heap.size ≤ gb838)); have n6_ := Aside0.mk ((by rw [hg]; exact Nat.ne_of_lt (blk_lt (g := gb830) (o := .cells #[.int .i64 a0_0, .int .i64 a0_1, .slice (some ad837) l0_2.length c0_2, .slice A0_3 l0_3.length c0_3] 58 (0, 0)) (by (with_reducible repeat (first | refine blk_drewN ?_ _ | refine blk_drew ?_ | refine blk_alloc ?_ _)); exact BK830.out)) : gb830 ≠ gb838)); have n7_ := Aside0.mk ((by rw [hg]; exact Nat.ne_of_gt (blk_lt (g := gb830) (o := .cells #[.int .i64 a0_0, .int .i64 a0_1, .slice (some ad837) l0_2.length c0_2, .slice A0_3 l0_3.length c0_3] 58 (0, 0)) (by (with_reducible repeat (first | refine blk_drewN ?_ _ | refine blk_drew ?_ | refine blk_alloc ?_ _)); exact BK830.out)) : gb838 ≠ gb830)); clear HO_3; clear BK830; clear HB; have HO_3 := n0_; have BK830 := n1_; have HB := n2_; have BK838 := n3_; have GW838 := n4_; have GE838 := n5_; have NB830_838 := n6_; have NB838_830 := n7_; clear n0_ n1_ n2_ n3_ n4_ n5_ n6_ n7_; clear hb hbox hg; have hnb31 := NB838_830.out; have hnc31 := NB830_838.out; have hcz32_0 : w30.cell? ⟨gb838, 0, none⟩ = some (.int .i64 0) := (blk_cell BK838.out 0).trans rfl; have hcz32_1 : w30.cell? ⟨gb838, 1, none⟩ = some (.int .i64 0) := (blk_cell BK838.out 1).trans rfl; have hfz32_0 := blk_frozen BK838.out 0; have hfz32_1 := blk_frozen BK838.out 1; have p839 : 0 ≤ (x34_2 : Int) := of_decide_eq_true (by first | (with_reducible assumption) | assumption); have q839 : x34_2 < (t834.length : Int) := of_decide_eq_true (by first | (with_reducible assumption) | assumption); obtain ⟨ad839, e839, hx839_0⟩ := Kd.at_int (Kd.R_reads' HO_3.out).2.2 x34_2 p839 q839; cases e839; have hn839_0 : ad839.block ≠ gb838 := Kd.own_blk (Kd.R_ne HO_3.out BK838.out (by decide)); have hn839_1 : ad839.block ≠ gb838 := Kd.own_blk (Kd.R_ne HO_3.out BK838.out (by decide)); replace hx839_0 := (cell_far (p := ⟨gb838, 0, none⟩) (by first | (rw [add_block]; exact hn839_0) | (show (Addr.add _ _).block ≠ _; rw [add_block]; exact hn839_0) | exact hn839_0) (.int .i64 ((rd_T115 l0_2 x34_2).f0))).trans hx839_0; replace hx839_0 := (cell_far (p := ⟨gb838, 1, none⟩) (by first | (rw [add_block]; exact hn839_1) | (show (Addr.add _ _).block ≠ _; rw [add_block]; exact hn839_1) | exact hn839_1) (.int .i64 ((rd_T115 l0_2 x34_2).f1))).trans hx839_0; (try have hy839_0 := fun (n_ : Nat) => (show ((((w30.drewN n_).setCell ⟨gb838, 0, none⟩ (.int .i64 ((rd_T115 l0_2 x34_2).f0))).setCell ⟨gb838, 1, none⟩ (.int .i64 ((rd_T115 l0_2 x34_2).f1)))).cell? _ = some _ from hx839_0)); clear hn839_0; clear hn839_1; replace p839 := eq_true p839; replace q839 := eq_true q839) | (go_at_call 109; (with_reducible refine (impl_in.calls ((rd_T115 l0_2 x34_2).f1) 0 1000000 false _ A25.out).mono ?_); rintro e w' ⟨rfl, ⟨nd, rfl⟩⟩; (try first | exact ⟨rfl, _, World.drewN_drewN _ _ _⟩ | exact ⟨rfl, _, Eq.trans (World.drewN_drewN _ _ _) (congrArg (World.drewN _) (Nat.add_assoc _ _ _))⟩))); try go_wp2_with (first | ((with_reducible refine gate_dst (N := 5) rfl ?_); refine box_event ?hg (N := 5) ?hd (cs := #[.int .i64 0, .int .i64 0]) (t := 115) ?hr ?_; (case hd => rfl); (case hg => rfl); (case hr => first | (go_simp; done) | (go_simp; rfl)); intro gb838 hg w30 hbox hb; have n0_ := Aside0.mk (Kd.R_below (by (with_reducible repeat (first | apply Kd.R_alloc | apply Kd.R_drewN | apply Kd.R_drew)); exact HO_3.out) hb); have n1_ := Aside0.mk (blk_below (g := gb830) (o := .cells #[.int .i64 a0_0, .int .i64 a0_1, .slice (some ad837) l0_2.length c0_2, .slice A0_3 l0_3.length c0_3] 58 (0, 0)) (by (with_reducible repeat (first | refine blk_drewN ?_ _ | refine blk_drew ?_ | refine blk_alloc ?_ _)); exact BK830.out) hb); have n2_ := Aside0.mk (below_step (by repeat (first | (with_reducible first | exact HB.out | apply below_alloc | apply pw_below_drewN | apply below_drew1 | refine below_set ?_ GE830.out) | exact HB.out)) hb); have n3_ := Aside0.mk (hbox); have n4_ := Aside0.mk ((by rw [hg]; exact (below_size (by repeat (first | (with_reducible first | exact HB.out | apply below_alloc | apply pw_below_drewN | apply below_drew1 | refine below_set ?_ GE830.out) | exact HB.out))) : w.heap.size ≤ gb838)); have n5_ := Aside0.mk ((by rw [hg]; exact (below_size (by repeat (first | (with_reducible first | exact HB.out | apply below_alloc | apply pw_below_drewN | apply below_drew1 | refine below_set ?_ GE830.out) | exact HB.out))) : w.heap.size ≤ gb838)); have n6_ := Aside0.mk ((by rw [hg]; exact Nat.ne_of_lt (blk_lt (g := gb830) (o := .cells #[.int .i64 a0_0, .int .i64 a0_1, .slice (some ad837) l0_2.length c0_2, .slice A0_3 l0_3.length c0_3] 58 (0, 0)) (by (with_reducible repeat (first | refine blk_drewN ?_ _ | refine blk_drew ?_ | refine blk_alloc ?_ _)); exact BK830.out)) : gb830 ≠ gb838)); have n7_ := Aside0.mk ((by rw [hg]; exact Nat.ne_of_gt (blk_lt (g := gb830) (o := .cells #[.int .i64 a0_0, .int .i64 a0_1, .slice (some ad837) l0_2.length c0_2, .slice A0_3 l0_3.length c0_3] 58 (0, 0)) (by (with_reducible repeat (first | refine blk_drewN ?_ _ | refine blk_drew ?_ | refine blk_alloc ?_ _)); exact BK830.out)) : gb838 ≠ gb830)); clear HO_3; clear BK830; clear HB; have HO_3 := n0_; have BK830 := n1_; have HB := n2_; have BK838 := n3_; have GW838 := n4_; have GE838 := n5_; have NB830_838 := n6_; have NB838_830 := n7_; clear n0_ n1_ n2_ n3_ n4_ n5_ n6_ n7_; clear hb hbox hg; have hnb31 := NB838_830.out; have hnc31 := NB830_838.out; have hcz32_0 : w30.cell? ⟨gb838, 0, none⟩ = some (.int .i64 0) := (blk_cell BK838.out 0).trans rfl; have hcz32_1 : w30.cell? ⟨gb838, 1, none⟩ = some (.int .i64 0) := (blk_cell BK838.out 1).trans rfl; have hfz32_0 := blk_frozen BK838.out 0; have hfz32_1 := blk_frozen BK838.out 1; have p839 : 0 ≤ (x34_2 : Int) := of_decide_eq_true (by first | (with_reducible assumption) | assumption); have q839 : x34_2 < (t834.length : Int) := of_decide_eq_true (by first | (with_reducible assumption) | assumption); obtain ⟨ad839, e839, hx839_0⟩ := Kd.at_int (Kd.R_reads' HO_3.out).2.2 x34_2 p839 q839; cases e839; have hn839_0 : ad839.block ≠ gb838 := Kd.own_blk (Kd.R_ne HO_3.out BK838.out (by decide)); have hn839_1 : ad839.block ≠ gb838 := Kd.own_blk (Kd.R_ne HO_3.out BK838.out (by decide)); replace hx839_0 := (cell_far (p := ⟨gb838, 0, none⟩) (by first | (rw [add_block]; exact hn839_0) | (show (Addr.add _ _).block ≠ _; rw [add_block]; exact hn839_0) | exact hn839_0) (.int .i64 ((rd_T115 l0_2 x34_2).f0))).trans hx839_0; replace hx839_0 := (cell_far (p := ⟨gb838, 1, none⟩) (by first | (rw [add_block]; exact hn839_1) | (show (Addr.add _ _).block ≠ _; rw [add_block]; exact hn839_1) | exact hn839_1) (.int .i64 ((rd_T115 l0_2 x34_2).f1))).trans hx839_0; (try have hy839_0 := fun (n_ : Nat) => (show ((((w30.drewN n_).setCell ⟨gb838, 0, none⟩ (.int .i64 ((rd_T115 l0_2 x34_2).f0))).setCell ⟨gb838, 1, none⟩ (.int .i64 ((rd_T115 l0_2 x34_2).f1)))).cell? _ = some _ from hx839_0)); clear hn839_0; clear hn839_1; replace p839 := eq_true p839; replace q839 := eq_true q839) | (go_at_call 109; (with_reducible refine (impl_in.calls ((rd_T115 l0_2 x34_2).f1) 0 1000000 false _ A25.out).mono ?_); rintro e w' ⟨rfl, ⟨nd, rfl⟩⟩; (try first | exact ⟨rfl, _, World.drewN_drewN _ _ _⟩ | exact ⟨rfl, _, Eq.trans (World.drewN_drewN _ _ _) (congrArg (World.drewN _) (Nat.add_assoc _ _ _))⟩))))
                          go_ret
                          exact ⟨by first | rfl | (simp [errW_none, errW_some] <;> rfl) | (simp [*, errW_none, errW_some] <;> rfl), by repeat (first | (with_reducible first | exact HB.out | apply below_alloc | apply pw_below_drewN | apply below_drew1 | refine below_set ?_ GE830.out | refine below_set ?_ GE838.out) | exact HB.out)⟩
                      · rw [if_neg c24] at H
                        have c24b0 : (((rd_T115 l0_2 x34_2).f0) == (rd t834 x34_2)) = false := beq_eq_false_iff_ne.mpr c24
                        have c24b1 : (((rd_T115 l0_2 x34_2).f0) != (rd t834 x34_2)) = true := bne_iff_ne.mpr c24
                        obtain rfl := Option.some.inj H
                        have p837 : 0 ≤ (x34_2 : Int) := of_decide_eq_true (by first | (with_reducible assumption) | assumption)
                        have q837 : x34_2 < (l0_2.length : Int) := of_decide_eq_true (by first | (with_reducible assumption) | assumption)
                        obtain ⟨ad837, e837, hx837_0, hx837_1⟩ := at_T115 HR0_2.out x34_2 p837 q837
                        cases e837
                        replace hx837_0 := (HB.out.cell (World.block_lt_of_cell? w _ hx837_0)).trans hx837_0
                        replace hx837_1 := (HB.out.cell (World.block_lt_of_cell? w _ hx837_1)).trans hx837_1
                        replace p837 := eq_true p837
                        replace q837 := eq_true q837
                        go_wp2_with (first | ((with_reducible refine gate_dst (N := 5) rfl ?_); refine box_event ?hg (N := 5) ?hd (cs := #[.int .i64 0, .int .i64 0]) (t := 115) ?hr ?_; (case hd => rfl); (case hg => rfl); (case hr => first | (go_simp; done) | (go_simp; rfl)); intro gb838 hg w33 hbox hb; have n0_ := Aside0.mk (Kd.R_below (by (with_reducible repeat (first | apply Kd.R_alloc | apply Kd.R_drewN | apply Kd.R_drew)); exact HO_3.out) hb); have n1_ := Aside0.mk (blk_below (g := gb830) (o := .cells #[.int .i64 a0_0, .int .i64 a0_1, .slice (some ad837) l0_2.length c0_2, .slice A0_3 l0_3.length c0_3] 58 (0, 0)) (by (with_reducible repeat (first | refine blk_drewN ?_ _ | refine blk_drew ?_ | refine blk_alloc ?_ _)); exact BK830.out) hb); have n2_ := Aside0.mk (below_step (by repeat (first | (with_reducible first | exact HB.out | apply below_alloc | apply pw_below_drewN | apply below_drew1 | refine below_set ?_ GE830.out) | exact HB.out)) hb); have n3_ := Aside0.mk (hbox); have n4_ := Aside0.mk ((by rw [hg]; exact (below_size (by repeat (first | (with_reducible first | exact HB.out | apply below_alloc | apply pw_below_drewN | apply below_drew1 | refine below_set ?_ GE830.out) | exact HB.out))) : w.heap.size ≤ gb838)); have n5_ := Aside0.mk ((by rw [hg]; exact (below_size (by repeat (first | (with_reducible first | exact HB.out | apply below_alloc | apply pw_below_drewN | apply below_drew1 | refine below_set ?_ GE830.out) | exact HB.out))) : w.heap.size ≤ gb838)); have n6_ := Aside0.mk ((by rw [hg]; exact Nat.ne_of_lt (blk_lt (g := gb830) (o := .cells #[.int .i64 a0_0, .int .i64 a0_1, .slice (some ad837) l0_2.length c0_2, .slice A0_3 l0_3.length c0_3] 58 (0, 0)) (by (with_reducible repeat (first | refine blk_drewN ?_ _ | refine blk_drew ?_ | refine blk_alloc ?_ _)); exact BK830.out)) : gb830 ≠ gb838)); have n7_ := Aside0.mk ((by rw [hg]; exact Nat.ne_of_gt (blk_lt (g := gb830) (o := .cells #[.int .i64 a0_0, .int .i64 a0_1, .slice (some ad837) l0_2.length c0_2, .slice A0_3 l0_3.length c0_3] 58 (0, 0)) (by (with_reducible repeat (first | refine blk_drewN ?_ _ | refine blk_drew ?_ | refine blk_alloc ?_ _)); exact BK830.out)) : gb838 ≠ gb830)); clear HO_3; clear BK830; clear HB; have HO_3 := n0_; have BK830 := n1_; have HB := n2_; have BK838 := n3_; have GW838 := n4_; have GE838 := n5_; have NB830_838 := n6_; have NB838_830 := n7_; clear n0_ n1_ n2_ n3_ n4_ n5_ n6_ n7_; clear hb hbox hg; have hnb34 := NB838_830.out; have hnc34 := NB830_838.out; have hcz35_0 : w33.cell? ⟨gb838, 0, none⟩ = some (.int .i64 0) := (blk_cell BK838.out 0).trans rfl; have hcz35_1 : w33.cell? ⟨gb838, 1, none⟩ = some (.int .i64 0) := (blk_cell BK838.out 1).trans rfl; have hfz35_0 := blk_frozen BK838.out 0; have hfz35_1 := blk_frozen BK838.out 1; have p839 : 0 ≤ (x34_2 : Int) := of_decide_eq_true (by first | (with_reducible assumption) | assumption); have q839 : x34_2 < (t834.length : Int) := of_decide_eq_true (by first | (with_reducible assumption) | assumption); obtain ⟨ad839, e839, hx839_0⟩ := Kd.at_int (Kd.R_reads' HO_3.out).2.2 x34_2 p839 q839; cases e839; have hn839_0 : ad839.block ≠ gb838 := Kd.own_blk (Kd.R_ne HO_3.out BK838.out (by decide)); have hn839_1 : ad839.block ≠ gb838 := Kd.own_blk (Kd.R_ne HO_3.out BK838.out (by decide)); replace hx839_0 := (cell_far (p := ⟨gb838, 0, none⟩) (by first | (rw [add_block]; exact hn839_0) | (show (Addr.add _ _).block ≠ _; rw [add_block]; exact hn839_0) | exact hn839_0) (.int .i64 ((rd_T115 l0_2 x34_2).f0))).trans hx839_0; replace hx839_0 := (cell_far (p := ⟨gb838, 1, none⟩) (by first | (rw [add_block]; exact hn839_1) | (show (Addr.add _ _).block ≠ _; rw [add_block]; exact hn839_1) | exact hn839_1) (.int .i64 ((rd_T115 l0_2 x34_2).f1))).trans hx839_0; (try have hy839_0 := fun (n_ : Nat) => (show ((((w33.drewN n_).setCell ⟨gb838, 0, none⟩ (.int .i64 ((rd_T115 l0_2 x34_2).f0))).setCell ⟨gb838, 1, none⟩ (.int .i64 ((rd_T115 l0_2 x34_2).f1)))).cell? _ = some _ from hx839_0)); clear hn839_0; clear hn839_1; replace p839 := eq_true p839; replace q839 := eq_true q839))
                        repeat (go_quiet (first | ((with_reducible refine gate_dst (N := 5) rfl ?_); refine box_event ?hg (N := 5) ?hd (cs := #[.int .i64 0, .int .i64 0]) (t := 115) ?hr ?_; (case hd => rfl); (case hg => rfl); (case hr => first | (go_simp; done) | (go_simp; rfl)); intro gb838 hg w33 hbox hb; have n0_ := Aside0.mk (Kd.R_below (by (with_reducible repeat (first | apply Kd.R_alloc | apply Kd.R_drewN | apply Kd.R_drew)); exact HO_3.out) hb); have n1_ := Aside0.mk (blk_below (g := gb830) (o := .cells #[.int .i64 a0_0, .int .i64 a0_1, .slice (some ad837) l0_2.length c0_2, .slice A0_3 l0_3.length c0_3] 58 (0, 0)) (by (with_reducible repeat (first | refine blk_drewN ?_ _ | refine blk_drew ?_ | refine blk_alloc ?_ _)); exact BK830.out) hb); have n2_ := Aside0.mk (below_step (by repeat (first | (with_reducible first | exact HB.out | apply below_alloc | apply pw_below_drewN | apply below_drew1 | refine below_set ?_ GE830.out) | exact HB.out)) hb); have n3_ := Aside0.mk (hbox); have n4_ := Aside0.mk ((by rw [hg]; exact (below_size (by repeat (first | (with_reducible first | exact HB.out | apply below_alloc | apply pw_below_drewN | apply below_drew1 | refine below_set ?_ GE830.out) | exact HB.out))) : w.heap.size ≤ gb838)); have n5_ := Aside0.mk ((by rw [hg]; exact (below_size (by repeat (first | (with_reducible first | exact HB.out | apply below_alloc | apply pw_below_drewN | apply below_drew1 | refine below_set ?_ GE830.out) | exact HB.out))) : w.heap.size ≤ gb838)); have n6_ := Aside0.mk ((by rw [hg]; exact Nat.ne_of_lt (blk_lt (g := gb830) (o := .cells #[.int .i64 a0_0, .int .i64 a0_1, .slice (some ad837) l0_2.length c0_2, .slice A0_3 l0_3.length c0_3] 58 (0, 0)) (by (with_reducible repeat (first | refine blk_drewN ?_ _ | refine blk_drew ?_ | refine blk_alloc ?_ _)); exact BK830.out)) : gb830 ≠ gb838)); have n7_ := Aside0.mk ((by rw [hg]; exact Nat.ne_of_gt (blk_lt (g := gb830) (o := .cells #[.int .i64 a0_0, .int .i64 a0_1, .slice (some ad837) l0_2.length c0_2, .slice A0_3 l0_3.length c0_3] 58 (0, 0)) (by (with_reducible repeat (first | refine blk_drewN ?_ _ | refine blk_drew ?_ | refine blk_alloc ?_ _)); exact BK830.out)) : gb838 ≠ gb830)); clear HO_3; clear BK830; clear HB; have HO_3 := n0_; have BK830 := n1_; have HB := n2_; have BK838 := n3_; have GW838 := n4_; have GE838 := n5_; have NB830_838 := n6_; have NB838_830 := n7_; clear n0_ n1_ n2_ n3_ n4_ n5_ n6_ n7_; clear hb hbox hg; have hnb34 := NB838_830.out; have hnc34 := NB830_838.out; have hcz35_0 : w33.cell? ⟨gb838, 0, none⟩ = some (.int .i64 0) := (blk_cell BK838.out 0).trans rfl; have hcz35_1 : w33.cell? ⟨gb838, 1, none⟩ = some (.int .i64 0) := (blk_cell BK838.out 1).trans rfl; have hfz35_0 := blk_frozen BK838.out 0; have hfz35_1 := blk_frozen BK838.out 1; have p839 : 0 ≤ (x34_2 : Int) := of_decide_eq_true (by first | (with_reducible assumption) | assumption); have q839 : x34_2 < (t834.length : Int) := of_decide_eq_true (by first | (with_reducible assumption) | assumption); obtain ⟨ad839, e839, hx839_0⟩ := Kd.at_int (Kd.R_reads' HO_3.out).2.2 x34_2 p839 q839; cases e839; have hn839_0 : ad839.block ≠ gb838 := Kd.own_blk (Kd.R_ne HO_3.out BK838.out (by decide)); have hn839_1 : ad839.block ≠ gb838 := Kd.own_blk (Kd.R_ne HO_3.out BK838.out (by decide)); replace hx839_0 := (cell_far (p := ⟨gb838, 0, none⟩) (by first | (rw [add_block]; exact hn839_0) | (show (Addr.add _ _).block ≠ _; rw [add_block]; exact hn839_0) | exact hn839_0) (.int .i64 ((rd_T115 l0_2 x34_2).f0))).trans hx839_0; replace hx839_0 := (cell_far (p := ⟨gb838, 1, none⟩) (by first | (rw [add_block]; exact hn839_1) | (show (Addr.add _ _).block ≠ _; rw [add_block]; exact hn839_1) | exact hn839_1) (.int .i64 ((rd_T115 l0_2 x34_2).f1))).trans hx839_0; (try have hy839_0 := fun (n_ : Nat) => (show ((((w33.drewN n_).setCell ⟨gb838, 0, none⟩ (.int .i64 ((rd_T115 l0_2 x34_2).f0))).setCell ⟨gb838, 1, none⟩ (.int .i64 ((rd_T115 l0_2 x34_2).f1)))).cell? _ = some _ from hx839_0)); clear hn839_0; clear hn839_1; replace p839 := eq_true p839; replace q839 := eq_true q839)); try go_wp2_with (first | ((with_reducible refine gate_dst (N := 5) rfl ?_); refine box_event ?hg (N := 5) ?hd (cs := #[.int .i64 0, .int .i64 0]) (t := 115) ?hr ?_; (case hd => rfl); (case hg => rfl); (case hr => first | (go_simp; done) | (go_simp; rfl)); intro gb838 hg w33 hbox hb; have n0_ := Aside0.mk (Kd.R_below (by (with_reducible repeat (first | apply Kd.R_alloc | apply Kd.R_drewN | apply Kd.R_drew)); exact HO_3.out) hb); have n1_ := Aside0.mk (blk_below (g := gb830) (o := .cells #[.int .i64 a0_0, .int .i64 a0_1, .slice (some ad837) l0_2.length c0_2, .slice A0_3 l0_3.length c0_3] 58 (0, 0)) (by (with_reducible repeat (first | refine blk_drewN ?_ _ | refine blk_drew ?_ | refine blk_alloc ?_ _)); exact BK830.out) hb); have n2_ := Aside0.mk (below_step (by repeat (first | (with_reducible first | exact HB.out | apply below_alloc | apply pw_below_drewN | apply below_drew1 | refine below_set ?_ GE830.out) | exact HB.out)) hb); have n3_ := Aside0.mk (hbox); have n4_ := Aside0.mk ((by rw [hg]; exact (below_size (by repeat (first | (with_reducible first | exact HB.out | apply below_alloc | apply pw_below_drewN | apply below_drew1 | refine below_set ?_ GE830.out) | exact HB.out))) : w.heap.size ≤ gb838)); have n5_ := Aside0.mk ((by rw [hg]; exact (below_size (by repeat (first | (with_reducible first | exact HB.out | apply below_alloc | apply pw_below_drewN | apply below_drew1 | refine below_set ?_ GE830.out) | exact HB.out))) : w.heap.size ≤ gb838)); have n6_ := Aside0.mk ((by rw [hg]; exact Nat.ne_of_lt (blk_lt (g := gb830) (o := .cells #[.int .i64 a0_0, .int .i64 a0_1, .slice (some ad837) l0_2.length c0_2, .slice A0_3 l0_3.length c0_3] 58 (0, 0)) (by (with_reducible repeat (first | refine blk_drewN ?_ _ | refine blk_drew ?_ | refine blk_alloc ?_ _)); exact BK830.out)) : gb830 ≠ gb838)); have n7_ := Aside0.mk ((by rw [hg]; exact Nat.ne_of_gt (blk_lt (g := gb830) (o := .cells #[.int .i64 a0_0, .int .i64 a0_1, .slice (some ad837) l0_2.length c0_2, .slice A0_3 l0_3.length c0_3] 58 (0, 0)) (by (with_reducible repeat (first | refine blk_drewN ?_ _ | refine blk_drew ?_ | refine blk_alloc ?_ _)); exact BK830.out)) : gb838 ≠ gb830)); clear HO_3; clear BK830; clear HB; have HO_3 := n0_; have BK830 := n1_; have HB := n2_; have BK838 := n3_; have GW838 := n4_; have GE838 := n5_; have NB830_838 := n6_; have NB838_830 := n7_; clear n0_ n1_ n2_ n3_ n4_ n5_ n6_ n7_; clear hb hbox hg; have hnb34 := NB838_830.out; have hnc34 := NB830_838.out; have hcz35_0 : w33.cell? ⟨gb838, 0, none⟩ = some (.int .i64 0) := (blk_cell BK838.out 0).trans rfl; have hcz35_1 : w33.cell? ⟨gb838, 1, none⟩ = some (.int .i64 0) := (blk_cell BK838.out 1).trans rfl; have hfz35_0 := blk_frozen BK838.out 0; have hfz35_1 := blk_frozen BK838.out 1; have p839 : 0 ≤ (x34_2 : Int) := of_decide_eq_true (by first | (with_reducible assumption) | assumption); have q839 : x34_2 < (t834.length : Int) := of_decide_eq_true (by first | (with_reducible assumption) | assumption); obtain ⟨ad839, e839, hx839_0⟩ := Kd.at_int (Kd.R_reads' HO_3.out).2.2 x34_2 p839 q839; cases e839; have hn839_0 : ad839.block ≠ gb838 := Kd.own_blk (Kd.R_ne HO_3.out BK838.out (by decide)); have hn839_1 : ad839.block ≠ gb838 := Kd.own_blk (Kd.R_ne HO_3.out BK838.out (by decide)); replace hx839_0 := (cell_far (p := ⟨gb838, 0, none⟩) (by first | (rw [add_block]; exact hn839_0) | (show (Addr.add _ _).block ≠ _; rw [add_block]; exact hn839_0) | exact hn839_0) (.int .i64 ((rd_T115 l0_2 x34_2).f0))).trans hx839_0; replace hx839_0 := (cell_far (p := ⟨gb838, 1, none⟩) (by first | (rw [add_block]; exact hn839_1) | (show (Addr.add _ _).block ≠ _; rw [add_block]; exact hn839_1) | exact hn839_1) (.int .i64 ((rd_T115 l0_2 x34_2).f1))).trans hx839_0; (try have hy839_0 := fun (n_ : Nat) => (show ((((w33.drewN n_).setCell ⟨gb838, 0, none⟩ (.int .i64 ((rd_T115 l0_2 x34_2).f0))).setCell ⟨gb838, 1, none⟩ (.int .i64 ((rd_T115 l0_2 x34_2).f1)))).cell? _ = some _ from hx839_0)); clear hn839_0; clear hn839_1; replace p839 := eq_true p839; replace q839 := eq_true q839)))
                        go_ret
                        exact ⟨by first | rfl | (simp [errW_none, errW_some] <;> rfl) | (simp [*, errW_none, errW_some] <;> rfl), by repeat (first | (with_reducible first | exact HB.out | apply below_alloc | apply pw_below_drewN | apply below_drew1 | refine below_set ?_ GE830.out | refine below_set ?_ GE838.out) | exact HB.out)⟩
                    · rw [if_neg c23] at H
                      exact absurd H (by simp)
                  · rw [if_neg c22] at H
                    exact absurd H (by simp)
                · rw [if_neg c21] at H
                  exact absurd H (by simp)
              · rw [if_neg c20] at H
                have c20b0 : decide (x34_2 < (l0_2.length : Int)) = false := decide_eq_false c20
                clear c20
                obtain rfl := Option.some.inj H
                go_wp2
                repeat (go_quiet (fail); try go_wp2)
                go_ret
                exact ⟨by first | rfl | (simp [errW_none, errW_some] <;> rfl) | (simp [*, errW_none, errW_some] <;> rfl), by repeat (first | (with_reducible first | exact HB.out | apply below_alloc | apply pw_below_drewN | apply below_drew1 | refine below_set ?_ GE830.out) | exact HB.out)⟩
        · rw [if_neg c15] at H
          have c15b0 : ((t834.length : Int) == (l0_2.length : Int)) = false := beq_eq_false_iff_ne.mpr c15
          have c15b1 : ((t834.length : Int) != (l0_2.length : Int)) = true := bne_iff_ne.mpr c15
          have c15b2 : (t834.length == l0_2.length) = false := by first | simpa using c15 | (simp at c15 ⊢; omega)
          obtain rfl := Option.some.inj H
          have hcz36_0 : wc.cell? ⟨gb830, 0, none⟩ = some (.int .i64 a0_0) := (blk_cell BK830.out 0).trans rfl
          have hcz36_1 : wc.cell? ⟨gb830, 1, none⟩ = some (.int .i64 a0_1) := (blk_cell BK830.out 1).trans rfl
          have hcz36_2 : wc.cell? ⟨gb830, 2, none⟩ = some (.slice A0_2 l0_2.length c0_2) := (blk_cell BK830.out 2).trans rfl
          have hcz36_3 : wc.cell? ⟨gb830, 3, none⟩ = some (.slice A0_3 l0_3.length c0_3) := (blk_cell BK830.out 3).trans rfl
          have hfz36_0 := blk_frozen BK830.out 0
          have hfz36_1 := blk_frozen BK830.out 1
          have hfz36_2 := blk_frozen BK830.out 2
          have hfz36_3 := blk_frozen BK830.out 3
          go_wp2_with (first | (go_at_call 117; (with_reducible refine (impl_LogIds.calls kj1 _ _ l0_3 t834 _ ?side1 ?side2 A14.out).mono ?_); (case side1 => repeat (first | exact (Kd.C_below HR0_3.out HB.out) | (with_reducible refine Kd.C_alloc ?_ _) | (with_reducible refine Kd.C_drewN ?_ _) | (with_reducible refine Kd.C_drew ?_))); (case side2 => exact HC0_3.out); rintro e w37 ⟨v835, rfl, ho0, hb⟩; have n0_ := Aside0.mk (Kd.R_lower ho0 (below_size (by repeat (first | (with_reducible first | exact HB.out | apply below_alloc | apply pw_below_drewN | apply below_drew1 | refine below_set ?_ GE830.out) | exact HB.out)))); have n1_ := Aside0.mk (blk_below (g := gb830) (o := .cells #[.int .i64 a0_0, .int .i64 a0_1, .slice A0_2 l0_2.length c0_2, .slice A0_3 l0_3.length c0_3] 58 (0, 0)) (by (with_reducible repeat (first | refine blk_drewN ?_ _ | refine blk_drew ?_ | refine blk_alloc ?_ _)); exact BK830.out) hb); have n2_ := Aside0.mk (below_step (by repeat (first | (with_reducible first | exact HB.out | apply below_alloc | apply pw_below_drewN | apply below_drew1 | refine below_set ?_ GE830.out) | exact HB.out)) hb); clear BK830; clear HB; have HO836 := n0_; have BK830 := n1_; have HB := n2_; clear n0_ n1_ n2_; (try clear hb); (try clear hb2); (try clear hk); (try clear hi); (try clear ho0); obtain ⟨Ao38, co38, eo38⟩ := Kd.R_slice HO836.out; subst eo38; have hcz39_0 : w37.cell? ⟨gb830, 0, none⟩ = some (.int .i64 a0_0) := (blk_cell BK830.out 0).trans rfl; have hcz39_1 : w37.cell? ⟨gb830, 1, none⟩ = some (.int .i64 a0_1) := (blk_cell BK830.out 1).trans rfl; have hcz39_2 : w37.cell? ⟨gb830, 2, none⟩ = some (.slice A0_2 l0_2.length c0_2) := (blk_cell BK830.out 2).trans rfl; have hcz39_3 : w37.cell? ⟨gb830, 3, none⟩ = some (.slice A0_3 l0_3.length c0_3) := (blk_cell BK830.out 3).trans rfl; have hfz39_0 := blk_frozen BK830.out 0; have hfz39_1 := blk_frozen BK830.out 1; have hfz39_2 := blk_frozen BK830.out 2; have hfz39_3 := blk_frozen BK830.out 3))
          repeat (go_quiet (first | (go_at_call 117; (with_reducible refine (impl_LogIds.calls kj1 _ _ l0_3 t834 _ ?side1 ?side2 A14.out).mono ?_); (case side1 => repeat (first | exact (Kd.C_below HR0_3.out HB.out) | (with_reducible refine Kd.C_alloc ?_ _) | (with_reducible refine Kd.C_drewN ?_ _) | (with_reducible refine Kd.C_drew ?_))); (case side2 => exact HC0_3.out); rintro e w37 ⟨v835, rfl, ho0, hb⟩; have n0_ := Aside0.mk (Kd.R_lower ho0 (below_size (by repeat (first | (with_reducible first | exact HB.out | apply below_alloc | apply pw_below_drewN | apply below_drew1 | refine below_set ?_ GE830.out) | exact HB.out)))); have n1_ := Aside0.mk (blk_below (g := gb830) (o := .cells #[.int .i64 a0_0, .int .i64 a0_1, .slice A0_2 l0_2.length c0_2, .slice A0_3 l0_3.length c0_3] 58 (0, 0)) (by (with_reducible repeat (first | refine blk_drewN ?_ _ | refine blk_drew ?_ | refine blk_alloc ?_ _)); exact BK830.out) hb); have n2_ := Aside0.mk (below_step (by repeat (first | (with_reducible first | exact HB.out | apply below_alloc | apply pw_below_drewN | apply below_drew1 | refine below_set ?_ GE830.out) | exact HB.out)) hb); clear BK830; clear HB; have HO836 := n0_; have BK830 := n1_; have HB := n2_; clear n0_ n1_ n2_; (try clear hb); (try clear hb2); (try clear hk); (try clear hi); (try clear ho0); obtain ⟨Ao38, co38, eo38⟩ := Kd.R_slice HO836.out; subst eo38; have hcz39_0 : w37.cell? ⟨gb830, 0, none⟩ = some (.int .i64 a0_0) := (blk_cell BK830.out 0).trans rfl; have hcz39_1 : w37.cell? ⟨gb830, 1, none⟩ = some (.int .i64 a0_1) := (blk_cell BK830.out 1).trans rfl; have hcz39_2 : w37.cell? ⟨gb830, 2, none⟩ = some (.slice A0_2 l0_2.length c0_2) := (blk_cell BK830.out 2).trans rfl; have hcz39_3 : w37.cell? ⟨gb830, 3, none⟩ = some (.slice A0_3 l0_3.length c0_3) := (blk_cell BK830.out 3).trans rfl; have hfz39_0 := blk_frozen BK830.out 0; have hfz39_1 := blk_frozen BK830.out 1; have hfz39_2 := blk_frozen BK830.out 2; have hfz39_3 := blk_frozen BK830.out 3)); try go_wp2_with (first | (go_at_call 117; (with_reducible refine (impl_LogIds.calls kj1 _ _ l0_3 t834 _ ?side1 ?side2 A14.out).mono ?_); (case side1 => repeat (first | exact (Kd.C_below HR0_3.out HB.out) | (with_reducible refine Kd.C_alloc ?_ _) | (with_reducible refine Kd.C_drewN ?_ _) | (with_reducible refine Kd.C_drew ?_))); (case side2 => exact HC0_3.out); rintro e w37 ⟨v835, rfl, ho0, hb⟩; have n0_ := Aside0.mk (Kd.R_lower ho0 (below_size (by repeat (first | (with_reducible first | exact HB.out | apply below_alloc | apply pw_below_drewN | apply below_drew1 | refine below_set ?_ GE830.out) | exact HB.out)))); have n1_ := Aside0.mk (blk_below (g := gb830) (o := .cells #[.int .i64 a0_0, .int .i64 a0_1, .slice A0_2 l0_2.length c0_2, .slice A0_3 l0_3.length c0_3] 58 (0, 0)) (by (with_reducible repeat (first | refine blk_drewN ?_ _ | refine blk_drew ?_ | refine blk_alloc ?_ _)); exact BK830.out) hb); have n2_ := Aside0.mk (below_step (by repeat (first | (with_reducible first | exact HB.out | apply below_alloc | apply pw_below_drewN | apply below_drew1 | refine below_set ?_ GE830.out) | exact HB.out)) hb); clear BK830; clear HB; have HO836 := n0_; have BK830 := n1_; have HB := n2_; clear n0_ n1_ n2_; (try clear hb); (try clear hb2); (try clear hk); (try clear hi); (try clear ho0); obtain ⟨Ao38, co38, eo38⟩ := Kd.R_slice HO836.out; subst eo38; have hcz39_0 : w37.cell? ⟨gb830, 0, none⟩ = some (.int .i64 a0_0) := (blk_cell BK830.out 0).trans rfl; have hcz39_1 : w37.cell? ⟨gb830, 1, none⟩ = some (.int .i64 a0_1) := (blk_cell BK830.out 1).trans rfl; have hcz39_2 : w37.cell? ⟨gb830, 2, none⟩ = some (.slice A0_2 l0_2.length c0_2) := (blk_cell BK830.out 2).trans rfl; have hcz39_3 : w37.cell? ⟨gb830, 3, none⟩ = some (.slice A0_3 l0_3.length c0_3) := (blk_cell BK830.out 3).trans rfl; have hfz39_0 := blk_frozen BK830.out 0; have hfz39_1 := blk_frozen BK830.out 1; have hfz39_2 := blk_frozen BK830.out 2; have hfz39_3 := blk_frozen BK830.out 3)))
          go_ret
          exact ⟨by first | rfl | (simp [errW_none, errW_some] <;> rfl) | (simp [*, errW_none, errW_some] <;> rfl), by repeat (first | (with_reducible first | exact HB.out | apply below_alloc | apply pw_below_drewN | apply below_drew1 | refine below_set ?_ GE830.out) | exact HB.out)⟩
end Go.Proofs.Ytjcpkplneflleaa.Q
namespace Go.Proofs.Ytjcpkplneflleaa.Q
open Go.RowKit Go.Proofs.YtjcpkplneflleaaW.PrintWords Go.Proofs.YtjcpkplneflleaaW.PrintLast Go.Proofs.YtjcpkplneflleaaW.PrintMore
attribute [local go_sem] max2_int min2_int max_two min_two max_three min_three max_four min_four   -- for this text's walks alone
set_option linter.unusedVariables false
set_option linter.unusedSimpArgs false
def laws_eqOp.f (a0_0 : Int) (a0_1 : Int) (a0_2 : ByteArray) (a0_3 : Int) (a0_4 : ByteArray) (a0_5 : Int) (a0_6 : ByteArray) (a1_0 : Int) (a1_1 : Int) (a1_2 : ByteArray) (a1_3 : Int) (a1_4 : ByteArray) (a1_5 : Int) (a1_6 : ByteArray) : Option (Bool) := if a0_0 = a1_0 then (if a0_1 = a1_1 then (if a0_2.toList = a1_2.toList then (if a0_3 = a1_3 then (if a0_4.toList = a1_4.toList then (if a0_5 = a1_5 then (if a0_6.toList = a1_6.toList then (some true) else (some false)) else (some false)) else (some false)) else (some false)) else (some false)) else (some false)) else (some false)
set_option maxHeartbeats 8000000 in
set_option maxRecDepth 100000 in
theorem laws_eqOp.calls (a0_0 : Int) (a0_1 : Int) (a0_2 : ByteArray) (a0_3 : Int) (a0_4 : ByteArray) (a0_5 : Int) (a0_6 : ByteArray) (a1_0 : Int) (a1_1 : Int) (a1_2 : ByteArray) (a1_3 : Int) (a1_4 : ByteArray) (a1_5 : Int) (a1_6 : ByteArray) (r : Bool) (w : World) (h : laws_eqOp.f a0_0 a0_1 a0_2 a0_3 a0_4 a0_5 a0_6 a1_0 a1_1 a1_2 a1_3 a1_4 a1_5 a1_6 = some r) :
    Calls Try.prog 90 #[.agg #[.int .i64 a0_0, .int .i64 a0_1, .string a0_2, .int .i64 a0_3, .string a0_4, .int .i64 a0_5, .string a0_6], .agg #[.int .i64 a1_0, .int .i64 a1_1, .string a1_2, .int .i64 a1_3, .string a1_4, .int .i64 a1_5, .string a1_6]] w fun e w' => e = .returned (.bool r) ∧ Below w.heap.size w w' := by
  have hu72 := Try.underlying72
  have HB := Aside0.mk (Below.refl w.heap.size w)
  have H : (if a0_0 = a1_0 then (if a0_1 = a1_1 then (if a0_2.toList = a1_2.toList then (if a0_3 = a1_3 then (if a0_4.toList = a1_4.toList then (if a0_5 = a1_5 then (if a0_6.toList = a1_6.toList then (some true) else (some false)) else (some false)) else (some false)) else (some false)) else (some false)) else (some false)) else (some false)) = some r := h
  clear h
  by_cases c3 : a0_0 = a1_0
  · rw [if_pos c3] at H
    have c3b0 : (a0_0 == a1_0) = true := beq_iff_eq.mpr c3
    have c3b1 : (a0_0 != a1_0) = false := bne_eq_false_iff_eq.mpr c3
    clear c3
    by_cases c4 : a0_1 = a1_1
    · rw [if_pos c4] at H
      have c4b0 : (a0_1 == a1_1) = true := beq_iff_eq.mpr c4
      have c4b1 : (a0_1 != a1_1) = false := bne_eq_false_iff_eq.mpr c4
      clear c4
      by_cases c5 : a0_2.toList = a1_2.toList
      · rw [if_pos c5] at H
        have c5b0 : (a0_2.toList == a1_2.toList) = true := beq_iff_eq.mpr c5
        have c5b1 : (a0_2.toList != a1_2.toList) = false := bne_eq_false_iff_eq.mpr c5
        clear c5
        by_cases c6 : a0_3 = a1_3
        · rw [if_pos c6] at H
          have c6b0 : (a0_3 == a1_3) = true := beq_iff_eq.mpr c6
          have c6b1 : (a0_3 != a1_3) = false := bne_eq_false_iff_eq.mpr c6
          clear c6
          by_cases c7 : a0_4.toList = a1_4.toList
          · rw [if_pos c7] at H
            have c7b0 : (a0_4.toList == a1_4.toList) = true := beq_iff_eq.mpr c7
            have c7b1 : (a0_4.toList != a1_4.toList) = false := bne_eq_false_iff_eq.mpr c7
            clear c7
            by_cases c8 : a0_5 = a1_5
            · rw [if_pos c8] at H
              have c8b0 : (a0_5 == a1_5) = true := beq_iff_eq.mpr c8
              have c8b1 : (a0_5 != a1_5) = false := bne_eq_false_iff_eq.mpr c8
              clear c8
              by_cases c9 : a0_6.toList = a1_6.toList
              · rw [if_pos c9] at H
                have c9b0 : (a0_6.toList == a1_6.toList) = true := beq_iff_eq.mpr c9
                have c9b1 : (a0_6.toList != a1_6.toList) = false := bne_eq_false_iff_eq.mpr c9
                clear c9
                obtain rfl := Option.some.inj H
                go_enter Try.func90, Try.ntmps90
                go_wp2_with (first | ((with_reducible refine gate_dst (N := 2) rfl ?_); refine box_event ?hg (N := 2) ?hd (cs := #[.int .i64 a0_0, .int .i64 a0_1, .string a0_2, .int .i64 a0_3, .string a0_4, .int .i64 a0_5, .string a0_6]) (t := 72) ?hr ?_; (case hd => rfl); (case hg => rfl); (case hr => first | (go_simp; done) | (go_simp; rfl)); intro gb497 hg w10 hbox hb; have n0_ := Aside0.mk (below_step (by repeat (first | (with_reducible first | exact HB.out | apply below_alloc | apply pw_below_drewN | apply below_drew1) | exact HB.out)) hb); have n1_ := Aside0.mk (hbox); have n2_ := Aside0.mk ((by rw [hg]; exact (below_size (by repeat (first | (with_reducible first | exact HB.out | apply below_alloc | apply pw_below_drewN | apply below_drew1) | exact HB.out))) : w.heap.size ≤ gb497)); have n3_ := Aside0.mk ((by rw [hg]; exact (below_size (by repeat (first | (with_reducible first | exact HB.out | apply below_alloc | apply pw_below_drewN | apply below_drew1) | exact HB.out))) : w.heap.size ≤ gb497)); clear HB; have HB := n0_; have BK497 := n1_; have GW497 := n2_; have GE497 := n3_; clear n0_ n1_ n2_ n3_; clear hb hbox hg) | ((with_reducible refine gate_dst (N := 3) rfl ?_); refine box_event ?hg (N := 3) ?hd (cs := #[.int .i64 a1_0, .int .i64 a1_1, .string a1_2, .int .i64 a1_3, .string a1_4, .int .i64 a1_5, .string a1_6]) (t := 72) ?hr ?_; (case hd => rfl); (case hg => rfl); (case hr => first | (go_simp; done) | (go_simp; rfl)); intro gb498 hg w11 hbox hb; have n0_ := Aside0.mk (blk_below (g := gb497) (o := .cells #[.int .i64 a0_0, .int .i64 a0_1, .string a0_2, .int .i64 a0_3, .string a0_4, .int .i64 a0_5, .string a0_6] 72 (0, 0)) (by (with_reducible repeat (first | refine blk_drewN ?_ _ | refine blk_drew ?_ | refine blk_alloc ?_ _)); exact BK497.out) hb); have n1_ := Aside0.mk (below_step (by repeat (first | (with_reducible first | exact HB.out | apply below_alloc | apply pw_below_drewN | apply below_drew1 | refine below_set ?_ GE497.out) | exact HB.out)) hb); have n2_ := Aside0.mk (hbox); have n3_ := Aside0.mk ((by rw [hg]; exact (below_size (by repeat (first | (with_reducible first | exact HB.out | apply below_alloc | apply pw_below_drewN | apply below_drew1 | refine below_set ?_ GE497.out) | exact HB.out))) : w.heap.size ≤ gb498)); have n4_ := Aside0.mk ((by rw [hg]; exact (below_size (by repeat (first | (with_reducible first | exact HB.out | apply below_alloc | apply pw_below_drewN | apply below_drew1 | refine below_set ?_ GE497.out) | exact HB.out))) : w.heap.size ≤ gb498)); have n5_ := Aside0.mk ((by rw [hg]; exact Nat.ne_of_lt (blk_lt (g := gb497) (o := .cells #[.int .i64 a0_0, .int .i64 a0_1, .string a0_2, .int .i64 a0_3, .string a0_4, .int .i64 a0_5, .string a0_6] 72 (0, 0)) (by (with_reducible repeat (first | refine blk_drewN ?_ _ | refine blk_drew ?_ | refine blk_alloc ?_ _)); exact BK497.out)) : gb497 ≠ gb498)); have n6_ := Aside0.mk ((by rw [hg]; exact Nat.ne_of_gt (blk_lt (g := gb497) (o := .cells #[.int .i64 a0_0, .int .i64 a0_1, .string a0_2, .int .i64 a0_3, .string a0_4, .int .i64 a0_5, .string a0_6] 72 (0, 0)) (by (with_reducible repeat (first | refine blk_drewN ?_ _ | refine blk_drew ?_ | refine blk_alloc ?_ _)); exact BK497.out)) : gb498 ≠ gb497)); clear BK497; clear HB; have BK497 := n0_; have HB := n1_; have BK498 := n2_; have GW498 := n3_; have GE498 := n4_; have NB497_498 := n5_; have NB498_497 := n6_; clear n0_ n1_ n2_ n3_ n4_ n5_ n6_; clear hb hbox hg; have hnb12 := NB497_498.out; have hnc12 := NB498_497.out; have hcz13_0 : w11.cell? ⟨gb497, 0, none⟩ = some (.int .i64 a0_0) := (blk_cell BK497.out 0).trans rfl; have hcz13_1 : w11.cell? ⟨gb497, 1, none⟩ = some (.int .i64 a0_1) := (blk_cell BK497.out 1).trans rfl; have hcz13_2 : w11.cell? ⟨gb497, 2, none⟩ = some (.string a0_2) := (blk_cell BK497.out 2).trans rfl; have hcz13_3 : w11.cell? ⟨gb497, 3, none⟩ = some (.int .i64 a0_3) := (blk_cell BK497.out 3).trans rfl; have hcz13_4 : w11.cell? ⟨gb497, 4, none⟩ = some (.string a0_4) := (blk_cell BK497.out 4).trans rfl; have hcz13_5 : w11.cell? ⟨gb497, 5, none⟩ = some (.int .i64 a0_5) := (blk_cell BK497.out 5).trans rfl; have hcz13_6 : w11.cell? ⟨gb497, 6, none⟩ = some (.string a0_6) := (blk_cell BK497.out 6).trans rfl; have hfz13_0 := blk_frozen BK497.out 0; have hfz13_1 := blk_frozen BK497.out 1; have hfz13_2 := blk_frozen BK497.out 2; have hfz13_3 := blk_frozen BK497.out 3; have hfz13_4 := blk_frozen BK497.out 4; have hfz13_5 := blk_frozen BK497.out 5; have hfz13_6 := blk_frozen BK497.out 6; have hcz14_0 : w11.cell? ⟨gb498, 0, none⟩ = some (.int .i64 a1_0) := (blk_cell BK498.out 0).trans rfl; have hcz14_1 : w11.cell? ⟨gb498, 1, none⟩ = some (.int .i64 a1_1) := (blk_cell BK498.out 1).trans rfl; have hcz14_2 : w11.cell? ⟨gb498, 2, none⟩ = some (.string a1_2) := (blk_cell BK498.out 2).trans rfl; have hcz14_3 : w11.cell? ⟨gb498, 3, none⟩ = some (.int .i64 a1_3) := (blk_cell BK498.out 3).trans rfl; have hcz14_4 : w11.cell? ⟨gb498, 4, none⟩ = some (.string a1_4) := (blk_cell BK498.out 4).trans rfl; have hcz14_5 : w11.cell? ⟨gb498, 5, none⟩ = some (.int .i64 a1_5) := (blk_cell BK498.out 5).trans rfl; have hcz14_6 : w11.cell? ⟨gb498, 6, none⟩ = some (.string a1_6) := (blk_cell BK498.out 6).trans rfl; have hfz14_0 := blk_frozen BK498.out 0; have hfz14_1 := blk_frozen BK498.out 1; have hfz14_2 := blk_frozen BK498.out 2; have hfz14_3 := blk_frozen BK498.out 3; have hfz14_4 := blk_frozen BK498.out 4; have hfz14_5 := blk_frozen BK498.out 5; have hfz14_6 := blk_frozen BK498.out 6))
                go_ret
                exact ⟨by first | rfl | (simp [errW_none, errW_some] <;> rfl) | (simp [*, errW_none, errW_some] <;> rfl), by repeat (first | (with_reducible first | exact HB.out | apply below_alloc | apply pw_below_drewN | apply below_drew1 | refine below_set ?_ GE497.out | refine below_set ?_ GE498.out) | exact HB.out)⟩
              · rw [if_neg c9] at H
                have c9b0 : (a0_6.toList == a1_6.toList) = false := beq_eq_false_iff_ne.mpr c9
                have c9b1 : (a0_6.toList != a1_6.toList) = true := bne_iff_ne.mpr c9
                obtain rfl := Option.some.inj H
                go_enter Try.func90, Try.ntmps90
                go_wp2_with (first | ((with_reducible refine gate_dst (N := 2) rfl ?_); refine box_event ?hg (N := 2) ?hd (cs := #[.int .i64 a0_0, .int .i64 a0_1, .string a0_2, .int .i64 a0_3, .string a0_4, .int .i64 a0_5, .string a0_6]) (t := 72) ?hr ?_; (case hd => rfl); (case hg => rfl); (case hr => first | (go_simp; done) | (go_simp; rfl)); intro gb497 hg w15 hbox hb; have n0_ := Aside0.mk (below_step (by repeat (first | (with_reducible first | exact HB.out | apply below_alloc | apply pw_below_drewN | apply below_drew1) | exact HB.out)) hb); have n1_ := Aside0.mk (hbox); have n2_ := Aside0.mk ((by rw [hg]; exact (below_size (by repeat (first | (with_reducible first | exact HB.out | apply below_alloc | apply pw_below_drewN | apply below_drew1) | exact HB.out))) : w.heap.size ≤ gb497)); have n3_ := Aside0.mk ((by rw [hg]; exact (below_size (by repeat (first | (with_reducible first | exact HB.out | apply below_alloc | apply pw_below_drewN | apply below_drew1) | exact HB.out))) : w.heap.size ≤ gb497)); clear HB; have HB := n0_; have BK497 := n1_; have GW497 := n2_; have GE497 := n3_; clear n0_ n1_ n2_ n3_; clear hb hbox hg) | ((with_reducible refine gate_dst (N := 3) rfl ?_); refine box_event ?hg (N := 3) ?hd (cs := #[.int .i64 a1_0, .int .i64 a1_1, .string a1_2, .int .i64 a1_3, .string a1_4, .int .i64 a1_5, .string a1_6]) (t := 72) ?hr ?_; (case hd => rfl); (case hg => rfl); (case hr => first | (go_simp; done) | (go_simp; rfl)); intro gb498 hg w16 hbox hb; have n0_ := Aside0.mk (blk_below (g := gb497) (o := .cells #[.int .i64 a0_0, .int .i64 a0_1, .string a0_2, .int .i64 a0_3, .string a0_4, .int .i64 a0_5, .string a0_6] 72 (0, 0)) (by (with_reducible repeat (first | refine blk_drewN ?_ _ | refine blk_drew ?_ | refine blk_alloc ?_ _)); exact BK497.out) hb); have n1_ := Aside0.mk (below_step (by repeat (first | (with_reducible first | exact HB.out | apply below_alloc | apply pw_below_drewN | apply below_drew1 | refine below_set ?_ GE497.out) | exact HB.out)) hb); have n2_ := Aside0.mk (hbox); have n3_ := Aside0.mk ((by rw [hg]; exact (below_size (by repeat (first | (with_reducible first | exact HB.out | apply below_alloc | apply pw_below_drewN | apply below_drew1 | refine below_set ?_ GE497.out) | exact HB.out))) : w.heap.size ≤ gb498)); have n4_ := Aside0.mk ((by rw [hg]; exact (below_size (by repeat (first | (with_reducible first | exact HB.out | apply below_alloc | apply pw_below_drewN | apply below_drew1 | refine below_set ?_ GE497.out) | exact HB.out))) : w.heap.size ≤ gb498)); have n5_ := Aside0.mk ((by rw [hg]; exact Nat.ne_of_lt (blk_lt (g := gb497) (o := .cells #[.int .i64 a0_0, .int .i64 a0_1, .string a0_2, .int .i64 a0_3, .string a0_4, .int .i64 a0_5, .string a0_6] 72 (0, 0)) (by (with_reducible repeat (first | refine blk_drewN ?_ _ | refine blk_drew ?_ | refine blk_alloc ?_ _)); exact BK497.out)) : gb497 ≠ gb498)); have n6_ := Aside0.mk ((by rw [hg]; exact Nat.ne_of_gt (blk_lt (g := gb497) (o := .cells #[.int .i64 a0_0, .int .i64 a0_1, .string a0_2, .int .i64 a0_3, .string a0_4, .int .i64 a0_5, .string a0_6] 72 (0, 0)) (by (with_reducible repeat (first | refine blk_drewN ?_ _ | refine blk_drew ?_ | refine blk_alloc ?_ _)); exact BK497.out)) : gb498 ≠ gb497)); clear BK497; clear HB; have BK497 := n0_; have HB := n1_; have BK498 := n2_; have GW498 := n3_; have GE498 := n4_; have NB497_498 := n5_; have NB498_497 := n6_; clear n0_ n1_ n2_ n3_ n4_ n5_ n6_; clear hb hbox hg; have hnb17 := NB497_498.out; have hnc17 := NB498_497.out; have hcz18_0 : w16.cell? ⟨gb497, 0, none⟩ = some (.int .i64 a0_0) := (blk_cell BK497.out 0).trans rfl; have hcz18_1 : w16.cell? ⟨gb497, 1, none⟩ = some (.int .i64 a0_1) := (blk_cell BK497.out 1).trans rfl; have hcz18_2 : w16.cell? ⟨gb497, 2, none⟩ = some (.string a0_2) := (blk_cell BK497.out 2).trans rfl; have hcz18_3 : w16.cell? ⟨gb497, 3, none⟩ = some (.int .i64 a0_3) := (blk_cell BK497.out 3).trans rfl; have hcz18_4 : w16.cell? ⟨gb497, 4, none⟩ = some (.string a0_4) := (blk_cell BK497.out 4).trans rfl; have hcz18_5 : w16.cell? ⟨gb497, 5, none⟩ = some (.int .i64 a0_5) := (blk_cell BK497.out 5).trans rfl; have hcz18_6 : w16.cell? ⟨gb497, 6, none⟩ = some (.string a0_6) := (blk_cell BK497.out 6).trans rfl; have hfz18_0 := blk_frozen BK497.out 0; have hfz18_1 := blk_frozen BK497.out 1; have hfz18_2 := blk_frozen BK497.out 2; have hfz18_3 := blk_frozen BK497.out 3; have hfz18_4 := blk_frozen BK497.out 4; have hfz18_5 := blk_frozen BK497.out 5; have hfz18_6 := blk_frozen BK497.out 6; have hcz19_0 : w16.cell? ⟨gb498, 0, none⟩ = some (.int .i64 a1_0) := (blk_cell BK498.out 0).trans rfl; have hcz19_1 : w16.cell? ⟨gb498, 1, none⟩ = some (.int .i64 a1_1) := (blk_cell BK498.out 1).trans rfl; have hcz19_2 : w16.cell? ⟨gb498, 2, none⟩ = some (.string a1_2) := (blk_cell BK498.out 2).trans rfl; have hcz19_3 : w16.cell? ⟨gb498, 3, none⟩ = some (.int .i64 a1_3) := (blk_cell BK498.out 3).trans rfl; have hcz19_4 : w16.cell? ⟨gb498, 4, none⟩ = some (.string a1_4) := (blk_cell BK498.out 4).trans rfl; have hcz19_5 : w16.cell? ⟨gb498, 5, none⟩ = some (.int .i64 a1_5) := (blk_cell BK498.out 5).trans rfl; have hcz19_6 : w16.cell? ⟨gb498, 6, none⟩ = some (.string a1_6) := (blk_cell BK498.out 6).trans rfl; have hfz19_0 := blk_frozen BK498.out 0; have hfz19_1 := blk_frozen BK498.out 1; have hfz19_2 := blk_frozen BK498.out 2; have hfz19_3 := blk_frozen BK498.out 3; have hfz19_4 := blk_frozen BK498.out 4; have hfz19_5 := blk_frozen BK498.out 5; have hfz19_6 := blk_frozen BK498.out 6))
                go_ret
                exact ⟨by first | rfl | (simp [errW_none, errW_some] <;> rfl) | (simp [*, errW_none, errW_some] <;> rfl), by repeat (first | (with_reducible first | exact HB.out | apply below_alloc | apply pw_below_drewN | apply below_drew1 | refine below_set ?_ GE497.out | refine below_set ?_ GE498.out) | exact HB.out)⟩
            · rw [if_neg c8] at H
              have c8b0 : (a0_5 == a1_5) = false := beq_eq_false_iff_ne.mpr c8
              have c8b1 : (a0_5 != a1_5) = true := bne_iff_ne.mpr c8
              obtain rfl := Option.some.inj H
              go_enter Try.func90, Try.ntmps90
              go_wp2_with (first | ((with_reducible refine gate_dst (N := 2) rfl ?_); refine box_event ?hg (N := 2) ?hd (cs := #[.int .i64 a0_0, .int .i64 a0_1, .string a0_2, .int .i64 a0_3, .string a0_4, .int .i64 a0_5, .string a0_6]) (t := 72) ?hr ?_; (case hd => rfl); (case hg => rfl); (case hr => first | (go_simp; done) | (go_simp; rfl)); intro gb497 hg w20 hbox hb; have n0_ := Aside0.mk (below_step (by repeat (first | (with_reducible first | exact HB.out | apply below_alloc | apply pw_below_drewN | apply below_drew1) | exact HB.out)) hb); have n1_ := Aside0.mk (hbox); have n2_ := Aside0.mk ((by rw [hg]; exact (below_size (by repeat (first | (with_reducible first | exact HB.out | apply below_alloc | apply pw_below_drewN | apply below_drew1) | exact HB.out))) : w.heap.size ≤ gb497)); have n3_ := Aside0.mk ((by rw [hg]; exact (below_size (by repeat (first | (with_reducible first | exact HB.out | apply below_alloc | apply pw_below_drewN | apply below_drew1) | exact HB.out))) : w.heap.size ≤ gb497)); clear HB; have HB := n0_; have BK497 := n1_; have GW497 := n2_; have GE497 := n3_; clear n0_ n1_ n2_ n3_; clear hb hbox hg) | ((with_reducible refine gate_dst (N := 3) rfl ?_); refine box_event ?hg (N := 3) ?hd (cs := #[.int .i64 a1_0, .int .i64 a1_1, .string a1_2, .int .i64 a1_3, .string a1_4, .int .i64 a1_5, .string a1_6]) (t := 72) ?hr ?_; (case hd => rfl); (case hg => rfl); (case hr => first | (go_simp; done) | (go_simp; rfl)); intro gb498 hg w21 hbox hb; have n0_ := Aside0.mk (blk_below (g := gb497) (o := .cells #[.int .i64 a0_0, .int .i64 a0_1, .string a0_2, .int .i64 a0_3, .string a0_4, .int .i64 a0_5, .string a0_6] 72 (0, 0)) (by (with_reducible repeat (first | refine blk_drewN ?_ _ | refine blk_drew ?_ | refine blk_alloc ?_ _)); exact BK497.out) hb); have n1_ := Aside0.mk (below_step (by repeat (first | (with_reducible first | exact HB.out | apply below_alloc | apply pw_below_drewN | apply below_drew1 | refine below_set ?_ GE497.out) | exact HB.out)) hb); have n2_ := Aside0.mk (hbox); have n3_ := Aside0.mk ((by rw [hg]; exact (below_size (by repeat (first | (with_reducible first | exact HB.out | apply below_alloc | apply pw_below_drewN | apply below_drew1 | refine below_set ?_ GE497.out) | exact HB.out))) : w.heap.size ≤ gb498)); have n4_ := Aside0.mk ((by rw [hg]; exact (below_size (by repeat (first | (with_reducible first | exact HB.out | apply below_alloc | apply pw_below_drewN | apply below_drew1 | refine below_set ?_ GE497.out) | exact HB.out))) : w.heap.size ≤ gb498)); have n5_ := Aside0.mk ((by rw [hg]; exact Nat.ne_of_lt (blk_lt (g := gb497) (o := .cells #[.int .i64 a0_0, .int .i64 a0_1, .string a0_2, .int .i64 a0_3, .string a0_4, .int .i64 a0_5, .string a0_6] 72 (0, 0)) (by (with_reducible repeat (first | refine blk_drewN ?_ _ | refine blk_drew ?_ | refine blk_alloc ?_ _)); exact BK497.out)) : gb497 ≠ gb498)); have n6_ := Aside0.mk ((by rw [hg]; exact Nat.ne_of_gt (blk_lt (g := gb497) (o := .cells #[.int .i64 a0_0, .int .i64 a0_1, .string a0_2, .int .i64 a0_3, .string a0_4, .int .i64 a0_5, .string a0_6] 72 (0, 0)) (by (with_reducible repeat (first | refine blk_drewN ?_ _ | refine blk_drew ?_ | refine blk_alloc ?_ _)); exact BK497.out)) : gb498 ≠ gb497)); clear BK497; clear HB; have BK497 := n0_; have HB := n1_; have BK498 := n2_; have GW498 := n3_; have GE498 := n4_; have NB497_498 := n5_; have NB498_497 := n6_; clear n0_ n1_ n2_ n3_ n4_ n5_ n6_; clear hb hbox hg; have hnb22 := NB497_498.out; have hnc22 := NB498_497.out; have hcz23_0 : w21.cell? ⟨gb497, 0, none⟩ = some (.int .i64 a0_0) := (blk_cell BK497.out 0).trans rfl; have hcz23_1 : w21.cell? ⟨gb497, 1, none⟩ = some (.int .i64 a0_1) := (blk_cell BK497.out 1).trans rfl; have hcz23_2 : w21.cell? ⟨gb497, 2, none⟩ = some (.string a0_2) := (blk_cell BK497.out 2).trans rfl; have hcz23_3 : w21.cell? ⟨gb497, 3, none⟩ = some (.int .i64 a0_3) := (blk_cell BK497.out 3).trans rfl; have hcz23_4 : w21.cell? ⟨gb497, 4, none⟩ = some (.string a0_4) := (blk_cell BK497.out 4).trans rfl; have hcz23_5 : w21.cell? ⟨gb497, 5, none⟩ = some (.int .i64 a0_5) := (blk_cell BK497.out 5).trans rfl; have hcz23_6 : w21.cell? ⟨gb497, 6, none⟩ = some (.string a0_6) := (blk_cell BK497.out 6).trans rfl; have hfz23_0 := blk_frozen BK497.out 0; have hfz23_1 := blk_frozen BK497.out 1; have hfz23_2 := blk_frozen BK497.out 2; have hfz23_3 := blk_frozen BK497.out 3; have hfz23_4 := blk_frozen BK497.out 4; have hfz23_5 := blk_frozen BK497.out 5; have hfz23_6 := blk_frozen BK497.out 6; have hcz24_0 : w21.cell? ⟨gb498, 0, none⟩ = some (.int .i64 a1_0) := (blk_cell BK498.out 0).trans rfl; have hcz24_1 : w21.cell? ⟨gb498, 1, none⟩ = some (.int .i64 a1_1) := (blk_cell BK498.out 1).trans rfl; have hcz24_2 : w21.cell? ⟨gb498, 2, none⟩ = some (.string a1_2) := (blk_cell BK498.out 2).trans rfl; have hcz24_3 : w21.cell? ⟨gb498, 3, none⟩ = some (.int .i64 a1_3) := (blk_cell BK498.out 3).trans rfl; have hcz24_4 : w21.cell? ⟨gb498, 4, none⟩ = some (.string a1_4) := (blk_cell BK498.out 4).trans rfl; have hcz24_5 : w21.cell? ⟨gb498, 5, none⟩ = some (.int .i64 a1_5) := (blk_cell BK498.out 5).trans rfl; have hcz24_6 : w21.cell? ⟨gb498, 6, none⟩ = some (.string a1_6) := (blk_cell BK498.out 6).trans rfl; have hfz24_0 := blk_frozen BK498.out 0; have hfz24_1 := blk_frozen BK498.out 1; have hfz24_2 := blk_frozen BK498.out 2; have hfz24_3 := blk_frozen BK498.out 3; have hfz24_4 := blk_frozen BK498.out 4; have hfz24_5 := blk_frozen BK498.out 5; have hfz24_6 := blk_frozen BK498.out 6))
              go_ret
              exact ⟨by first | rfl | (simp [errW_none, errW_some] <;> rfl) | (simp [*, errW_none, errW_some] <;> rfl), by repeat (first | (with_reducible first | exact HB.out | apply below_alloc | apply pw_below_drewN | apply below_drew1 | refine below_set ?_ GE497.out | refine below_set ?_ GE498.out) | exact HB.out)⟩
          · rw [if_neg c7] at H
            have c7b0 : (a0_4.toList == a1_4.toList) = false := beq_eq_false_iff_ne.mpr c7
            have c7b1 : (a0_4.toList != a1_4.toList) = true := bne_iff_ne.mpr c7
            obtain rfl := Option.some.inj H
            go_enter Try.func90, Try.ntmps90
            go_wp2_with (first | ((with_reducible refine gate_dst (N := 2) rfl ?_); refine box_event ?hg (N := 2) ?hd (cs := #[.int .i64 a0_0, .int .i64 a0_1, .string a0_2, .int .i64 a0_3, .string a0_4, .int .i64 a0_5, .string a0_6]) (t := 72) ?hr ?_; (case hd => rfl); (case hg => rfl); (case hr => first | (go_simp; done) | (go_simp; rfl)); intro gb497 hg w25 hbox hb; have n0_ := Aside0.mk (below_step (by repeat (first | (with_reducible first | exact HB.out | apply below_alloc | apply pw_below_drewN | apply below_drew1) | exact HB.out)) hb); have n1_ := Aside0.mk (hbox); have n2_ := Aside0.mk ((by rw [hg]; exact (below_size (by repeat (first | (with_reducible first | exact HB.out | apply below_alloc | apply pw_below_drewN | apply below_drew1) | exact HB.out))) : w.heap.size ≤ gb497)); have n3_ := Aside0.mk ((by rw [hg]; exact (below_size (by repeat (first | (with_reducible first | exact HB.out | apply below_alloc | apply pw_below_drewN | apply below_drew1) | exact HB.out))) : w.heap.size ≤ gb497)); clear HB; have HB := n0_; have BK497 := n1_; have GW497 := n2_; have GE497 := n3_; clear n0_ n1_ n2_ n3_; clear hb hbox hg) | ((with_reducible refine gate_dst (N := 3) rfl ?_); refine box_event ?hg (N := 3) ?hd (cs := #[.int .i64 a1_0, .int .i64 a1_1, .string a1_2, .int .i64 a1_3, .string a1_4, .int .i64 a1_5, .string a1_6]) (t := 72) ?hr ?_; (case hd => rfl); (case hg => rfl); (case hr => first | (go_simp; done) | (go_simp; rfl)); intro gb498 hg w26 hbox hb; have n0_ := Aside0.mk (blk_below (g := gb497) (o := .cells #[.int .i64 a0_0, .int .i64 a0_1, .string a0_2, .int .i64 a0_3, .string a0_4, .int .i64 a0_5, .string a0_6] 72 (0, 0)) (by (with_reducible repeat (first | refine blk_drewN ?_ _ | refine blk_drew ?_ | refine blk_alloc ?_ _)); exact BK497.out) hb); have n1_ := Aside0.mk (below_step (by repeat (first | (with_reducible first | exact HB.out | apply below_alloc | apply pw_below_drewN | apply below_drew1 | refine below_set ?_ GE497.out) | exact HB.out)) hb); have n2_ := Aside0.mk (hbox); have n3_ := Aside0.mk ((by rw [hg]; exact (below_size (by repeat (first | (with_reducible first | exact HB.out | apply below_alloc | apply pw_below_drewN | apply below_drew1 | refine below_set ?_ GE497.out) | exact HB.out))) : w.heap.size ≤ gb498)); have n4_ := Aside0.mk ((by rw [hg]; exact (below_size (by repeat (first | (with_reducible first | exact HB.out | apply below_alloc | apply pw_below_drewN | apply below_drew1 | refine below_set ?_ GE497.out) | exact HB.out))) : w.heap.size ≤ gb498)); have n5_ := Aside0.mk ((by rw [hg]; exact Nat.ne_of_lt (blk_lt (g := gb497) (o := .cells #[.int .i64 a0_0, .int .i64 a0_1, .string a0_2, .int .i64 a0_3, .string a0_4, .int .i64 a0_5, .string a0_6] 72 (0, 0)) (by (with_reducible repeat (first | refine blk_drewN ?_ _ | refine blk_drew ?_ | refine blk_alloc ?_ _)); exact BK497.out)) : gb497 ≠ gb498)); have n6_ := Aside0.mk ((by rw [hg]; exact Nat.ne_of_gt (blk_lt (g := gb497) (o := .cells #[.int .i64 a0_0, .int .i64 a0_1, .string a0_2, .int .i64 a0_3, .string a0_4, .int .i64 a0_5, .string a0_6] 72 (0, 0)) (by (with_reducible repeat (first | refine blk_drewN ?_ _ | refine blk_drew ?_ | refine blk_alloc ?_ _)); exact BK497.out)) : gb498 ≠ gb497)); clear BK497; clear HB; have BK497 := n0_; have HB := n1_; have BK498 := n2_; have GW498 := n3_; have GE498 := n4_; have NB497_498 := n5_; have NB498_497 := n6_; clear n0_ n1_ n2_ n3_ n4_ n5_ n6_; clear hb hbox hg; have hnb27 := NB497_498.out; have hnc27 := NB498_497.out; have hcz28_0 : w26.cell? ⟨gb497, 0, none⟩ = some (.int .i64 a0_0) := (blk_cell BK497.out 0).trans rfl; have hcz28_1 : w26.cell? ⟨gb497, 1, none⟩ = some (.int .i64 a0_1) := (blk_cell BK497.out 1).trans rfl; have hcz28_2 : w26.cell? ⟨gb497, 2, none⟩ = some (.string a0_2) := (blk_cell BK497.out 2).trans rfl; have hcz28_3 : w26.cell? ⟨gb497, 3, none⟩ = some (.int .i64 a0_3) := (blk_cell BK497.out 3).trans rfl; have hcz28_4 : w26.cell? ⟨gb497, 4, none⟩ = some (.string a0_4) := (blk_cell BK497.out 4).trans rfl; have hcz28_5 : w26.cell? ⟨gb497, 5, none⟩ = some (.int .i64 a0_5) := (blk_cell BK497.out 5).trans rfl; have hcz28_6 : w26.cell? ⟨gb497, 6, none⟩ = some (.string a0_6) := (blk_cell BK497.out 6).trans rfl; have hfz28_0 := blk_frozen BK497.out 0; have hfz28_1 := blk_frozen BK497.out 1; have hfz28_2 := blk_frozen BK497.out 2; have hfz28_3 := blk_frozen BK497.out 3; have hfz28_4 := blk_frozen BK497.out 4; have hfz28_5 := blk_frozen BK497.out 5; have hfz28_6 := blk_frozen BK497.out 6; have hcz29_0 : w26.cell? ⟨gb498, 0, none⟩ = some (.int .i64 a1_0) := (blk_cell BK498.out 0).trans rfl; have hcz29_1 : w26.cell? ⟨gb498, 1, none⟩ = some (.int .i64 a1_1) := (blk_cell BK498.out 1).trans rfl; have hcz29_2 : w26.cell? ⟨gb498, 2, none⟩ = some (.string a1_2) := (blk_cell BK498.out 2).trans rfl; have hcz29_3 : w26.cell? ⟨gb498, 3, none⟩ = some (.int .i64 a1_3) := (blk_cell BK498.out 3).trans rfl; have hcz29_4 : w26.cell? ⟨gb498, 4, none⟩ = some (.string a1_4) := (blk_cell BK498.out 4).trans rfl; have hcz29_5 : w26.cell? ⟨gb498, 5, none⟩ = some (.int .i64 a1_5) := (blk_cell BK498.out 5).trans rfl; have hcz29_6 : w26.cell? ⟨gb498, 6, none⟩ = some (.string a1_6) := (blk_cell BK498.out 6).trans rfl; have hfz29_0 := blk_frozen BK498.out 0; have hfz29_1 := blk_frozen BK498.out 1; have hfz29_2 := blk_frozen BK498.out 2; have hfz29_3 := blk_frozen BK498.out 3; have hfz29_4 := blk_frozen BK498.out 4; have hfz29_5 := blk_frozen BK498.out 5; have hfz29_6 := blk_frozen BK498.out 6))
            go_ret
            exact ⟨by first | rfl | (simp [errW_none, errW_some] <;> rfl) | (simp [*, errW_none, errW_some] <;> rfl), by repeat (first | (with_reducible first | exact HB.out | apply below_alloc | apply pw_below_drewN | apply below_drew1 | refine below_set ?_ GE497.out | refine below_set ?_ GE498.out) | exact HB.out)⟩
        · rw [if_neg c6] at H
          have c6b0 : (a0_3 == a1_3) = false := beq_eq_false_iff_ne.mpr c6
          have c6b1 : (a0_3 != a1_3) = true := bne_iff_ne.mpr c6
          obtain rfl := Option.some.inj H
          go_enter Try.func90, Try.ntmps90
          go_wp2_with (first | ((with_reducible refine gate_dst (N := 2) rfl ?_); refine box_event ?hg (N := 2) ?hd (cs := #[.int .i64 a0_0, .int .i64 a0_1, .string a0_2, .int .i64 a0_3, .string a0_4, .int .i64 a0_5, .string a0_6]) (t := 72) ?hr ?_; (case hd => rfl); (case hg => rfl); (case hr => first | (go_simp; done) | (go_simp; rfl)); intro gb497 hg w30 hbox hb; have n0_ := Aside0.mk (below_step (by repeat (first | (with_reducible first | exact HB.out | apply below_alloc | apply pw_below_drewN | apply below_drew1) | exact HB.out)) hb); have n1_ := Aside0.mk (hbox); have n2_ := Aside0.mk ((by rw [hg]; exact (below_size (by repeat (first | (with_reducible first | exact HB.out | apply below_alloc | apply pw_below_drewN | apply below_drew1) | exact HB.out))) : w.heap.size ≤ gb497)); have n3_ := Aside0.mk ((by rw [hg]; exact (below_size (by repeat (first | (with_reducible first | exact HB.out | apply below_alloc | apply pw_below_drewN | apply below_drew1) | exact HB.out))) : w.heap.size ≤ gb497)); clear HB; have HB := n0_; have BK497 := n1_; have GW497 := n2_; have GE497 := n3_; clear n0_ n1_ n2_ n3_; clear hb hbox hg) | ((with_reducible refine gate_dst (N := 3) rfl ?_); refine box_event ?hg (N := 3) ?hd (cs := #[.int .i64 a1_0, .int .i64 a1_1, .string a1_2, .int .i64 a1_3, .string a1_4, .int .i64 a1_5, .string a1_6]) (t := 72) ?hr ?_; (case hd => rfl); (case hg => rfl); (case hr => first | (go_simp; done) | (go_simp; rfl)); intro gb498 hg w31 hbox hb; have n0_ := Aside0.mk (blk_below (g := gb497) (o := .cells #[.int .i64 a0_0, .int .i64 a0_1, .string a0_2, .int .i64 a0_3, .string a0_4, .int .i64 a0_5, .string a0_6] 72 (0, 0)) (by (with_reducible repeat (first | refine blk_drewN ?_ _ | refine blk_drew ?_ | refine blk_alloc ?_ _)); exact BK497.out) hb); have n1_ := Aside0.mk (below_step (by repeat (first | (with_reducible first | exact HB.out | apply below_alloc | apply pw_below_drewN | apply below_drew1 | refine below_set ?_ GE497.out) | exact HB.out)) hb); have n2_ := Aside0.mk (hbox); have n3_ := Aside0.mk ((by rw [hg]; exact (below_size (by repeat (first | (with_reducible first | exact HB.out | apply below_alloc | apply pw_below_drewN | apply below_drew1 | refine below_set ?_ GE497.out) | exact HB.out))) : w.heap.size ≤ gb498)); have n4_ := Aside0.mk ((by rw [hg]; exact (below_size (by repeat (first | (with_reducible first | exact HB.out | apply below_alloc | apply pw_below_drewN | apply below_drew1 | refine below_set ?_ GE497.out) | exact HB.out))) : w.heap.size ≤ gb498)); have n5_ := Aside0.mk ((by rw [hg]; exact Nat.ne_of_lt (blk_lt (g := gb497) (o := .cells #[.int .i64 a0_0, .int .i64 a0_1, .string a0_2, .int .i64 a0_3, .string a0_4, .int .i64 a0_5, .string a0_6] 72 (0, 0)) (by (with_reducible repeat (first | refine blk_drewN ?_ _ | refine blk_drew ?_ | refine blk_alloc ?_ _)); exact BK497.out)) : gb497 ≠ gb498)); have n6_ := Aside0.mk ((by rw [hg]; exact Nat.ne_of_gt (blk_lt (g := gb497) (o := .cells #[.int .i64 a0_0, .int .i64 a0_1, .string a0_2, .int .i64 a0_3, .string a0_4, .int .i64 a0_5, .string a0_6] 72 (0, 0)) (by (with_reducible repeat (first | refine blk_drewN ?_ _ | refine blk_drew ?_ | refine blk_alloc ?_ _)); exact BK497.out)) : gb498 ≠ gb497)); clear BK497; clear HB; have BK497 := n0_; have HB := n1_; have BK498 := n2_; have GW498 := n3_; have GE498 := n4_; have NB497_498 := n5_; have NB498_497 := n6_; clear n0_ n1_ n2_ n3_ n4_ n5_ n6_; clear hb hbox hg; have hnb32 := NB497_498.out; have hnc32 := NB498_497.out; have hcz33_0 : w31.cell? ⟨gb497, 0, none⟩ = some (.int .i64 a0_0) := (blk_cell BK497.out 0).trans rfl; have hcz33_1 : w31.cell? ⟨gb497, 1, none⟩ = some (.int .i64 a0_1) := (blk_cell BK497.out 1).trans rfl; have hcz33_2 : w31.cell? ⟨gb497, 2, none⟩ = some (.string a0_2) := (blk_cell BK497.out 2).trans rfl; have hcz33_3 : w31.cell? ⟨gb497, 3, none⟩ = some (.int .i64 a0_3) := (blk_cell BK497.out 3).trans rfl; have hcz33_4 : w31.cell? ⟨gb497, 4, none⟩ = some (.string a0_4) := (blk_cell BK497.out 4).trans rfl; have hcz33_5 : w31.cell? ⟨gb497, 5, none⟩ = some (.int .i64 a0_5) := (blk_cell BK497.out 5).trans rfl; have hcz33_6 : w31.cell? ⟨gb497, 6, none⟩ = some (.string a0_6) := (blk_cell BK497.out 6).trans rfl; have hfz33_0 := blk_frozen BK497.out 0; have hfz33_1 := blk_frozen BK497.out 1; have hfz33_2 := blk_frozen BK497.out 2; have hfz33_3 := blk_frozen BK497.out 3; have hfz33_4 := blk_frozen BK497.out 4; have hfz33_5 := blk_frozen BK497.out 5; have hfz33_6 := blk_frozen BK497.out 6; have hcz34_0 : w31.cell? ⟨gb498, 0, none⟩ = some (.int .i64 a1_0) := (blk_cell BK498.out 0).trans rfl; have hcz34_1 : w31.cell? ⟨gb498, 1, none⟩ = some (.int .i64 a1_1) := (blk_cell BK498.out 1).trans rfl; have hcz34_2 : w31.cell? ⟨gb498, 2, none⟩ = some (.string a1_2) := (blk_cell BK498.out 2).trans rfl; have hcz34_3 : w31.cell? ⟨gb498, 3, none⟩ = some (.int .i64 a1_3) := (blk_cell BK498.out 3).trans rfl; have hcz34_4 : w31.cell? ⟨gb498, 4, none⟩ = some (.string a1_4) := (blk_cell BK498.out 4).trans rfl; have hcz34_5 : w31.cell? ⟨gb498, 5, none⟩ = some (.int .i64 a1_5) := (blk_cell BK498.out 5).trans rfl; have hcz34_6 : w31.cell? ⟨gb498, 6, none⟩ = some (.string a1_6) := (blk_cell BK498.out 6).trans rfl; have hfz34_0 := blk_frozen BK498.out 0; have hfz34_1 := blk_frozen BK498.out 1; have hfz34_2 := blk_frozen BK498.out 2; have hfz34_3 := blk_frozen BK498.out 3; have hfz34_4 := blk_frozen BK498.out 4; have hfz34_5 := blk_frozen BK498.out 5; have hfz34_6 := blk_frozen BK498.out 6))
          go_ret
          exact ⟨by first | rfl | (simp [errW_none, errW_some] <;> rfl) | (simp [*, errW_none, errW_some] <;> rfl), by repeat (first | (with_reducible first | exact HB.out | apply below_alloc | apply pw_below_drewN | apply below_drew1 | refine below_set ?_ GE497.out | refine below_set ?_ GE498.out) | exact HB.out)⟩
      · rw [if_neg c5] at H
        have c5b0 : (a0_2.toList == a1_2.toList) = false := beq_eq_false_iff_ne.mpr c5
        have c5b1 : (a0_2.toList != a1_2.toList) = true := bne_iff_ne.mpr c5
        obtain rfl := Option.some.inj H
        go_enter Try.func90, Try.ntmps90
        go_wp2_with (first | ((with_reducible refine gate_dst (N := 2) rfl ?_); refine box_event ?hg (N := 2) ?hd (cs := #[.int .i64 a0_0, .int .i64 a0_1, .string a0_2, .int .i64 a0_3, .string a0_4, .int .i64 a0_5, .string a0_6]) (t := 72) ?hr ?_; (case hd => rfl); (case hg => rfl); (case hr => first | (go_simp; done) | (go_simp; rfl)); intro gb497 hg w35 hbox hb; have n0_ := Aside0.mk (below_step (by repeat (first | (with_reducible first | exact HB.out | apply below_alloc | apply pw_below_drewN | apply below_drew1) | exact HB.out)) hb); have n1_ := Aside0.mk (hbox); have n2_ := Aside0.mk ((by rw [hg]; exact (below_size (by repeat (first | (with_reducible first | exact HB.out | apply below_alloc | apply pw_below_drewN | apply below_drew1) | exact HB.out))) : w.heap.size ≤ gb497)); have n3_ := Aside0.mk ((by rw [hg]; exact (below_size (by repeat (first | (with_reducible first | exact HB.out | apply below_alloc | apply pw_below_drewN | apply below_drew1) | exact HB.out))) : w.heap.size ≤ gb497)); clear HB; have HB := n0_; have BK497 := n1_; have GW497 := n2_; have GE497 := n3_; clear n0_ n1_ n2_ n3_; clear hb hbox hg) | ((with_reducible refine gate_dst (N := 3) rfl ?_); refine box_event ?hg (N := 3) ?hd (cs := #[.int .i64 a1_0, .int .i64 a1_1, .string a1_2, .int .i64 a1_3, .string a1_4, .int .i64 a1_5, .string a1_6]) (t := 72) ?hr ?_; (case hd => rfl); (case hg => rfl); (case hr => first | (go_simp; done) | (go_simp; rfl)); intro gb498 hg w36 hbox hb; have n0_ := Aside0.mk (blk_below (g := gb497) (o := .cells #[.int .i64 a0_0, .int .i64 a0_1, .string a0_2, .int .i64 a0_3, .string a0_4, .int .i64 a0_5, .string a0_6] 72 (0, 0)) (by (with_reducible repeat (first | refine blk_drewN ?_ _ | refine blk_drew ?_ | refine blk_alloc ?_ _)); exact BK497.out) hb); have n1_ := Aside0.mk (below_step (by repeat (first | (with_reducible first | exact HB.out | apply below_alloc | apply pw_below_drewN | apply below_drew1 | refine below_set ?_ GE497.out) | exact HB.out)) hb); have n2_ := Aside0.mk (hbox); have n3_ := Aside0.mk ((by rw [hg]; exact (below_size (by repeat (first | (with_reducible first | exact HB.out | apply below_alloc | apply pw_below_drewN | apply below_drew1 | refine below_set ?_ GE497.out) | exact HB.out))) : w.heap.size ≤ gb498)); have n4_ := Aside0.mk ((by rw [hg]; exact (below_size (by repeat (first | (with_reducible first | exact HB.out | apply below_alloc | apply pw_below_drewN | apply below_drew1 | refine below_set ?_ GE497.out) | exact HB.out))) : w.heap.size ≤ gb498)); have n5_ := Aside0.mk ((by rw [hg]; exact Nat.ne_of_lt (blk_lt (g := gb497) (o := .cells #[.int .i64 a0_0, .int .i64 a0_1, .string a0_2, .int .i64 a0_3, .string a0_4, .int .i64 a0_5, .string a0_6] 72 (0, 0)) (by (with_reducible repeat (first | refine blk_drewN ?_ _ | refine blk_drew ?_ | refine blk_alloc ?_ _)); exact BK497.out)) : gb497 ≠ gb498)); have n6_ := Aside0.mk ((by rw [hg]; exact Nat.ne_of_gt (blk_lt (g := gb497) (o := .cells #[.int .i64 a0_0, .int .i64 a0_1, .string a0_2, .int .i64 a0_3, .string a0_4, .int .i64 a0_5, .string a0_6] 72 (0, 0)) (by (with_reducible repeat (first | refine blk_drewN ?_ _ | refine blk_drew ?_ | refine blk_alloc ?_ _)); exact BK497.out)) : gb498 ≠ gb497)); clear BK497; clear HB; have BK497 := n0_; have HB := n1_; have BK498 := n2_; have GW498 := n3_; have GE498 := n4_; have NB497_498 := n5_; have NB498_497 := n6_; clear n0_ n1_ n2_ n3_ n4_ n5_ n6_; clear hb hbox hg; have hnb37 := NB497_498.out; have hnc37 := NB498_497.out; have hcz38_0 : w36.cell? ⟨gb497, 0, none⟩ = some (.int .i64 a0_0) := (blk_cell BK497.out 0).trans rfl; have hcz38_1 : w36.cell? ⟨gb497, 1, none⟩ = some (.int .i64 a0_1) := (blk_cell BK497.out 1).trans rfl; have hcz38_2 : w36.cell? ⟨gb497, 2, none⟩ = some (.string a0_2) := (blk_cell BK497.out 2).trans rfl; have hcz38_3 : w36.cell? ⟨gb497, 3, none⟩ = some (.int .i64 a0_3) := (blk_cell BK497.out 3).trans rfl; have hcz38_4 : w36.cell? ⟨gb497, 4, none⟩ = some (.string a0_4) := (blk_cell BK497.out 4).trans rfl; have hcz38_5 : w36.cell? ⟨gb497, 5, none⟩ = some (.int .i64 a0_5) := (blk_cell BK497.out 5).trans rfl; have hcz38_6 : w36.cell? ⟨gb497, 6, none⟩ = some (.string a0_6) := (blk_cell BK497.out 6).trans rfl; have hfz38_0 := blk_frozen BK497.out 0; have hfz38_1 := blk_frozen BK497.out 1; have hfz38_2 := blk_frozen BK497.out 2; have hfz38_3 := blk_frozen BK497.out 3; have hfz38_4 := blk_frozen BK497.out 4; have hfz38_5 := blk_frozen BK497.out 5; have hfz38_6 := blk_frozen BK497.out 6; have hcz39_0 : w36.cell? ⟨gb498, 0, none⟩ = some (.int .i64 a1_0) := (blk_cell BK498.out 0).trans rfl; have hcz39_1 : w36.cell? ⟨gb498, 1, none⟩ = some (.int .i64 a1_1) := (blk_cell BK498.out 1).trans rfl; have hcz39_2 : w36.cell? ⟨gb498, 2, none⟩ = some (.string a1_2) := (blk_cell BK498.out 2).trans rfl; have hcz39_3 : w36.cell? ⟨gb498, 3, none⟩ = some (.int .i64 a1_3) := (blk_cell BK498.out 3).trans rfl; have hcz39_4 : w36.cell? ⟨gb498, 4, none⟩ = some (.string a1_4) := (blk_cell BK498.out 4).trans rfl; have hcz39_5 : w36.cell? ⟨gb498, 5, none⟩ = some (.int .i64 a1_5) := (blk_cell BK498.out 5).trans rfl; have hcz39_6 : w36.cell? ⟨gb498, 6, none⟩ = some (.string a1_6) := (blk_cell BK498.out 6).trans rfl; have hfz39_0 := blk_frozen BK498.out 0; have hfz39_1 := blk_frozen BK498.out 1; have hfz39_2 := blk_frozen BK498.out 2; have hfz39_3 := blk_frozen BK498.out 3; have hfz39_4 := blk_frozen BK498.out 4; have hfz39_5 := blk_frozen BK498.out 5; have hfz39_6 := blk_frozen BK498.out 6))
        go_ret
        exact ⟨by first | rfl | (simp [errW_none, errW_some] <;> rfl) | (simp [*, errW_none, errW_some] <;> rfl), by repeat (first | (with_reducible first | exact HB.out | apply below_alloc | apply pw_below_drewN | apply below_drew1 | refine below_set ?_ GE497.out | refine below_set ?_ GE498.out) | exact HB.out)⟩
    · rw [if_neg c4] at H
      have c4b0 : (a0_1 == a1_1) = false := beq_eq_false_iff_ne.mpr c4
      have c4b1 : (a0_1 != a1_1) = true := bne_iff_ne.mpr c4
      obtain rfl := Option.some.inj H
      go_enter Try.func90, Try.ntmps90
      go_wp2_with (first | ((with_reducible refine gate_dst (N := 2) rfl ?_); refine box_event ?hg (N := 2) ?hd (cs := #[.int .i64 a0_0, .int .i64 a0_1, .string a0_2, .int .i64 a0_3, .string a0_4, .int .i64 a0_5, .string a0_6]) (t := 72) ?hr ?_; (case hd => rfl); (case hg => rfl); (case hr => first | (go_simp; done) | (go_simp; rfl)); intro gb497 hg w40 hbox hb; have n0_ := Aside0.mk (below_step (by repeat (first | (with_reducible first | exact HB.out | apply below_alloc | apply pw_below_drewN | apply below_drew1) | exact HB.out)) hb); have n1_ := Aside0.mk (hbox); have n2_ := Aside0.mk ((by rw [hg]; exact (below_size (by repeat (first | (with_reducible first | exact HB.out | apply below_alloc | apply pw_below_drewN | apply below_drew1) | exact HB.out))) : w.heap.size ≤ gb497)); have n3_ := Aside0.mk ((by rw [hg]; exact (below_size (by repeat (first | (with_reducible first | exact HB.out | apply below_alloc | apply pw_below_drewN | apply below_drew1) | exact HB.out))) : w.heap.size ≤ gb497)); clear HB; have HB := n0_; have BK497 := n1_; have GW497 := n2_; have GE497 := n3_; clear n0_ n1_ n2_ n3_; clear hb hbox hg) | ((with_reducible refine gate_dst (N := 3) rfl ?_); refine box_event ?hg (N := 3) ?hd (cs := #[.int .i64 a1_0, .int .i64 a1_1, .string a1_2, .int .i64 a1_3, .string a1_4, .int .i64 a1_5, .string a1_6]) (t := 72) ?hr ?_; (case hd => rfl); (case hg => rfl); (case hr => first | (go_simp; done) | (go_simp; rfl)); intro gb498 hg w41 hbox hb; have n0_ := Aside0.mk (blk_below (g := gb497) (o := .cells #[.int .i64 a0_0, .int .i64 a0_1, .string a0_2, .int .i64 a0_3, .string a0_4, .int .i64 a0_5, .string a0_6] 72 (0, 0)) (by (with_reducible repeat (first | refine blk_drewN ?_ _ | refine blk_drew ?_ | refine blk_alloc ?_ _)); exact BK497.out) hb); have n1_ := Aside0.mk (below_step (by repeat (first | (with_reducible first | exact HB.out | apply below_alloc | apply pw_below_drewN | apply below_drew1 | refine below_set ?_ GE497.out) | exact HB.out)) hb); have n2_ := Aside0.mk (hbox); have n3_ := Aside0.mk ((by rw [hg]; exact (below_size (by repeat (first | (with_reducible first | exact HB.out | apply below_alloc | apply pw_below_drewN | apply below_drew1 | refine below_set ?_ GE497.out) | exact HB.out))) : w.heap.size ≤ gb498)); have n4_ := Aside0.mk ((by rw [hg]; exact (below_size (by repeat (first | (with_reducible first | exact HB.out | apply below_alloc | apply pw_below_drewN | apply below_drew1 | refine below_set ?_ GE497.out) | exact HB.out))) : w.heap.size ≤ gb498)); have n5_ := Aside0.mk ((by rw [hg]; exact Nat.ne_of_lt (blk_lt (g := gb497) (o := .cells #[.int .i64 a0_0, .int .i64 a0_1, .string a0_2, .int .i64 a0_3, .string a0_4, .int .i64 a0_5, .string a0_6] 72 (0, 0)) (by (with_reducible repeat (first | refine blk_drewN ?_ _ | refine blk_drew ?_ | refine blk_alloc ?_ _)); exact BK497.out)) : gb497 ≠ gb498)); have n6_ := Aside0.mk ((by rw [hg]; exact Nat.ne_of_gt (blk_lt (g := gb497) (o := .cells #[.int .i64 a0_0, .int .i64 a0_1, .string a0_2, .int .i64 a0_3, .string a0_4, .int .i64 a0_5, .string a0_6] 72 (0, 0)) (by (with_reducible repeat (first | refine blk_drewN ?_ _ | refine blk_drew ?_ | refine blk_alloc ?_ _)); exact BK497.out)) : gb498 ≠ gb497)); clear BK497; clear HB; have BK497 := n0_; have HB := n1_; have BK498 := n2_; have GW498 := n3_; have GE498 := n4_; have NB497_498 := n5_; have NB498_497 := n6_; clear n0_ n1_ n2_ n3_ n4_ n5_ n6_; clear hb hbox hg; have hnb42 := NB497_498.out; have hnc42 := NB498_497.out; have hcz43_0 : w41.cell? ⟨gb497, 0, none⟩ = some (.int .i64 a0_0) := (blk_cell BK497.out 0).trans rfl; have hcz43_1 : w41.cell? ⟨gb497, 1, none⟩ = some (.int .i64 a0_1) := (blk_cell BK497.out 1).trans rfl; have hcz43_2 : w41.cell? ⟨gb497, 2, none⟩ = some (.string a0_2) := (blk_cell BK497.out 2).trans rfl; have hcz43_3 : w41.cell? ⟨gb497, 3, none⟩ = some (.int .i64 a0_3) := (blk_cell BK497.out 3).trans rfl; have hcz43_4 : w41.cell? ⟨gb497, 4, none⟩ = some (.string a0_4) := (blk_cell BK497.out 4).trans rfl; have hcz43_5 : w41.cell? ⟨gb497, 5, none⟩ = some (.int .i64 a0_5) := (blk_cell BK497.out 5).trans rfl; have hcz43_6 : w41.cell? ⟨gb497, 6, none⟩ = some (.string a0_6) := (blk_cell BK497.out 6).trans rfl; have hfz43_0 := blk_frozen BK497.out 0; have hfz43_1 := blk_frozen BK497.out 1; have hfz43_2 := blk_frozen BK497.out 2; have hfz43_3 := blk_frozen BK497.out 3; have hfz43_4 := blk_frozen BK497.out 4; have hfz43_5 := blk_frozen BK497.out 5; have hfz43_6 := blk_frozen BK497.out 6; have hcz44_0 : w41.cell? ⟨gb498, 0, none⟩ = some (.int .i64 a1_0) := (blk_cell BK498.out 0).trans rfl; have hcz44_1 : w41.cell? ⟨gb498, 1, none⟩ = some (.int .i64 a1_1) := (blk_cell BK498.out 1).trans rfl; have hcz44_2 : w41.cell? ⟨gb498, 2, none⟩ = some (.string a1_2) := (blk_cell BK498.out 2).trans rfl; have hcz44_3 : w41.cell? ⟨gb498, 3, none⟩ = some (.int .i64 a1_3) := (blk_cell BK498.out 3).trans rfl; have hcz44_4 : w41.cell? ⟨gb498, 4, none⟩ = some (.string a1_4) := (blk_cell BK498.out 4).trans rfl; have hcz44_5 : w41.cell? ⟨gb498, 5, none⟩ = some (.int .i64 a1_5) := (blk_cell BK498.out 5).trans rfl; have hcz44_6 : w41.cell? ⟨gb498, 6, none⟩ = some (.string a1_6) := (blk_cell BK498.out 6).trans rfl; have hfz44_0 := blk_frozen BK498.out 0; have hfz44_1 := blk_frozen BK498.out 1; have hfz44_2 := blk_frozen BK498.out 2; have hfz44_3 := blk_frozen BK498.out 3; have hfz44_4 := blk_frozen BK498.out 4; have hfz44_5 := blk_frozen BK498.out 5; have hfz44_6 := blk_frozen BK498.out 6))
      go_ret
      exact ⟨by first | rfl | (simp [errW_none, errW_some] <;> rfl) | (simp [*, errW_none, errW_some] <;> rfl), by repeat (first | (with_reducible first | exact HB.out | apply below_alloc | apply pw_below_drewN | apply below_drew1 | refine below_set ?_ GE497.out | refine below_set ?_ GE498.out) | exact HB.out)⟩
  · rw [if_neg c3] at H
    have c3b0 : (a0_0 == a1_0) = false := beq_eq_false_iff_ne.mpr c3
    have c3b1 : (a0_0 != a1_0) = true := bne_iff_ne.mpr c3
    obtain rfl := Option.some.inj H
    go_enter Try.func90, Try.ntmps90
    go_wp2_with (first | ((with_reducible refine gate_dst (N := 2) rfl ?_); refine box_event ?hg (N := 2) ?hd (cs := #[.int .i64 a0_0, .int .i64 a0_1, .string a0_2, .int .i64 a0_3, .string a0_4, .int .i64 a0_5, .string a0_6]) (t := 72) ?hr ?_; (case hd => rfl); (case hg => rfl); (case hr => first | (go_simp; done) | (go_simp; rfl)); intro gb497 hg w45 hbox hb; have n0_ := Aside0.mk (below_step (by repeat (first | (with_reducible first | exact HB.out | apply below_alloc | apply pw_below_drewN | apply below_drew1) | exact HB.out)) hb); have n1_ := Aside0.mk (hbox); have n2_ := Aside0.mk ((by rw [hg]; exact (below_size (by repeat (first | (with_reducible first | exact HB.out | apply below_alloc | apply pw_below_drewN | apply below_drew1) | exact HB.out))) : w.heap.size ≤ gb497)); have n3_ := Aside0.mk ((by rw [hg]; exact (below_size (by repeat (first | (with_reducible first | exact HB.out | apply below_alloc | apply pw_below_drewN | apply below_drew1) | exact HB.out))) : w.heap.size ≤ gb497)); clear HB; have HB := n0_; have BK497 := n1_; have GW497 := n2_; have GE497 := n3_; clear n0_ n1_ n2_ n3_; clear hb hbox hg) | ((with_reducible refine gate_dst (N := 3) rfl ?_); refine box_event ?hg (N := 3) ?hd (cs := #[.int .i64 a1_0, .int .i64 a1_1, .string a1_2, .int .i64 a1_3, .string a1_4, .int .i64 a1_5, .string a1_6]) (t := 72) ?hr ?_; (case hd => rfl); (case hg => rfl); (case hr => first | (go_simp; done) | (go_simp; rfl)); intro gb498 hg w46 hbox hb; have n0_ := Aside0.mk (blk_below (g := gb497) (o := .cells #[.int .i64 a0_0, .int .i64 a0_1, .string a0_2, .int .i64 a0_3, .string a0_4, .int .i64 a0_5, .string a0_6] 72 (0, 0)) (by (with_reducible repeat (first | refine blk_drewN ?_ _ | refine blk_drew ?_ | refine blk_alloc ?_ _)); exact BK497.out) hb); have n1_ := Aside0.mk (below_step (by repeat (first | (with_reducible first | exact HB.out | apply below_alloc | apply pw_below_drewN | apply below_drew1 | refine below_set ?_ GE497.out) | exact HB.out)) hb); have n2_ := Aside0.mk (hbox); have n3_ := Aside0.mk ((by rw [hg]; exact (below_size (by repeat (first | (with_reducible first | exact HB.out | apply below_alloc | apply pw_below_drewN | apply below_drew1 | refine below_set ?_ GE497.out) | exact HB.out))) : w.heap.size ≤ gb498)); have n4_ := Aside0.mk ((by rw [hg]; exact (below_size (by repeat (first | (with_reducible first | exact HB.out | apply below_alloc | apply pw_below_drewN | apply below_drew1 | refine below_set ?_ GE497.out) | exact HB.out))) : w.heap.size ≤ gb498)); have n5_ := Aside0.mk ((by rw [hg]; exact Nat.ne_of_lt (blk_lt (g := gb497) (o := .cells #[.int .i64 a0_0, .int .i64 a0_1, .string a0_2, .int .i64 a0_3, .string a0_4, .int .i64 a0_5, .string a0_6] 72 (0, 0)) (by (with_reducible repeat (first | refine blk_drewN ?_ _ | refine blk_drew ?_ | refine blk_alloc ?_ _)); exact BK497.out)) : gb497 ≠ gb498)); have n6_ := Aside0.mk ((by rw [hg]; exact Nat.ne_of_gt (blk_lt (g := gb497) (o := .cells #[.int .i64 a0_0, .int .i64 a0_1, .string a0_2, .int .i64 a0_3, .string a0_4, .int .i64 a0_5, .string a0_6] 72 (0, 0)) (by (with_reducible repeat (first | refine blk_drewN ?_ _ | refine blk_drew ?_ | refine blk_alloc ?_ _)); exact BK497.out)) : gb498 ≠ gb497)); clear BK497; clear HB; have BK497 := n0_; have HB := n1_; have BK498 := n2_; have GW498 := n3_; have GE498 := n4_; have NB497_498 := n5_; have NB498_497 := n6_; clear n0_ n1_ n2_ n3_ n4_ n5_ n6_; clear hb hbox hg; have hnb47 := NB497_498.out; have hnc47 := NB498_497.out; have hcz48_0 : w46.cell? ⟨gb497, 0, none⟩ = some (.int .i64 a0_0) := (blk_cell BK497.out 0).trans rfl; have hcz48_1 : w46.cell? ⟨gb497, 1, none⟩ = some (.int .i64 a0_1) := (blk_cell BK497.out 1).trans rfl; have hcz48_2 : w46.cell? ⟨gb497, 2, none⟩ = some (.string a0_2) := (blk_cell BK497.out 2).trans rfl; have hcz48_3 : w46.cell? ⟨gb497, 3, none⟩ = some (.int .i64 a0_3) := (blk_cell BK497.out 3).trans rfl; have hcz48_4 : w46.cell? ⟨gb497, 4, none⟩ = some (.string a0_4) := (blk_cell BK497.out 4).trans rfl; have hcz48_5 : w46.cell? ⟨gb497, 5, none⟩ = some (.int .i64 a0_5) := (blk_cell BK497.out 5).trans rfl; have hcz48_6 : w46.cell? ⟨gb497, 6, none⟩ = some (.string a0_6) := (blk_cell BK497.out 6).trans rfl; have hfz48_0 := blk_frozen BK497.out 0; have hfz48_1 := blk_frozen BK497.out 1; have hfz48_2 := blk_frozen BK497.out 2; have hfz48_3 := blk_frozen BK497.out 3; have hfz48_4 := blk_frozen BK497.out 4; have hfz48_5 := blk_frozen BK497.out 5; have hfz48_6 := blk_frozen BK497.out 6; have hcz49_0 : w46.cell? ⟨gb498, 0, none⟩ = some (.int .i64 a1_0) := (blk_cell BK498.out 0).trans rfl; have hcz49_1 : w46.cell? ⟨gb498, 1, none⟩ = some (.int .i64 a1_1) := (blk_cell BK498.out 1).trans rfl; have hcz49_2 : w46.cell? ⟨gb498, 2, none⟩ = some (.string a1_2) := (blk_cell BK498.out 2).trans rfl; have hcz49_3 : w46.cell? ⟨gb498, 3, none⟩ = some (.int .i64 a1_3) := (blk_cell BK498.out 3).trans rfl; have hcz49_4 : w46.cell? ⟨gb498, 4, none⟩ = some (.string a1_4) := (blk_cell BK498.out 4).trans rfl; have hcz49_5 : w46.cell? ⟨gb498, 5, none⟩ = some (.int .i64 a1_5) := (blk_cell BK498.out 5).trans rfl; have hcz49_6 : w46.cell? ⟨gb498, 6, none⟩ = some (.string a1_6) := (blk_cell BK498.out 6).trans rfl; have hfz49_0 := blk_frozen BK498.out 0; have hfz49_1 := blk_frozen BK498.out 1; have hfz49_2 := blk_frozen BK498.out 2; have hfz49_3 := blk_frozen BK498.out 3; have hfz49_4 := blk_frozen BK498.out 4; have hfz49_5 := blk_frozen BK498.out 5; have hfz49_6 := blk_frozen BK498.out 6))
    go_ret
    exact ⟨by first | rfl | (simp [errW_none, errW_some] <;> rfl) | (simp [*, errW_none, errW_some] <;> rfl), by repeat (first | (with_reducible first | exact HB.out | apply below_alloc | apply pw_below_drewN | apply below_drew1 | refine below_set ?_ GE497.out | refine below_set ?_ GE498.out) | exact HB.out)⟩
end Go.Proofs.Ytjcpkplneflleaa.Q
namespace Go.Proofs.Ytjcpkplneflleaa.Q
open Go.RowKit Go.Proofs.YtjcpkplneflleaaW.PrintWords Go.Proofs.YtjcpkplneflleaaW.PrintLast Go.Proofs.YtjcpkplneflleaaW.PrintMore
attribute [local go_sem] max2_int min2_int max_two min_two max_three min_three max_four min_four   -- for this text's walks alone
set_option linter.unusedVariables false
set_option linter.unusedSimpArgs false
def laws_eqOpS.l0 : Nat → List (S72) → List (S72) → Int → Option (Bool)
  | 0, _, _, _ => none
  | k + 1, x0, x1, x5 => if x5 < (x0.length : Int) then (if 0 ≤ x5 then (if x5 < (x1.length : Int) then ((laws_eqOp.f ((rd_T72 x0 x5).f0) ((rd_T72 x0 x5).f1) ((rd_T72 x0 x5).f2) ((rd_T72 x0 x5).f3) ((rd_T72 x0 x5).f4) ((rd_T72 x0 x5).f5) ((rd_T72 x0 x5).f6) ((rd_T72 x1 x5).f0) ((rd_T72 x1 x5).f1) ((rd_T72 x1 x5).f2) ((rd_T72 x1 x5).f3) ((rd_T72 x1 x5).f4) ((rd_T72 x1 x5).f5) ((rd_T72 x1 x5).f6)).bind fun t501 => (if t501 = true then (laws_eqOpS.l0 k x0 x1 (wrap64 (x5 + 1))) else (some false))) else (none)) else (none)) else (some true)
def laws_eqOpS.f (k : Nat) (l0 : List (S72)) (l1 : List (S72)) : Option (Bool) := if (l0.length : Int) = (l1.length : Int) then (laws_eqOpS.l0 k l0 l1 0) else (some false)
def laws_eqOpS.T6 : Bool × List (List Nat × List Nat) := (true, [([], []), ([], []), ([0, 1], [0, 1]), ([2], [2]), ([], []), ([], []), ([4, 5], [4, 5]), ([6], [6]), ([3, 7], [3, 7]), ([8], [8])])
def laws_eqOpS.B6 : List Nat := [0, 0, 3, 7, 0, 0, 48, 112, 255, 511]
theorem laws_eqOpS.tab6 : rtab .any (opsOf Try.f35 6) = laws_eqOpS.T6 := by kernel_rfl
theorem laws_eqOpS.bits6 : waitsOk laws_eqOpS.T6.2 laws_eqOpS.B6 = true := by kernel_rfl
set_option maxHeartbeats 8000000 in
set_option maxRecDepth 100000 in
theorem laws_eqOpS.calls (k : Nat) (A0 : Option Addr) (c0 : Nat) (l0 : List (S72)) (A1 : Option Addr) (c1 : Nat) (l1 : List (S72)) (r : Bool) (w : World) (hr0 : Kd.C k72 w A0 l0.length l0) (hc0 : l0.length ≤ c0) (hr1 : Kd.C k72 w A1 l1.length l1) (hc1 : l1.length ≤ c1) (h : laws_eqOpS.f k l0 l1 = some r) :
    Calls Try.prog 35 #[.slice A0 l0.length c0, .slice A1 l1.length c1] w fun e w' => e = .returned (.bool r) ∧ Below w.heap.size w w' := by
  have hu72 := Try.underlying72
  have HR0 := Aside0.mk hr0
  have HC0 := Aside0.mk hc0
  clear hr0 hc0
  have HR1 := Aside0.mk hr1
  have HC1 := Aside0.mk hc1
  clear hr1 hc1
  have HB := Aside0.mk (Below.refl w.heap.size w)
  have H : (if (l0.length : Int) = (l1.length : Int) then (laws_eqOpS.l0 k l0 l1 0) else (some false)) = some r := h
  clear h
  by_cases c3 : (l0.length : Int) = (l1.length : Int)
  · rw [if_pos c3] at H
    have c3b0 : ((l0.length : Int) == (l1.length : Int)) = true := beq_iff_eq.mpr c3
    have c3b1 : ((l0.length : Int) != (l1.length : Int)) = false := bne_eq_false_iff_eq.mpr c3
    have c3b2 : (l0.length == l1.length) = true := by first | simpa using c3 | (simp at c3 ⊢; omega)
    clear c3
    have H' := Aside0.mk H
    clear H
    go_enter Try.func35, Try.ntmps35
    go_wp2
    go_loopg [5] k (fun kq v5 w' => ∃ (x5_1 : Int), v5 = .int .i64 x5_1 ∧ Aside0 (laws_eqOpS.l0 kq l0 l1 x5_1 = some r) ∧ Aside0 (kq ≤ k) ∧ Aside0 (Below w.heap.size w w'))
    case atStart => exact ⟨(0), (by first | rfl | (simp; done) | (simp [*]; done)), H', ⟨Nat.le_refl _⟩, ⟨by repeat (first | (with_reducible first | exact HB.out | apply below_alloc | apply pw_below_drewN | apply below_drew1) | exact HB.out)⟩⟩
    case round =>
      clear H'
      try clear c1
      try clear p2
      try clear c3
      try clear c3b0
      try clear c3b1
      try clear c3b2
      obtain ⟨x5_1, rfl, HA, HK1, HB⟩ := hrel
      cases gk with
      | zero => exact absurd HA.out (by simp [laws_eqOpS.l0])
      | succ k1 =>
        have H := HA.out
        clear HA
        simp only [laws_eqOpS.l0] at H
        by_cases c4 : x5_1 < (l0.length : Int)
        · rw [if_pos c4] at H
          have c4b0 : decide (x5_1 < (l0.length : Int)) = true := decide_eq_true c4
          clear c4
          by_cases c5 : 0 ≤ x5_1
          · rw [if_pos c5] at H
            have c5b0 : decide (0 ≤ x5_1) = true := decide_eq_true c5
            clear c5
            by_cases c6 : x5_1 < (l1.length : Int)
            · rw [if_pos c6] at H
              have c6b0 : decide (x5_1 < (l1.length : Int)) = true := decide_eq_true c6
              clear c6
              replace H := Option.bind_eq_some_iff.mp H
              obtain ⟨t501, A70, H⟩ := H
              replace H : (if t501 = true then (laws_eqOpS.l0 k1 l0 l1 (wrap64 (x5_1 + 1))) else (some false)) = some r := H
              have A7 := Aside0.mk A70
              clear A70
              by_cases c8 : t501 = true
              · subst c8
                have H1 : (laws_eqOpS.l0 k1 l0 l1 (wrap64 (x5_1 + 1))) = some r := by rw [if_pos rfl] at H; exact H
                clear H
                have H := H1
                clear H1
                have H' := Aside0.mk H
                clear H
                try go_wp2
                have n0_ := Aside0.mk (below_drew1 HB.out)
                clear HB
                have HB := n0_
                clear n0_
                have p499 : 0 ≤ (x5_1 : Int) := of_decide_eq_true (by first | (with_reducible assumption) | assumption)
                have q499 : x5_1 < (l0.length : Int) := of_decide_eq_true (by first | (with_reducible assumption) | assumption)
                obtain ⟨ad499, e499, hx499_0, hx499_1, hx499_2, hx499_3, hx499_4, hx499_5, hx499_6⟩ := at_T72 HR0.out x5_1 p499 q499
                have hw499_6 := hx499_6
                have hw499_5 := hx499_5
                have hw499_4 := hx499_4
                have hw499_3 := hx499_3
                have hw499_2 := hx499_2
                have hw499_1 := hx499_1
                have hw499_0 := hx499_0
                cases e499
                replace hx499_0 := (HB.out.cell (World.block_lt_of_cell? w _ hx499_0)).trans hx499_0
                replace hx499_1 := (HB.out.cell (World.block_lt_of_cell? w _ hx499_1)).trans hx499_1
                replace hx499_2 := (HB.out.cell (World.block_lt_of_cell? w _ hx499_2)).trans hx499_2
                replace hx499_3 := (HB.out.cell (World.block_lt_of_cell? w _ hx499_3)).trans hx499_3
                replace hx499_4 := (HB.out.cell (World.block_lt_of_cell? w _ hx499_4)).trans hx499_4
                replace hx499_5 := (HB.out.cell (World.block_lt_of_cell? w _ hx499_5)).trans hx499_5
                replace hx499_6 := (HB.out.cell (World.block_lt_of_cell? w _ hx499_6)).trans hx499_6
                replace p499 := eq_true p499
                replace q499 := eq_true q499
                have p500 : 0 ≤ (x5_1 : Int) := of_decide_eq_true (by first | (with_reducible assumption) | assumption)
                have q500 : x5_1 < (l1.length : Int) := of_decide_eq_true (by first | (with_reducible assumption) | assumption)
                obtain ⟨ad500, e500, hx500_0, hx500_1, hx500_2, hx500_3, hx500_4, hx500_5, hx500_6⟩ := at_T72 HR1.out x5_1 p500 q500
                have hw500_6 := hx500_6
                have hw500_5 := hx500_5
                have hw500_4 := hx500_4
                have hw500_3 := hx500_3
                have hw500_2 := hx500_2
                have hw500_1 := hx500_1
                have hw500_0 := hx500_0
                cases e500
                replace hx500_0 := (HB.out.cell (World.block_lt_of_cell? w _ hx500_0)).trans hx500_0
                replace hx500_1 := (HB.out.cell (World.block_lt_of_cell? w _ hx500_1)).trans hx500_1
                replace hx500_2 := (HB.out.cell (World.block_lt_of_cell? w _ hx500_2)).trans hx500_2
                replace hx500_3 := (HB.out.cell (World.block_lt_of_cell? w _ hx500_3)).trans hx500_3
                replace hx500_4 := (HB.out.cell (World.block_lt_of_cell? w _ hx500_4)).trans hx500_4
                replace hx500_5 := (HB.out.cell (World.block_lt_of_cell? w _ hx500_5)).trans hx500_5
                replace hx500_6 := (HB.out.cell (World.block_lt_of_cell? w _ hx500_6)).trans hx500_6
                replace p500 := eq_true p500
                replace q500 := eq_true q500
                refine start_ (n := 10) (S := fun w' => w'.cell? (ad499.add ((x5_1).toNat * 7)) = some (.int .i64 ((rd_T72 l0 x5_1).f0)) ∧ w'.cell? ⟨(ad499.add ((x5_1).toNat * 7)).block, (ad499.add ((x5_1).toNat * 7)).off + 1, none⟩ = some (.int .i64 ((rd_T72 l0 x5_1).f1)) ∧ w'.cell? ⟨(ad499.add ((x5_1).toNat * 7)).block, (ad499.add ((x5_1).toNat * 7)).off + 2, none⟩ = some (.string ((rd_T72 l0 x5_1).f2)) ∧ w'.cell? ⟨(ad499.add ((x5_1).toNat * 7)).block, (ad499.add ((x5_1).toNat * 7)).off + 3, none⟩ = some (.int .i64 ((rd_T72 l0 x5_1).f3)) ∧ w'.cell? ⟨(ad499.add ((x5_1).toNat * 7)).block, (ad499.add ((x5_1).toNat * 7)).off + 4, none⟩ = some (.string ((rd_T72 l0 x5_1).f4)) ∧ w'.cell? ⟨(ad499.add ((x5_1).toNat * 7)).block, (ad499.add ((x5_1).toNat * 7)).off + 5, none⟩ = some (.int .i64 ((rd_T72 l0 x5_1).f5)) ∧ w'.cell? ⟨(ad499.add ((x5_1).toNat * 7)).block, (ad499.add ((x5_1).toNat * 7)).off + 6, none⟩ = some (.string ((rd_T72 l0 x5_1).f6)) ∧ w'.cell? (ad500.add ((x5_1).toNat * 7)) = some (.int .i64 ((rd_T72 l1 x5_1).f0)) ∧ w'.cell? ⟨(ad500.add ((x5_1).toNat * 7)).block, (ad500.add ((x5_1).toNat * 7)).off + 1, none⟩ = some (.int .i64 ((rd_T72 l1 x5_1).f1)) ∧ w'.cell? ⟨(ad500.add ((x5_1).toNat * 7)).block, (ad500.add ((x5_1).toNat * 7)).off + 2, none⟩ = some (.string ((rd_T72 l1 x5_1).f2)) ∧ w'.cell? ⟨(ad500.add ((x5_1).toNat * 7)).block, (ad500.add ((x5_1).toNat * 7)).off + 3, none⟩ = some (.int .i64 ((rd_T72 l1 x5_1).f3)) ∧ w'.cell? ⟨(ad500.add ((x5_1).toNat * 7)).block, (ad500.add ((x5_1).toNat * 7)).off + 4, none⟩ = some (.string ((rd_T72 l1 x5_1).f4)) ∧ w'.cell? ⟨(ad500.add ((x5_1).toNat * 7)).block, (ad500.add ((x5_1).toNat * 7)).off + 5, none⟩ = some (.int .i64 ((rd_T72 l1 x5_1).f5)) ∧ w'.cell? ⟨(ad500.add ((x5_1).toNat * 7)).block, (ad500.add ((x5_1).toNat * 7)).off + 6, none⟩ = some (.string ((rd_T72 l1 x5_1).f6))) (ds := []) #[false, false, false, false, false, false, false, false, false, false] (by kernel_rfl) rfl rfl ⟨((HB.out.cell (World.block_lt_of_cell? w _ hw499_0)).trans hw499_0), ((HB.out.cell (World.block_lt_of_cell? w _ hw499_1)).trans hw499_1), ((HB.out.cell (World.block_lt_of_cell? w _ hw499_2)).trans hw499_2), ((HB.out.cell (World.block_lt_of_cell? w _ hw499_3)).trans hw499_3), ((HB.out.cell (World.block_lt_of_cell? w _ hw499_4)).trans hw499_4), ((HB.out.cell (World.block_lt_of_cell? w _ hw499_5)).trans hw499_5), ((HB.out.cell (World.block_lt_of_cell? w _ hw499_6)).trans hw499_6), ((HB.out.cell (World.block_lt_of_cell? w _ hw500_0)).trans hw500_0), ((HB.out.cell (World.block_lt_of_cell? w _ hw500_1)).trans hw500_1), ((HB.out.cell (World.block_lt_of_cell? w _ hw500_2)).trans hw500_2), ((HB.out.cell (World.block_lt_of_cell? w _ hw500_3)).trans hw500_3), ((HB.out.cell (World.block_lt_of_cell? w _ hw500_4)).trans hw500_4), ((HB.out.cell (World.block_lt_of_cell? w _ hw500_5)).trans hw500_5), ((HB.out.cell (World.block_lt_of_cell? w _ hw500_6)).trans hw500_6)⟩ (fun hHeld => ?_); refine with_tabW laws_eqOpS.tab6 laws_eqOpS.bits6 (fun HT_ HW_ => ?_)
                generalize wr.drew = w9 at HB hx499_0 hx499_1 hx499_2 hx499_3 hx499_4 hx499_5 hx499_6 hx500_0 hx500_1 hx500_2 hx500_3 hx500_4 hx500_5 hx500_6 hHeld ⊢
                refine pure_ (i := 0) (N := some 17) (v := ?_) (a' := ?_) #[true, false, false, false, false, false, false, false, false, false] rfl rfl (any_of HT_.out (by kernel_rfl)) (fun _ _ _ h => h) (Or.inl ⟨by rfl, ?_⟩) ?_ ?_
                rotate_left
                · intro w'
                  go_simp
                  with_reducible rfl
                rotate_left
                · simp only [Act.put, List.setIfInBounds_toArray, List.set_cons_zero, List.set_cons_succ, i64_w, i32_w]
                  rfl
                refine pure_ (i := 1) (N := some 18) (v := ?_) (a' := ?_) #[true, true, false, false, false, false, false, false, false, false] rfl rfl (any_of HT_.out (by kernel_rfl)) (fun _ _ _ h => h) (Or.inl ⟨by rfl, ?_⟩) ?_ ?_
                rotate_left
                · intro w'
                  go_simp
                  with_reducible rfl
                rotate_left
                · simp only [Act.put, List.setIfInBounds_toArray, List.set_cons_zero, List.set_cons_succ, i64_w, i32_w]
                  rfl
                refine pure_ (i := 2) (N := some 19) (v := ?_) (a' := ?_) #[true, true, true, false, false, false, false, false, false, false] rfl rfl (any_of HT_.out (by kernel_rfl)) (fun _ _ _ h => h) (Or.inl ⟨by rfl, ?_⟩) ?_ ?_
                rotate_left
                · intro w'
                  go_simp
                  with_reducible rfl
                rotate_left
                · simp only [Act.put, List.setIfInBounds_toArray, List.set_cons_zero, List.set_cons_succ, i64_w, i32_w]
                  rfl
                refine pure_ (i := 4) (N := some 21) (v := ?_) (a' := ?_) #[true, true, true, false, true, false, false, false, false, false] rfl rfl (any_of HT_.out (by kernel_rfl)) (fun _ _ _ h => h) (Or.inl ⟨by rfl, ?_⟩) ?_ ?_
                rotate_left
                · intro w'
                  go_simp
                  with_reducible rfl
                rotate_left
                · simp only [Act.put, List.setIfInBounds_toArray, List.set_cons_zero, List.set_cons_succ, i64_w, i32_w]
                  rfl
                refine pure_ (i := 5) (N := some 22) (v := ?_) (a' := ?_) #[true, true, true, false, true, true, false, false, false, false] rfl rfl (any_of HT_.out (by kernel_rfl)) (fun _ _ _ h => h) (Or.inl ⟨by rfl, ?_⟩) ?_ ?_
                rotate_left
                · intro w'
                  go_simp
                  with_reducible rfl
                rotate_left
                · simp only [Act.put, List.setIfInBounds_toArray, List.set_cons_zero, List.set_cons_succ, i64_w, i32_w]
                  rfl
                refine pure_ (i := 6) (N := some 23) (v := ?_) (a' := ?_) #[true, true, true, false, true, true, true, false, false, false] rfl rfl (any_of HT_.out (by kernel_rfl)) (fun _ _ _ h => h) (Or.inl ⟨by rfl, ?_⟩) ?_ ?_
                rotate_left
                · intro w'
                  go_simp
                  with_reducible rfl
                rotate_left
                · simp only [Act.put, List.setIfInBounds_toArray, List.set_cons_zero, List.set_cons_succ, i64_w, i32_w]
                  rfl
                refine take_ (i := 3) (N := some 20) (v := ?_) (a' := ?_) #[true, true, true, true, true, true, true, false, false, false] rfl rfl (take_ofW HT_.out HW_.out (by kernel_rfl)) (fun _ _ _ h => h) (Or.inl ⟨by rfl, ?_⟩) hHeld ?_ ?_
                rotate_left
                · rintro w' ⟨s0, s1, s2, s3, s4, s5, s6, s7, s8, s9, s10, s11, s12, s13⟩
                  go_simp
                  with_reducible rfl
                rotate_left
                · simp only [Act.put, List.setIfInBounds_toArray, List.set_cons_zero, List.set_cons_succ, i64_w, i32_w]
                  rfl
                refine take_ (i := 7) (N := some 24) (v := ?_) (a' := ?_) #[true, true, true, true, true, true, true, true, false, false] rfl rfl (take_ofW HT_.out HW_.out (by kernel_rfl)) (fun _ _ _ h => h) (Or.inl ⟨by rfl, ?_⟩) hHeld ?_ ?_
                rotate_left
                · rintro w' ⟨s0, s1, s2, s3, s4, s5, s6, s7, s8, s9, s10, s11, s12, s13⟩
                  go_simp
                  with_reducible rfl
                rotate_left
                · simp only [Act.put, List.setIfInBounds_toArray, List.set_cons_zero, List.set_cons_succ, i64_w, i32_w]
                  rfl
                refine one_ (i := 8) (N := some 25) #[true, true, true, true, true, true, true, true, true, false] rfl rfl (one_of HT_.out (by kernel_rfl)) (by decide) (fun K hK => ?_)
                refine goes_ Try.func90 (by kernel_rfl) rfl #[.agg #[.int .i64 ((rd_T72 l0 x5_1).f0), .int .i64 ((rd_T72 l0 x5_1).f1), .string ((rd_T72 l0 x5_1).f2), .int .i64 ((rd_T72 l0 x5_1).f3), .string ((rd_T72 l0 x5_1).f4), .int .i64 ((rd_T72 l0 x5_1).f5), .string ((rd_T72 l0 x5_1).f6)], .agg #[.int .i64 ((rd_T72 l1 x5_1).f0), .int .i64 ((rd_T72 l1 x5_1).f1), .string ((rd_T72 l1 x5_1).f2), .int .i64 ((rd_T72 l1 x5_1).f3), .string ((rd_T72 l1 x5_1).f4), .int .i64 ((rd_T72 l1 x5_1).f5), .string ((rd_T72 l1 x5_1).f6)]] (by rfl) rfl rfl (by (try simp only [List.map_toArray, List.map_cons, List.map_nil]); first | done | rfl | (simp only [List.length_drop, List.length_take]; rfl)) ?_
                with_reducible refine (laws_eqOp.calls ((rd_T72 l0 x5_1).f0) ((rd_T72 l0 x5_1).f1) ((rd_T72 l0 x5_1).f2) ((rd_T72 l0 x5_1).f3) ((rd_T72 l0 x5_1).f4) ((rd_T72 l0 x5_1).f5) ((rd_T72 l0 x5_1).f6) ((rd_T72 l1 x5_1).f0) ((rd_T72 l1 x5_1).f1) ((rd_T72 l1 x5_1).f2) ((rd_T72 l1 x5_1).f3) ((rd_T72 l1 x5_1).f4) ((rd_T72 l1 x5_1).f5) ((rd_T72 l1 x5_1).f6) true _ A7.out).mono ?_
                rintro e w10 ⟨rfl, hb⟩
                refine ⟨_, rfl, ?_⟩
                have n0_ := Aside0.mk (below_step (by repeat (first | (with_reducible first | exact HB.out | apply below_alloc | apply pw_below_drewN | apply below_drew1) | exact HB.out)) hb)
                clear HB
                have HB := n0_
                clear n0_
                (try clear hb)
                (try clear hb2)
                (try clear hk)
                (try clear hi)
                refine hK.out _ _ ⟨((HB.out.cell (World.block_lt_of_cell? w _ hw499_0)).trans hw499_0), ((HB.out.cell (World.block_lt_of_cell? w _ hw499_1)).trans hw499_1), ((HB.out.cell (World.block_lt_of_cell? w _ hw499_2)).trans hw499_2), ((HB.out.cell (World.block_lt_of_cell? w _ hw499_3)).trans hw499_3), ((HB.out.cell (World.block_lt_of_cell? w _ hw499_4)).trans hw499_4), ((HB.out.cell (World.block_lt_of_cell? w _ hw499_5)).trans hw499_5), ((HB.out.cell (World.block_lt_of_cell? w _ hw499_6)).trans hw499_6), ((HB.out.cell (World.block_lt_of_cell? w _ hw500_0)).trans hw500_0), ((HB.out.cell (World.block_lt_of_cell? w _ hw500_1)).trans hw500_1), ((HB.out.cell (World.block_lt_of_cell? w _ hw500_2)).trans hw500_2), ((HB.out.cell (World.block_lt_of_cell? w _ hw500_3)).trans hw500_3), ((HB.out.cell (World.block_lt_of_cell? w _ hw500_4)).trans hw500_4), ((HB.out.cell (World.block_lt_of_cell? w _ hw500_5)).trans hw500_5), ((HB.out.cell (World.block_lt_of_cell? w _ hw500_6)).trans hw500_6)⟩ (fun hHeld => ?_)
                clear hK K
                refine norm_ (a' := ?_) ?_ ?_
                rotate_left
                · show Act.put _ (some 25) _ = _
                  simp only [Act.put, List.setIfInBounds_toArray, List.set_cons_zero, List.set_cons_succ, i64_w, i32_w]
                  rfl
                refine pure_ (i := 9) (N := some 26) (v := ?_) (a' := ?_) #[true, true, true, true, true, true, true, true, true, true] rfl rfl (any_of HT_.out (by kernel_rfl)) (fun _ _ _ h => h) (Or.inl ⟨by rfl, ?_⟩) ?_ ?_
                rotate_left
                · intro w'
                  go_simp
                  with_reducible rfl
                rotate_left
                · simp only [Act.put, List.setIfInBounds_toArray, List.set_cons_zero, List.set_cons_succ, i64_w, i32_w]
                  rfl
                refine done_ (done_of HT_.out (by kernel_rfl)) ?_
                try go_wp2
                go_roundg k1
                case measure => have := HK1.out; omega
                case rel => exact ⟨(wrap64 (x5_1 + 1)), (by first | rfl | (simp; done) | (simp [*]; done)), H', ⟨by have := HK1.out; omega⟩, ⟨by repeat (first | (with_reducible first | exact HB.out | apply below_alloc | apply pw_below_drewN | apply below_drew1) | exact HB.out)⟩⟩
              · replace c8 := Bool.eq_false_iff.mpr c8
                subst c8
                have H1 : (some false) = some r := by rw [if_neg (show ¬ (false = true) by decide)] at H; exact H
                clear H
                have H := H1
                clear H1
                obtain rfl := Option.some.inj H
                try go_wp2
                have n0_ := Aside0.mk (below_drew1 HB.out)
                clear HB
                have HB := n0_
                clear n0_
                have p499 : 0 ≤ (x5_1 : Int) := of_decide_eq_true (by first | (with_reducible assumption) | assumption)
                have q499 : x5_1 < (l0.length : Int) := of_decide_eq_true (by first | (with_reducible assumption) | assumption)
                obtain ⟨ad499, e499, hx499_0, hx499_1, hx499_2, hx499_3, hx499_4, hx499_5, hx499_6⟩ := at_T72 HR0.out x5_1 p499 q499
                have hw499_6 := hx499_6
                have hw499_5 := hx499_5
                have hw499_4 := hx499_4
                have hw499_3 := hx499_3
                have hw499_2 := hx499_2
                have hw499_1 := hx499_1
                have hw499_0 := hx499_0
                cases e499
                replace hx499_0 := (HB.out.cell (World.block_lt_of_cell? w _ hx499_0)).trans hx499_0
                replace hx499_1 := (HB.out.cell (World.block_lt_of_cell? w _ hx499_1)).trans hx499_1
                replace hx499_2 := (HB.out.cell (World.block_lt_of_cell? w _ hx499_2)).trans hx499_2
                replace hx499_3 := (HB.out.cell (World.block_lt_of_cell? w _ hx499_3)).trans hx499_3
                replace hx499_4 := (HB.out.cell (World.block_lt_of_cell? w _ hx499_4)).trans hx499_4
                replace hx499_5 := (HB.out.cell (World.block_lt_of_cell? w _ hx499_5)).trans hx499_5
                replace hx499_6 := (HB.out.cell (World.block_lt_of_cell? w _ hx499_6)).trans hx499_6
                replace p499 := eq_true p499
                replace q499 := eq_true q499
                have p500 : 0 ≤ (x5_1 : Int) := of_decide_eq_true (by first | (with_reducible assumption) | assumption)
                have q500 : x5_1 < (l1.length : Int) := of_decide_eq_true (by first | (with_reducible assumption) | assumption)
                obtain ⟨ad500, e500, hx500_0, hx500_1, hx500_2, hx500_3, hx500_4, hx500_5, hx500_6⟩ := at_T72 HR1.out x5_1 p500 q500
                have hw500_6 := hx500_6
                have hw500_5 := hx500_5
                have hw500_4 := hx500_4
                have hw500_3 := hx500_3
                have hw500_2 := hx500_2
                have hw500_1 := hx500_1
                have hw500_0 := hx500_0
                cases e500
                replace hx500_0 := (HB.out.cell (World.block_lt_of_cell? w _ hx500_0)).trans hx500_0
                replace hx500_1 := (HB.out.cell (World.block_lt_of_cell? w _ hx500_1)).trans hx500_1
                replace hx500_2 := (HB.out.cell (World.block_lt_of_cell? w _ hx500_2)).trans hx500_2
                replace hx500_3 := (HB.out.cell (World.block_lt_of_cell? w _ hx500_3)).trans hx500_3
                replace hx500_4 := (HB.out.cell (World.block_lt_of_cell? w _ hx500_4)).trans hx500_4
                replace hx500_5 := (HB.out.cell (World.block_lt_of_cell? w _ hx500_5)).trans hx500_5
                replace hx500_6 := (HB.out.cell (World.block_lt_of_cell? w _ hx500_6)).trans hx500_6
                replace p500 := eq_true p500
                replace q500 := eq_true q500
                refine start_ (n := 10) (S := fun w' => w'.cell? (ad499.add ((x5_1).toNat * 7)) = some (.int .i64 ((rd_T72 l0 x5_1).f0)) ∧ w'.cell? ⟨(ad499.add ((x5_1).toNat * 7)).block, (ad499.add ((x5_1).toNat * 7)).off + 1, none⟩ = some (.int .i64 ((rd_T72 l0 x5_1).f1)) ∧ w'.cell? ⟨(ad499.add ((x5_1).toNat * 7)).block, (ad499.add ((x5_1).toNat * 7)).off + 2, none⟩ = some (.string ((rd_T72 l0 x5_1).f2)) ∧ w'.cell? ⟨(ad499.add ((x5_1).toNat * 7)).block, (ad499.add ((x5_1).toNat * 7)).off + 3, none⟩ = some (.int .i64 ((rd_T72 l0 x5_1).f3)) ∧ w'.cell? ⟨(ad499.add ((x5_1).toNat * 7)).block, (ad499.add ((x5_1).toNat * 7)).off + 4, none⟩ = some (.string ((rd_T72 l0 x5_1).f4)) ∧ w'.cell? ⟨(ad499.add ((x5_1).toNat * 7)).block, (ad499.add ((x5_1).toNat * 7)).off + 5, none⟩ = some (.int .i64 ((rd_T72 l0 x5_1).f5)) ∧ w'.cell? ⟨(ad499.add ((x5_1).toNat * 7)).block, (ad499.add ((x5_1).toNat * 7)).off + 6, none⟩ = some (.string ((rd_T72 l0 x5_1).f6)) ∧ w'.cell? (ad500.add ((x5_1).toNat * 7)) = some (.int .i64 ((rd_T72 l1 x5_1).f0)) ∧ w'.cell? ⟨(ad500.add ((x5_1).toNat * 7)).block, (ad500.add ((x5_1).toNat * 7)).off + 1, none⟩ = some (.int .i64 ((rd_T72 l1 x5_1).f1)) ∧ w'.cell? ⟨(ad500.add ((x5_1).toNat * 7)).block, (ad500.add ((x5_1).toNat * 7)).off + 2, none⟩ = some (.string ((rd_T72 l1 x5_1).f2)) ∧ w'.cell? ⟨(ad500.add ((x5_1).toNat * 7)).block, (ad500.add ((x5_1).toNat * 7)).off + 3, none⟩ = some (.int .i64 ((rd_T72 l1 x5_1).f3)) ∧ w'.cell? ⟨(ad500.add ((x5_1).toNat * 7)).block, (ad500.add ((x5_1).toNat * 7)).off + 4, none⟩ = some (.string ((rd_T72 l1 x5_1).f4)) ∧ w'.cell? ⟨(ad500.add ((x5_1).toNat * 7)).block, (ad500.add ((x5_1).toNat * 7)).off + 5, none⟩ = some (.int .i64 ((rd_T72 l1 x5_1).f5)) ∧ w'.cell? ⟨(ad500.add ((x5_1).toNat * 7)).block, (ad500.add ((x5_1).toNat * 7)).off + 6, none⟩ = some (.string ((rd_T72 l1 x5_1).f6))) (ds := []) #[false, false, false, false, false, false, false, false, false, false] (by kernel_rfl) rfl rfl ⟨((HB.out.cell (World.block_lt_of_cell? w _ hw499_0)).trans hw499_0), ((HB.out.cell (World.block_lt_of_cell? w _ hw499_1)).trans hw499_1), ((HB.out.cell (World.block_lt_of_cell? w _ hw499_2)).trans hw499_2), ((HB.out.cell (World.block_lt_of_cell? w _ hw499_3)).trans hw499_3), ((HB.out.cell (World.block_lt_of_cell? w _ hw499_4)).trans hw499_4), ((HB.out.cell (World.block_lt_of_cell? w _ hw499_5)).trans hw499_5), ((HB.out.cell (World.block_lt_of_cell? w _ hw499_6)).trans hw499_6), ((HB.out.cell (World.block_lt_of_cell? w _ hw500_0)).trans hw500_0), ((HB.out.cell (World.block_lt_of_cell? w _ hw500_1)).trans hw500_1), ((HB.out.cell (World.block_lt_of_cell? w _ hw500_2)).trans hw500_2), ((HB.out.cell (World.block_lt_of_cell? w _ hw500_3)).trans hw500_3), ((HB.out.cell (World.block_lt_of_cell? w _ hw500_4)).trans hw500_4), ((HB.out.cell (World.block_lt_of_cell? w _ hw500_5)).trans hw500_5), ((HB.out.cell (World.block_lt_of_cell? w _ hw500_6)).trans hw500_6)⟩ (fun hHeld => ?_); refine with_tabW laws_eqOpS.tab6 laws_eqOpS.bits6 (fun HT_ HW_ => ?_)
                generalize wr.drew = w11 at HB hx499_0 hx499_1 hx499_2 hx499_3 hx499_4 hx499_5 hx499_6 hx500_0 hx500_1 hx500_2 hx500_3 hx500_4 hx500_5 hx500_6 hHeld ⊢
                refine pure_ (i := 0) (N := some 17) (v := ?_) (a' := ?_) #[true, false, false, false, false, false, false, false, false, false] rfl rfl (any_of HT_.out (by kernel_rfl)) (fun _ _ _ h => h) (Or.inl ⟨by rfl, ?_⟩) ?_ ?_
                rotate_left
                · intro w'
                  go_simp
                  with_reducible rfl
                rotate_left
                · simp only [Act.put, List.setIfInBounds_toArray, List.set_cons_zero, List.set_cons_succ, i64_w, i32_w]
                  rfl
                refine pure_ (i := 1) (N := some 18) (v := ?_) (a' := ?_) #[true, true, false, false, false, false, false, false, false, false] rfl rfl (any_of HT_.out (by kernel_rfl)) (fun _ _ _ h => h) (Or.inl ⟨by rfl, ?_⟩) ?_ ?_
                rotate_left
                · intro w'
                  go_simp
                  with_reducible rfl
                rotate_left
                · simp only [Act.put, List.setIfInBounds_toArray, List.set_cons_zero, List.set_cons_succ, i64_w, i32_w]
                  rfl
                refine pure_ (i := 2) (N := some 19) (v := ?_) (a' := ?_) #[true, true, true, false, false, false, false, false, false, false] rfl rfl (any_of HT_.out (by kernel_rfl)) (fun _ _ _ h => h) (Or.inl ⟨by rfl, ?_⟩) ?_ ?_
                rotate_left
                · intro w'
                  go_simp
                  with_reducible rfl
                rotate_left
                · simp only [Act.put, List.setIfInBounds_toArray, List.set_cons_zero, List.set_cons_succ, i64_w, i32_w]
                  rfl
                refine pure_ (i := 4) (N := some 21) (v := ?_) (a' := ?_) #[true, true, true, false, true, false, false, false, false, false] rfl rfl (any_of HT_.out (by kernel_rfl)) (fun _ _ _ h => h) (Or.inl ⟨by rfl, ?_⟩) ?_ ?_
                rotate_left
                · intro w'
                  go_simp
                  with_reducible rfl
                rotate_left
                · simp only [Act.put, List.setIfInBounds_toArray, List.set_cons_zero, List.set_cons_succ, i64_w, i32_w]
                  rfl
                refine pure_ (i := 5) (N := some 22) (v := ?_) (a' := ?_) #[true, true, true, false, true, true, false, false, false, false] rfl rfl (any_of HT_.out (by kernel_rfl)) (fun _ _ _ h => h) (Or.inl ⟨by rfl, ?_⟩) ?_ ?_
                rotate_left
                · intro w'
                  go_simp
                  with_reducible rfl
                rotate_left
                · simp only [Act.put, List.setIfInBounds_toArray, List.set_cons_zero, List.set_cons_succ, i64_w, i32_w]
                  rfl
                refine pure_ (i := 6) (N := some 23) (v := ?_) (a' := ?_) #[true, true, true, false, true, true, true, false, false, false] rfl rfl (any_of HT_.out (by kernel_rfl)) (fun _ _ _ h => h) (Or.inl ⟨by rfl, ?_⟩) ?_ ?_
                rotate_left
                · intro w'
                  go_simp
                  with_reducible rfl
                rotate_left
                · simp only [Act.put, List.setIfInBounds_toArray, List.set_cons_zero, List.set_cons_succ, i64_w, i32_w]
                  rfl
                refine take_ (i := 3) (N := some 20) (v := ?_) (a' := ?_) #[true, true, true, true, true, true, true, false, false, false] rfl rfl (take_ofW HT_.out HW_.out (by kernel_rfl)) (fun _ _ _ h => h) (Or.inl ⟨by rfl, ?_⟩) hHeld ?_ ?_
                rotate_left
                · rintro w' ⟨s0, s1, s2, s3, s4, s5, s6, s7, s8, s9, s10, s11, s12, s13⟩
                  go_simp
                  with_reducible rfl
                rotate_left
                · simp only [Act.put, List.setIfInBounds_toArray, List.set_cons_zero, List.set_cons_succ, i64_w, i32_w]
                  rfl
                refine take_ (i := 7) (N := some 24) (v := ?_) (a' := ?_) #[true, true, true, true, true, true, true, true, false, false] rfl rfl (take_ofW HT_.out HW_.out (by kernel_rfl)) (fun _ _ _ h => h) (Or.inl ⟨by rfl, ?_⟩) hHeld ?_ ?_
                rotate_left
                · rintro w' ⟨s0, s1, s2, s3, s4, s5, s6, s7, s8, s9, s10, s11, s12, s13⟩
                  go_simp
                  with_reducible rfl
                rotate_left
                · simp only [Act.put, List.setIfInBounds_toArray, List.set_cons_zero, List.set_cons_succ, i64_w, i32_w]
                  rfl
                refine one_ (i := 8) (N := some 25) #[true, true, true, true, true, true, true, true, true, false] rfl rfl (one_of HT_.out (by kernel_rfl)) (by decide) (fun K hK => ?_)
                refine goes_ Try.func90 (by kernel_rfl) rfl #[.agg #[.int .i64 ((rd_T72 l0 x5_1).f0), .int .i64 ((rd_T72 l0 x5_1).f1), .string ((rd_T72 l0 x5_1).f2), .int .i64 ((rd_T72 l0 x5_1).f3), .string ((rd_T72 l0 x5_1).f4), .int .i64 ((rd_T72 l0 x5_1).f5), .string ((rd_T72 l0 x5_1).f6)], .agg #[.int .i64 ((rd_T72 l1 x5_1).f0), .int .i64 ((rd_T72 l1 x5_1).f1), .string ((rd_T72 l1 x5_1).f2), .int .i64 ((rd_T72 l1 x5_1).f3), .string ((rd_T72 l1 x5_1).f4), .int .i64 ((rd_T72 l1 x5_1).f5), .string ((rd_T72 l1 x5_1).f6)]] (by rfl) rfl rfl (by (try simp only [List.map_toArray, List.map_cons, List.map_nil]); first | done | rfl | (simp only [List.length_drop, List.length_take]; rfl)) ?_
                with_reducible refine (laws_eqOp.calls ((rd_T72 l0 x5_1).f0) ((rd_T72 l0 x5_1).f1) ((rd_T72 l0 x5_1).f2) ((rd_T72 l0 x5_1).f3) ((rd_T72 l0 x5_1).f4) ((rd_T72 l0 x5_1).f5) ((rd_T72 l0 x5_1).f6) ((rd_T72 l1 x5_1).f0) ((rd_T72 l1 x5_1).f1) ((rd_T72 l1 x5_1).f2) ((rd_T72 l1 x5_1).f3) ((rd_T72 l1 x5_1).f4) ((rd_T72 l1 x5_1).f5) ((rd_T72 l1 x5_1).f6) false _ A7.out).mono ?_
                rintro e w12 ⟨rfl, hb⟩
                refine ⟨_, rfl, ?_⟩
                have n0_ := Aside0.mk (below_step (by repeat (first | (with_reducible first | exact HB.out | apply below_alloc | apply pw_below_drewN | apply below_drew1) | exact HB.out)) hb)
                clear HB
                have HB := n0_
                clear n0_
                (try clear hb)
                (try clear hb2)
                (try clear hk)
                (try clear hi)
                refine hK.out _ _ ⟨((HB.out.cell (World.block_lt_of_cell? w _ hw499_0)).trans hw499_0), ((HB.out.cell (World.block_lt_of_cell? w _ hw499_1)).trans hw499_1), ((HB.out.cell (World.block_lt_of_cell? w _ hw499_2)).trans hw499_2), ((HB.out.cell (World.block_lt_of_cell? w _ hw499_3)).trans hw499_3), ((HB.out.cell (World.block_lt_of_cell? w _ hw499_4)).trans hw499_4), ((HB.out.cell (World.block_lt_of_cell? w _ hw499_5)).trans hw499_5), ((HB.out.cell (World.block_lt_of_cell? w _ hw499_6)).trans hw499_6), ((HB.out.cell (World.block_lt_of_cell? w _ hw500_0)).trans hw500_0), ((HB.out.cell (World.block_lt_of_cell? w _ hw500_1)).trans hw500_1), ((HB.out.cell (World.block_lt_of_cell? w _ hw500_2)).trans hw500_2), ((HB.out.cell (World.block_lt_of_cell? w _ hw500_3)).trans hw500_3), ((HB.out.cell (World.block_lt_of_cell? w _ hw500_4)).trans hw500_4), ((HB.out.cell (World.block_lt_of_cell? w _ hw500_5)).trans hw500_5), ((HB.out.cell (World.block_lt_of_cell? w _ hw500_6)).trans hw500_6)⟩ (fun hHeld => ?_)
                clear hK K
                refine norm_ (a' := ?_) ?_ ?_
                rotate_left
                · show Act.put _ (some 25) _ = _
                  simp only [Act.put, List.setIfInBounds_toArray, List.set_cons_zero, List.set_cons_succ, i64_w, i32_w]
                  rfl
                refine pure_ (i := 9) (N := some 26) (v := ?_) (a' := ?_) #[true, true, true, true, true, true, true, true, true, true] rfl rfl (any_of HT_.out (by kernel_rfl)) (fun _ _ _ h => h) (Or.inl ⟨by rfl, ?_⟩) ?_ ?_
                rotate_left
                · intro w'
                  go_simp
                  with_reducible rfl
                rotate_left
                · simp only [Act.put, List.setIfInBounds_toArray, List.set_cons_zero, List.set_cons_succ, i64_w, i32_w]
                  rfl
                refine done_ (done_of HT_.out (by kernel_rfl)) ?_
                try go_wp2
                go_ret
                exact ⟨by first | rfl | (simp [errW_none, errW_some] <;> rfl) | (simp [*, errW_none, errW_some] <;> rfl), by repeat (first | (with_reducible first | exact HB.out | apply below_alloc | apply pw_below_drewN | apply below_drew1) | exact HB.out)⟩
            · rw [if_neg c6] at H
              exact absurd H (by simp)
          · rw [if_neg c5] at H
            exact absurd H (by simp)
        · rw [if_neg c4] at H
          have c4b0 : decide (x5_1 < (l0.length : Int)) = false := decide_eq_false c4
          clear c4
          obtain rfl := Option.some.inj H
          go_wp2
          go_ret
          exact ⟨by first | rfl | (simp [errW_none, errW_some] <;> rfl) | (simp [*, errW_none, errW_some] <;> rfl), by repeat (first | (with_reducible first | exact HB.out | apply below_alloc | apply pw_below_drewN | apply below_drew1) | exact HB.out)⟩
  · rw [if_neg c3] at H
    have c3b0 : ((l0.length : Int) == (l1.length : Int)) = false := beq_eq_false_iff_ne.mpr c3
    have c3b1 : ((l0.length : Int) != (l1.length : Int)) = true := bne_iff_ne.mpr c3
    have c3b2 : (l0.length == l1.length) = false := by first | simpa using c3 | (simp at c3 ⊢; omega)
    obtain rfl := Option.some.inj H
    go_enter Try.func35, Try.ntmps35
    go_wp2
    go_ret
    exact ⟨by first | rfl | (simp [errW_none, errW_some] <;> rfl) | (simp [*, errW_none, errW_some] <;> rfl), by repeat (first | (with_reducible first | exact HB.out | apply below_alloc | apply pw_below_drewN | apply below_drew1) | exact HB.out)⟩
end Go.Proofs.Ytjcpkplneflleaa.Q
namespace Go.Proofs.Ytjcpkplneflleaa.Q
open Go.RowKit Go.Proofs.YtjcpkplneflleaaW.PrintWords Go.Proofs.YtjcpkplneflleaaW.PrintLast Go.Proofs.YtjcpkplneflleaaW.PrintMore
attribute [local go_sem] max2_int min2_int max_two min_two max_three min_three max_four min_four   -- for this text's walks alone
set_option linter.unusedVariables false
set_option linter.unusedSimpArgs false
def laws_eqBase.f (a0_0 : Int) (a0_1 : Int) (a1_0 : Int) (a1_1 : Int) : Option (Bool) := if a0_0 = a1_0 then (if a0_1 = a1_1 then (some true) else (some false)) else (some false)
set_option maxHeartbeats 8000000 in
set_option maxRecDepth 100000 in
theorem laws_eqBase.calls (a0_0 : Int) (a0_1 : Int) (a1_0 : Int) (a1_1 : Int) (r : Bool) (w : World) (h : laws_eqBase.f a0_0 a0_1 a1_0 a1_1 = some r) :
    Calls Try.prog 164 #[.agg #[.int .i64 a0_0, .int .i64 a0_1], .agg #[.int .i64 a1_0, .int .i64 a1_1]] w fun e w' => e = .returned (.bool r) ∧ Below w.heap.size w w' := by
  have hu115 := Try.underlying115
  have HB := Aside0.mk (Below.refl w.heap.size w)
  have H : (if a0_0 = a1_0 then (if a0_1 = a1_1 then (some true) else (some false)) else (some false)) = some r := h
  clear h
  by_cases c3 : a0_0 = a1_0
  · rw [if_pos c3] at H
    have c3b0 : (a0_0 == a1_0) = true := beq_iff_eq.mpr c3
    have c3b1 : (a0_0 != a1_0) = false := bne_eq_false_iff_eq.mpr c3
    clear c3
    by_cases c4 : a0_1 = a1_1
    · rw [if_pos c4] at H
      have c4b0 : (a0_1 == a1_1) = true := beq_iff_eq.mpr c4
      have c4b1 : (a0_1 != a1_1) = false := bne_eq_false_iff_eq.mpr c4
      clear c4
      obtain rfl := Option.some.inj H
      go_enter Try.func164, Try.ntmps164
      go_wp2_with (first | ((with_reducible refine gate_dst (N := 2) rfl ?_); refine box_event ?hg (N := 2) ?hd (cs := #[.int .i64 a0_0, .int .i64 a0_1]) (t := 115) ?hr ?_; (case hd => rfl); (case hg => rfl); (case hr => first | (go_simp; done) | (go_simp; rfl)); intro gb841 hg w5 hbox hb; have n0_ := Aside0.mk (below_step (by repeat (first | (with_reducible first | exact HB.out | apply below_alloc | apply pw_below_drewN | apply below_drew1) | exact HB.out)) hb); have n1_ := Aside0.mk (hbox); have n2_ := Aside0.mk ((by rw [hg]; exact (below_size (by repeat (first | (with_reducible first | exact HB.out | apply below_alloc | apply pw_below_drewN | apply below_drew1) | exact HB.out))) : w.heap.size ≤ gb841)); have n3_ := Aside0.mk ((by rw [hg]; exact (below_size (by repeat (first | (with_reducible first | exact HB.out | apply below_alloc | apply pw_below_drewN | apply below_drew1) | exact HB.out))) : w.heap.size ≤ gb841)); clear HB; have HB := n0_; have BK841 := n1_; have GW841 := n2_; have GE841 := n3_; clear n0_ n1_ n2_ n3_; clear hb hbox hg) | ((with_reducible refine gate_dst (N := 3) rfl ?_); refine box_event ?hg (N := 3) ?hd (cs := #[.int .i64 a1_0, .int .i64 a1_1]) (t := 115) ?hr ?_; (case hd => rfl); (case hg => rfl); (case hr => first | (go_simp; done) | (go_simp; rfl)); intro gb842 hg w6 hbox hb; have n0_ := Aside0.mk (blk_below (g := gb841) (o := .cells #[.int .i64 a0_0, .int .i64 a0_1] 115 (0, 0)) (by (with_reducible repeat (first | refine blk_drewN ?_ _ | refine blk_drew ?_ | refine blk_alloc ?_ _)); exact BK841.out) hb); have n1_ := Aside0.mk (below_step (by repeat (first | (with_reducible first | exact HB.out | apply below_alloc | apply pw_below_drewN | apply below_drew1 | refine below_set ?_ GE841.out) | exact HB.out)) hb); have n2_ := Aside0.mk (hbox); have n3_ := Aside0.mk ((by rw [hg]; exact (below_size (by repeat (first | (with_reducible first | exact HB.out | apply below_alloc | apply pw_below_drewN | apply below_drew1 | refine below_set ?_ GE841.out) | exact HB.out))) : w.heap.size ≤ gb842)); have n4_ := Aside0.mk ((by rw [hg]; exact (below_size (by repeat (first | (with_reducible first | exact HB.out | apply below_alloc | apply pw_below_drewN | apply below_drew1 | refine below_set ?_ GE841.out) | exact HB.out))) : w.heap.size ≤ gb842)); have n5_ := Aside0.mk ((by rw [hg]; exact Nat.ne_of_lt (blk_lt (g := gb841) (o := .cells #[.int .i64 a0_0, .int .i64 a0_1] 115 (0, 0)) (by (with_reducible repeat (first | refine blk_drewN ?_ _ | refine blk_drew ?_ | refine blk_alloc ?_ _)); exact BK841.out)) : gb841 ≠ gb842)); have n6_ := Aside0.mk ((by rw [hg]; exact Nat.ne_of_gt (blk_lt (g := gb841) (o := .cells #[.int .i64 a0_0, .int .i64 a0_1] 115 (0, 0)) (by (with_reducible repeat (first | refine blk_drewN ?_ _ | refine blk_drew ?_ | refine blk_alloc ?_ _)); exact BK841.out)) : gb842 ≠ gb841)); clear BK841; clear HB; have BK841 := n0_; have HB := n1_; have BK842 := n2_; have GW842 := n3_; have GE842 := n4_; have NB841_842 := n5_; have NB842_841 := n6_; clear n0_ n1_ n2_ n3_ n4_ n5_ n6_; clear hb hbox hg; have hnb7 := NB841_842.out; have hnc7 := NB842_841.out; have hcz8_0 : w6.cell? ⟨gb841, 0, none⟩ = some (.int .i64 a0_0) := (blk_cell BK841.out 0).trans rfl; have hcz8_1 : w6.cell? ⟨gb841, 1, none⟩ = some (.int .i64 a0_1) := (blk_cell BK841.out 1).trans rfl; have hfz8_0 := blk_frozen BK841.out 0; have hfz8_1 := blk_frozen BK841.out 1; have hcz9_0 : w6.cell? ⟨gb842, 0, none⟩ = some (.int .i64 a1_0) := (blk_cell BK842.out 0).trans rfl; have hcz9_1 : w6.cell? ⟨gb842, 1, none⟩ = some (.int .i64 a1_1) := (blk_cell BK842.out 1).trans rfl; have hfz9_0 := blk_frozen BK842.out 0; have hfz9_1 := blk_frozen BK842.out 1))
      go_ret
      exact ⟨by first | rfl | (simp [errW_none, errW_some] <;> rfl) | (simp [*, errW_none, errW_some] <;> rfl), by repeat (first | (with_reducible first | exact HB.out | apply below_alloc | apply pw_below_drewN | apply below_drew1 | refine below_set ?_ GE841.out | refine below_set ?_ GE842.out) | exact HB.out)⟩
    · rw [if_neg c4] at H
      have c4b0 : (a0_1 == a1_1) = false := beq_eq_false_iff_ne.mpr c4
      have c4b1 : (a0_1 != a1_1) = true := bne_iff_ne.mpr c4
      obtain rfl := Option.some.inj H
      go_enter Try.func164, Try.ntmps164
      go_wp2_with (first | ((with_reducible refine gate_dst (N := 2) rfl ?_); refine box_event ?hg (N := 2) ?hd (cs := #[.int .i64 a0_0, .int .i64 a0_1]) (t := 115) ?hr ?_; (case hd => rfl); (case hg => rfl); (case hr => first | (go_simp; done) | (go_simp; rfl)); intro gb841 hg w10 hbox hb; have n0_ := Aside0.mk (below_step (by repeat (first | (with_reducible first | exact HB.out | apply below_alloc | apply pw_below_drewN | apply below_drew1) | exact HB.out)) hb); have n1_ := Aside0.mk (hbox); have n2_ := Aside0.mk ((by rw [hg]; exact (below_size (by repeat (first | (with_reducible first | exact HB.out | apply below_alloc | apply pw_below_drewN | apply below_drew1) | exact HB.out))) : w.heap.size ≤ gb841)); have n3_ := Aside0.mk ((by rw [hg]; exact (below_size (by repeat (first | (with_reducible first | exact HB.out | apply below_alloc | apply pw_below_drewN | apply below_drew1) | exact HB.out))) : w.heap.size ≤ gb841)); clear HB; have HB := n0_; have BK841 := n1_; have GW841 := n2_; have GE841 := n3_; clear n0_ n1_ n2_ n3_; clear hb hbox hg) | ((with_reducible refine gate_dst (N := 3) rfl ?_); refine box_event ?hg (N := 3) ?hd (cs := #[.int .i64 a1_0, .int .i64 a1_1]) (t := 115) ?hr ?_; (case hd => rfl); (case hg => rfl); (case hr => first | (go_simp; done) | (go_simp; rfl)); intro gb842 hg w11 hbox hb; have n0_ := Aside0.mk (blk_below (g := gb841) (o := .cells #[.int .i64 a0_0, .int .i64 a0_1] 115 (0, 0)) (by (with_reducible repeat (first | refine blk_drewN ?_ _ | refine blk_drew ?_ | refine blk_alloc ?_ _)); exact BK841.out) hb); have n1_ := Aside0.mk (below_step (by repeat (first | (with_reducible first | exact HB.out | apply below_alloc | apply pw_below_drewN | apply below_drew1 | refine below_set ?_ GE841.out) | exact HB.out)) hb); have n2_ := Aside0.mk (hbox); have n3_ := Aside0.mk ((by rw [hg]; exact (below_size (by repeat (first | (with_reducible first | exact HB.out | apply below_alloc | apply pw_below_drewN | apply below_drew1 | refine below_set ?_ GE841.out) | exact HB.out))) : w.heap.size ≤ gb842)); have n4_ := Aside0.mk ((by rw [hg]; exact (below_size (by repeat (first | (with_reducible first | exact HB.out | apply below_alloc | apply pw_below_drewN | apply below_drew1 | refine below_set ?_ GE841.out) | exact HB.out))) : w.heap.size ≤ gb842)); have n5_ := Aside0.mk ((by rw [hg]; exact Nat.ne_of_lt (blk_lt (g := gb841) (o := .cells #[.int .i64 a0_0, .int .i64 a0_1] 115 (0, 0)) (by (with_reducible repeat (first | refine blk_drewN ?_ _ | refine blk_drew ?_ | refine blk_alloc ?_ _)); exact BK841.out)) : gb841 ≠ gb842)); have n6_ := Aside0.mk ((by rw [hg]; exact Nat.ne_of_gt (blk_lt (g := gb841) (o := .cells #[.int .i64 a0_0, .int .i64 a0_1] 115 (0, 0)) (by (with_reducible repeat (first | refine blk_drewN ?_ _ | refine blk_drew ?_ | refine blk_alloc ?_ _)); exact BK841.out)) : gb842 ≠ gb841)); clear BK841; clear HB; have BK841 := n0_; have HB := n1_; have BK842 := n2_; have GW842 := n3_; have GE842 := n4_; have NB841_842 := n5_; have NB842_841 := n6_; clear n0_ n1_ n2_ n3_ n4_ n5_ n6_; clear hb hbox hg; have hnb12 := NB841_842.out; have hnc12 := NB842_841.out; have hcz13_0 : w11.cell? ⟨gb841, 0, none⟩ = some (.int .i64 a0_0) := (blk_cell BK841.out 0).trans rfl; have hcz13_1 : w11.cell? ⟨gb841, 1, none⟩ = some (.int .i64 a0_1) := (blk_cell BK841.out 1).trans rfl; have hfz13_0 := blk_frozen BK841.out 0; have hfz13_1 := blk_frozen BK841.out 1; have hcz14_0 : w11.cell? ⟨gb842, 0, none⟩ = some (.int .i64 a1_0) := (blk_cell BK842.out 0).trans rfl; have hcz14_1 : w11.cell? ⟨gb842, 1, none⟩ = some (.int .i64 a1_1) := (blk_cell BK842.out 1).trans rfl; have hfz14_0 := blk_frozen BK842.out 0; have hfz14_1 := blk_frozen BK842.out 1))
      go_ret
      exact ⟨by first | rfl | (simp [errW_none, errW_some] <;> rfl) | (simp [*, errW_none, errW_some] <;> rfl), by repeat (first | (with_reducible first | exact HB.out | apply below_alloc | apply pw_below_drewN | apply below_drew1 | refine below_set ?_ GE841.out | refine below_set ?_ GE842.out) | exact HB.out)⟩
  · rw [if_neg c3] at H
    have c3b0 : (a0_0 == a1_0) = false := beq_eq_false_iff_ne.mpr c3
    have c3b1 : (a0_0 != a1_0) = true := bne_iff_ne.mpr c3
    obtain rfl := Option.some.inj H
    go_enter Try.func164, Try.ntmps164
    go_wp2_with (first | ((with_reducible refine gate_dst (N := 2) rfl ?_); refine box_event ?hg (N := 2) ?hd (cs := #[.int .i64 a0_0, .int .i64 a0_1]) (t := 115) ?hr ?_; (case hd => rfl); (case hg => rfl); (case hr => first | (go_simp; done) | (go_simp; rfl)); intro gb841 hg w15 hbox hb; have n0_ := Aside0.mk (below_step (by repeat (first | (with_reducible first | exact HB.out | apply below_alloc | apply pw_below_drewN | apply below_drew1) | exact HB.out)) hb); have n1_ := Aside0.mk (hbox); have n2_ := Aside0.mk ((by rw [hg]; exact (below_size (by repeat (first | (with_reducible first | exact HB.out | apply below_alloc | apply pw_below_drewN | apply below_drew1) | exact HB.out))) : w.heap.size ≤ gb841)); have n3_ := Aside0.mk ((by rw [hg]; exact (below_size (by repeat (first | (with_reducible first | exact HB.out | apply below_alloc | apply pw_below_drewN | apply below_drew1) | exact HB.out))) : w.heap.size ≤ gb841)); clear HB; have HB := n0_; have BK841 := n1_; have GW841 := n2_; have GE841 := n3_; clear n0_ n1_ n2_ n3_; clear hb hbox hg) | ((with_reducible refine gate_dst (N := 3) rfl ?_); refine box_event ?hg (N := 3) ?hd (cs := #[.int .i64 a1_0, .int .i64 a1_1]) (t := 115) ?hr ?_; (case hd => rfl); (case hg => rfl); (case hr => first | (go_simp; done) | (go_simp; rfl)); intro gb842 hg w16 hbox hb; have n0_ := Aside0.mk (blk_below (g := gb841) (o := .cells #[.int .i64 a0_0, .int .i64 a0_1] 115 (0, 0)) (by (with_reducible repeat (first | refine blk_drewN ?_ _ | refine blk_drew ?_ | refine blk_alloc ?_ _)); exact BK841.out) hb); have n1_ := Aside0.mk (below_step (by repeat (first | (with_reducible first | exact HB.out | apply below_alloc | apply pw_below_drewN | apply below_drew1 | refine below_set ?_ GE841.out) | exact HB.out)) hb); have n2_ := Aside0.mk (hbox); have n3_ := Aside0.mk ((by rw [hg]; exact (below_size (by repeat (first | (with_reducible first | exact HB.out | apply below_alloc | apply pw_below_drewN | apply below_drew1 | refine below_set ?_ GE841.out) | exact HB.out))) : w.heap.size ≤ gb842)); have n4_ := Aside0.mk ((by rw [hg]; exact (below_size (by repeat (first | (with_reducible first | exact HB.out | apply below_alloc | apply pw_below_drewN | apply below_drew1 | refine below_set ?_ GE841.out) | exact HB.out))) : w.heap.size ≤ gb842)); have n5_ := Aside0.mk ((by rw [hg]; exact Nat.ne_of_lt (blk_lt (g := gb841) (o := .cells #[.int .i64 a0_0, .int .i64 a0_1] 115 (0, 0)) (by (with_reducible repeat (first | refine blk_drewN ?_ _ | refine blk_drew ?_ | refine blk_alloc ?_ _)); exact BK841.out)) : gb841 ≠ gb842)); have n6_ := Aside0.mk ((by rw [hg]; exact Nat.ne_of_gt (blk_lt (g := gb841) (o := .cells #[.int .i64 a0_0, .int .i64 a0_1] 115 (0, 0)) (by (with_reducible repeat (first | refine blk_drewN ?_ _ | refine blk_drew ?_ | refine blk_alloc ?_ _)); exact BK841.out)) : gb842 ≠ gb841)); clear BK841; clear HB; have BK841 := n0_; have HB := n1_; have BK842 := n2_; have GW842 := n3_; have GE842 := n4_; have NB841_842 := n5_; have NB842_841 := n6_; clear n0_ n1_ n2_ n3_ n4_ n5_ n6_; clear hb hbox hg; have hnb17 := NB841_842.out; have hnc17 := NB842_841.out; have hcz18_0 : w16.cell? ⟨gb841, 0, none⟩ = some (.int .i64 a0_0) := (blk_cell BK841.out 0).trans rfl; have hcz18_1 : w16.cell? ⟨gb841, 1, none⟩ = some (.int .i64 a0_1) := (blk_cell BK841.out 1).trans rfl; have hfz18_0 := blk_frozen BK841.out 0; have hfz18_1 := blk_frozen BK841.out 1; have hcz19_0 : w16.cell? ⟨gb842, 0, none⟩ = some (.int .i64 a1_0) := (blk_cell BK842.out 0).trans rfl; have hcz19_1 : w16.cell? ⟨gb842, 1, none⟩ = some (.int .i64 a1_1) := (blk_cell BK842.out 1).trans rfl; have hfz19_0 := blk_frozen BK842.out 0; have hfz19_1 := blk_frozen BK842.out 1))
    go_ret
    exact ⟨by first | rfl | (simp [errW_none, errW_some] <;> rfl) | (simp [*, errW_none, errW_some] <;> rfl), by repeat (first | (with_reducible first | exact HB.out | apply below_alloc | apply pw_below_drewN | apply below_drew1 | refine below_set ?_ GE841.out | refine below_set ?_ GE842.out) | exact HB.out)⟩
end Go.Proofs.Ytjcpkplneflleaa.Q
namespace Go.Proofs.Ytjcpkplneflleaa.Q
open Go.RowKit Go.Proofs.YtjcpkplneflleaaW.PrintWords Go.Proofs.YtjcpkplneflleaaW.PrintLast Go.Proofs.YtjcpkplneflleaaW.PrintMore
attribute [local go_sem] max2_int min2_int max_two min_two max_three min_three max_four min_four   -- for this text's walks alone
set_option linter.unusedVariables false
set_option linter.unusedSimpArgs false
def laws_eqBaseS.l0 : Nat → List (S115) → List (S115) → Int → Option (Bool)
  | 0, _, _, _ => none
  | k + 1, x0, x1, x5 => if x5 < (x0.length : Int) then (if 0 ≤ x5 then (if x5 < (x1.length : Int) then ((laws_eqBase.f ((rd_T115 x0 x5).f0) ((rd_T115 x0 x5).f1) ((rd_T115 x1 x5).f0) ((rd_T115 x1 x5).f1)).bind fun t845 => (if t845 = true then (laws_eqBaseS.l0 k x0 x1 (wrap64 (x5 + 1))) else (some false))) else (none)) else (none)) else (some true)
def laws_eqBaseS.f (k : Nat) (l0 : List (S115)) (l1 : List (S115)) : Option (Bool) := if (l0.length : Int) = (l1.length : Int) then (laws_eqBaseS.l0 k l0 l1 0) else (some false)
def laws_eqBaseS.T6 : Bool × List (List Nat × List Nat) := (true, [([], []), ([], []), ([0, 1], [0, 1]), ([2], [2]), ([], []), ([], []), ([4, 5], [4, 5]), ([6], [6]), ([3, 7], [3, 7]), ([8], [8])])
def laws_eqBaseS.B6 : List Nat := [0, 0, 3, 7, 0, 0, 48, 112, 255, 511]
theorem laws_eqBaseS.tab6 : rtab .any (opsOf Try.f118 6) = laws_eqBaseS.T6 := by kernel_rfl
theorem laws_eqBaseS.bits6 : waitsOk laws_eqBaseS.T6.2 laws_eqBaseS.B6 = true := by kernel_rfl
set_option maxHeartbeats 8000000 in
set_option maxRecDepth 100000 in
theorem laws_eqBaseS.calls (k : Nat) (A0 : Option Addr) (c0 : Nat) (l0 : List (S115)) (A1 : Option Addr) (c1 : Nat) (l1 : List (S115)) (r : Bool) (w : World) (hr0 : Kd.C k115 w A0 l0.length l0) (hc0 : l0.length ≤ c0) (hr1 : Kd.C k115 w A1 l1.length l1) (hc1 : l1.length ≤ c1) (h : laws_eqBaseS.f k l0 l1 = some r) :
    Calls Try.prog 118 #[.slice A0 l0.length c0, .slice A1 l1.length c1] w fun e w' => e = .returned (.bool r) ∧ Below w.heap.size w w' := by
  have hu115 := Try.underlying115
  have HR0 := Aside0.mk hr0
  have HC0 := Aside0.mk hc0
  clear hr0 hc0
  have HR1 := Aside0.mk hr1
  have HC1 := Aside0.mk hc1
  clear hr1 hc1
  have HB := Aside0.mk (Below.refl w.heap.size w)
  have H : (if (l0.length : Int) = (l1.length : Int) then (laws_eqBaseS.l0 k l0 l1 0) else (some false)) = some r := h
  clear h
  by_cases c3 : (l0.length : Int) = (l1.length : Int)
  · rw [if_pos c3] at H
    have c3b0 : ((l0.length : Int) == (l1.length : Int)) = true := beq_iff_eq.mpr c3
    have c3b1 : ((l0.length : Int) != (l1.length : Int)) = false := bne_eq_false_iff_eq.mpr c3
    have c3b2 : (l0.length == l1.length) = true := by first | simpa using c3 | (simp at c3 ⊢; omega)
    clear c3
    have H' := Aside0.mk H
    clear H
    go_enter Try.func118, Try.ntmps118
    go_wp2
    go_loopg [5] k (fun kq v5 w' => ∃ (x5_1 : Int), v5 = .int .i64 x5_1 ∧ Aside0 (laws_eqBaseS.l0 kq l0 l1 x5_1 = some r) ∧ Aside0 (kq ≤ k) ∧ Aside0 (Below w.heap.size w w'))
    case atStart => exact ⟨(0), (by first | rfl | (simp; done) | (simp [*]; done)), H', ⟨Nat.le_refl _⟩, ⟨by repeat (first | (with_reducible first | exact HB.out | apply below_alloc | apply pw_below_drewN | apply below_drew1) | exact HB.out)⟩⟩
    case round =>
      clear H'
      try clear c1
      try clear p2
      try clear c3
      try clear c3b0
      try clear c3b1
      try clear c3b2
      obtain ⟨x5_1, rfl, HA, HK1, HB⟩ := hrel
      cases gk with
      | zero => exact absurd HA.out (by simp [laws_eqBaseS.l0])
      | succ k1 =>
        have H := HA.out
        clear HA
        simp only [laws_eqBaseS.l0] at H
        by_cases c4 : x5_1 < (l0.length : Int)
        · rw [if_pos c4] at H
          have c4b0 : decide (x5_1 < (l0.length : Int)) = true := decide_eq_true c4
          clear c4
          by_cases c5 : 0 ≤ x5_1
          · rw [if_pos c5] at H
            have c5b0 : decide (0 ≤ x5_1) = true := decide_eq_true c5
            clear c5
            by_cases c6 : x5_1 < (l1.length : Int)
            · rw [if_pos c6] at H
              have c6b0 : decide (x5_1 < (l1.length : Int)) = true := decide_eq_true c6
              clear c6
              replace H := Option.bind_eq_some_iff.mp H
              obtain ⟨t845, A70, H⟩ := H
              replace H : (if t845 = true then (laws_eqBaseS.l0 k1 l0 l1 (wrap64 (x5_1 + 1))) else (some false)) = some r := H
              have A7 := Aside0.mk A70
              clear A70
              by_cases c8 : t845 = true
              · subst c8
                have H1 : (laws_eqBaseS.l0 k1 l0 l1 (wrap64 (x5_1 + 1))) = some r := by rw [if_pos rfl] at H; exact H
                clear H
                have H := H1
                clear H1
                have H' := Aside0.mk H
                clear H
                try go_wp2
                have n0_ := Aside0.mk (below_drew1 HB.out)
                clear HB
                have HB := n0_
                clear n0_
                have p843 : 0 ≤ (x5_1 : Int) := of_decide_eq_true (by first | (with_reducible assumption) | assumption)
                have q843 : x5_1 < (l0.length : Int) := of_decide_eq_true (by first | (with_reducible assumption) | assumption)
                obtain ⟨ad843, e843, hx843_0, hx843_1⟩ := at_T115 HR0.out x5_1 p843 q843
                have hw843_1 := hx843_1
                have hw843_0 := hx843_0
                cases e843
                replace hx843_0 := (HB.out.cell (World.block_lt_of_cell? w _ hx843_0)).trans hx843_0
                replace hx843_1 := (HB.out.cell (World.block_lt_of_cell? w _ hx843_1)).trans hx843_1
                replace p843 := eq_true p843
                replace q843 := eq_true q843
                have p844 : 0 ≤ (x5_1 : Int) := of_decide_eq_true (by first | (with_reducible assumption) | assumption)
                have q844 : x5_1 < (l1.length : Int) := of_decide_eq_true (by first | (with_reducible assumption) | assumption)
                obtain ⟨ad844, e844, hx844_0, hx844_1⟩ := at_T115 HR1.out x5_1 p844 q844
                have hw844_1 := hx844_1
                have hw844_0 := hx844_0
                cases e844
                replace hx844_0 := (HB.out.cell (World.block_lt_of_cell? w _ hx844_0)).trans hx844_0
                replace hx844_1 := (HB.out.cell (World.block_lt_of_cell? w _ hx844_1)).trans hx844_1
                replace p844 := eq_true p844
                replace q844 := eq_true q844
                refine start_ (n := 10) (S := fun w' => w'.cell? (ad843.add ((x5_1).toNat * 2)) = some (.int .i64 ((rd_T115 l0 x5_1).f0)) ∧ w'.cell? ⟨(ad843.add ((x5_1).toNat * 2)).block, (ad843.add ((x5_1).toNat * 2)).off + 1, none⟩ = some (.int .i64 ((rd_T115 l0 x5_1).f1)) ∧ w'.cell? (ad844.add ((x5_1).toNat * 2)) = some (.int .i64 ((rd_T115 l1 x5_1).f0)) ∧ w'.cell? ⟨(ad844.add ((x5_1).toNat * 2)).block, (ad844.add ((x5_1).toNat * 2)).off + 1, none⟩ = some (.int .i64 ((rd_T115 l1 x5_1).f1))) (ds := []) #[false, false, false, false, false, false, false, false, false, false] (by kernel_rfl) rfl rfl ⟨((HB.out.cell (World.block_lt_of_cell? w _ hw843_0)).trans hw843_0), ((HB.out.cell (World.block_lt_of_cell? w _ hw843_1)).trans hw843_1), ((HB.out.cell (World.block_lt_of_cell? w _ hw844_0)).trans hw844_0), ((HB.out.cell (World.block_lt_of_cell? w _ hw844_1)).trans hw844_1)⟩ (fun hHeld => ?_); refine with_tabW laws_eqBaseS.tab6 laws_eqBaseS.bits6 (fun HT_ HW_ => ?_)
                generalize wr.drew = w9 at HB hx843_0 hx843_1 hx844_0 hx844_1 hHeld ⊢
                refine pure_ (i := 0) (N := some 17) (v := ?_) (a' := ?_) #[true, false, false, false, false, false, false, false, false, false] rfl rfl (any_of HT_.out (by kernel_rfl)) (fun _ _ _ h => h) (Or.inl ⟨by rfl, ?_⟩) ?_ ?_
                rotate_left
                · intro w'
                  go_simp
                  with_reducible rfl
                rotate_left
                · simp only [Act.put, List.setIfInBounds_toArray, List.set_cons_zero, List.set_cons_succ, i64_w, i32_w]
                  rfl
                refine pure_ (i := 1) (N := some 18) (v := ?_) (a' := ?_) #[true, true, false, false, false, false, false, false, false, false] rfl rfl (any_of HT_.out (by kernel_rfl)) (fun _ _ _ h => h) (Or.inl ⟨by rfl, ?_⟩) ?_ ?_
                rotate_left
                · intro w'
                  go_simp
                  with_reducible rfl
                rotate_left
                · simp only [Act.put, List.setIfInBounds_toArray, List.set_cons_zero, List.set_cons_succ, i64_w, i32_w]
                  rfl
                refine pure_ (i := 2) (N := some 19) (v := ?_) (a' := ?_) #[true, true, true, false, false, false, false, false, false, false] rfl rfl (any_of HT_.out (by kernel_rfl)) (fun _ _ _ h => h) (Or.inl ⟨by rfl, ?_⟩) ?_ ?_
                rotate_left
                · intro w'
                  go_simp
                  with_reducible rfl
                rotate_left
                · simp only [Act.put, List.setIfInBounds_toArray, List.set_cons_zero, List.set_cons_succ, i64_w, i32_w]
                  rfl
                refine pure_ (i := 4) (N := some 21) (v := ?_) (a' := ?_) #[true, true, true, false, true, false, false, false, false, false] rfl rfl (any_of HT_.out (by kernel_rfl)) (fun _ _ _ h => h) (Or.inl ⟨by rfl, ?_⟩) ?_ ?_
                rotate_left
                · intro w'
                  go_simp
                  with_reducible rfl
                rotate_left
                · simp only [Act.put, List.setIfInBounds_toArray, List.set_cons_zero, List.set_cons_succ, i64_w, i32_w]
                  rfl
                refine pure_ (i := 5) (N := some 22) (v := ?_) (a' := ?_) #[true, true, true, false, true, true, false, false, false, false] rfl rfl (any_of HT_.out (by kernel_rfl)) (fun _ _ _ h => h) (Or.inl ⟨by rfl, ?_⟩) ?_ ?_
                rotate_left
                · intro w'
                  go_simp
                  with_reducible rfl
                rotate_left
                · simp only [Act.put, List.setIfInBounds_toArray, List.set_cons_zero, List.set_cons_succ, i64_w, i32_w]
                  rfl
                refine pure_ (i := 6) (N := some 23) (v := ?_) (a' := ?_) #[true, true, true, false, true, true, true, false, false, false] rfl rfl (any_of HT_.out (by kernel_rfl)) (fun _ _ _ h => h) (Or.inl ⟨by rfl, ?_⟩) ?_ ?_
                rotate_left
                · intro w'
                  go_simp
                  with_reducible rfl
                rotate_left
                · simp only [Act.put, List.setIfInBounds_toArray, List.set_cons_zero, List.set_cons_succ, i64_w, i32_w]
                  rfl
                refine take_ (i := 3) (N := some 20) (v := ?_) (a' := ?_) #[true, true, true, true, true, true, true, false, false, false] rfl rfl (take_ofW HT_.out HW_.out (by kernel_rfl)) (fun _ _ _ h => h) (Or.inl ⟨by rfl, ?_⟩) hHeld ?_ ?_
                rotate_left
                · rintro w' ⟨s0, s1, s2, s3⟩
                  go_simp
                  with_reducible rfl
                rotate_left
                · simp only [Act.put, List.setIfInBounds_toArray, List.set_cons_zero, List.set_cons_succ, i64_w, i32_w]
                  rfl
                refine take_ (i := 7) (N := some 24) (v := ?_) (a' := ?_) #[true, true, true, true, true, true, true, true, false, false] rfl rfl (take_ofW HT_.out HW_.out (by kernel_rfl)) (fun _ _ _ h => h) (Or.inl ⟨by rfl, ?_⟩) hHeld ?_ ?_
                rotate_left
                · rintro w' ⟨s0, s1, s2, s3⟩
                  go_simp
                  with_reducible rfl
                rotate_left
                · simp only [Act.put, List.setIfInBounds_toArray, List.set_cons_zero, List.set_cons_succ, i64_w, i32_w]
                  rfl
                refine one_ (i := 8) (N := some 25) #[true, true, true, true, true, true, true, true, true, false] rfl rfl (one_of HT_.out (by kernel_rfl)) (by decide) (fun K hK => ?_)
                refine goes_ Try.func164 (by kernel_rfl) rfl #[.agg #[.int .i64 ((rd_T115 l0 x5_1).f0), .int .i64 ((rd_T115 l0 x5_1).f1)], .agg #[.int .i64 ((rd_T115 l1 x5_1).f0), .int .i64 ((rd_T115 l1 x5_1).f1)]] (by rfl) rfl rfl (by (try simp only [List.map_toArray, List.map_cons, List.map_nil]); first | done | rfl | (simp only [List.length_drop, List.length_take]; rfl)) ?_
                with_reducible refine (laws_eqBase.calls ((rd_T115 l0 x5_1).f0) ((rd_T115 l0 x5_1).f1) ((rd_T115 l1 x5_1).f0) ((rd_T115 l1 x5_1).f1) true _ A7.out).mono ?_
                rintro e w10 ⟨rfl, hb⟩
                refine ⟨_, rfl, ?_⟩
                have n0_ := Aside0.mk (below_step (by repeat (first | (with_reducible first | exact HB.out | apply below_alloc | apply pw_below_drewN | apply below_drew1) | exact HB.out)) hb)
                clear HB
                have HB := n0_
                clear n0_
                (try clear hb)
                (try clear hb2)
                (try clear hk)
                (try clear hi)
                refine hK.out _ _ ⟨((HB.out.cell (World.block_lt_of_cell? w _ hw843_0)).trans hw843_0), ((HB.out.cell (World.block_lt_of_cell? w _ hw843_1)).trans hw843_1), ((HB.out.cell (World.block_lt_of_cell? w _ hw844_0)).trans hw844_0), ((HB.out.cell (World.block_lt_of_cell? w _ hw844_1)).trans hw844_1)⟩ (fun hHeld => ?_)
                clear hK K
                refine norm_ (a' := ?_) ?_ ?_
                rotate_left
                · show Act.put _ (some 25) _ = _
                  simp only [Act.put, List.setIfInBounds_toArray, List.set_cons_zero, List.set_cons_succ, i64_w, i32_w]
                  rfl
                refine pure_ (i := 9) (N := some 26) (v := ?_) (a' := ?_) #[true, true, true, true, true, true, true, true, true, true] rfl rfl (any_of HT_.out (by kernel_rfl)) (fun _ _ _ h => h) (Or.inl ⟨by rfl, ?_⟩) ?_ ?_
                rotate_left
                · intro w'
                  go_simp
                  with_reducible rfl
                rotate_left
                · simp only [Act.put, List.setIfInBounds_toArray, List.set_cons_zero, List.set_cons_succ, i64_w, i32_w]
                  rfl
                refine done_ (done_of HT_.out (by kernel_rfl)) ?_
                try go_wp2
                go_roundg k1
                case measure => have := HK1.out; omega
                case rel => exact ⟨(wrap64 (x5_1 + 1)), (by first | rfl | (simp; done) | (simp [*]; done)), H', ⟨by have := HK1.out; omega⟩, ⟨by repeat (first | (with_reducible first | exact HB.out | apply below_alloc | apply pw_below_drewN | apply below_drew1) | exact HB.out)⟩⟩
              · replace c8 := Bool.eq_false_iff.mpr c8
                subst c8
                have H1 : (some false) = some r := by rw [if_neg (show ¬ (false = true) by decide)] at H; exact H
                clear H
                have H := H1
                clear H1
                obtain rfl := Option.some.inj H
                try go_wp2
                have n0_ := Aside0.mk (below_drew1 HB.out)
                clear HB
                have HB := n0_
                clear n0_
                have p843 : 0 ≤ (x5_1 : Int) := of_decide_eq_true (by first | (with_reducible assumption) | assumption)
                have q843 : x5_1 < (l0.length : Int) := of_decide_eq_true (by first | (with_reducible assumption) | assumption)
                obtain ⟨ad843, e843, hx843_0, hx843_1⟩ := at_T115 HR0.out x5_1 p843 q843
                have hw843_1 := hx843_1
                have hw843_0 := hx843_0
                cases e843
                replace hx843_0 := (HB.out.cell (World.block_lt_of_cell? w _ hx843_0)).trans hx843_0
                replace hx843_1 := (HB.out.cell (World.block_lt_of_cell? w _ hx843_1)).trans hx843_1
                replace p843 := eq_true p843
                replace q843 := eq_true q843
                have p844 : 0 ≤ (x5_1 : Int) := of_decide_eq_true (by first | (with_reducible assumption) | assumption)
                have q844 : x5_1 < (l1.length : Int) := of_decide_eq_true (by first | (with_reducible assumption) | assumption)
                obtain ⟨ad844, e844, hx844_0, hx844_1⟩ := at_T115 HR1.out x5_1 p844 q844
                have hw844_1 := hx844_1
                have hw844_0 := hx844_0
                cases e844
                replace hx844_0 := (HB.out.cell (World.block_lt_of_cell? w _ hx844_0)).trans hx844_0
                replace hx844_1 := (HB.out.cell (World.block_lt_of_cell? w _ hx844_1)).trans hx844_1
                replace p844 := eq_true p844
                replace q844 := eq_true q844
                refine start_ (n := 10) (S := fun w' => w'.cell? (ad843.add ((x5_1).toNat * 2)) = some (.int .i64 ((rd_T115 l0 x5_1).f0)) ∧ w'.cell? ⟨(ad843.add ((x5_1).toNat * 2)).block, (ad843.add ((x5_1).toNat * 2)).off + 1, none⟩ = some (.int .i64 ((rd_T115 l0 x5_1).f1)) ∧ w'.cell? (ad844.add ((x5_1).toNat * 2)) = some (.int .i64 ((rd_T115 l1 x5_1).f0)) ∧ w'.cell? ⟨(ad844.add ((x5_1).toNat * 2)).block, (ad844.add ((x5_1).toNat * 2)).off + 1, none⟩ = some (.int .i64 ((rd_T115 l1 x5_1).f1))) (ds := []) #[false, false, false, false, false, false, false, false, false, false] (by kernel_rfl) rfl rfl ⟨((HB.out.cell (World.block_lt_of_cell? w _ hw843_0)).trans hw843_0), ((HB.out.cell (World.block_lt_of_cell? w _ hw843_1)).trans hw843_1), ((HB.out.cell (World.block_lt_of_cell? w _ hw844_0)).trans hw844_0), ((HB.out.cell (World.block_lt_of_cell? w _ hw844_1)).trans hw844_1)⟩ (fun hHeld => ?_); refine with_tabW laws_eqBaseS.tab6 laws_eqBaseS.bits6 (fun HT_ HW_ => ?_)
                generalize wr.drew = w11 at HB hx843_0 hx843_1 hx844_0 hx844_1 hHeld ⊢
                refine pure_ (i := 0) (N := some 17) (v := ?_) (a' := ?_) #[true, false, false, false, false, false, false, false, false, false] rfl rfl (any_of HT_.out (by kernel_rfl)) (fun _ _ _ h => h) (Or.inl ⟨by rfl, ?_⟩) ?_ ?_
                rotate_left
                · intro w'
                  go_simp
                  with_reducible rfl
                rotate_left
                · simp only [Act.put, List.setIfInBounds_toArray, List.set_cons_zero, List.set_cons_succ, i64_w, i32_w]
                  rfl
                refine pure_ (i := 1) (N := some 18) (v := ?_) (a' := ?_) #[true, true, false, false, false, false, false, false, false, false] rfl rfl (any_of HT_.out (by kernel_rfl)) (fun _ _ _ h => h) (Or.inl ⟨by rfl, ?_⟩) ?_ ?_
                rotate_left
                · intro w'
                  go_simp
                  with_reducible rfl
                rotate_left
                · simp only [Act.put, List.setIfInBounds_toArray, List.set_cons_zero, List.set_cons_succ, i64_w, i32_w]
                  rfl
                refine pure_ (i := 2) (N := some 19) (v := ?_) (a' := ?_) #[true, true, true, false, false, false, false, false, false, false] rfl rfl (any_of HT_.out (by kernel_rfl)) (fun _ _ _ h => h) (Or.inl ⟨by rfl, ?_⟩) ?_ ?_
                rotate_left
                · intro w'
                  go_simp
                  with_reducible rfl
                rotate_left
                · simp only [Act.put, List.setIfInBounds_toArray, List.set_cons_zero, List.set_cons_succ, i64_w, i32_w]
                  rfl
                refine pure_ (i := 4) (N := some 21) (v := ?_) (a' := ?_) #[true, true, true, false, true, false, false, false, false, false] rfl rfl (any_of HT_.out (by kernel_rfl)) (fun _ _ _ h => h) (Or.inl ⟨by rfl, ?_⟩) ?_ ?_
                rotate_left
                · intro w'
                  go_simp
                  with_reducible rfl
                rotate_left
                · simp only [Act.put, List.setIfInBounds_toArray, List.set_cons_zero, List.set_cons_succ, i64_w, i32_w]
                  rfl
                refine pure_ (i := 5) (N := some 22) (v := ?_) (a' := ?_) #[true, true, true, false, true, true, false, false, false, false] rfl rfl (any_of HT_.out (by kernel_rfl)) (fun _ _ _ h => h) (Or.inl ⟨by rfl, ?_⟩) ?_ ?_
                rotate_left
                · intro w'
                  go_simp
                  with_reducible rfl
                rotate_left
                · simp only [Act.put, List.setIfInBounds_toArray, List.set_cons_zero, List.set_cons_succ, i64_w, i32_w]
                  rfl
                refine pure_ (i := 6) (N := some 23) (v := ?_) (a' := ?_) #[true, true, true, false, true, true, true, false, false, false] rfl rfl (any_of HT_.out (by kernel_rfl)) (fun _ _ _ h => h) (Or.inl ⟨by rfl, ?_⟩) ?_ ?_
                rotate_left
                · intro w'
                  go_simp
                  with_reducible rfl
                rotate_left
                · simp only [Act.put, List.setIfInBounds_toArray, List.set_cons_zero, List.set_cons_succ, i64_w, i32_w]
                  rfl
                refine take_ (i := 3) (N := some 20) (v := ?_) (a' := ?_) #[true, true, true, true, true, true, true, false, false, false] rfl rfl (take_ofW HT_.out HW_.out (by kernel_rfl)) (fun _ _ _ h => h) (Or.inl ⟨by rfl, ?_⟩) hHeld ?_ ?_
                rotate_left
                · rintro w' ⟨s0, s1, s2, s3⟩
                  go_simp
                  with_reducible rfl
                rotate_left
                · simp only [Act.put, List.setIfInBounds_toArray, List.set_cons_zero, List.set_cons_succ, i64_w, i32_w]
                  rfl
                refine take_ (i := 7) (N := some 24) (v := ?_) (a' := ?_) #[true, true, true, true, true, true, true, true, false, false] rfl rfl (take_ofW HT_.out HW_.out (by kernel_rfl)) (fun _ _ _ h => h) (Or.inl ⟨by rfl, ?_⟩) hHeld ?_ ?_
                rotate_left
                · rintro w' ⟨s0, s1, s2, s3⟩
                  go_simp
                  with_reducible rfl
                rotate_left
                · simp only [Act.put, List.setIfInBounds_toArray, List.set_cons_zero, List.set_cons_succ, i64_w, i32_w]
                  rfl
                refine one_ (i := 8) (N := some 25) #[true, true, true, true, true, true, true, true, true, false] rfl rfl (one_of HT_.out (by kernel_rfl)) (by decide) (fun K hK => ?_)
                refine goes_ Try.func164 (by kernel_rfl) rfl #[.agg #[.int .i64 ((rd_T115 l0 x5_1).f0), .int .i64 ((rd_T115 l0 x5_1).f1)], .agg #[.int .i64 ((rd_T115 l1 x5_1).f0), .int .i64 ((rd_T115 l1 x5_1).f1)]] (by rfl) rfl rfl (by (try simp only [List.map_toArray, List.map_cons, List.map_nil]); first | done | rfl | (simp only [List.length_drop, List.length_take]; rfl)) ?_
                with_reducible refine (laws_eqBase.calls ((rd_T115 l0 x5_1).f0) ((rd_T115 l0 x5_1).f1) ((rd_T115 l1 x5_1).f0) ((rd_T115 l1 x5_1).f1) false _ A7.out).mono ?_
                rintro e w12 ⟨rfl, hb⟩
                refine ⟨_, rfl, ?_⟩
                have n0_ := Aside0.mk (below_step (by repeat (first | (with_reducible first | exact HB.out | apply below_alloc | apply pw_below_drewN | apply below_drew1) | exact HB.out)) hb)
                clear HB
                have HB := n0_
                clear n0_
                (try clear hb)
                (try clear hb2)
                (try clear hk)
                (try clear hi)
                refine hK.out _ _ ⟨((HB.out.cell (World.block_lt_of_cell? w _ hw843_0)).trans hw843_0), ((HB.out.cell (World.block_lt_of_cell? w _ hw843_1)).trans hw843_1), ((HB.out.cell (World.block_lt_of_cell? w _ hw844_0)).trans hw844_0), ((HB.out.cell (World.block_lt_of_cell? w _ hw844_1)).trans hw844_1)⟩ (fun hHeld => ?_)
                clear hK K
                refine norm_ (a' := ?_) ?_ ?_
                rotate_left
                · show Act.put _ (some 25) _ = _
                  simp only [Act.put, List.setIfInBounds_toArray, List.set_cons_zero, List.set_cons_succ, i64_w, i32_w]
                  rfl
                refine pure_ (i := 9) (N := some 26) (v := ?_) (a' := ?_) #[true, true, true, true, true, true, true, true, true, true] rfl rfl (any_of HT_.out (by kernel_rfl)) (fun _ _ _ h => h) (Or.inl ⟨by rfl, ?_⟩) ?_ ?_
                rotate_left
                · intro w'
                  go_simp
                  with_reducible rfl
                rotate_left
                · simp only [Act.put, List.setIfInBounds_toArray, List.set_cons_zero, List.set_cons_succ, i64_w, i32_w]
                  rfl
                refine done_ (done_of HT_.out (by kernel_rfl)) ?_
                try go_wp2
                go_ret
                exact ⟨by first | rfl | (simp [errW_none, errW_some] <;> rfl) | (simp [*, errW_none, errW_some] <;> rfl), by repeat (first | (with_reducible first | exact HB.out | apply below_alloc | apply pw_below_drewN | apply below_drew1) | exact HB.out)⟩
            · rw [if_neg c6] at H
              exact absurd H (by simp)
          · rw [if_neg c5] at H
            exact absurd H (by simp)
        · rw [if_neg c4] at H
          have c4b0 : decide (x5_1 < (l0.length : Int)) = false := decide_eq_false c4
          clear c4
          obtain rfl := Option.some.inj H
          go_wp2
          go_ret
          exact ⟨by first | rfl | (simp [errW_none, errW_some] <;> rfl) | (simp [*, errW_none, errW_some] <;> rfl), by repeat (first | (with_reducible first | exact HB.out | apply below_alloc | apply pw_below_drewN | apply below_drew1) | exact HB.out)⟩
  · rw [if_neg c3] at H
    have c3b0 : ((l0.length : Int) == (l1.length : Int)) = false := beq_eq_false_iff_ne.mpr c3
    have c3b1 : ((l0.length : Int) != (l1.length : Int)) = true := bne_iff_ne.mpr c3
    have c3b2 : (l0.length == l1.length) = false := by first | simpa using c3 | (simp at c3 ⊢; omega)
    obtain rfl := Option.some.inj H
    go_enter Try.func118, Try.ntmps118
    go_wp2
    go_ret
    exact ⟨by first | rfl | (simp [errW_none, errW_some] <;> rfl) | (simp [*, errW_none, errW_some] <;> rfl), by repeat (first | (with_reducible first | exact HB.out | apply below_alloc | apply pw_below_drewN | apply below_drew1) | exact HB.out)⟩
end Go.Proofs.Ytjcpkplneflleaa.Q
namespace Go.Proofs.Ytjcpkplneflleaa.Q
open Go.RowKit Go.Proofs.YtjcpkplneflleaaW.PrintWords Go.Proofs.YtjcpkplneflleaaW.PrintLast Go.Proofs.YtjcpkplneflleaaW.PrintMore
attribute [local go_sem] max2_int min2_int max_two min_two max_three min_three max_four min_four   -- for this text's walks alone
set_option linter.unusedVariables false
set_option linter.unusedSimpArgs false
def laws_eqLog.f (k : Nat) (a0_0 : Int) (a0_1 : Int) (l0_2 : List (S115)) (l0_3 : List (S72)) (a1_0 : Int) (a1_1 : Int) (l1_2 : List (S115)) (l1_3 : List (S72)) : Option (Bool) := if a0_0 = a1_0 then (if a0_1 = a1_1 then ((laws_eqBaseS.f k l0_2 l1_2).bind fun t848 => (if t848 = true then ((laws_eqOpS.f k l0_3 l1_3).bind fun t849 => (if t849 = true then (some true) else (some false))) else (some false))) else (some false)) else (some false)
set_option maxHeartbeats 8000000 in
set_option maxRecDepth 100000 in
theorem laws_eqLog.calls (k : Nat) (a0_0 : Int) (a0_1 : Int) (A0_2 : Option Addr) (c0_2 : Nat) (l0_2 : List (S115)) (A0_3 : Option Addr) (c0_3 : Nat) (l0_3 : List (S72)) (a1_0 : Int) (a1_1 : Int) (A1_2 : Option Addr) (c1_2 : Nat) (l1_2 : List (S115)) (A1_3 : Option Addr) (c1_3 : Nat) (l1_3 : List (S72)) (r : Bool) (w : World) (hr0_2 : Kd.C k115 w A0_2 l0_2.length l0_2) (hc0_2 : l0_2.length ≤ c0_2) (hr0_3 : Kd.C k72 w A0_3 l0_3.length l0_3) (hc0_3 : l0_3.length ≤ c0_3) (hr1_2 : Kd.C k115 w A1_2 l1_2.length l1_2) (hc1_2 : l1_2.length ≤ c1_2) (hr1_3 : Kd.C k72 w A1_3 l1_3.length l1_3) (hc1_3 : l1_3.length ≤ c1_3) (h : laws_eqLog.f k a0_0 a0_1 l0_2 l0_3 a1_0 a1_1 l1_2 l1_3 = some r) :
    Calls Try.prog 58 #[.agg #[.int .i64 a0_0, .int .i64 a0_1, .slice A0_2 l0_2.length c0_2, .slice A0_3 l0_3.length c0_3], .agg #[.int .i64 a1_0, .int .i64 a1_1, .slice A1_2 l1_2.length c1_2, .slice A1_3 l1_3.length c1_3]] w fun e w' => e = .returned (.bool r) ∧ Below w.heap.size w w' := by
  have hu58 := Try.underlying58
  have HR0_2 := Aside0.mk hr0_2
  have HC0_2 := Aside0.mk hc0_2
  clear hr0_2 hc0_2
  have HR0_3 := Aside0.mk hr0_3
  have HC0_3 := Aside0.mk hc0_3
  clear hr0_3 hc0_3
  have HR1_2 := Aside0.mk hr1_2
  have HC1_2 := Aside0.mk hc1_2
  clear hr1_2 hc1_2
  have HR1_3 := Aside0.mk hr1_3
  have HC1_3 := Aside0.mk hc1_3
  clear hr1_3 hc1_3
  have HB := Aside0.mk (Below.refl w.heap.size w)
  have H : (if a0_0 = a1_0 then (if a0_1 = a1_1 then ((laws_eqBaseS.f k l0_2 l1_2).bind fun t848 => (if t848 = true then ((laws_eqOpS.f k l0_3 l1_3).bind fun t849 => (if t849 = true then (some true) else (some false))) else (some false))) else (some false)) else (some false)) = some r := h
  clear h
  by_cases c3 : a0_0 = a1_0
  · rw [if_pos c3] at H
    have c3b0 : (a0_0 == a1_0) = true := beq_iff_eq.mpr c3
    have c3b1 : (a0_0 != a1_0) = false := bne_eq_false_iff_eq.mpr c3
    clear c3
    by_cases c4 : a0_1 = a1_1
    · rw [if_pos c4] at H
      have c4b0 : (a0_1 == a1_1) = true := beq_iff_eq.mpr c4
      have c4b1 : (a0_1 != a1_1) = false := bne_eq_false_iff_eq.mpr c4
      clear c4
      replace H := Option.bind_eq_some_iff.mp H
      obtain ⟨t848, A50, H⟩ := H
      replace H : (if t848 = true then ((laws_eqOpS.f k l0_3 l1_3).bind fun t849 => (if t849 = true then (some true) else (some false))) else (some false)) = some r := H
      have A5 := Aside0.mk A50
      clear A50
      by_cases c6 : t848 = true
      · subst c6
        have H1 : ((laws_eqOpS.f k l0_3 l1_3).bind fun t849 => (if t849 = true then (some true) else (some false))) = some r := by rw [if_pos rfl] at H; exact H
        clear H
        have H := H1
        clear H1
        replace H := Option.bind_eq_some_iff.mp H
        obtain ⟨t849, A70, H⟩ := H
        replace H : (if t849 = true then (some true) else (some false)) = some r := H
        have A7 := Aside0.mk A70
        clear A70
        by_cases c8 : t849 = true
        · subst c8
          have H1 : (some true) = some r := by rw [if_pos rfl] at H; exact H
          clear H
          have H := H1
          clear H1
          obtain rfl := Option.some.inj H
          go_enter Try.func58, Try.ntmps58
          go_wp2_with (first | ((with_reducible refine gate_dst (N := 2) rfl ?_); refine box_event ?hg (N := 2) ?hd (cs := #[.int .i64 a0_0, .int .i64 a0_1, .slice A0_2 l0_2.length c0_2, .slice A0_3 l0_3.length c0_3]) (t := 58) ?hr ?_; (case hd => rfl); (case hg => rfl); (case hr => first | (go_simp; done) | (go_simp; rfl)); intro gb846 hg w9 hbox hb; have n0_ := Aside0.mk (below_step (by repeat (first | (with_reducible first | exact HB.out | apply below_alloc | apply pw_below_drewN | apply below_drew1) | exact HB.out)) hb); have n1_ := Aside0.mk (hbox); have n2_ := Aside0.mk ((by rw [hg]; exact (below_size (by repeat (first | (with_reducible first | exact HB.out | apply below_alloc | apply pw_below_drewN | apply below_drew1) | exact HB.out))) : w.heap.size ≤ gb846)); have n3_ := Aside0.mk ((by rw [hg]; exact (below_size (by repeat (first | (with_reducible first | exact HB.out | apply below_alloc | apply pw_below_drewN | apply below_drew1) | exact HB.out))) : w.heap.size ≤ gb846)); clear HB; have HB := n0_; have BK846 := n1_; have GW846 := n2_; have GE846 := n3_; clear n0_ n1_ n2_ n3_; clear hb hbox hg) | ((with_reducible refine gate_dst (N := 3) rfl ?_); refine box_event ?hg (N := 3) ?hd (cs := #[.int .i64 a1_0, .int .i64 a1_1, .slice A1_2 l1_2.length c1_2, .slice A1_3 l1_3.length c1_3]) (t := 58) ?hr ?_; (case hd => rfl); (case hg => rfl); (case hr => first | (go_simp; done) | (go_simp; rfl)); intro gb847 hg w10 hbox hb; have n0_ := Aside0.mk (blk_below (g := gb846) (o := .cells #[.int .i64 a0_0, .int .i64 a0_1, .slice A0_2 l0_2.length c0_2, .slice A0_3 l0_3.length c0_3] 58 (0, 0)) (by (with_reducible repeat (first | refine blk_drewN ?_ _ | refine blk_drew ?_ | refine blk_alloc ?_ _)); exact BK846.out) hb); have n1_ := Aside0.mk (below_step (by repeat (first | (with_reducible first | exact HB.out | apply below_alloc | apply pw_below_drewN | apply below_drew1 | refine below_set ?_ GE846.out) | exact HB.out)) hb); have n2_ := Aside0.mk (hbox); have n3_ := Aside0.mk ((by rw [hg]; exact (below_size (by repeat (first | (with_reducible first | exact HB.out | apply below_alloc | apply pw_below_drewN | apply below_drew1 | refine below_set ?_ GE846.out) | exact HB.out))) : w.heap.size ≤ gb847)); have n4_ := Aside0.mk ((by rw [hg]; exact (below_size (by repeat (first | (with_reducible first | exact HB.out | apply below_alloc | apply pw_below_drewN | apply below_drew1 | refine below_set ?_ GE846.out) | exact HB.out))) : w.heap.size ≤ gb847)); have n5_ := Aside0.mk ((by rw [hg]; exact Nat.ne_of_lt (blk_lt (g := gb846) (o := .cells #[.int .i64 a0_0, .int .i64 a0_1, .slice A0_2 l0_2.length c0_2, .slice A0_3 l0_3.length c0_3] 58 (0, 0)) (by (with_reducible repeat (first | refine blk_drewN ?_ _ | refine blk_drew ?_ | refine blk_alloc ?_ _)); exact BK846.out)) : gb846 ≠ gb847)); have n6_ := Aside0.mk ((by rw [hg]; exact Nat.ne_of_gt (blk_lt (g := gb846) (o := .cells #[.int .i64 a0_0, .int .i64 a0_1, .slice A0_2 l0_2.length c0_2, .slice A0_3 l0_3.length c0_3] 58 (0, 0)) (by (with_reducible repeat (first | refine blk_drewN ?_ _ | refine blk_drew ?_ | refine blk_alloc ?_ _)); exact BK846.out)) : gb847 ≠ gb846)); clear BK846; clear HB; have BK846 := n0_; have HB := n1_; have BK847 := n2_; have GW847 := n3_; have GE847 := n4_; have NB846_847 := n5_; have NB847_846 := n6_; clear n0_ n1_ n2_ n3_ n4_ n5_ n6_; clear hb hbox hg; have hnb11 := NB846_847.out; have hnc11 := NB847_846.out; have hcz12_0 : w10.cell? ⟨gb846, 0, none⟩ = some (.int .i64 a0_0) := (blk_cell BK846.out 0).trans rfl; have hcz12_1 : w10.cell? ⟨gb846, 1, none⟩ = some (.int .i64 a0_1) := (blk_cell BK846.out 1).trans rfl; have hcz12_2 : w10.cell? ⟨gb846, 2, none⟩ = some (.slice A0_2 l0_2.length c0_2) := (blk_cell BK846.out 2).trans rfl; have hcz12_3 : w10.cell? ⟨gb846, 3, none⟩ = some (.slice A0_3 l0_3.length c0_3) := (blk_cell BK846.out 3).trans rfl; have hfz12_0 := blk_frozen BK846.out 0; have hfz12_1 := blk_frozen BK846.out 1; have hfz12_2 := blk_frozen BK846.out 2; have hfz12_3 := blk_frozen BK846.out 3; have hcz13_0 : w10.cell? ⟨gb847, 0, none⟩ = some (.int .i64 a1_0) := (blk_cell BK847.out 0).trans rfl; have hcz13_1 : w10.cell? ⟨gb847, 1, none⟩ = some (.int .i64 a1_1) := (blk_cell BK847.out 1).trans rfl; have hcz13_2 : w10.cell? ⟨gb847, 2, none⟩ = some (.slice A1_2 l1_2.length c1_2) := (blk_cell BK847.out 2).trans rfl; have hcz13_3 : w10.cell? ⟨gb847, 3, none⟩ = some (.slice A1_3 l1_3.length c1_3) := (blk_cell BK847.out 3).trans rfl; have hfz13_0 := blk_frozen BK847.out 0; have hfz13_1 := blk_frozen BK847.out 1; have hfz13_2 := blk_frozen BK847.out 2; have hfz13_3 := blk_frozen BK847.out 3) | ((with_reducible refine gate_callee (f := 118) rfl ?_); refine goesL_ (some 19) rfl rfl Try.func118 (by kernel_rfl) rfl #[.slice A0_2 l0_2.length c0_2, .slice A1_2 l1_2.length c1_2] rfl (by (try simp only [List.map_toArray, List.map_cons, List.map_nil]); first | done | rfl | (simp only [List.length_drop, List.length_take]; rfl)) ?_; (with_reducible refine (laws_eqBaseS.calls k _ _ l0_2 _ _ l1_2 true _ ?side1 ?side2 ?side3 ?side4 A5.out).mono ?_); (case side1 => repeat (first | exact (Kd.C_below HR0_2.out HB.out) | (with_reducible refine Kd.C_alloc ?_ _) | (with_reducible refine Kd.C_drewN ?_ _) | (with_reducible refine Kd.C_drew ?_))); (case side2 => exact HC0_2.out); (case side3 => repeat (first | exact (Kd.C_below HR1_2.out HB.out) | (with_reducible refine Kd.C_alloc ?_ _) | (with_reducible refine Kd.C_drewN ?_ _) | (with_reducible refine Kd.C_drew ?_))); (case side4 => exact HC1_2.out); rintro e w14 ⟨rfl, hb⟩; refine ⟨_, rfl, ?_⟩; have n0_ := Aside0.mk (blk_below (g := gb846) (o := .cells #[.int .i64 a0_0, .int .i64 a0_1, .slice A0_2 l0_2.length c0_2, .slice A0_3 l0_3.length c0_3] 58 (0, 0)) (by (with_reducible repeat (first | refine blk_drewN ?_ _ | refine blk_drew ?_ | refine blk_alloc ?_ _)); exact BK846.out) hb); have n1_ := Aside0.mk (blk_below (g := gb847) (o := .cells #[.int .i64 a1_0, .int .i64 a1_1, .slice A1_2 l1_2.length c1_2, .slice A1_3 l1_3.length c1_3] 58 (0, 0)) (by (with_reducible repeat (first | refine blk_drewN ?_ _ | refine blk_drew ?_ | refine blk_alloc ?_ _)); exact BK847.out) hb); have n2_ := Aside0.mk (below_step (by repeat (first | (with_reducible first | exact HB.out | apply below_alloc | apply pw_below_drewN | apply below_drew1 | refine below_set ?_ GE846.out | refine below_set ?_ GE847.out) | exact HB.out)) hb); clear BK846; clear BK847; clear HB; have BK846 := n0_; have BK847 := n1_; have HB := n2_; clear n0_ n1_ n2_; (try clear hb); (try clear hb2); (try clear hk); (try clear hi); have hcz15_0 : w14.cell? ⟨gb846, 0, none⟩ = some (.int .i64 a0_0) := (blk_cell BK846.out 0).trans rfl; have hcz15_1 : w14.cell? ⟨gb846, 1, none⟩ = some (.int .i64 a0_1) := (blk_cell BK846.out 1).trans rfl; have hcz15_2 : w14.cell? ⟨gb846, 2, none⟩ = some (.slice A0_2 l0_2.length c0_2) := (blk_cell BK846.out 2).trans rfl; have hcz15_3 : w14.cell? ⟨gb846, 3, none⟩ = some (.slice A0_3 l0_3.length c0_3) := (blk_cell BK846.out 3).trans rfl; have hfz15_0 := blk_frozen BK846.out 0; have hfz15_1 := blk_frozen BK846.out 1; have hfz15_2 := blk_frozen BK846.out 2; have hfz15_3 := blk_frozen BK846.out 3; have hcz16_0 : w14.cell? ⟨gb847, 0, none⟩ = some (.int .i64 a1_0) := (blk_cell BK847.out 0).trans rfl; have hcz16_1 : w14.cell? ⟨gb847, 1, none⟩ = some (.int .i64 a1_1) := (blk_cell BK847.out 1).trans rfl; have hcz16_2 : w14.cell? ⟨gb847, 2, none⟩ = some (.slice A1_2 l1_2.length c1_2) := (blk_cell BK847.out 2).trans rfl; have hcz16_3 : w14.cell? ⟨gb847, 3, none⟩ = some (.slice A1_3 l1_3.length c1_3) := (blk_cell BK847.out 3).trans rfl; have hfz16_0 := blk_frozen BK847.out 0; have hfz16_1 := blk_frozen BK847.out 1; have hfz16_2 := blk_frozen BK847.out 2; have hfz16_3 := blk_frozen BK847.out 3) | ((with_reducible refine gate_callee (f := 35) rfl ?_); refine goesL_ (some 25) rfl rfl Try.func35 (by kernel_rfl) rfl #[.slice A0_3 l0_3.length c0_3, .slice A1_3 l1_3.length c1_3] rfl (by (try simp only [List.map_toArray, List.map_cons, List.map_nil]); first | done | rfl | (simp only [List.length_drop, List.length_take]; rfl)) ?_; (with_reducible refine (laws_eqOpS.calls k _ _ l0_3 _ _ l1_3 true _ ?side1 ?side2 ?side3 ?side4 A7.out).mono ?_); (case side1 => repeat (first | exact (Kd.C_below HR0_3.out HB.out) | (with_reducible refine Kd.C_alloc ?_ _) | (with_reducible refine Kd.C_drewN ?_ _) | (with_reducible refine Kd.C_drew ?_))); (case side2 => exact HC0_3.out); (case side3 => repeat (first | exact (Kd.C_below HR1_3.out HB.out) | (with_reducible refine Kd.C_alloc ?_ _) | (with_reducible refine Kd.C_drewN ?_ _) | (with_reducible refine Kd.C_drew ?_))); (case side4 => exact HC1_3.out); rintro e w17 ⟨rfl, hb⟩; refine ⟨_, rfl, ?_⟩; have n0_ := Aside0.mk (blk_below (g := gb846) (o := .cells #[.int .i64 a0_0, .int .i64 a0_1, .slice A0_2 l0_2.length c0_2, .slice A0_3 l0_3.length c0_3] 58 (0, 0)) (by (with_reducible repeat (first | refine blk_drewN ?_ _ | refine blk_drew ?_ | refine blk_alloc ?_ _)); exact BK846.out) hb); have n1_ := Aside0.mk (blk_below (g := gb847) (o := .cells #[.int .i64 a1_0, .int .i64 a1_1, .slice A1_2 l1_2.length c1_2, .slice A1_3 l1_3.length c1_3] 58 (0, 0)) (by (with_reducible repeat (first | refine blk_drewN ?_ _ | refine blk_drew ?_ | refine blk_alloc ?_ _)); exact BK847.out) hb); have n2_ := Aside0.mk (below_step (by repeat (first | (with_reducible first | exact HB.out | apply below_alloc | apply pw_below_drewN | apply below_drew1 | refine below_set ?_ GE846.out | refine below_set ?_ GE847.out) | exact HB.out)) hb); clear BK846; clear BK847; clear HB; have BK846 := n0_; have BK847 := n1_; have HB := n2_; clear n0_ n1_ n2_; (try clear hb); (try clear hb2); (try clear hk); (try clear hi)))
          go_ret
          exact ⟨by first | rfl | (simp [errW_none, errW_some] <;> rfl) | (simp [*, errW_none, errW_some] <;> rfl), by repeat (first | (with_reducible first | exact HB.out | apply below_alloc | apply pw_below_drewN | apply below_drew1 | refine below_set ?_ GE846.out | refine below_set ?_ GE847.out) | exact HB.out)⟩
        · replace c8 := Bool.eq_false_iff.mpr c8
          subst c8
          have H1 : (some false) = some r := by rw [if_neg (show ¬ (false = true) by decide)] at H; exact H
          clear H
          have H := H1
          clear H1
          obtain rfl := Option.some.inj H
          go_enter Try.func58, Try.ntmps58
          go_wp2_with (first | ((with_reducible refine gate_dst (N := 2) rfl ?_); refine box_event ?hg (N := 2) ?hd (cs := #[.int .i64 a0_0, .int .i64 a0_1, .slice A0_2 l0_2.length c0_2, .slice A0_3 l0_3.length c0_3]) (t := 58) ?hr ?_; (case hd => rfl); (case hg => rfl); (case hr => first | (go_simp; done) | (go_simp; rfl)); intro gb846 hg w18 hbox hb; have n0_ := Aside0.mk (below_step (by repeat (first | (with_reducible first | exact HB.out | apply below_alloc | apply pw_below_drewN | apply below_drew1) | exact HB.out)) hb); have n1_ := Aside0.mk (hbox); have n2_ := Aside0.mk ((by rw [hg]; exact (below_size (by repeat (first | (with_reducible first | exact HB.out | apply below_alloc | apply pw_below_drewN | apply below_drew1) | exact HB.out))) : w.heap.size ≤ gb846)); have n3_ := Aside0.mk ((by rw [hg]; exact (below_size (by repeat (first | (with_reducible first | exact HB.out | apply below_alloc | apply pw_below_drewN | apply below_drew1) | exact HB.out))) : w.heap.size ≤ gb846)); clear HB; have HB := n0_; have BK846 := n1_; have GW846 := n2_; have GE846 := n3_; clear n0_ n1_ n2_ n3_; clear hb hbox hg) | ((with_reducible refine gate_dst (N := 3) rfl ?_); refine box_event ?hg (N := 3) ?hd (cs := #[.int .i64 a1_0, .int .i64 a1_1, .slice A1_2 l1_2.length c1_2, .slice A1_3 l1_3.length c1_3]) (t := 58) ?hr ?_; (case hd => rfl); (case hg => rfl); (case hr => first | (go_simp; done) | (go_simp; rfl)); intro gb847 hg w19 hbox hb; have n0_ := Aside0.mk (blk_below (g := gb846) (o := .cells #[.int .i64 a0_0, .int .i64 a0_1, .slice A0_2 l0_2.length c0_2, .slice A0_3 l0_3.length c0_3] 58 (0, 0)) (by (with_reducible repeat (first | refine blk_drewN ?_ _ | refine blk_drew ?_ | refine blk_alloc ?_ _)); exact BK846.out) hb); have n1_ := Aside0.mk (below_step (by repeat (first | (with_reducible first | exact HB.out | apply below_alloc | apply pw_below_drewN | apply below_drew1 | refine below_set ?_ GE846.out) | exact HB.out)) hb); have n2_ := Aside0.mk (hbox); have n3_ := Aside0.mk ((by rw [hg]; exact (below_size (by repeat (first | (with_reducible first | exact HB.out | apply below_alloc | apply pw_below_drewN | apply below_drew1 | refine below_set ?_ GE846.out) | exact HB.out))) : w.heap.size ≤ gb847)); have n4_ := Aside0.mk ((by rw [hg]; exact (below_size (by repeat (first | (with_reducible first | exact HB.out | apply below_alloc | apply pw_below_drewN | apply below_drew1 | refine below_set ?_ GE846.out) | exact HB.out))) : w.heap.size ≤ gb847)); have n5_ := Aside0.mk ((by rw [hg]; exact Nat.ne_of_lt (blk_lt (g := gb846) (o := .cells #[.int .i64 a0_0, .int .i64 a0_1, .slice A0_2 l0_2.length c0_2, .slice A0_3 l0_3.length c0_3] 58 (0, 0)) (by (with_reducible repeat (first | refine blk_drewN ?_ _ | refine blk_drew ?_ | refine blk_alloc ?_ _)); exact BK846.out)) : gb846 ≠ gb847)); have n6_ := Aside0.mk ((by rw [hg]; exact Nat.ne_of_gt (blk_lt (g := gb846) (o := .cells #[.int .i64 a0_0, .int .i64 a0_1, .slice A0_2 l0_2.length c0_2, .slice A0_3 l0_3.length c0_3] 58 (0, 0)) (by (with_reducible repeat (first | refine blk_drewN ?_ _ | refine blk_drew ?_ | refine blk_alloc ?_ _)); exact BK846.out)) : gb847 ≠ gb846)); clear BK846; clear HB; have BK846 := n0_; have HB := n1_; have BK847 := n2_; have GW847 := n3_; have GE847 := n4_; have NB846_847 := n5_; have NB847_846 := n6_; clear n0_ n1_ n2_ n3_ n4_ n5_ n6_; clear hb hbox hg; have hnb20 := NB846_847.out; have hnc20 := NB847_846.out; have hcz21_0 : w19.cell? ⟨gb846, 0, none⟩ = some (.int .i64 a0_0) := (blk_cell BK846.out 0).trans rfl; have hcz21_1 : w19.cell? ⟨gb846, 1, none⟩ = some (.int .i64 a0_1) := (blk_cell BK846.out 1).trans rfl; have hcz21_2 : w19.cell? ⟨gb846, 2, none⟩ = some (.slice A0_2 l0_2.length c0_2) := (blk_cell BK846.out 2).trans rfl; have hcz21_3 : w19.cell? ⟨gb846, 3, none⟩ = some (.slice A0_3 l0_3.length c0_3) := (blk_cell BK846.out 3).trans rfl; have hfz21_0 := blk_frozen BK846.out 0; have hfz21_1 := blk_frozen BK846.out 1; have hfz21_2 := blk_frozen BK846.out 2; have hfz21_3 := blk_frozen BK846.out 3; have hcz22_0 : w19.cell? ⟨gb847, 0, none⟩ = some (.int .i64 a1_0) := (blk_cell BK847.out 0).trans rfl; have hcz22_1 : w19.cell? ⟨gb847, 1, none⟩ = some (.int .i64 a1_1) := (blk_cell BK847.out 1).trans rfl; have hcz22_2 : w19.cell? ⟨gb847, 2, none⟩ = some (.slice A1_2 l1_2.length c1_2) := (blk_cell BK847.out 2).trans rfl; have hcz22_3 : w19.cell? ⟨gb847, 3, none⟩ = some (.slice A1_3 l1_3.length c1_3) := (blk_cell BK847.out 3).trans rfl; have hfz22_0 := blk_frozen BK847.out 0; have hfz22_1 := blk_frozen BK847.out 1; have hfz22_2 := blk_frozen BK847.out 2; have hfz22_3 := blk_frozen BK847.out 3) | ((with_reducible refine gate_callee (f := 118) rfl ?_); refine goesL_ (some 19) rfl rfl Try.func118 (by kernel_rfl) rfl #[.slice A0_2 l0_2.length c0_2, .slice A1_2 l1_2.length c1_2] rfl (by (try simp only [List.map_toArray, List.map_cons, List.map_nil]); first | done | rfl | (simp only [List.length_drop, List.length_take]; rfl)) ?_; (with_reducible refine (laws_eqBaseS.calls k _ _ l0_2 _ _ l1_2 true _ ?side1 ?side2 ?side3 ?side4 A5.out).mono ?_); (case side1 => repeat (first | exact (Kd.C_below HR0_2.out HB.out) | (with_reducible refine Kd.C_alloc ?_ _) | (with_reducible refine Kd.C_drewN ?_ _) | (with_reducible refine Kd.C_drew ?_))); (case side2 => exact HC0_2.out); (case side3 => repeat (first | exact (Kd.C_below HR1_2.out HB.out) | (with_reducible refine Kd.C_alloc ?_ _) | (with_reducible refine Kd.C_drewN ?_ _) | (with_reducible refine Kd.C_drew ?_))); (case side4 => exact HC1_2.out); rintro e w23 ⟨rfl, hb⟩; refine ⟨_, rfl, ?_⟩; have n0_ := Aside0.mk (blk_below (g := gb846) (o := .cells #[.int .i64 a0_0, .int .i64 a0_1, .slice A0_2 l0_2.length c0_2, .slice A0_3 l0_3.length c0_3] 58 (0, 0)) (by (with_reducible repeat (first | refine blk_drewN ?_ _ | refine blk_drew ?_ | refine blk_alloc ?_ _)); exact BK846.out) hb); have n1_ := Aside0.mk (blk_below (g := gb847) (o := .cells #[.int .i64 a1_0, .int .i64 a1_1, .slice A1_2 l1_2.length c1_2, .slice A1_3 l1_3.length c1_3] 58 (0, 0)) (by (with_reducible repeat (first | refine blk_drewN ?_ _ | refine blk_drew ?_ | refine blk_alloc ?_ _)); exact BK847.out) hb); have n2_ := Aside0.mk (below_step (by repeat (first | (with_reducible first | exact HB.out | apply below_alloc | apply pw_below_drewN | apply below_drew1 | refine below_set ?_ GE846.out | refine below_set ?_ GE847.out) | exact HB.out)) hb); clear BK846; clear BK847; clear HB; have BK846 := n0_; have BK847 := n1_; have HB := n2_; clear n0_ n1_ n2_; (try clear hb); (try clear hb2); (try clear hk); (try clear hi); have hcz24_0 : w23.cell? ⟨gb846, 0, none⟩ = some (.int .i64 a0_0) := (blk_cell BK846.out 0).trans rfl; have hcz24_1 : w23.cell? ⟨gb846, 1, none⟩ = some (.int .i64 a0_1) := (blk_cell BK846.out 1).trans rfl; have hcz24_2 : w23.cell? ⟨gb846, 2, none⟩ = some (.slice A0_2 l0_2.length c0_2) := (blk_cell BK846.out 2).trans rfl; have hcz24_3 : w23.cell? ⟨gb846, 3, none⟩ = some (.slice A0_3 l0_3.length c0_3) := (blk_cell BK846.out 3).trans rfl; have hfz24_0 := blk_frozen BK846.out 0; have hfz24_1 := blk_frozen BK846.out 1; have hfz24_2 := blk_frozen BK846.out 2; have hfz24_3 := blk_frozen BK846.out 3; have hcz25_0 : w23.cell? ⟨gb847, 0, none⟩ = some (.int .i64 a1_0) := (blk_cell BK847.out 0).trans rfl; have hcz25_1 : w23.cell? ⟨gb847, 1, none⟩ = some (.int .i64 a1_1) := (blk_cell BK847.out 1).trans rfl; have hcz25_2 : w23.cell? ⟨gb847, 2, none⟩ = some (.slice A1_2 l1_2.length c1_2) := (blk_cell BK847.out 2).trans rfl; have hcz25_3 : w23.cell? ⟨gb847, 3, none⟩ = some (.slice A1_3 l1_3.length c1_3) := (blk_cell BK847.out 3).trans rfl; have hfz25_0 := blk_frozen BK847.out 0; have hfz25_1 := blk_frozen BK847.out 1; have hfz25_2 := blk_frozen BK847.out 2; have hfz25_3 := blk_frozen BK847.out 3) | ((with_reducible refine gate_callee (f := 35) rfl ?_); refine goesL_ (some 25) rfl rfl Try.func35 (by kernel_rfl) rfl #[.slice A0_3 l0_3.length c0_3, .slice A1_3 l1_3.length c1_3] rfl (by (try simp only [List.map_toArray, List.map_cons, List.map_nil]); first | done | rfl | (simp only [List.length_drop, List.length_take]; rfl)) ?_; (with_reducible refine (laws_eqOpS.calls k _ _ l0_3 _ _ l1_3 false _ ?side1 ?side2 ?side3 ?side4 A7.out).mono ?_); (case side1 => repeat (first | exact (Kd.C_below HR0_3.out HB.out) | (with_reducible refine Kd.C_alloc ?_ _) | (with_reducible refine Kd.C_drewN ?_ _) | (with_reducible refine Kd.C_drew ?_))); (case side2 => exact HC0_3.out); (case side3 => repeat (first | exact (Kd.C_below HR1_3.out HB.out) | (with_reducible refine Kd.C_alloc ?_ _) | (with_reducible refine Kd.C_drewN ?_ _) | (with_reducible refine Kd.C_drew ?_))); (case side4 => exact HC1_3.out); rintro e w26 ⟨rfl, hb⟩; refine ⟨_, rfl, ?_⟩; have n0_ := Aside0.mk (blk_below (g := gb846) (o := .cells #[.int .i64 a0_0, .int .i64 a0_1, .slice A0_2 l0_2.length c0_2, .slice A0_3 l0_3.length c0_3] 58 (0, 0)) (by (with_reducible repeat (first | refine blk_drewN ?_ _ | refine blk_drew ?_ | refine blk_alloc ?_ _)); exact BK846.out) hb); have n1_ := Aside0.mk (blk_below (g := gb847) (o := .cells #[.int .i64 a1_0, .int .i64 a1_1, .slice A1_2 l1_2.length c1_2, .slice A1_3 l1_3.length c1_3] 58 (0, 0)) (by (with_reducible repeat (first | refine blk_drewN ?_ _ | refine blk_drew ?_ | refine blk_alloc ?_ _)); exact BK847.out) hb); have n2_ := Aside0.mk (below_step (by repeat (first | (with_reducible first | exact HB.out | apply below_alloc | apply pw_below_drewN | apply below_drew1 | refine below_set ?_ GE846.out | refine below_set ?_ GE847.out) | exact HB.out)) hb); clear BK846; clear BK847; clear HB; have BK846 := n0_; have BK847 := n1_; have HB := n2_; clear n0_ n1_ n2_; (try clear hb); (try clear hb2); (try clear hk); (try clear hi)))
          go_ret
          exact ⟨by first | rfl | (simp [errW_none, errW_some] <;> rfl) | (simp [*, errW_none, errW_some] <;> rfl), by repeat (first | (with_reducible first | exact HB.out | apply below_alloc | apply pw_below_drewN | apply below_drew1 | refine below_set ?_ GE846.out | refine below_set ?_ GE847.out) | exact HB.out)⟩
      · replace c6 := Bool.eq_false_iff.mpr c6
        subst c6
        have H1 : (some false) = some r := by rw [if_neg (show ¬ (false = true) by decide)] at H; exact H
        clear H
        have H := H1
        clear H1
        obtain rfl := Option.some.inj H
        go_enter Try.func58, Try.ntmps58
        go_wp2_with (first | ((with_reducible refine gate_dst (N := 2) rfl ?_); refine box_event ?hg (N := 2) ?hd (cs := #[.int .i64 a0_0, .int .i64 a0_1, .slice A0_2 l0_2.length c0_2, .slice A0_3 l0_3.length c0_3]) (t := 58) ?hr ?_; (case hd => rfl); (case hg => rfl); (case hr => first | (go_simp; done) | (go_simp; rfl)); intro gb846 hg w27 hbox hb; have n0_ := Aside0.mk (below_step (by repeat (first | (with_reducible first | exact HB.out | apply below_alloc | apply pw_below_drewN | apply below_drew1) | exact HB.out)) hb); have n1_ := Aside0.mk (hbox); have n2_ := Aside0.mk ((by rw [hg]; exact (below_size (by repeat (first | (with_reducible first | exact HB.out | apply below_alloc | apply pw_below_drewN | apply below_drew1) | exact HB.out))) : w.heap.size ≤ gb846)); have n3_ := Aside0.mk ((by rw [hg]; exact (below_size (by repeat (first | (with_reducible first | exact HB.out | apply below_alloc | apply pw_below_drewN | apply below_drew1) | exact HB.out))) : w.heap.size ≤ gb846)); clear HB; have HB := n0_; have BK846 := n1_; have GW846 := n2_; have GE846 := n3_; clear n0_ n1_ n2_ n3_; clear hb hbox hg) | ((with_reducible refine gate_dst (N := 3) rfl ?_); refine box_event ?hg (N := 3) ?hd (cs := #[.int .i64 a1_0, .int .i64 a1_1, .slice A1_2 l1_2.length c1_2, .slice A1_3 l1_3.length c1_3]) (t := 58) ?hr ?_; (case hd => rfl); (case hg => rfl); (case hr => first | (go_simp; done) | (go_simp; rfl)); intro gb847 hg w28 hbox hb; have n0_ := Aside0.mk (blk_below (g := gb846) (o := .cells #[.int .i64 a0_0, .int .i64 a0_1, .slice A0_2 l0_2.length c0_2, .slice A0_3 l0_3.length c0_3] 58 (0, 0)) (by (with_reducible repeat (first | refine blk_drewN ?_ _ | refine blk_drew ?_ | refine blk_alloc ?_ _)); exact BK846.out) hb); have n1_ := Aside0.mk (below_step (by repeat (first | (with_reducible first | exact HB.out | apply below_alloc | apply pw_below_drewN | apply below_drew1 | refine below_set ?_ GE846.out) | exact HB.out)) hb); have n2_ := Aside0.mk (hbox); have n3_ := Aside0.mk ((by rw [hg]; exact (below_size (by repeat (first | (with_reducible first | exact HB.out | apply below_alloc | apply pw_below_drewN | apply below_drew1 | refine below_set ?_ GE846.out) | exact HB.out))) : w.heap.size ≤ gb847)); have n4_ := Aside0.mk ((by rw [hg]; exact (below_size (by repeat (first | (with_reducible first | exact HB.out | apply below_alloc | apply pw_below_drewN | apply below_drew1 | refine below_set ?_ GE846.out) | exact HB.out))) : w.heap.size ≤ gb847)); have n5_ := Aside0.mk ((by rw [hg]; exact Nat.ne_of_lt (blk_lt (g := gb846) (o := .cells #[.int .i64 a0_0, .int .i64 a0_1, .slice A0_2 l0_2.length c0_2, .slice A0_3 l0_3.length c0_3] 58 (0, 0)) (by (with_reducible repeat (first | refine blk_drewN ?_ _ | refine blk_drew ?_ | refine blk_alloc ?_ _)); exact BK846.out)) : gb846 ≠ gb847)); have n6_ := Aside0.mk ((by rw [hg]; exact Nat.ne_of_gt (blk_lt (g := gb846) (o := .cells #[.int .i64 a0_0, .int .i64 a0_1, .slice A0_2 l0_2.length c0_2, .slice A0_3 l0_3.length c0_3] 58 (0, 0)) (by (with_reducible repeat (first | refine blk_drewN ?_ _ | refine blk_drew ?_ | refine blk_alloc ?_ _)); exact BK846.out)) : gb847 ≠ gb846)); clear BK846; clear HB; have BK846 := n0_; have HB := n1_; have BK847 := n2_; have GW847 := n3_; have GE847 := n4_; have NB846_847 := n5_; have NB847_846 := n6_; clear n0_ n1_ n2_ n3_ n4_ n5_ n6_; clear hb hbox hg; have hnb29 := NB846_847.out; have hnc29 := NB847_846.out; have hcz30_0 : w28.cell? ⟨gb846, 0, none⟩ = some (.int .i64 a0_0) := (blk_cell BK846.out 0).trans rfl; have hcz30_1 : w28.cell? ⟨gb846, 1, none⟩ = some (.int .i64 a0_1) := (blk_cell BK846.out 1).trans rfl; have hcz30_2 : w28.cell? ⟨gb846, 2, none⟩ = some (.slice A0_2 l0_2.length c0_2) := (blk_cell BK846.out 2).trans rfl; have hcz30_3 : w28.cell? ⟨gb846, 3, none⟩ = some (.slice A0_3 l0_3.length c0_3) := (blk_cell BK846.out 3).trans rfl; have hfz30_0 := blk_frozen BK846.out 0; have hfz30_1 := blk_frozen BK846.out 1; have hfz30_2 := blk_frozen BK846.out 2; have hfz30_3 := blk_frozen BK846.out 3; have hcz31_0 : w28.cell? ⟨gb847, 0, none⟩ = some (.int .i64 a1_0) := (blk_cell BK847.out 0).trans rfl; have hcz31_1 : w28.cell? ⟨gb847, 1, none⟩ = some (.int .i64 a1_1) := (blk_cell BK847.out 1).trans rfl; have hcz31_2 : w28.cell? ⟨gb847, 2, none⟩ = some (.slice A1_2 l1_2.length c1_2) := (blk_cell BK847.out 2).trans rfl; have hcz31_3 : w28.cell? ⟨gb847, 3, none⟩ = some (.slice A1_3 l1_3.length c1_3) := (blk_cell BK847.out 3).trans rfl; have hfz31_0 := blk_frozen BK847.out 0; have hfz31_1 := blk_frozen BK847.out 1; have hfz31_2 := blk_frozen BK847.out 2; have hfz31_3 := blk_frozen BK847.out 3) | ((with_reducible refine gate_callee (f := 118) rfl ?_); refine goesL_ (some 19) rfl rfl Try.func118 (by kernel_rfl) rfl #[.slice A0_2 l0_2.length c0_2, .slice A1_2 l1_2.length c1_2] rfl (by (try simp only [List.map_toArray, List.map_cons, List.map_nil]); first | done | rfl | (simp only [List.length_drop, List.length_take]; rfl)) ?_; (with_reducible refine (laws_eqBaseS.calls k _ _ l0_2 _ _ l1_2 false _ ?side1 ?side2 ?side3 ?side4 A5.out).mono ?_); (case side1 => repeat (first | exact (Kd.C_below HR0_2.out HB.out) | (with_reducible refine Kd.C_alloc ?_ _) | (with_reducible refine Kd.C_drewN ?_ _) | (with_reducible refine Kd.C_drew ?_))); (case side2 => exact HC0_2.out); (case side3 => repeat (first | exact (Kd.C_below HR1_2.out HB.out) | (with_reducible refine Kd.C_alloc ?_ _) | (with_reducible refine Kd.C_drewN ?_ _) | (with_reducible refine Kd.C_drew ?_))); (case side4 => exact HC1_2.out); rintro e w32 ⟨rfl, hb⟩; refine ⟨_, rfl, ?_⟩; have n0_ := Aside0.mk (blk_below (g := gb846) (o := .cells #[.int .i64 a0_0, .int .i64 a0_1, .slice A0_2 l0_2.length c0_2, .slice A0_3 l0_3.length c0_3] 58 (0, 0)) (by (with_reducible repeat (first | refine blk_drewN ?_ _ | refine blk_drew ?_ | refine blk_alloc ?_ _)); exact BK846.out) hb); have n1_ := Aside0.mk (blk_below (g := gb847) (o := .cells #[.int .i64 a1_0, .int .i64 a1_1, .slice A1_2 l1_2.length c1_2, .slice A1_3 l1_3.length c1_3] 58 (0, 0)) (by (with_reducible repeat (first | refine blk_drewN ?_ _ | refine blk_drew ?_ | refine blk_alloc ?_ _)); exact BK847.out) hb); have n2_ := Aside0.mk (below_step (by repeat (first | (with_reducible first | exact HB.out | apply below_alloc | apply pw_below_drewN | apply below_drew1 | refine below_set ?_ GE846.out | refine below_set ?_ GE847.out) | exact HB.out)) hb); clear BK846; clear BK847; clear HB; have BK846 := n0_; have BK847 := n1_; have HB := n2_; clear n0_ n1_ n2_; (try clear hb); (try clear hb2); (try clear hk); (try clear hi)))
        go_ret
        exact ⟨by first | rfl | (simp [errW_none, errW_some] <;> rfl) | (simp [*, errW_none, errW_some] <;> rfl), by repeat (first | (with_reducible first | exact HB.out | apply below_alloc | apply pw_below_drewN | apply below_drew1 | refine below_set ?_ GE846.out | refine below_set ?_ GE847.out) | exact HB.out)⟩
    · rw [if_neg c4] at H
      have c4b0 : (a0_1 == a1_1) = false := beq_eq_false_iff_ne.mpr c4
      have c4b1 : (a0_1 != a1_1) = true := bne_iff_ne.mpr c4
      obtain rfl := Option.some.inj H
      go_enter Try.func58, Try.ntmps58
      go_wp2_with (first | ((with_reducible refine gate_dst (N := 2) rfl ?_); refine box_event ?hg (N := 2) ?hd (cs := #[.int .i64 a0_0, .int .i64 a0_1, .slice A0_2 l0_2.length c0_2, .slice A0_3 l0_3.length c0_3]) (t := 58) ?hr ?_; (case hd => rfl); (case hg => rfl); (case hr => first | (go_simp; done) | (go_simp; rfl)); intro gb846 hg w33 hbox hb; have n0_ := Aside0.mk (below_step (by repeat (first | (with_reducible first | exact HB.out | apply below_alloc | apply pw_below_drewN | apply below_drew1) | exact HB.out)) hb); have n1_ := Aside0.mk (hbox); have n2_ := Aside0.mk ((by rw [hg]; exact (below_size (by repeat (first | (with_reducible first | exact HB.out | apply below_alloc | apply pw_below_drewN | apply below_drew1) | exact HB.out))) : w.heap.size ≤ gb846)); have n3_ := Aside0.mk ((by rw [hg]; exact (below_size (by repeat (first | (with_reducible first | exact HB.out | apply below_alloc | apply pw_below_drewN | apply below_drew1) | exact HB.out))) : w.heap.size ≤ gb846)); clear HB; have HB := n0_; have BK846 := n1_; have GW846 := n2_; have GE846 := n3_; clear n0_ n1_ n2_ n3_; clear hb hbox hg) | ((with_reducible refine gate_dst (N := 3) rfl ?_); refine box_event ?hg (N := 3) ?hd (cs := #[.int .i64 a1_0, .int .i64 a1_1, .slice A1_2 l1_2.length c1_2, .slice A1_3 l1_3.length c1_3]) (t := 58) ?hr ?_; (case hd => rfl); (case hg => rfl); (case hr => first | (go_simp; done) | (go_simp; rfl)); intro gb847 hg w34 hbox hb; have n0_ := Aside0.mk (blk_below (g := gb846) (o := .cells #[.int .i64 a0_0, .int .i64 a0_1, .slice A0_2 l0_2.length c0_2, .slice A0_3 l0_3.length c0_3] 58 (0, 0)) (by (with_reducible repeat (first | refine blk_drewN ?_ _ | refine blk_drew ?_ | refine blk_alloc ?_ _)); exact BK846.out) hb); have n1_ := Aside0.mk (below_step (by repeat (first | (with_reducible first | exact HB.out | apply below_alloc | apply pw_below_drewN | apply below_drew1 | refine below_set ?_ GE846.out) | exact HB.out)) hb); have n2_ := Aside0.mk (hbox); have n3_ := Aside0.mk ((by rw [hg]; exact (below_size (by repeat (first | (with_reducible first | exact HB.out | apply below_alloc | apply pw_below_drewN | apply below_drew1 | refine below_set ?_ GE846.out) | exact HB.out))) : w.heap.size ≤ gb847)); have n4_ := Aside0.mk ((by rw [hg]; exact (below_size (by repeat (first | (with_reducible first | exact HB.out | apply below_alloc | apply pw_below_drewN | apply below_drew1 | refine below_set ?_ GE846.out) | exact HB.out))) : w.heap.size ≤ gb847)); have n5_ := Aside0.mk ((by rw [hg]; exact Nat.ne_of_lt (blk_lt (g := gb846) (o := .cells #[.int .i64 a0_0, .int .i64 a0_1, .slice A0_2 l0_2.length c0_2, .slice A0_3 l0_3.length c0_3] 58 (0, 0)) (by (with_reducible repeat (first | refine blk_drewN ?_ _ | refine blk_drew ?_ | refine blk_alloc ?_ _)); exact BK846.out)) : gb846 ≠ gb847)); have n6_ := Aside0.mk ((by rw [hg]; exact Nat.ne_of_gt (blk_lt (g := gb846) (o := .cells #[.int .i64 a0_0, .int .i64 a0_1, .slice A0_2 l0_2.length c0_2, .slice A0_3 l0_3.length c0_3] 58 (0, 0)) (by (with_reducible repeat (first | refine blk_drewN ?_ _ | refine blk_drew ?_ | refine blk_alloc ?_ _)); exact BK846.out)) : gb847 ≠ gb846)); clear BK846; clear HB; have BK846 := n0_; have HB := n1_; have BK847 := n2_; have GW847 := n3_; have GE847 := n4_; have NB846_847 := n5_; have NB847_846 := n6_; clear n0_ n1_ n2_ n3_ n4_ n5_ n6_; clear hb hbox hg; have hnb35 := NB846_847.out; have hnc35 := NB847_846.out; have hcz36_0 : w34.cell? ⟨gb846, 0, none⟩ = some (.int .i64 a0_0) := (blk_cell BK846.out 0).trans rfl; have hcz36_1 : w34.cell? ⟨gb846, 1, none⟩ = some (.int .i64 a0_1) := (blk_cell BK846.out 1).trans rfl; have hcz36_2 : w34.cell? ⟨gb846, 2, none⟩ = some (.slice A0_2 l0_2.length c0_2) := (blk_cell BK846.out 2).trans rfl; have hcz36_3 : w34.cell? ⟨gb846, 3, none⟩ = some (.slice A0_3 l0_3.length c0_3) := (blk_cell BK846.out 3).trans rfl; have hfz36_0 := blk_frozen BK846.out 0; have hfz36_1 := blk_frozen BK846.out 1; have hfz36_2 := blk_frozen BK846.out 2; have hfz36_3 := blk_frozen BK846.out 3; have hcz37_0 : w34.cell? ⟨gb847, 0, none⟩ = some (.int .i64 a1_0) := (blk_cell BK847.out 0).trans rfl; have hcz37_1 : w34.cell? ⟨gb847, 1, none⟩ = some (.int .i64 a1_1) := (blk_cell BK847.out 1).trans rfl; have hcz37_2 : w34.cell? ⟨gb847, 2, none⟩ = some (.slice A1_2 l1_2.length c1_2) := (blk_cell BK847.out 2).trans rfl; have hcz37_3 : w34.cell? ⟨gb847, 3, none⟩ = some (.slice A1_3 l1_3.length c1_3) := (blk_cell BK847.out 3).trans rfl; have hfz37_0 := blk_frozen BK847.out 0; have hfz37_1 := blk_frozen BK847.out 1; have hfz37_2 := blk_frozen BK847.out 2; have hfz37_3 := blk_frozen BK847.out 3))
      go_ret
      exact ⟨by first | rfl | (simp [errW_none, errW_some] <;> rfl) | (simp [*, errW_none, errW_some] <;> rfl), by repeat (first | (with_reducible first | exact HB.out | apply below_alloc | apply pw_below_drewN | apply below_drew1 | refine below_set ?_ GE846.out | refine below_set ?_ GE847.out) | exact HB.out)⟩
  · rw [if_neg c3] at H
    have c3b0 : (a0_0 == a1_0) = false := beq_eq_false_iff_ne.mpr c3
    have c3b1 : (a0_0 != a1_0) = true := bne_iff_ne.mpr c3
    obtain rfl := Option.some.inj H
    go_enter Try.func58, Try.ntmps58
    go_wp2_with (first | ((with_reducible refine gate_dst (N := 2) rfl ?_); refine box_event ?hg (N := 2) ?hd (cs := #[.int .i64 a0_0, .int .i64 a0_1, .slice A0_2 l0_2.length c0_2, .slice A0_3 l0_3.length c0_3]) (t := 58) ?hr ?_; (case hd => rfl); (case hg => rfl); (case hr => first | (go_simp; done) | (go_simp; rfl)); intro gb846 hg w38 hbox hb; have n0_ := Aside0.mk (below_step (by repeat (first | (with_reducible first | exact HB.out | apply below_alloc | apply pw_below_drewN | apply below_drew1) | exact HB.out)) hb); have n1_ := Aside0.mk (hbox); have n2_ := Aside0.mk ((by rw [hg]; exact (below_size (by repeat (first | (with_reducible first | exact HB.out | apply below_alloc | apply pw_below_drewN | apply below_drew1) | exact HB.out))) : w.heap.size ≤ gb846)); have n3_ := Aside0.mk ((by rw [hg]; exact (below_size (by repeat (first | (with_reducible first | exact HB.out | apply below_alloc | apply pw_below_drewN | apply below_drew1) | exact HB.out))) : w.heap.size ≤ gb846)); clear HB; have HB := n0_; have BK846 := n1_; have GW846 := n2_; have GE846 := n3_; clear n0_ n1_ n2_ n3_; clear hb hbox hg) | ((with_reducible refine gate_dst (N := 3) rfl ?_); refine box_event ?hg (N := 3) ?hd (cs := #[.int .i64 a1_0, .int .i64 a1_1, .slice A1_2 l1_2.length c1_2, .slice A1_3 l1_3.length c1_3]) (t := 58) ?hr ?_; (case hd => rfl); (case hg => rfl); (case hr => first | (go_simp; done) | (go_simp; rfl)); intro gb847 hg w39 hbox hb; have n0_ := Aside0.mk (blk_below (g := gb846) (o := .cells #[.int .i64 a0_0, .int .i64 a0_1, .slice A0_2 l0_2.length c0_2, .slice A0_3 l0_3.length c0_3] 58 (0, 0)) (by (with_reducible repeat (first | refine blk_drewN ?_ _ | refine blk_drew ?_ | refine blk_alloc ?_ _)); exact BK846.out) hb); have n1_ := Aside0.mk (below_step (by repeat (first | (with_reducible first | exact HB.out | apply below_alloc | apply pw_below_drewN | apply below_drew1 | refine below_set ?_ GE846.out) | exact HB.out)) hb); have n2_ := Aside0.mk (hbox); have n3_ := Aside0.mk ((by rw [hg]; exact (below_size (by repeat (first | (with_reducible first | exact HB.out | apply below_alloc | apply pw_below_drewN | apply below_drew1 | refine below_set ?_ GE846.out) | exact HB.out))) : w.heap.size ≤ gb847)); have n4_ := Aside0.mk ((by rw [hg]; exact (below_size (by repeat (first | (with_reducible first | exact HB.out | apply below_alloc | apply pw_below_drewN | apply below_drew1 | refine below_set ?_ GE846.out) | exact HB.out))) : w.heap.size ≤ gb847)); have n5_ := Aside0.mk ((by rw [hg]; exact Nat.ne_of_lt (blk_lt (g := gb846) (o := .cells #[.int .i64 a0_0, .int .i64 a0_1, .slice A0_2 l0_2.length c0_2, .slice A0_3 l0_3.length c0_3] 58 (0, 0)) (by (with_reducible repeat (first | refine blk_drewN ?_ _ | refine blk_drew ?_ | refine blk_alloc ?_ _)); exact BK846.out)) : gb846 ≠ gb847)); have n6_ := Aside0.mk ((by rw [hg]; exact Nat.ne_of_gt (blk_lt (g := gb846) (o := .cells #[.int .i64 a0_0, .int .i64 a0_1, .slice A0_2 l0_2.length c0_2, .slice A0_3 l0_3.length c0_3] 58 (0, 0)) (by (with_reducible repeat (first | refine blk_drewN ?_ _ | refine blk_drew ?_ | refine blk_alloc ?_ _)); exact BK846.out)) : gb847 ≠ gb846)); clear BK846; clear HB; have BK846 := n0_; have HB := n1_; have BK847 := n2_; have GW847 := n3_; have GE847 := n4_; have NB846_847 := n5_; have NB847_846 := n6_; clear n0_ n1_ n2_ n3_ n4_ n5_ n6_; clear hb hbox hg; have hnb40 := NB846_847.out; have hnc40 := NB847_846.out; have hcz41_0 : w39.cell? ⟨gb846, 0, none⟩ = some (.int .i64 a0_0) := (blk_cell BK846.out 0).trans rfl; have hcz41_1 : w39.cell? ⟨gb846, 1, none⟩ = some (.int .i64 a0_1) := (blk_cell BK846.out 1).trans rfl; have hcz41_2 : w39.cell? ⟨gb846, 2, none⟩ = some (.slice A0_2 l0_2.length c0_2) := (blk_cell BK846.out 2).trans rfl; have hcz41_3 : w39.cell? ⟨gb846, 3, none⟩ = some (.slice A0_3 l0_3.length c0_3) := (blk_cell BK846.out 3).trans rfl; have hfz41_0 := blk_frozen BK846.out 0; have hfz41_1 := blk_frozen BK846.out 1; have hfz41_2 := blk_frozen BK846.out 2; have hfz41_3 := blk_frozen BK846.out 3; have hcz42_0 : w39.cell? ⟨gb847, 0, none⟩ = some (.int .i64 a1_0) := (blk_cell BK847.out 0).trans rfl; have hcz42_1 : w39.cell? ⟨gb847, 1, none⟩ = some (.int .i64 a1_1) := (blk_cell BK847.out 1).trans rfl; have hcz42_2 : w39.cell? ⟨gb847, 2, none⟩ = some (.slice A1_2 l1_2.length c1_2) := (blk_cell BK847.out 2).trans rfl; have hcz42_3 : w39.cell? ⟨gb847, 3, none⟩ = some (.slice A1_3 l1_3.length c1_3) := (blk_cell BK847.out 3).trans rfl; have hfz42_0 := blk_frozen BK847.out 0; have hfz42_1 := blk_frozen BK847.out 1; have hfz42_2 := blk_frozen BK847.out 2; have hfz42_3 := blk_frozen BK847.out 3))
    go_ret
    exact ⟨by first | rfl | (simp [errW_none, errW_some] <;> rfl) | (simp [*, errW_none, errW_some] <;> rfl), by repeat (first | (with_reducible first | exact HB.out | apply below_alloc | apply pw_below_drewN | apply below_drew1 | refine below_set ?_ GE846.out | refine below_set ?_ GE847.out) | exact HB.out)⟩
end Go.Proofs.Ytjcpkplneflleaa.Q
