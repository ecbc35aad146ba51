import Derived.Test.YtehcmedeeaoebaaM1
import Derived.Test.YtehcmedeeaoebaaM2
import Derived.Maps.OwnSet
import Derived.Maps.Keyed
import Derived.StringKeys
import Derived.Shelf.Slices.In.SortNone
section
namespace Go.Proofs.Ytehcmedeeaoebaa.PB
open Go.RowKit Go.Proofs.YtehcmedeeaoebaaW.PrintWords Go.Proofs.YtehcmedeeaoebaaW.PrintLast Go.Proofs.YtehcmedeeaoebaaW.PrintMore
attribute [local go_sem] max2_int min2_int max_two min_two max_three min_three max_four min_four
set_option linter.unusedVariables false
set_option linter.unusedSimpArgs false
def ambryref15_placed.l0 : Nat → List (S80) → List (S80) → Bool → Int → Int → ByteArray → Bool → Option ((List (S80)))
  | 0, _, _, _, _, _, _, _ => none
  | k + 1, x0, x5, x6, x7, x524000, x524001, x524002 => if x7 < (x0.length : Int) then (if x6 = true then (if 0 ≤ x7 then (if x5.length < 4398046511104 then (ambryref15_placed.l0 k x0 (x5 ++ [(⟨(rd_T80 x0 x7).f0, (rd_T80 x0 x7).f1, (rd_T80 x0 x7).f2⟩ : S80)]) x6 (wrap64 (x7 + 1)) x524000 x524001 x524002) else (none)) else (none)) else (if 0 ≤ x7 then (if ((rd_T80 x0 x7).f0) < x524000 then (if x5.length < 4398046511104 then ((some (x5 ++ [(⟨x524000, x524001, x524002⟩ : S80)] : List (S80))).bind fun y529 => (if y529.length < 4398046511104 then (ambryref15_placed.l0 k x0 (y529 ++ [(⟨(rd_T80 x0 x7).f0, (rd_T80 x0 x7).f1, (rd_T80 x0 x7).f2⟩ : S80)]) true (wrap64 (x7 + 1)) x524000 x524001 x524002) else (none))) else (none)) else (if x5.length < 4398046511104 then (ambryref15_placed.l0 k x0 (x5 ++ [(⟨(rd_T80 x0 x7).f0, (rd_T80 x0 x7).f1, (rd_T80 x0 x7).f2⟩ : S80)]) x6 (wrap64 (x7 + 1)) x524000 x524001 x524002) else (none))) else (none))) else (if x6 = true then (some x5) else (if x5.length < 4398046511104 then (some (x5 ++ [(⟨x524000, x524001, x524002⟩ : S80)])) else (none)))
def ambryref15_placed.f (k : Nat) (l0 : List (S80)) (a1_0 : Int) (a1_1 : ByteArray) (a1_2 : Bool) : Option ((List (S80))) := ambryref15_placed.l0 k l0 ([] : List (S80)) false 0 a1_0 a1_1 a1_2
set_option maxHeartbeats 8000000 in
set_option maxRecDepth 100000 in
theorem ambryref15_placed.calls (k : Nat) (A0 : Option Addr) (c0 : Nat) (l0 : List (S80)) (a1_0 : Int) (a1_1 : ByteArray) (a1_2 : Bool) (r : List (S80)) (w : World) (hr0 : Kd.C k80 w A0 l0.length l0) (hc0 : l0.length ≤ c0) (h : ambryref15_placed.f k l0 a1_0 a1_1 a1_2 = some r) :
    Calls Try.prog 78 #[.slice A0 l0.length c0, .agg #[.int .i64 a1_0, .string a1_1, .bool a1_2]] w fun e w' => ∃ v0_ : Value, e = .returned (v0_) ∧ Kd.R k80 80 w' w.heap.size (fun _ => True) v0_ r ∧ Below w.heap.size w w' := by
  have hu80 := Try.underlying80
  have HR0 := Aside0.mk hr0
  have HC0 := Aside0.mk hc0
  clear hr0 hc0
  have HB := Aside0.mk (Below.refl w.heap.size w)
  have H : (ambryref15_placed.l0 k l0 ([] : List (S80)) false 0 a1_0 a1_1 a1_2) = some r := h
  clear h
  have H' := Aside0.mk H
  clear H
  go_enter Try.func78, Try.ntmps78
  go_wp2_with (first | ((with_reducible refine gate_dst (N := 3) rfl ?_); refine box_event ?hg (N := 3) ?hd (cs := #[.int .i64 a1_0, .string a1_1, .bool a1_2]) (t := 80) ?hr ?_; (case hd => rfl); (case hg => rfl); (case hr => first | (go_simp; done) | (go_simp; rfl)); intro gb523 hg w3 hbox hb; have n0_ := Aside0.mk (below_step (by repeat (first | (with_reducible first | exact HB.out | apply below_alloc | apply pw_below_drewN | apply below_drew1) | exact HB.out)) hb); have n1_ := Aside0.mk (hbox); have n2_ := Aside0.mk ((by rw [hg]; exact (below_size (by repeat (first | (with_reducible first | exact HB.out | apply below_alloc | apply pw_below_drewN | apply below_drew1) | exact HB.out))) : w.heap.size ≤ gb523)); have n3_ := Aside0.mk ((by rw [hg]; exact (below_size (by repeat (first | (with_reducible first | exact HB.out | apply below_alloc | apply pw_below_drewN | apply below_drew1) | exact HB.out))) : w.heap.size ≤ gb523)); clear HB; have HB := n0_; have BK523 := n1_; have GW523 := n2_; have GE523 := n3_; clear n0_ n1_ n2_ n3_; clear hb hbox hg))
  repeat (go_quiet (first | ((with_reducible refine gate_dst (N := 3) rfl ?_); refine box_event ?hg (N := 3) ?hd (cs := #[.int .i64 a1_0, .string a1_1, .bool a1_2]) (t := 80) ?hr ?_; (case hd => rfl); (case hg => rfl); (case hr => first | (go_simp; done) | (go_simp; rfl)); intro gb523 hg w3 hbox hb; have n0_ := Aside0.mk (below_step (by repeat (first | (with_reducible first | exact HB.out | apply below_alloc | apply pw_below_drewN | apply below_drew1) | exact HB.out)) hb); have n1_ := Aside0.mk (hbox); have n2_ := Aside0.mk ((by rw [hg]; exact (below_size (by repeat (first | (with_reducible first | exact HB.out | apply below_alloc | apply pw_below_drewN | apply below_drew1) | exact HB.out))) : w.heap.size ≤ gb523)); have n3_ := Aside0.mk ((by rw [hg]; exact (below_size (by repeat (first | (with_reducible first | exact HB.out | apply below_alloc | apply pw_below_drewN | apply below_drew1) | exact HB.out))) : w.heap.size ≤ gb523)); clear HB; have HB := n0_; have BK523 := n1_; have GW523 := n2_; have GE523 := n3_; clear n0_ n1_ n2_ n3_; clear hb hbox hg)); try go_wp2_with (first | ((with_reducible refine gate_dst (N := 3) rfl ?_); refine box_event ?hg (N := 3) ?hd (cs := #[.int .i64 a1_0, .string a1_1, .bool a1_2]) (t := 80) ?hr ?_; (case hd => rfl); (case hg => rfl); (case hr => first | (go_simp; done) | (go_simp; rfl)); intro gb523 hg w3 hbox hb; have n0_ := Aside0.mk (below_step (by repeat (first | (with_reducible first | exact HB.out | apply below_alloc | apply pw_below_drewN | apply below_drew1) | exact HB.out)) hb); have n1_ := Aside0.mk (hbox); have n2_ := Aside0.mk ((by rw [hg]; exact (below_size (by repeat (first | (with_reducible first | exact HB.out | apply below_alloc | apply pw_below_drewN | apply below_drew1) | exact HB.out))) : w.heap.size ≤ gb523)); have n3_ := Aside0.mk ((by rw [hg]; exact (below_size (by repeat (first | (with_reducible first | exact HB.out | apply below_alloc | apply pw_below_drewN | apply below_drew1) | exact HB.out))) : w.heap.size ≤ gb523)); clear HB; have HB := n0_; have BK523 := n1_; have GW523 := n2_; have GE523 := n3_; clear n0_ n1_ n2_ n3_; clear hb hbox hg)))
  go_loopg [5, 6, 7] k (fun kq v5 v6 v7 w' => ∃ (x5_1 : List (S80)) (x6_1 : Bool) (x7_1 : Int), v6 = .bool x6_1 ∧ v7 = .int .i64 x7_1 ∧ Aside0 (ambryref15_placed.l0 kq l0 x5_1 x6_1 x7_1 a1_0 a1_1 a1_2 = some r) ∧ Aside0 (kq ≤ k) ∧ Aside0 (Kd.R k80 80 w' w.heap.size (fun k_ => k_ ≠ gb523) v5 x5_1) ∧ Aside0 (w'.heap[gb523]? = some (.cells #[.int .i64 a1_0, .string a1_1, .bool a1_2] 80 (0, 0))) ∧ Aside0 (Below w.heap.size w w'))
  case atStart => exact ⟨(([] : List (S80))), (false), (0), (by first | rfl | (simp; done) | (simp [*]; done)), (by first | rfl | (simp; done) | (simp [*]; done)), H', ⟨Nat.le_refl _⟩, ⟨by first | exact Kd.R_nil _ _ _ _ _ | exact Kd.N_nil _ _ _ _ _ | exact Kd.V_nil _ _ _ _ _ | exact Kd.Q_nil _ _ _ _ _ | exact Kd.S_nil _ _ _ _ _⟩, ⟨by (with_reducible repeat (first | refine blk_drewN ?_ _ | refine blk_drew ?_ | refine blk_alloc ?_ _)); exact BK523.out⟩, ⟨by repeat (first | (with_reducible first | exact HB.out | apply below_alloc | apply pw_below_drewN | apply below_drew1 | refine below_set ?_ GE523.out) | exact HB.out)⟩⟩
  case round =>
    clear H'
    try clear p2
    obtain ⟨x5_1, x6_1, x7_1, rfl, rfl, HA, HK1, HO_5, BK523, HB⟩ := hrel
    cases gk with
    | zero => exact absurd HA.out (by simp [ambryref15_placed.l0])
    | succ k1 =>
      have H := HA.out
      clear HA
      simp only [ambryref15_placed.l0] at H
      by_cases c4 : x7_1 < (l0.length : Int)
      · rw [if_pos c4] at H
        have c4b0 : decide (x7_1 < (l0.length : Int)) = true := decide_eq_true c4
        clear c4
        by_cases c5 : x6_1 = true
        · subst c5
          have H1 : (if 0 ≤ x7_1 then (if x5_1.length < 4398046511104 then (ambryref15_placed.l0 k1 l0 (x5_1 ++ [(⟨(rd_T80 l0 x7_1).f0, (rd_T80 l0 x7_1).f1, (rd_T80 l0 x7_1).f2⟩ : S80)]) true (wrap64 (x7_1 + 1)) a1_0 a1_1 a1_2) else (none)) else (none)) = some r := by rw [if_pos rfl] at H; exact H
          clear H
          have H := H1
          clear H1
          by_cases c6 : 0 ≤ x7_1
          · rw [if_pos c6] at H
            have c6b0 : decide (0 ≤ x7_1) = true := decide_eq_true c6
            clear c6
            by_cases c7 : x5_1.length < 4398046511104
            · rw [if_pos c7] at H
              have LMc7 := Aside0.mk c7
              clear c7
              obtain ⟨y525, hy525⟩ : ∃ y_ : List (S80), y_ = (x5_1 ++ [(⟨(rd_T80 l0 x7_1).f0, (rd_T80 l0 x7_1).f1, (rd_T80 l0 x7_1).f2⟩ : S80)]) := ⟨_, rfl⟩
              replace H : (ambryref15_placed.l0 k1 l0 y525 true (wrap64 (x7_1 + 1)) a1_0 a1_1 a1_2) = some r := by first | (rw [hy525]; with_reducible exact H) | (have H2_ := (Option.bind_some _ _).symm.trans H; rw [hy525]; with_reducible exact H2_) | (have H2_ := (Option.bind_some _ _).symm.trans H; with_reducible exact H2_) | with_reducible exact H | (rw [hy525]; exact H) | exact H
              have Ny525 := Aside0.mk hy525
              clear hy525
              have H' := Aside0.mk H
              clear H
              have p524 : 0 ≤ (x7_1 : Int) := of_decide_eq_true (by first | (with_reducible assumption) | assumption)
              have q524 : x7_1 < (l0.length : Int) := of_decide_eq_true (by first | (with_reducible assumption) | assumption)
              obtain ⟨ad524, e524, hx524_0, hx524_1, hx524_2⟩ := at_T80 HR0.out x7_1 p524 q524
              cases e524
              replace hx524_0 := (HB.out.cell (World.block_lt_of_cell? w _ hx524_0)).trans hx524_0
              replace hx524_1 := (HB.out.cell (World.block_lt_of_cell? w _ hx524_1)).trans hx524_1
              replace hx524_2 := (HB.out.cell (World.block_lt_of_cell? w _ hx524_2)).trans hx524_2
              replace p524 := eq_true p524
              replace q524 := eq_true q524
              go_wp2_with (first | ((with_reducible refine gate_builtin (b := .append) (xs := #[.tmp 30, .tmp 35]) rfl ?_); at_builtin; refine Kd.R_append k80 (w0 := w) w.heap.size rfl (.tmp 30) (.tmp 35) 65 80 (.agg #[(.int .i64 0), (.string ⟨#[]⟩), (.bool false)]) 32 rfl Try.underlying65 info80 rfl (by decide) (by omega) u5 x5_1 (⟨(rd_T80 l0 x7_1).f0, (rd_T80 l0 x7_1).f1, (rd_T80 l0 x7_1).f2⟩ : S80) [.int .i64 ((rd_T80 l0 x7_1).f0), .string ((rd_T80 l0 x7_1).f1), .bool ((rd_T80 l0 x7_1).f2)] (fun k_ => k_ ≠ gb523) (fun _ => False) rfl rfl ?aP (fun _ hk => hk.elim) ?aF ?aO ?aB ?aS ?aL ?_; (case aP => exact k80_mkM _ _ _ (⟨(rd_T80 l0 x7_1).f0, (rd_T80 l0 x7_1).f1, (rd_T80 l0 x7_1).f2⟩ : S80)); (case aB => exact (by repeat (first | (with_reducible first | exact HB.out | apply below_alloc | apply pw_below_drewN | apply below_drew1 | refine below_set ?_ GE523.out) | exact HB.out))); (case aF => exact (fun k_ hk => Kd.freshB (g := gb523) (o := .cells #[.int .i64 a1_0, .string a1_1, .bool a1_2] 80 (0, 0)) (by (with_reducible repeat (first | refine blk_drewN ?_ _ | refine blk_drew ?_ | refine blk_alloc ?_ _)); exact BK523.out) k_ hk)); (case aO => exact (by (with_reducible repeat (first | apply Kd.R_alloc | apply Kd.R_drewN | apply Kd.R_drew)); exact HO_5.out)); (case aS => exact (below_size (by repeat (first | (with_reducible first | exact HB.out | apply below_alloc | apply pw_below_drewN | apply below_drew1 | refine below_set ?_ GE523.out) | exact HB.out)))); (case aL => have := LMc7.out; omega); intro v526 w8 ho hb hg hat; rw [← Ny525.out] at ho; have n0_ := Aside0.mk (blk_grown (g := gb523) (o := .cells #[.int .i64 a1_0, .string a1_1, .bool a1_2] 80 (0, 0)) (by (with_reducible repeat (first | refine blk_drewN ?_ _ | refine blk_drew ?_ | refine blk_alloc ?_ _)); exact BK523.out) hg (Kd.R_away HO_5.out (fun _ hk => hk))); have n1_ := Aside0.mk (hb); have n2_ := Aside0.mk (ho); clear BK523; clear HB; clear HO_5; have BK523 := n0_; have HB := n1_; have HO527 := n2_; clear n0_ n1_ n2_; clear ho hb hg hat))
              repeat (go_quiet (first | ((with_reducible refine gate_builtin (b := .append) (xs := #[.tmp 30, .tmp 35]) rfl ?_); at_builtin; refine Kd.R_append k80 (w0 := w) w.heap.size rfl (.tmp 30) (.tmp 35) 65 80 (.agg #[(.int .i64 0), (.string ⟨#[]⟩), (.bool false)]) 32 rfl Try.underlying65 info80 rfl (by decide) (by omega) u5 x5_1 (⟨(rd_T80 l0 x7_1).f0, (rd_T80 l0 x7_1).f1, (rd_T80 l0 x7_1).f2⟩ : S80) [.int .i64 ((rd_T80 l0 x7_1).f0), .string ((rd_T80 l0 x7_1).f1), .bool ((rd_T80 l0 x7_1).f2)] (fun k_ => k_ ≠ gb523) (fun _ => False) rfl rfl ?aP (fun _ hk => hk.elim) ?aF ?aO ?aB ?aS ?aL ?_; (case aP => exact k80_mkM _ _ _ (⟨(rd_T80 l0 x7_1).f0, (rd_T80 l0 x7_1).f1, (rd_T80 l0 x7_1).f2⟩ : S80)); (case aB => exact (by repeat (first | (with_reducible first | exact HB.out | apply below_alloc | apply pw_below_drewN | apply below_drew1 | refine below_set ?_ GE523.out) | exact HB.out))); (case aF => exact (fun k_ hk => Kd.freshB (g := gb523) (o := .cells #[.int .i64 a1_0, .string a1_1, .bool a1_2] 80 (0, 0)) (by (with_reducible repeat (first | refine blk_drewN ?_ _ | refine blk_drew ?_ | refine blk_alloc ?_ _)); exact BK523.out) k_ hk)); (case aO => exact (by (with_reducible repeat (first | apply Kd.R_alloc | apply Kd.R_drewN | apply Kd.R_drew)); exact HO_5.out)); (case aS => exact (below_size (by repeat (first | (with_reducible first | exact HB.out | apply below_alloc | apply pw_below_drewN | apply below_drew1 | refine below_set ?_ GE523.out) | exact HB.out)))); (case aL => have := LMc7.out; omega); intro v526 w8 ho hb hg hat; rw [← Ny525.out] at ho; have n0_ := Aside0.mk (blk_grown (g := gb523) (o := .cells #[.int .i64 a1_0, .string a1_1, .bool a1_2] 80 (0, 0)) (by (with_reducible repeat (first | refine blk_drewN ?_ _ | refine blk_drew ?_ | refine blk_alloc ?_ _)); exact BK523.out) hg (Kd.R_away HO_5.out (fun _ hk => hk))); have n1_ := Aside0.mk (hb); have n2_ := Aside0.mk (ho); clear BK523; clear HB; clear HO_5; have BK523 := n0_; have HB := n1_; have HO527 := n2_; clear n0_ n1_ n2_; clear ho hb hg hat)); try go_wp2_with (first | ((with_reducible refine gate_builtin (b := .append) (xs := #[.tmp 30, .tmp 35]) rfl ?_); at_builtin; refine Kd.R_append k80 (w0 := w) w.heap.size rfl (.tmp 30) (.tmp 35) 65 80 (.agg #[(.int .i64 0), (.string ⟨#[]⟩), (.bool false)]) 32 rfl Try.underlying65 info80 rfl (by decide) (by omega) u5 x5_1 (⟨(rd_T80 l0 x7_1).f0, (rd_T80 l0 x7_1).f1, (rd_T80 l0 x7_1).f2⟩ : S80) [.int .i64 ((rd_T80 l0 x7_1).f0), .string ((rd_T80 l0 x7_1).f1), .bool ((rd_T80 l0 x7_1).f2)] (fun k_ => k_ ≠ gb523) (fun _ => False) rfl rfl ?aP (fun _ hk => hk.elim) ?aF ?aO ?aB ?aS ?aL ?_; (case aP => exact k80_mkM _ _ _ (⟨(rd_T80 l0 x7_1).f0, (rd_T80 l0 x7_1).f1, (rd_T80 l0 x7_1).f2⟩ : S80)); (case aB => exact (by repeat (first | (with_reducible first | exact HB.out | apply below_alloc | apply pw_below_drewN | apply below_drew1 | refine below_set ?_ GE523.out) | exact HB.out))); (case aF => exact (fun k_ hk => Kd.freshB (g := gb523) (o := .cells #[.int .i64 a1_0, .string a1_1, .bool a1_2] 80 (0, 0)) (by (with_reducible repeat (first | refine blk_drewN ?_ _ | refine blk_drew ?_ | refine blk_alloc ?_ _)); exact BK523.out) k_ hk)); (case aO => exact (by (with_reducible repeat (first | apply Kd.R_alloc | apply Kd.R_drewN | apply Kd.R_drew)); exact HO_5.out)); (case aS => exact (below_size (by repeat (first | (with_reducible first | exact HB.out | apply below_alloc | apply pw_below_drewN | apply below_drew1 | refine below_set ?_ GE523.out) | exact HB.out)))); (case aL => have := LMc7.out; omega); intro v526 w8 ho hb hg hat; rw [← Ny525.out] at ho; have n0_ := Aside0.mk (blk_grown (g := gb523) (o := .cells #[.int .i64 a1_0, .string a1_1, .bool a1_2] 80 (0, 0)) (by (with_reducible repeat (first | refine blk_drewN ?_ _ | refine blk_drew ?_ | refine blk_alloc ?_ _)); exact BK523.out) hg (Kd.R_away HO_5.out (fun _ hk => hk))); have n1_ := Aside0.mk (hb); have n2_ := Aside0.mk (ho); clear BK523; clear HB; clear HO_5; have BK523 := n0_; have HB := n1_; have HO527 := n2_; clear n0_ n1_ n2_; clear ho hb hg hat)))
              go_roundg k1
              case measure => have := HK1.out; omega
              case rel => exact ⟨(y525), (true), (wrap64 (x7_1 + 1)), (by first | rfl | (simp; done) | (simp [*]; done)), (by first | rfl | (simp; done) | (simp [*]; done)), H', ⟨by have := HK1.out; omega⟩, ⟨by (with_reducible repeat (first | apply Kd.R_alloc | apply Kd.R_drewN | apply Kd.R_drew)); exact HO527.out⟩, ⟨by (with_reducible repeat (first | refine blk_drewN ?_ _ | refine blk_drew ?_ | refine blk_alloc ?_ _)); exact BK523.out⟩, ⟨by repeat (first | (with_reducible first | exact HB.out | apply below_alloc | apply pw_below_drewN | apply below_drew1 | refine below_set ?_ GE523.out) | exact HB.out)⟩⟩
            · rw [if_neg c7] at H
              exact absurd H (by simp)
          · rw [if_neg c6] at H
            exact absurd H (by simp)
        · replace c5 := Bool.eq_false_iff.mpr c5
          subst c5
          have H1 : (if 0 ≤ x7_1 then (if ((rd_T80 l0 x7_1).f0) < a1_0 then (if x5_1.length < 4398046511104 then ((some (x5_1 ++ [(⟨a1_0, a1_1, a1_2⟩ : S80)] : List (S80))).bind fun y529 => (if y529.length < 4398046511104 then (ambryref15_placed.l0 k1 l0 (y529 ++ [(⟨(rd_T80 l0 x7_1).f0, (rd_T80 l0 x7_1).f1, (rd_T80 l0 x7_1).f2⟩ : S80)]) true (wrap64 (x7_1 + 1)) a1_0 a1_1 a1_2) else (none))) else (none)) else (if x5_1.length < 4398046511104 then (ambryref15_placed.l0 k1 l0 (x5_1 ++ [(⟨(rd_T80 l0 x7_1).f0, (rd_T80 l0 x7_1).f1, (rd_T80 l0 x7_1).f2⟩ : S80)]) false (wrap64 (x7_1 + 1)) a1_0 a1_1 a1_2) else (none))) else (none)) = some r := by rw [if_neg (show ¬ (false = true) by decide)] at H; exact H
          clear H
          have H := H1
          clear H1
          by_cases c9 : 0 ≤ x7_1
          · rw [if_pos c9] at H
            have c9b0 : decide (0 ≤ x7_1) = true := decide_eq_true c9
            clear c9
            by_cases c10 : ((rd_T80 l0 x7_1).f0) < a1_0
            · rw [if_pos c10] at H
              have c10b0 : decide (((rd_T80 l0 x7_1).f0) < a1_0) = true := decide_eq_true c10
              clear c10
              by_cases c11 : x5_1.length < 4398046511104
              · rw [if_pos c11] at H
                have LMc11 := Aside0.mk c11
                clear c11
                obtain ⟨y529, hy529⟩ : ∃ y_ : List (S80), y_ = (x5_1 ++ [(⟨a1_0, a1_1, a1_2⟩ : S80)]) := ⟨_, rfl⟩
                replace H : (if y529.length < 4398046511104 then (ambryref15_placed.l0 k1 l0 (y529 ++ [(⟨(rd_T80 l0 x7_1).f0, (rd_T80 l0 x7_1).f1, (rd_T80 l0 x7_1).f2⟩ : S80)]) true (wrap64 (x7_1 + 1)) a1_0 a1_1 a1_2) else (none)) = some r := by first | (rw [hy529]; with_reducible exact H) | (have H2_ := (Option.bind_some _ _).symm.trans H; rw [hy529]; with_reducible exact H2_) | (have H2_ := (Option.bind_some _ _).symm.trans H; with_reducible exact H2_) | with_reducible exact H | (rw [hy529]; exact H) | exact H
                have Ny529 := Aside0.mk hy529
                clear hy529
                by_cases c12 : y529.length < 4398046511104
                · rw [if_pos c12] at H
                  have LMc12 := Aside0.mk c12
                  clear c12
                  obtain ⟨y533, hy533⟩ : ∃ y_ : List (S80), y_ = (y529 ++ [(⟨(rd_T80 l0 x7_1).f0, (rd_T80 l0 x7_1).f1, (rd_T80 l0 x7_1).f2⟩ : S80)]) := ⟨_, rfl⟩
                  replace H : (ambryref15_placed.l0 k1 l0 y533 true (wrap64 (x7_1 + 1)) a1_0 a1_1 a1_2) = some r := by first | (rw [hy533]; with_reducible exact H) | (have H2_ := (Option.bind_some _ _).symm.trans H; rw [hy533]; with_reducible exact H2_) | (have H2_ := (Option.bind_some _ _).symm.trans H; with_reducible exact H2_) | with_reducible exact H | (rw [hy533]; exact H) | exact H
                  have Ny533 := Aside0.mk hy533
                  clear hy533
                  have H' := Aside0.mk H
                  clear H
                  have p528 : 0 ≤ (x7_1 : Int) := of_decide_eq_true (by first | (with_reducible assumption) | assumption)
                  have q528 : x7_1 < (l0.length : Int) := of_decide_eq_true (by first | (with_reducible assumption) | assumption)
                  obtain ⟨ad528, e528, hx528_0, hx528_1, hx528_2⟩ := at_T80 HR0.out x7_1 p528 q528
                  cases e528
                  replace hx528_0 := (HB.out.cell (World.block_lt_of_cell? w _ hx528_0)).trans hx528_0
                  replace hx528_1 := (HB.out.cell (World.block_lt_of_cell? w _ hx528_1)).trans hx528_1
                  replace hx528_2 := (HB.out.cell (World.block_lt_of_cell? w _ hx528_2)).trans hx528_2
                  replace p528 := eq_true p528
                  replace q528 := eq_true q528
                  have hcz13_0 : wr.cell? ⟨gb523, 0, none⟩ = some (.int .i64 a1_0) := (blk_cell BK523.out 0).trans rfl
                  have hcz13_1 : wr.cell? ⟨gb523, 1, none⟩ = some (.string a1_1) := (blk_cell BK523.out 1).trans rfl
                  have hcz13_2 : wr.cell? ⟨gb523, 2, none⟩ = some (.bool a1_2) := (blk_cell BK523.out 2).trans rfl
                  have hfz13_0 := blk_frozen BK523.out 0
                  have hfz13_1 := blk_frozen BK523.out 1
                  have hfz13_2 := blk_frozen BK523.out 2
                  go_wp2_with (first | ((with_reducible refine gate_builtin (b := .append) (xs := #[.tmp 26, .tmp 28]) rfl ?_); at_builtin; refine Kd.R_append k80 (w0 := w) w.heap.size rfl (.tmp 26) (.tmp 28) 65 80 (.agg #[(.int .i64 0), (.string ⟨#[]⟩), (.bool false)]) 32 rfl Try.underlying65 info80 rfl (by decide) (by omega) u5 x5_1 (⟨a1_0, a1_1, a1_2⟩ : S80) [.int .i64 a1_0, .string a1_1, .bool a1_2] (fun k_ => k_ ≠ gb523) (fun _ => False) rfl rfl ?aP (fun _ hk => hk.elim) ?aF ?aO ?aB ?aS ?aL ?_; (case aP => exact k80_mkM _ _ _ (⟨a1_0, a1_1, a1_2⟩ : S80)); (case aB => exact (by repeat (first | (with_reducible first | exact HB.out | apply below_alloc | apply pw_below_drewN | apply below_drew1 | refine below_set ?_ GE523.out) | exact HB.out))); (case aF => exact (fun k_ hk => Kd.freshB (g := gb523) (o := .cells #[.int .i64 a1_0, .string a1_1, .bool a1_2] 80 (0, 0)) (by (with_reducible repeat (first | refine blk_drewN ?_ _ | refine blk_drew ?_ | refine blk_alloc ?_ _)); exact BK523.out) k_ hk)); (case aO => exact (by (with_reducible repeat (first | apply Kd.R_alloc | apply Kd.R_drewN | apply Kd.R_drew)); exact HO_5.out)); (case aS => exact (below_size (by repeat (first | (with_reducible first | exact HB.out | apply below_alloc | apply pw_below_drewN | apply below_drew1 | refine below_set ?_ GE523.out) | exact HB.out)))); (case aL => have := LMc11.out; omega); intro v530 w14 ho hb hg hat; rw [← Ny529.out] at ho; have n0_ := Aside0.mk (blk_grown (g := gb523) (o := .cells #[.int .i64 a1_0, .string a1_1, .bool a1_2] 80 (0, 0)) (by (with_reducible repeat (first | refine blk_drewN ?_ _ | refine blk_drew ?_ | refine blk_alloc ?_ _)); exact BK523.out) hg (Kd.R_away HO_5.out (fun _ hk => hk))); have n1_ := Aside0.mk (hb); have n2_ := Aside0.mk (ho); clear BK523; clear HB; clear HO_5; have BK523 := n0_; have HB := n1_; have HO531 := n2_; clear n0_ n1_ n2_; clear ho hb hg hat; have p532 : 0 ≤ (x7_1 : Int) := of_decide_eq_true (by first | (with_reducible assumption) | assumption); have q532 : x7_1 < (l0.length : Int) := of_decide_eq_true (by first | (with_reducible assumption) | assumption); obtain ⟨ad532, e532, hx532_0, hx532_1, hx532_2⟩ := at_T80 HR0.out x7_1 p532 q532; obtain rfl : ad528 = ad532 := (by injection e532); replace hx532_0 := (HB.out.cell (World.block_lt_of_cell? w _ hx532_0)).trans hx532_0; replace hx532_1 := (HB.out.cell (World.block_lt_of_cell? w _ hx532_1)).trans hx532_1; replace hx532_2 := (HB.out.cell (World.block_lt_of_cell? w _ hx532_2)).trans hx532_2; replace p532 := eq_true p532; replace q532 := eq_true q532) | ((with_reducible refine gate_builtin (b := .append) (xs := #[.tmp 30, .tmp 35]) rfl ?_); at_builtin; refine Kd.R_append k80 (w0 := w) w.heap.size rfl (.tmp 30) (.tmp 35) 65 80 (.agg #[(.int .i64 0), (.string ⟨#[]⟩), (.bool false)]) 32 rfl Try.underlying65 info80 rfl (by decide) (by omega) v530 y529 (⟨(rd_T80 l0 x7_1).f0, (rd_T80 l0 x7_1).f1, (rd_T80 l0 x7_1).f2⟩ : S80) [.int .i64 ((rd_T80 l0 x7_1).f0), .string ((rd_T80 l0 x7_1).f1), .bool ((rd_T80 l0 x7_1).f2)] (fun k_ => k_ ≠ gb523) (fun _ => False) rfl rfl ?aP (fun _ hk => hk.elim) ?aF ?aO ?aB ?aS ?aL ?_; (case aP => exact k80_mkM _ _ _ (⟨(rd_T80 l0 x7_1).f0, (rd_T80 l0 x7_1).f1, (rd_T80 l0 x7_1).f2⟩ : S80)); (case aB => exact (by repeat (first | (with_reducible first | exact HB.out | apply below_alloc | apply pw_below_drewN | apply below_drew1 | refine below_set ?_ GE523.out) | exact HB.out))); (case aF => exact (fun k_ hk => Kd.freshB (g := gb523) (o := .cells #[.int .i64 a1_0, .string a1_1, .bool a1_2] 80 (0, 0)) (by (with_reducible repeat (first | refine blk_drewN ?_ _ | refine blk_drew ?_ | refine blk_alloc ?_ _)); exact BK523.out) k_ hk)); (case aO => exact (by (with_reducible repeat (first | apply Kd.R_alloc | apply Kd.R_drewN | apply Kd.R_drew)); exact HO531.out)); (case aS => exact (below_size (by repeat (first | (with_reducible first | exact HB.out | apply below_alloc | apply pw_below_drewN | apply below_drew1 | refine below_set ?_ GE523.out) | exact HB.out)))); (case aL => have := LMc12.out; omega); intro v534 w15 ho hb hg hat; rw [← Ny533.out] at ho; have n0_ := Aside0.mk (blk_grown (g := gb523) (o := .cells #[.int .i64 a1_0, .string a1_1, .bool a1_2] 80 (0, 0)) (by (with_reducible repeat (first | refine blk_drewN ?_ _ | refine blk_drew ?_ | refine blk_alloc ?_ _)); exact BK523.out) hg (Kd.R_away HO531.out (fun _ hk => hk))); have n1_ := Aside0.mk (hb); have n2_ := Aside0.mk (ho); clear BK523; clear HB; clear HO531; have BK523 := n0_; have HB := n1_; have HO535 := n2_; clear n0_ n1_ n2_; clear ho hb hg hat))
                  repeat (go_quiet (first | ((with_reducible refine gate_builtin (b := .append) (xs := #[.tmp 26, .tmp 28]) rfl ?_); at_builtin; refine Kd.R_append k80 (w0 := w) w.heap.size rfl (.tmp 26) (.tmp 28) 65 80 (.agg #[(.int .i64 0), (.string ⟨#[]⟩), (.bool false)]) 32 rfl Try.underlying65 info80 rfl (by decide) (by omega) u5 x5_1 (⟨a1_0, a1_1, a1_2⟩ : S80) [.int .i64 a1_0, .string a1_1, .bool a1_2] (fun k_ => k_ ≠ gb523) (fun _ => False) rfl rfl ?aP (fun _ hk => hk.elim) ?aF ?aO ?aB ?aS ?aL ?_; (case aP => exact k80_mkM _ _ _ (⟨a1_0, a1_1, a1_2⟩ : S80)); (case aB => exact (by repeat (first | (with_reducible first | exact HB.out | apply below_alloc | apply pw_below_drewN | apply below_drew1 | refine below_set ?_ GE523.out) | exact HB.out))); (case aF => exact (fun k_ hk => Kd.freshB (g := gb523) (o := .cells #[.int .i64 a1_0, .string a1_1, .bool a1_2] 80 (0, 0)) (by (with_reducible repeat (first | refine blk_drewN ?_ _ | refine blk_drew ?_ | refine blk_alloc ?_ _)); exact BK523.out) k_ hk)); (case aO => exact (by (with_reducible repeat (first | apply Kd.R_alloc | apply Kd.R_drewN | apply Kd.R_drew)); exact HO_5.out)); (case aS => exact (below_size (by repeat (first | (with_reducible first | exact HB.out | apply below_alloc | apply pw_below_drewN | apply below_drew1 | refine below_set ?_ GE523.out) | exact HB.out)))); (case aL => have := LMc11.out; omega); intro v530 w14 ho hb hg hat; rw [← Ny529.out] at ho; have n0_ := Aside0.mk (blk_grown (g := gb523) (o := .cells #[.int .i64 a1_0, .string a1_1, .bool a1_2] 80 (0, 0)) (by (with_reducible repeat (first | refine blk_drewN ?_ _ | refine blk_drew ?_ | refine blk_alloc ?_ _)); exact BK523.out) hg (Kd.R_away HO_5.out (fun _ hk => hk))); have n1_ := Aside0.mk (hb); have n2_ := Aside0.mk (ho); clear BK523; clear HB; clear HO_5; have BK523 := n0_; have HB := n1_; have HO531 := n2_; clear n0_ n1_ n2_; clear ho hb hg hat; have p532 : 0 ≤ (x7_1 : Int) := of_decide_eq_true (by first | (with_reducible assumption) | assumption); have q532 : x7_1 < (l0.length : Int) := of_decide_eq_true (by first | (with_reducible assumption) | assumption); obtain ⟨ad532, e532, hx532_0, hx532_1, hx532_2⟩ := at_T80 HR0.out x7_1 p532 q532; obtain rfl : ad528 = ad532 := (by injection e532); replace hx532_0 := (HB.out.cell (World.block_lt_of_cell? w _ hx532_0)).trans hx532_0; replace hx532_1 := (HB.out.cell (World.block_lt_of_cell? w _ hx532_1)).trans hx532_1; replace hx532_2 := (HB.out.cell (World.block_lt_of_cell? w _ hx532_2)).trans hx532_2; replace p532 := eq_true p532; replace q532 := eq_true q532) | ((with_reducible refine gate_builtin (b := .append) (xs := #[.tmp 30, .tmp 35]) rfl ?_); at_builtin; refine Kd.R_append k80 (w0 := w) w.heap.size rfl (.tmp 30) (.tmp 35) 65 80 (.agg #[(.int .i64 0), (.string ⟨#[]⟩), (.bool false)]) 32 rfl Try.underlying65 info80 rfl (by decide) (by omega) v530 y529 (⟨(rd_T80 l0 x7_1).f0, (rd_T80 l0 x7_1).f1, (rd_T80 l0 x7_1).f2⟩ : S80) [.int .i64 ((rd_T80 l0 x7_1).f0), .string ((rd_T80 l0 x7_1).f1), .bool ((rd_T80 l0 x7_1).f2)] (fun k_ => k_ ≠ gb523) (fun _ => False) rfl rfl ?aP (fun _ hk => hk.elim) ?aF ?aO ?aB ?aS ?aL ?_; (case aP => exact k80_mkM _ _ _ (⟨(rd_T80 l0 x7_1).f0, (rd_T80 l0 x7_1).f1, (rd_T80 l0 x7_1).f2⟩ : S80)); (case aB => exact (by repeat (first | (with_reducible first | exact HB.out | apply below_alloc | apply pw_below_drewN | apply below_drew1 | refine below_set ?_ GE523.out) | exact HB.out))); (case aF => exact (fun k_ hk => Kd.freshB (g := gb523) (o := .cells #[.int .i64 a1_0, .string a1_1, .bool a1_2] 80 (0, 0)) (by (with_reducible repeat (first | refine blk_drewN ?_ _ | refine blk_drew ?_ | refine blk_alloc ?_ _)); exact BK523.out) k_ hk)); (case aO => exact (by (with_reducible repeat (first | apply Kd.R_alloc | apply Kd.R_drewN | apply Kd.R_drew)); exact HO531.out)); (case aS => exact (below_size (by repeat (first | (with_reducible first | exact HB.out | apply below_alloc | apply pw_below_drewN | apply below_drew1 | refine below_set ?_ GE523.out) | exact HB.out)))); (case aL => have := LMc12.out; omega); intro v534 w15 ho hb hg hat; rw [← Ny533.out] at ho; have n0_ := Aside0.mk (blk_grown (g := gb523) (o := .cells #[.int .i64 a1_0, .string a1_1, .bool a1_2] 80 (0, 0)) (by (with_reducible repeat (first | refine blk_drewN ?_ _ | refine blk_drew ?_ | refine blk_alloc ?_ _)); exact BK523.out) hg (Kd.R_away HO531.out (fun _ hk => hk))); have n1_ := Aside0.mk (hb); have n2_ := Aside0.mk (ho); clear BK523; clear HB; clear HO531; have BK523 := n0_; have HB := n1_; have HO535 := n2_; clear n0_ n1_ n2_; clear ho hb hg hat)); try go_wp2_with (first | ((with_reducible refine gate_builtin (b := .append) (xs := #[.tmp 26, .tmp 28]) rfl ?_); at_builtin; refine Kd.R_append k80 (w0 := w) w.heap.size rfl (.tmp 26) (.tmp 28) 65 80 (.agg #[(.int .i64 0), (.string ⟨#[]⟩), (.bool false)]) 32 rfl Try.underlying65 info80 rfl (by decide) (by omega) u5 x5_1 (⟨a1_0, a1_1, a1_2⟩ : S80) [.int .i64 a1_0, .string a1_1, .bool a1_2] (fun k_ => k_ ≠ gb523) (fun _ => False) rfl rfl ?aP (fun _ hk => hk.elim) ?aF ?aO ?aB ?aS ?aL ?_; (case aP => exact k80_mkM _ _ _ (⟨a1_0, a1_1, a1_2⟩ : S80)); (case aB => exact (by repeat (first | (with_reducible first | exact HB.out | apply below_alloc | apply pw_below_drewN | apply below_drew1 | refine below_set ?_ GE523.out) | exact HB.out))); (case aF => exact (fun k_ hk => Kd.freshB (g := gb523) (o := .cells #[.int .i64 a1_0, .string a1_1, .bool a1_2] 80 (0, 0)) (by (with_reducible repeat (first | refine blk_drewN ?_ _ | refine blk_drew ?_ | refine blk_alloc ?_ _)); exact BK523.out) k_ hk)); (case aO => exact (by (with_reducible repeat (first | apply Kd.R_alloc | apply Kd.R_drewN | apply Kd.R_drew)); exact HO_5.out)); (case aS => exact (below_size (by repeat (first | (with_reducible first | exact HB.out | apply below_alloc | apply pw_below_drewN | apply below_drew1 | refine below_set ?_ GE523.out) | exact HB.out)))); (case aL => have := LMc11.out; omega); intro v530 w14 ho hb hg hat; rw [← Ny529.out] at ho; have n0_ := Aside0.mk (blk_grown (g := gb523) (o := .cells #[.int .i64 a1_0, .string a1_1, .bool a1_2] 80 (0, 0)) (by (with_reducible repeat (first | refine blk_drewN ?_ _ | refine blk_drew ?_ | refine blk_alloc ?_ _)); exact BK523.out) hg (Kd.R_away HO_5.out (fun _ hk => hk))); have n1_ := Aside0.mk (hb); have n2_ := Aside0.mk (ho); clear BK523; clear HB; clear HO_5; have BK523 := n0_; have HB := n1_; have HO531 := n2_; clear n0_ n1_ n2_; clear ho hb hg hat; have p532 : 0 ≤ (x7_1 : Int) := of_decide_eq_true (by first | (with_reducible assumption) | assumption); have q532 : x7_1 < (l0.length : Int) := of_decide_eq_true (by first | (with_reducible assumption) | assumption); obtain ⟨ad532, e532, hx532_0, hx532_1, hx532_2⟩ := at_T80 HR0.out x7_1 p532 q532; obtain rfl : ad528 = ad532 := (by injection e532); replace hx532_0 := (HB.out.cell (World.block_lt_of_cell? w _ hx532_0)).trans hx532_0; replace hx532_1 := (HB.out.cell (World.block_lt_of_cell? w _ hx532_1)).trans hx532_1; replace hx532_2 := (HB.out.cell (World.block_lt_of_cell? w _ hx532_2)).trans hx532_2; replace p532 := eq_true p532; replace q532 := eq_true q532) | ((with_reducible refine gate_builtin (b := .append) (xs := #[.tmp 30, .tmp 35]) rfl ?_); at_builtin; refine Kd.R_append k80 (w0 := w) w.heap.size rfl (.tmp 30) (.tmp 35) 65 80 (.agg #[(.int .i64 0), (.string ⟨#[]⟩), (.bool false)]) 32 rfl Try.underlying65 info80 rfl (by decide) (by omega) v530 y529 (⟨(rd_T80 l0 x7_1).f0, (rd_T80 l0 x7_1).f1, (rd_T80 l0 x7_1).f2⟩ : S80) [.int .i64 ((rd_T80 l0 x7_1).f0), .string ((rd_T80 l0 x7_1).f1), .bool ((rd_T80 l0 x7_1).f2)] (fun k_ => k_ ≠ gb523) (fun _ => False) rfl rfl ?aP (fun _ hk => hk.elim) ?aF ?aO ?aB ?aS ?aL ?_; (case aP => exact k80_mkM _ _ _ (⟨(rd_T80 l0 x7_1).f0, (rd_T80 l0 x7_1).f1, (rd_T80 l0 x7_1).f2⟩ : S80)); (case aB => exact (by repeat (first | (with_reducible first | exact HB.out | apply below_alloc | apply pw_below_drewN | apply below_drew1 | refine below_set ?_ GE523.out) | exact HB.out))); (case aF => exact (fun k_ hk => Kd.freshB (g := gb523) (o := .cells #[.int .i64 a1_0, .string a1_1, .bool a1_2] 80 (0, 0)) (by (with_reducible repeat (first | refine blk_drewN ?_ _ | refine blk_drew ?_ | refine blk_alloc ?_ _)); exact BK523.out) k_ hk)); (case aO => exact (by (with_reducible repeat (first | apply Kd.R_alloc | apply Kd.R_drewN | apply Kd.R_drew)); exact HO531.out)); (case aS => exact (below_size (by repeat (first | (with_reducible first | exact HB.out | apply below_alloc | apply pw_below_drewN | apply below_drew1 | refine below_set ?_ GE523.out) | exact HB.out)))); (case aL => have := LMc12.out; omega); intro v534 w15 ho hb hg hat; rw [← Ny533.out] at ho; have n0_ := Aside0.mk (blk_grown (g := gb523) (o := .cells #[.int .i64 a1_0, .string a1_1, .bool a1_2] 80 (0, 0)) (by (with_reducible repeat (first | refine blk_drewN ?_ _ | refine blk_drew ?_ | refine blk_alloc ?_ _)); exact BK523.out) hg (Kd.R_away HO531.out (fun _ hk => hk))); have n1_ := Aside0.mk (hb); have n2_ := Aside0.mk (ho); clear BK523; clear HB; clear HO531; have BK523 := n0_; have HB := n1_; have HO535 := n2_; clear n0_ n1_ n2_; clear ho hb hg hat)))
                  go_roundg k1
                  case measure => have := HK1.out; omega
                  case rel => exact ⟨(y533), (true), (wrap64 (x7_1 + 1)), (by first | rfl | (simp; done) | (simp [*]; done)), (by first | rfl | (simp; done) | (simp [*]; done)), H', ⟨by have := HK1.out; omega⟩, ⟨by (with_reducible repeat (first | apply Kd.R_alloc | apply Kd.R_drewN | apply Kd.R_drew)); exact HO535.out⟩, ⟨by (with_reducible repeat (first | refine blk_drewN ?_ _ | refine blk_drew ?_ | refine blk_alloc ?_ _)); exact BK523.out⟩, ⟨by repeat (first | (with_reducible first | exact HB.out | apply below_alloc | apply pw_below_drewN | apply below_drew1 | refine below_set ?_ GE523.out) | exact HB.out)⟩⟩
                · rw [if_neg c12] at H
                  exact absurd H (by simp)
              · rw [if_neg c11] at H
                exact absurd H (by simp)
            · rw [if_neg c10] at H
              have c10b0 : decide (((rd_T80 l0 x7_1).f0) < a1_0) = false := decide_eq_false c10
              clear c10
              by_cases c16 : x5_1.length < 4398046511104
              · rw [if_pos c16] at H
                have LMc16 := Aside0.mk c16
                clear c16
                obtain ⟨y537, hy537⟩ : ∃ y_ : List (S80), y_ = (x5_1 ++ [(⟨(rd_T80 l0 x7_1).f0, (rd_T80 l0 x7_1).f1, (rd_T80 l0 x7_1).f2⟩ : S80)]) := ⟨_, rfl⟩
                replace H : (ambryref15_placed.l0 k1 l0 y537 false (wrap64 (x7_1 + 1)) a1_0 a1_1 a1_2) = some r := by first | (rw [hy537]; with_reducible exact H) | (have H2_ := (Option.bind_some _ _).symm.trans H; rw [hy537]; with_reducible exact H2_) | (have H2_ := (Option.bind_some _ _).symm.trans H; with_reducible exact H2_) | with_reducible exact H | (rw [hy537]; exact H) | exact H
                have Ny537 := Aside0.mk hy537
                clear hy537
                have H' := Aside0.mk H
                clear H
                have p528 : 0 ≤ (x7_1 : Int) := of_decide_eq_true (by first | (with_reducible assumption) | assumption)
                have q528 : x7_1 < (l0.length : Int) := of_decide_eq_true (by first | (with_reducible assumption) | assumption)
                obtain ⟨ad528, e528, hx528_0, hx528_1, hx528_2⟩ := at_T80 HR0.out x7_1 p528 q528
                cases e528
                replace hx528_0 := (HB.out.cell (World.block_lt_of_cell? w _ hx528_0)).trans hx528_0
                replace hx528_1 := (HB.out.cell (World.block_lt_of_cell? w _ hx528_1)).trans hx528_1
                replace hx528_2 := (HB.out.cell (World.block_lt_of_cell? w _ hx528_2)).trans hx528_2
                replace p528 := eq_true p528
                replace q528 := eq_true q528
                have hcz17_0 : wr.cell? ⟨gb523, 0, none⟩ = some (.int .i64 a1_0) := (blk_cell BK523.out 0).trans rfl
                have hcz17_1 : wr.cell? ⟨gb523, 1, none⟩ = some (.string a1_1) := (blk_cell BK523.out 1).trans rfl
                have hcz17_2 : wr.cell? ⟨gb523, 2, none⟩ = some (.bool a1_2) := (blk_cell BK523.out 2).trans rfl
                have hfz17_0 := blk_frozen BK523.out 0
                have hfz17_1 := blk_frozen BK523.out 1
                have hfz17_2 := blk_frozen BK523.out 2
                have p536 : 0 ≤ (x7_1 : Int) := of_decide_eq_true (by first | (with_reducible assumption) | assumption)
                have q536 : x7_1 < (l0.length : Int) := of_decide_eq_true (by first | (with_reducible assumption) | assumption)
                obtain ⟨ad536, e536, hx536_0, hx536_1, hx536_2⟩ := at_T80 HR0.out x7_1 p536 q536
                obtain rfl : ad528 = ad536 := (by injection e536)
                replace hx536_0 := (HB.out.cell (World.block_lt_of_cell? w _ hx536_0)).trans hx536_0
                replace hx536_1 := (HB.out.cell (World.block_lt_of_cell? w _ hx536_1)).trans hx536_1
                replace hx536_2 := (HB.out.cell (World.block_lt_of_cell? w _ hx536_2)).trans hx536_2
                replace p536 := eq_true p536
                replace q536 := eq_true q536
                go_wp2_with (first | ((with_reducible refine gate_builtin (b := .append) (xs := #[.tmp 30, .tmp 35]) rfl ?_); at_builtin; refine Kd.R_append k80 (w0 := w) w.heap.size rfl (.tmp 30) (.tmp 35) 65 80 (.agg #[(.int .i64 0), (.string ⟨#[]⟩), (.bool false)]) 32 rfl Try.underlying65 info80 rfl (by decide) (by omega) u5 x5_1 (⟨(rd_T80 l0 x7_1).f0, (rd_T80 l0 x7_1).f1, (rd_T80 l0 x7_1).f2⟩ : S80) [.int .i64 ((rd_T80 l0 x7_1).f0), .string ((rd_T80 l0 x7_1).f1), .bool ((rd_T80 l0 x7_1).f2)] (fun k_ => k_ ≠ gb523) (fun _ => False) rfl rfl ?aP (fun _ hk => hk.elim) ?aF ?aO ?aB ?aS ?aL ?_; (case aP => exact k80_mkM _ _ _ (⟨(rd_T80 l0 x7_1).f0, (rd_T80 l0 x7_1).f1, (rd_T80 l0 x7_1).f2⟩ : S80)); (case aB => exact (by repeat (first | (with_reducible first | exact HB.out | apply below_alloc | apply pw_below_drewN | apply below_drew1 | refine below_set ?_ GE523.out) | exact HB.out))); (case aF => exact (fun k_ hk => Kd.freshB (g := gb523) (o := .cells #[.int .i64 a1_0, .string a1_1, .bool a1_2] 80 (0, 0)) (by (with_reducible repeat (first | refine blk_drewN ?_ _ | refine blk_drew ?_ | refine blk_alloc ?_ _)); exact BK523.out) k_ hk)); (case aO => exact (by (with_reducible repeat (first | apply Kd.R_alloc | apply Kd.R_drewN | apply Kd.R_drew)); exact HO_5.out)); (case aS => exact (below_size (by repeat (first | (with_reducible first | exact HB.out | apply below_alloc | apply pw_below_drewN | apply below_drew1 | refine below_set ?_ GE523.out) | exact HB.out)))); (case aL => have := LMc16.out; omega); intro v538 w18 ho hb hg hat; rw [← Ny537.out] at ho; have n0_ := Aside0.mk (blk_grown (g := gb523) (o := .cells #[.int .i64 a1_0, .string a1_1, .bool a1_2] 80 (0, 0)) (by (with_reducible repeat (first | refine blk_drewN ?_ _ | refine blk_drew ?_ | refine blk_alloc ?_ _)); exact BK523.out) hg (Kd.R_away HO_5.out (fun _ hk => hk))); have n1_ := Aside0.mk (hb); have n2_ := Aside0.mk (ho); clear BK523; clear HB; clear HO_5; have BK523 := n0_; have HB := n1_; have HO539 := n2_; clear n0_ n1_ n2_; clear ho hb hg hat))
                repeat (go_quiet (first | ((with_reducible refine gate_builtin (b := .append) (xs := #[.tmp 30, .tmp 35]) rfl ?_); at_builtin; refine Kd.R_append k80 (w0 := w) w.heap.size rfl (.tmp 30) (.tmp 35) 65 80 (.agg #[(.int .i64 0), (.string ⟨#[]⟩), (.bool false)]) 32 rfl Try.underlying65 info80 rfl (by decide) (by omega) u5 x5_1 (⟨(rd_T80 l0 x7_1).f0, (rd_T80 l0 x7_1).f1, (rd_T80 l0 x7_1).f2⟩ : S80) [.int .i64 ((rd_T80 l0 x7_1).f0), .string ((rd_T80 l0 x7_1).f1), .bool ((rd_T80 l0 x7_1).f2)] (fun k_ => k_ ≠ gb523) (fun _ => False) rfl rfl ?aP (fun _ hk => hk.elim) ?aF ?aO ?aB ?aS ?aL ?_; (case aP => exact k80_mkM _ _ _ (⟨(rd_T80 l0 x7_1).f0, (rd_T80 l0 x7_1).f1, (rd_T80 l0 x7_1).f2⟩ : S80)); (case aB => exact (by repeat (first | (with_reducible first | exact HB.out | apply below_alloc | apply pw_below_drewN | apply below_drew1 | refine below_set ?_ GE523.out) | exact HB.out))); (case aF => exact (fun k_ hk => Kd.freshB (g := gb523) (o := .cells #[.int .i64 a1_0, .string a1_1, .bool a1_2] 80 (0, 0)) (by (with_reducible repeat (first | refine blk_drewN ?_ _ | refine blk_drew ?_ | refine blk_alloc ?_ _)); exact BK523.out) k_ hk)); (case aO => exact (by (with_reducible repeat (first | apply Kd.R_alloc | apply Kd.R_drewN | apply Kd.R_drew)); exact HO_5.out)); (case aS => exact (below_size (by repeat (first | (with_reducible first | exact HB.out | apply below_alloc | apply pw_below_drewN | apply below_drew1 | refine below_set ?_ GE523.out) | exact HB.out)))); (case aL => have := LMc16.out; omega); intro v538 w18 ho hb hg hat; rw [← Ny537.out] at ho; have n0_ := Aside0.mk (blk_grown (g := gb523) (o := .cells #[.int .i64 a1_0, .string a1_1, .bool a1_2] 80 (0, 0)) (by (with_reducible repeat (first | refine blk_drewN ?_ _ | refine blk_drew ?_ | refine blk_alloc ?_ _)); exact BK523.out) hg (Kd.R_away HO_5.out (fun _ hk => hk))); have n1_ := Aside0.mk (hb); have n2_ := Aside0.mk (ho); clear BK523; clear HB; clear HO_5; have BK523 := n0_; have HB := n1_; have HO539 := n2_; clear n0_ n1_ n2_; clear ho hb hg hat)); try go_wp2_with (first | ((with_reducible refine gate_builtin (b := .append) (xs := #[.tmp 30, .tmp 35]) rfl ?_); at_builtin; refine Kd.R_append k80 (w0 := w) w.heap.size rfl (.tmp 30) (.tmp 35) 65 80 (.agg #[(.int .i64 0), (.string ⟨#[]⟩), (.bool false)]) 32 rfl Try.underlying65 info80 rfl (by decide) (by omega) u5 x5_1 (⟨(rd_T80 l0 x7_1).f0, (rd_T80 l0 x7_1).f1, (rd_T80 l0 x7_1).f2⟩ : S80) [.int .i64 ((rd_T80 l0 x7_1).f0), .string ((rd_T80 l0 x7_1).f1), .bool ((rd_T80 l0 x7_1).f2)] (fun k_ => k_ ≠ gb523) (fun _ => False) rfl rfl ?aP (fun _ hk => hk.elim) ?aF ?aO ?aB ?aS ?aL ?_; (case aP => exact k80_mkM _ _ _ (⟨(rd_T80 l0 x7_1).f0, (rd_T80 l0 x7_1).f1, (rd_T80 l0 x7_1).f2⟩ : S80)); (case aB => exact (by repeat (first | (with_reducible first | exact HB.out | apply below_alloc | apply pw_below_drewN | apply below_drew1 | refine below_set ?_ GE523.out) | exact HB.out))); (case aF => exact (fun k_ hk => Kd.freshB (g := gb523) (o := .cells #[.int .i64 a1_0, .string a1_1, .bool a1_2] 80 (0, 0)) (by (with_reducible repeat (first | refine blk_drewN ?_ _ | refine blk_drew ?_ | refine blk_alloc ?_ _)); exact BK523.out) k_ hk)); (case aO => exact (by (with_reducible repeat (first | apply Kd.R_alloc | apply Kd.R_drewN | apply Kd.R_drew)); exact HO_5.out)); (case aS => exact (below_size (by repeat (first | (with_reducible first | exact HB.out | apply below_alloc | apply pw_below_drewN | apply below_drew1 | refine below_set ?_ GE523.out) | exact HB.out)))); (case aL => have := LMc16.out; omega); intro v538 w18 ho hb hg hat; rw [← Ny537.out] at ho; have n0_ := Aside0.mk (blk_grown (g := gb523) (o := .cells #[.int .i64 a1_0, .string a1_1, .bool a1_2] 80 (0, 0)) (by (with_reducible repeat (first | refine blk_drewN ?_ _ | refine blk_drew ?_ | refine blk_alloc ?_ _)); exact BK523.out) hg (Kd.R_away HO_5.out (fun _ hk => hk))); have n1_ := Aside0.mk (hb); have n2_ := Aside0.mk (ho); clear BK523; clear HB; clear HO_5; have BK523 := n0_; have HB := n1_; have HO539 := n2_; clear n0_ n1_ n2_; clear ho hb hg hat)))
                go_roundg k1
                case measure => have := HK1.out; omega
                case rel => exact ⟨(y537), (false), (wrap64 (x7_1 + 1)), (by first | rfl | (simp; done) | (simp [*]; done)), (by first | rfl | (simp; done) | (simp [*]; done)), H', ⟨by have := HK1.out; omega⟩, ⟨by (with_reducible repeat (first | apply Kd.R_alloc | apply Kd.R_drewN | apply Kd.R_drew)); exact HO539.out⟩, ⟨by (with_reducible repeat (first | refine blk_drewN ?_ _ | refine blk_drew ?_ | refine blk_alloc ?_ _)); exact BK523.out⟩, ⟨by repeat (first | (with_reducible first | exact HB.out | apply below_alloc | apply pw_below_drewN | apply below_drew1 | refine below_set ?_ GE523.out) | exact HB.out)⟩⟩
              · rw [if_neg c16] at H
                exact absurd H (by simp)
          · rw [if_neg c9] at H
            exact absurd H (by simp)
      · rw [if_neg c4] at H
        have c4b0 : decide (x7_1 < (l0.length : Int)) = false := decide_eq_false c4
        clear c4
        by_cases c19 : x6_1 = true
        · subst c19
          have H1 : (some x5_1) = some r := by rw [if_pos rfl] at H; exact H
          clear H
          have H := H1
          clear H1
          obtain rfl := Option.some.inj H
          go_wp2
          repeat (go_quiet (fail); try go_wp2)
          go_ret
          exact ⟨_, by first | rfl | (simp [errW_none, errW_some] <;> rfl) | (simp [*, errW_none, errW_some] <;> rfl), by (with_reducible repeat (first | apply Kd.R_alloc | apply Kd.R_drewN | apply Kd.R_drew)); exact Kd.R_mono HO_5.out (fun _ hk => trivial), by repeat (first | (with_reducible first | exact HB.out | apply below_alloc | apply pw_below_drewN | apply below_drew1 | refine below_set ?_ GE523.out) | exact HB.out)⟩
        · replace c19 := Bool.eq_false_iff.mpr c19
          subst c19
          have H1 : (if x5_1.length < 4398046511104 then (some (x5_1 ++ [(⟨a1_0, a1_1, a1_2⟩ : S80)])) else (none)) = some r := by rw [if_neg (show ¬ (false = true) by decide)] at H; exact H
          clear H
          have H := H1
          clear H1
          by_cases c20 : x5_1.length < 4398046511104
          · rw [if_pos c20] at H
            have LMc20 := Aside0.mk c20
            clear c20
            obtain ⟨y540, hy540⟩ : ∃ y_ : List (S80), y_ = (x5_1 ++ [(⟨a1_0, a1_1, a1_2⟩ : S80)]) := ⟨_, rfl⟩
            replace H : (some y540) = some r := by first | (rw [hy540]; with_reducible exact H) | (have H2_ := (Option.bind_some _ _).symm.trans H; rw [hy540]; with_reducible exact H2_) | (have H2_ := (Option.bind_some _ _).symm.trans H; with_reducible exact H2_) | with_reducible exact H | (rw [hy540]; exact H) | exact H
            have Ny540 := Aside0.mk hy540
            clear hy540
            obtain rfl := Option.some.inj H
            have hcz21_0 : wr.cell? ⟨gb523, 0, none⟩ = some (.int .i64 a1_0) := (blk_cell BK523.out 0).trans rfl
            have hcz21_1 : wr.cell? ⟨gb523, 1, none⟩ = some (.string a1_1) := (blk_cell BK523.out 1).trans rfl
            have hcz21_2 : wr.cell? ⟨gb523, 2, none⟩ = some (.bool a1_2) := (blk_cell BK523.out 2).trans rfl
            have hfz21_0 := blk_frozen BK523.out 0
            have hfz21_1 := blk_frozen BK523.out 1
            have hfz21_2 := blk_frozen BK523.out 2
            go_wp2_with (first | ((with_reducible refine gate_builtin (b := .append) (xs := #[.tmp 39, .tmp 41]) rfl ?_); at_builtin; refine Kd.R_append k80 (w0 := w) w.heap.size rfl (.tmp 39) (.tmp 41) 65 80 (.agg #[(.int .i64 0), (.string ⟨#[]⟩), (.bool false)]) 32 rfl Try.underlying65 info80 rfl (by decide) (by omega) u5 x5_1 (⟨a1_0, a1_1, a1_2⟩ : S80) [.int .i64 a1_0, .string a1_1, .bool a1_2] (fun k_ => k_ ≠ gb523) (fun _ => False) rfl rfl ?aP (fun _ hk => hk.elim) ?aF ?aO ?aB ?aS ?aL ?_; (case aP => exact k80_mkM _ _ _ (⟨a1_0, a1_1, a1_2⟩ : S80)); (case aB => exact (by repeat (first | (with_reducible first | exact HB.out | apply below_alloc | apply pw_below_drewN | apply below_drew1 | refine below_set ?_ GE523.out) | exact HB.out))); (case aF => exact (fun k_ hk => Kd.freshB (g := gb523) (o := .cells #[.int .i64 a1_0, .string a1_1, .bool a1_2] 80 (0, 0)) (by (with_reducible repeat (first | refine blk_drewN ?_ _ | refine blk_drew ?_ | refine blk_alloc ?_ _)); exact BK523.out) k_ hk)); (case aO => exact (by (with_reducible repeat (first | apply Kd.R_alloc | apply Kd.R_drewN | apply Kd.R_drew)); exact HO_5.out)); (case aS => exact (below_size (by repeat (first | (with_reducible first | exact HB.out | apply below_alloc | apply pw_below_drewN | apply below_drew1 | refine below_set ?_ GE523.out) | exact HB.out)))); (case aL => have := LMc20.out; omega); intro v541 w22 ho hb hg hat; rw [← Ny540.out] at ho; have n0_ := Aside0.mk (blk_grown (g := gb523) (o := .cells #[.int .i64 a1_0, .string a1_1, .bool a1_2] 80 (0, 0)) (by (with_reducible repeat (first | refine blk_drewN ?_ _ | refine blk_drew ?_ | refine blk_alloc ?_ _)); exact BK523.out) hg (Kd.R_away HO_5.out (fun _ hk => hk))); have n1_ := Aside0.mk (hb); have n2_ := Aside0.mk (ho); clear BK523; clear HB; clear HO_5; have BK523 := n0_; have HB := n1_; have HO542 := n2_; clear n0_ n1_ n2_; clear ho hb hg hat))
            repeat (go_quiet (first | ((with_reducible refine gate_builtin (b := .append) (xs := #[.tmp 39, .tmp 41]) rfl ?_); at_builtin; refine Kd.R_append k80 (w0 := w) w.heap.size rfl (.tmp 39) (.tmp 41) 65 80 (.agg #[(.int .i64 0), (.string ⟨#[]⟩), (.bool false)]) 32 rfl Try.underlying65 info80 rfl (by decide) (by omega) u5 x5_1 (⟨a1_0, a1_1, a1_2⟩ : S80) [.int .i64 a1_0, .string a1_1, .bool a1_2] (fun k_ => k_ ≠ gb523) (fun _ => False) rfl rfl ?aP (fun _ hk => hk.elim) ?aF ?aO ?aB ?aS ?aL ?_; (case aP => exact k80_mkM _ _ _ (⟨a1_0, a1_1, a1_2⟩ : S80)); (case aB => exact (by repeat (first | (with_reducible first | exact HB.out | apply below_alloc | apply pw_below_drewN | apply below_drew1 | refine below_set ?_ GE523.out) | exact HB.out))); (case aF => exact (fun k_ hk => Kd.freshB (g := gb523) (o := .cells #[.int .i64 a1_0, .string a1_1, .bool a1_2] 80 (0, 0)) (by (with_reducible repeat (first | refine blk_drewN ?_ _ | refine blk_drew ?_ | refine blk_alloc ?_ _)); exact BK523.out) k_ hk)); (case aO => exact (by (with_reducible repeat (first | apply Kd.R_alloc | apply Kd.R_drewN | apply Kd.R_drew)); exact HO_5.out)); (case aS => exact (below_size (by repeat (first | (with_reducible first | exact HB.out | apply below_alloc | apply pw_below_drewN | apply below_drew1 | refine below_set ?_ GE523.out) | exact HB.out)))); (case aL => have := LMc20.out; omega); intro v541 w22 ho hb hg hat; rw [← Ny540.out] at ho; have n0_ := Aside0.mk (blk_grown (g := gb523) (o := .cells #[.int .i64 a1_0, .string a1_1, .bool a1_2] 80 (0, 0)) (by (with_reducible repeat (first | refine blk_drewN ?_ _ | refine blk_drew ?_ | refine blk_alloc ?_ _)); exact BK523.out) hg (Kd.R_away HO_5.out (fun _ hk => hk))); have n1_ := Aside0.mk (hb); have n2_ := Aside0.mk (ho); clear BK523; clear HB; clear HO_5; have BK523 := n0_; have HB := n1_; have HO542 := n2_; clear n0_ n1_ n2_; clear ho hb hg hat)); try go_wp2_with (first | ((with_reducible refine gate_builtin (b := .append) (xs := #[.tmp 39, .tmp 41]) rfl ?_); at_builtin; refine Kd.R_append k80 (w0 := w) w.heap.size rfl (.tmp 39) (.tmp 41) 65 80 (.agg #[(.int .i64 0), (.string ⟨#[]⟩), (.bool false)]) 32 rfl Try.underlying65 info80 rfl (by decide) (by omega) u5 x5_1 (⟨a1_0, a1_1, a1_2⟩ : S80) [.int .i64 a1_0, .string a1_1, .bool a1_2] (fun k_ => k_ ≠ gb523) (fun _ => False) rfl rfl ?aP (fun _ hk => hk.elim) ?aF ?aO ?aB ?aS ?aL ?_; (case aP => exact k80_mkM _ _ _ (⟨a1_0, a1_1, a1_2⟩ : S80)); (case aB => exact (by repeat (first | (with_reducible first | exact HB.out | apply below_alloc | apply pw_below_drewN | apply below_drew1 | refine below_set ?_ GE523.out) | exact HB.out))); (case aF => exact (fun k_ hk => Kd.freshB (g := gb523) (o := .cells #[.int .i64 a1_0, .string a1_1, .bool a1_2] 80 (0, 0)) (by (with_reducible repeat (first | refine blk_drewN ?_ _ | refine blk_drew ?_ | refine blk_alloc ?_ _)); exact BK523.out) k_ hk)); (case aO => exact (by (with_reducible repeat (first | apply Kd.R_alloc | apply Kd.R_drewN | apply Kd.R_drew)); exact HO_5.out)); (case aS => exact (below_size (by repeat (first | (with_reducible first | exact HB.out | apply below_alloc | apply pw_below_drewN | apply below_drew1 | refine below_set ?_ GE523.out) | exact HB.out)))); (case aL => have := LMc20.out; omega); intro v541 w22 ho hb hg hat; rw [← Ny540.out] at ho; have n0_ := Aside0.mk (blk_grown (g := gb523) (o := .cells #[.int .i64 a1_0, .string a1_1, .bool a1_2] 80 (0, 0)) (by (with_reducible repeat (first | refine blk_drewN ?_ _ | refine blk_drew ?_ | refine blk_alloc ?_ _)); exact BK523.out) hg (Kd.R_away HO_5.out (fun _ hk => hk))); have n1_ := Aside0.mk (hb); have n2_ := Aside0.mk (ho); clear BK523; clear HB; clear HO_5; have BK523 := n0_; have HB := n1_; have HO542 := n2_; clear n0_ n1_ n2_; clear ho hb hg hat)))
            go_ret
            exact ⟨_, by first | rfl | (simp [errW_none, errW_some] <;> rfl) | (simp [*, errW_none, errW_some] <;> rfl), by (with_reducible repeat (first | apply Kd.R_alloc | apply Kd.R_drewN | apply Kd.R_drew)); exact Kd.R_mono HO542.out (fun _ hk => trivial), by repeat (first | (with_reducible first | exact HB.out | apply below_alloc | apply pw_below_drewN | apply below_drew1 | refine below_set ?_ GE523.out) | exact HB.out)⟩
          · rw [if_neg c20] at H
            exact absurd H (by simp)
end Go.Proofs.Ytehcmedeeaoebaa.PB
end
section
namespace Go.Proofs.Ytehcmedeeaoebaa.PB
open Go.RowKit Go.Proofs.YtehcmedeeaoebaaW.PrintWords Go.Proofs.YtehcmedeeaoebaaW.PrintLast Go.Proofs.YtehcmedeeaoebaaW.PrintMore
set_option linter.unusedVariables false
set_option linter.unusedSimpArgs false
structure SlV where
  A : Option Addr
  n : Nat
  c : Nat
def kSl : Kd SlV := Kd.scalar (fun s => Value.slice s.A s.n s.c) (fun _ => rfl)
structure RS where
  k : ByteArray
  s : SlV
def kRS : Kd RS := Kd.iso (Kd.pair Kd.string kSl) (fun r => (r.k, r.s))
theorem kRS_mkM (w : World) (base : Nat) (ok : Nat → Prop) (r : RS) : kRS.M w base ok r [.string r.k, .slice r.s.A r.s.n r.s.c] := ⟨[.string r.k], [.slice r.s.A r.s.n r.s.c], rfl, rfl, rfl⟩
theorem kRS_open {w : World} {r : RS} {cs : List Value} (h : kRS.K w r cs) : cs = [.string r.k, .slice r.s.A r.s.n r.s.c] := by
  obtain ⟨_, _, rfl, rfl, rfl⟩ := h
  exact rfl
def isSl (w0 w : World) (r : RS) (x : S67) : Prop := r.k = x.f0 ∧ r.s.n = x.f1.length ∧ r.s.n ≤ r.s.c ∧ (Kd.C k80 w0 r.s.A x.f1.length x.f1 ∨ Kd.R k80 80 w w0.heap.size (fun _ => True) (.slice r.s.A r.s.n r.s.c) x.f1)
def AllSl (w0 w : World) : List RS → List S67 → Prop
  | [], [] => True
  | r :: rs, x :: xs => isSl w0 w r x ∧ AllSl w0 w rs xs
  | [], _ :: _ => False
  | _ :: _, [] => False
section
variable {w0 w w1 : World}
theorem AllSl.len : ∀ {rs : List RS} {xs : List S67}, AllSl w0 w rs xs → rs.length = xs.length
  | [], [], _ => rfl
  | _ :: rs, _ :: xs, h => by rw [List.length_cons, List.length_cons, AllSl.len h.2]
  | [], _ :: _, h => h.elim
  | _ :: _, [], h => h.elim
theorem AllSl.imp (hk : ∀ r x, isSl w0 w r x → isSl w0 w1 r x) : ∀ {rs : List RS} {xs : List S67}, AllSl w0 w rs xs → AllSl w0 w1 rs xs
  | [], [], _ => trivial
  | _ :: rs, _ :: xs, h => ⟨hk _ _ h.1, AllSl.imp hk h.2⟩
  | [], _ :: _, h => h.elim
  | _ :: _, [], h => h.elim
theorem isSl.below (hb : Below w.heap.size w w1) {r : RS} {x : S67} (h : isSl w0 w r x) : isSl w0 w1 r x :=
  ⟨h.1, h.2.1, h.2.2.1, h.2.2.2.imp id fun h => Kd.R_below h hb⟩
theorem AllSl.below (hb : Below w.heap.size w w1) {rs : List RS} {xs : List S67} (h : AllSl w0 w rs xs) : AllSl w0 w1 rs xs := h.imp fun _ _ h => h.below hb
theorem R80_kept {base : Nat} {v : Value} {xs : List S80} {row : Option Nat} (h : Kd.R k80 80 w base (fun _ => True) v xs) (hg : w.grownBy w1 row) (hne : ∀ b, row = some b → ∃ cells t, w.heap[b]? = some (.cells cells t (0, 0)) ∧ t ≠ 80) : Kd.R k80 80 w1 base (fun _ => True) v xs := by
  refine Kd.R_mono (Kd.R_grown (ok := fun k => some k = v.ownBlock) (Kd.R_flat (fun hd => by rw [k80_openM hd]; exact k80_mkM _ _ _ _) h (fun k hk _ => hk.symm)) hg (fun k hk e => ?_)) (fun _ _ => trivial)
  obtain ⟨inner, ho⟩ := Kd.R_own h
  obtain ⟨cells, hc⟩ := own_typed ho k hk.symm
  obtain ⟨cells', t, hc', ht⟩ := hne k e.symm
  rw [hc] at hc'
  injection hc' with hc'
  injection hc' with _ hc'
  exact ht hc'.symm
theorem isSl.kept {row : Option Nat} (hg : w.grownBy w1 row) (hne : ∀ b, row = some b → ∃ cells t, w.heap[b]? = some (.cells cells t (0, 0)) ∧ t ≠ 80) {r : RS} {x : S67} (h : isSl w0 w r x) : isSl w0 w1 r x :=
  ⟨h.1, h.2.1, h.2.2.1, h.2.2.2.imp id fun h => R80_kept h hg hne⟩
theorem AllSl.kept {row : Option Nat} (hg : w.grownBy w1 row) (hne : ∀ b, row = some b → ∃ cells t, w.heap[b]? = some (.cells cells t (0, 0)) ∧ t ≠ 80) {rs : List RS} {xs : List S67} (h : AllSl w0 w rs xs) : AllSl w0 w1 rs xs := h.imp fun _ _ h => h.kept hg hne
theorem AllSl.snoc {r : RS} {x : S67} (hx : isSl w0 w r x) : ∀ {rs : List RS} {xs : List S67}, AllSl w0 w rs xs → AllSl w0 w (rs ++ [r]) (xs ++ [x])
  | [], [], _ => ⟨hx, trivial⟩
  | _ :: rs, _ :: xs, h => ⟨h.1, AllSl.snoc hx h.2⟩
  | [], _ :: _, h => h.elim
  | _ :: _, [], h => h.elim
theorem AllSl.at_ : ∀ {rs : List RS} {xs : List S67}, AllSl w0 w rs xs → ∀ (j : Nat) (x : S67), xs[j]? = some x → ∃ r, rs[j]? = some r ∧ isSl w0 w r x
  | [], [], _, _, _, h => by simp at h
  | r :: rs, x :: xs, h, 0, y, hj => by
    simp only [List.getElem?_cons_zero, Option.some.injEq] at hj
    subst hj
    exact ⟨r, rfl, h.1⟩
  | r :: rs, x :: xs, h, j + 1, y, hj => by
    simp only [List.getElem?_cons_succ] at hj ⊢
    exact AllSl.at_ h.2 j y hj
  | [], _ :: _, h, _, _, _ => h.elim
  | _ :: _, [], h, _, _, _ => h.elim
theorem AllSl.rd {base : Nat} {ok : Nat → Prop} {v : Value} {rs : List RS} {xs : List S67} (h : AllSl w0 w rs xs) (hB : Below w0.heap.size w0 w) (hR : Kd.R kRS 67 w base ok v rs) : Rd k67 w v xs := by
  obtain ⟨A, c, hv, hc, hC⟩ := Kd.R_reads hR
  refine ⟨A, c, by rw [hv, h.len], by rw [← h.len]; exact hc, rfl, by rw [← h.len]; exact hC.2.1, fun hp => ?_⟩
  obtain ⟨ad, e, hcell⟩ := hC.2.2 (by rw [h.len]; exact hp)
  refine ⟨ad, e, fun j x hj => ?_⟩
  obtain ⟨r, hr, h1, h2, h3, h4⟩ := h.at_ j x hj
  obtain ⟨cs, hl, hK, hcc⟩ := hcell j r hr
  refine ⟨cs, hl, ?_, hcc⟩
  rw [kRS_open hK, h1, h2]
  refine k67_mk w x (by rw [← h2]; exact h3) ?_
  rcases h4 with h4 | h4
  · exact Kd.C_below h4 hB
  · obtain ⟨A', c', e', _, hC'⟩ := Kd.R_reads h4
    injection e' with e1 e2 _
    rw [e1]; exact hC'
end
theorem out67 {w : World} {base : Nat} {ok : Nat → Prop} {v : Value} {rs : List RS} (h : Kd.R kRS 67 w base ok v rs) : ∀ b, v.ownBlock = some b → ∃ cells t, w.heap[b]? = some (.cells cells t (0, 0)) ∧ t ≠ 80 := by
  intro b hb
  obtain ⟨inner, ho⟩ := Kd.R_own h
  obtain ⟨cells, hc⟩ := own_typed ho b hb
  exact ⟨cells, 67, hc, by decide⟩
theorem one80 {w : World} {base g : Nat} {v : S80} (hg : base ≤ g) (h : w.heap[g]? = some (.cells #[.int .i64 v.f0, .string v.f1, .bool v.f2] 80 (0, 0))) : Kd.R k80 80 w base (fun _ => True) (.slice (some ⟨g, 0, none⟩) 1 1) [v] :=
  ⟨fun _ _ => trivial, [.int .i64 v.f0, .string v.f1, .bool v.f2], ⟨rfl, Or.inr ⟨g, 1, _, rfl, hg, h, Nat.le_refl _, by decide, rfl, rfl⟩⟩, rfl, fun j p hj => by
    cases j with
    | zero => simp only [List.getElem?_cons_zero, Option.some.injEq] at hj; subst hj; exact k80_mkM _ _ _ _
    | succ j => simp at hj⟩
section
variable {P : Program} {ops : Array Oper} {rest : List Oper} {o : Oper} {a : Act} {Q : Exit → Act → World → Prop}
theorem bs_event {W : World} (hgd : o.guard = none) {N : Tmp} (_hd : o.dst = some N) {cs : Array Value} {t : TypeId}
    (hrun : (execOp a.eval o).run P W = .ok (.value (.slice (some ⟨W.heap.size, 0, none⟩) 1 1)) (W.alloc (.cells cs t (0, 0))))
    (h : ∀ g, g = W.heap.size → ∀ w1, w1.heap[g]? = some (.cells cs t (0, 0)) → Below W.heap.size W w1 → wpList P ops Q rest (a.put o.dst (.slice (some ⟨g, 0, none⟩) 1 1)) w1) : wpList P ops Q (o :: rest) a W :=
  Kd.event_run hgd hrun (h _ rfl _ (blk_new W _) (below_alloc (Below.refl _ _) _))
end
def placedGo (v : S80) : List S80 → Bool → List S80
  | [], laid => if laid = true then [] else [v]
  | y :: r, laid => (if laid = false ∧ y.f0 < v.f0 then [v] else []) ++ y :: placedGo v r (laid || decide (y.f0 < v.f0))
def placedP (l : List S80) (v : S80) : List S80 := placedGo v l false
theorem placedGo_true (v : S80) : ∀ l, placedGo v l true = l
  | [] => rfl
  | y :: r => by
    show (if true = false ∧ y.f0 < v.f0 then [v] else []) ++ y :: placedGo v r (true || decide (y.f0 < v.f0)) = _
    rw [if_neg (by simp), Bool.true_or, placedGo_true v r]; rfl
theorem placed_loop (l : List S80) (v : S80) (hl : l.length ≤ 1000000000) : ∀ n i (laid : Bool) (acc : List S80), i + n = l.length → acc.length ≤ 2 * i → Ev (fun k => ambryref15_placed.l0 k l acc laid (i : Int) v.f0 v.f1 v.f2) (acc ++ placedGo v (l.drop i) laid) := by
  intro n
  induction n with
  | zero =>
    intro i laid acc hi ha
    rw [List.drop_of_length_le (by omega)]
    cases laid with
    | true => exact Ev.step (Ev.of_eq (o := some acc) (by simp [placedGo])) fun k => by simp only [ambryref15_placed.l0]; rw [if_neg (by omega), if_pos (by trivial)]
    | false => exact Ev.step (Ev.of_eq (o := some (acc ++ [v])) (by simp [placedGo])) fun k => by simp only [ambryref15_placed.l0]; rw [if_neg (by omega), if_neg (by simp), if_pos (by omega)]
  | succ n ih =>
    intro i laid acc hi ha
    have hil : i < l.length := by omega
    have hr : rd_T80 l (i : Int) = l[i] := by simp [rd_T80, List.getD_eq_getElem?_getD, hil]
    rw [List.drop_eq_getElem_cons hil]
    show Ev _ (acc ++ ((if laid = false ∧ l[i].f0 < v.f0 then [v] else []) ++ l[i] :: placedGo v (l.drop (i + 1)) (laid || decide (l[i].f0 < v.f0))))
    cases laid with
    | true =>
      have := ih (i + 1) true (acc ++ [l[i]]) (by omega) (by simp; omega)
      rw [if_neg (by simp), Bool.true_or, List.nil_append]
      rw [List.append_assoc, List.singleton_append] at this
      refine Ev.step this fun k => ?_
      simp only [ambryref15_placed.l0]
      rw [if_pos (by omega), if_pos (by trivial), if_pos (by omega), if_pos (by omega), hr, w64 (by omega) (by omega)]
      rfl
    | false =>
      by_cases c : l[i].f0 < v.f0
      · have := ih (i + 1) true (acc ++ [v] ++ [l[i]]) (by omega) (by simp; omega)
        rw [if_pos ⟨rfl, c⟩, decide_eq_true c, Bool.or_true]
        have e : acc ++ ([v] ++ l[i] :: placedGo v (l.drop (i + 1)) true) = acc ++ [v] ++ [l[i]] ++ placedGo v (l.drop (i + 1)) true := by simp
        rw [e]
        refine Ev.step this fun k => ?_
        simp only [ambryref15_placed.l0]
        rw [if_pos (by omega), if_neg (by simp), if_pos (by omega), hr, if_pos c, if_pos (by omega), Option.bind_some, if_pos (by simp; omega), w64 (by omega) (by omega)]
        rfl
      · have := ih (i + 1) false (acc ++ [l[i]]) (by omega) (by simp; omega)
        rw [if_neg (by simp [c]), decide_eq_false c, Bool.or_self, List.nil_append]
        rw [List.append_assoc, List.singleton_append] at this
        refine Ev.step this fun k => ?_
        simp only [ambryref15_placed.l0]
        rw [if_pos (by omega), if_neg (by simp), if_pos (by omega), hr, if_neg c, if_pos (by omega), w64 (by omega) (by omega)]
        rfl
theorem placed_ev (l : List S80) (v : S80) (hl : l.length ≤ 1000000000) : Ev (fun k => ambryref15_placed.f k l v.f0 v.f1 v.f2) (placedP l v) := by
  have := placed_loop l v hl l.length 0 false [] (by omega) (by simp)
  rw [List.drop_zero, List.nil_append] at this
  exact this
theorem Placed.calls (l : List S80) (v : S80) (r : List S80) (h : placedP l v = r) (A : Option Addr) (c : Nat) (w : World) (hl : l.length ≤ 1000000000) (hC : Kd.C k80 w A l.length l) (hc : l.length ≤ c) :
    Calls Try.prog 78 #[.slice A l.length c, .agg #[.int .i64 v.f0, .string v.f1, .bool v.f2]] w fun e w' => ∃ v0_ : Value, e = .returned v0_ ∧ Kd.R k80 80 w' w.heap.size (fun _ => True) v0_ r ∧ Below w.heap.size w w' := by
  obtain ⟨q, hq⟩ := (placed_ev l v hl).get
  rw [h] at hq
  exact ambryref15_placed.calls q A c l v.f0 v.f1 v.f2 r w hC hc hq
theorem placedP_length (l : List S80) (v : S80) : (placedP l v).length ≤ l.length + 1 := by
  unfold placedP
  have : ∀ (l : List S80) (b : Bool), (placedGo v l b).length ≤ l.length + 1 ∧ (b = true → placedGo v l b = l) := by
    intro l b
    refine ⟨?_, fun h => by rw [h, placedGo_true]⟩
    induction l generalizing b with
    | nil => cases b <;> simp [placedGo]
    | cons y r ih =>
      show ((if b = false ∧ y.f0 < v.f0 then [v] else []) ++ y :: placedGo v r (b || decide (y.f0 < v.f0))).length ≤ _
      by_cases c : b = false ∧ y.f0 < v.f0
      · rw [if_pos c, decide_eq_true c.2, Bool.or_true, placedGo_true]; simp
      · rw [if_neg c]
        have := ih (b || decide (y.f0 < v.f0))
        simp only [List.nil_append, List.length_cons]
        omega
  exact (this l false).1
def withGo (key : ByteArray) (v : S80) : List S67 → Bool → List S67
  | [], laid => if laid = true then [] else [⟨key, [v]⟩]
  | x :: r, laid => if laid = false ∧ ltS x.f0 key = false then (if x.f0.toList = key.toList then ⟨x.f0, placedP x.f1 v⟩ :: withGo key v r true else ⟨key, [v]⟩ :: x :: withGo key v r true) else x :: withGo key v r laid
def withP (l : List S67) (key : ByteArray) (v : S80) : List S67 := withGo key v l false
theorem withGo_cons (key : ByteArray) (v : S80) (x : S67) (r : List S67) (laid : Bool) : withGo key v (x :: r) laid = if laid = false ∧ ltS x.f0 key = false then (if x.f0.toList = key.toList then ⟨x.f0, placedP x.f1 v⟩ :: withGo key v r true else ⟨key, [v]⟩ :: x :: withGo key v r true) else x :: withGo key v r laid := rfl
theorem withGo_true (key : ByteArray) (v : S80) : ∀ l, withGo key v l true = l
  | [] => rfl
  | x :: r => by rw [withGo_cons, if_neg (by simp), withGo_true key v r]
theorem withP_length (l : List S67) (key : ByteArray) (v : S80) : (withP l key v).length ≤ l.length + 1 := by
  unfold withP
  induction l with
  | nil => simp [withGo]
  | cons x r ih =>
    rw [withGo_cons]
    split
    · split
      · rw [withGo_true]; simp
      · rw [withGo_true]; simp
    · simp only [List.length_cons]; omega
set_option maxHeartbeats 16000000 in
set_option maxRecDepth 100000 in
theorem With.calls (l : List S67) (key : ByteArray) (v : S80) (D : List S67) (h : withP l key v = D) (A : Option Addr) (c : Nat) (w : World) (hl : l.length ≤ 100000000) (hv : ∀ x ∈ l, x.f1.length ≤ 1000000000) (hk : key.size ≤ 9223372036854775807) (hC : Kd.C k67 w A l.length l) (hc : l.length ≤ c) :
    Calls Try.prog 61 #[.slice A l.length c, .string key, .agg #[.int .i64 v.f0, .string v.f1, .bool v.f2]] w fun e w' => ∃ v0, e = .returned v0 ∧ Rd k67 w' v0 D ∧ Below w.heap.size w w' := by
  have HB := Aside0.mk (Below.refl w.heap.size w)
  have HC := Aside0.mk hC
  have HD := Aside0.mk (show withGo key v l false = D from h)
  have HVL := Aside0.mk hv
  have HK := Aside0.mk hk
  have hlz : (l.length : Int) ≤ 100000000 := by omega
  clear hC hc h hv hk
  go_enter Try.func61, Try.ntmps61
  go_wp2_with (first | ((with_reducible refine gate_dst (N := 5) rfl ?_); refine box_event ?hg (N := 5) ?hd (cs := #[.int .i64 v.f0, .string v.f1, .bool v.f2]) (t := 80) ?hr ?_; (case hd => rfl); (case hg => rfl); (case hr => first | (go_simp; done) | (go_simp; rfl)); intro g5 hg w1 hbox hb; have G5 := Aside0.mk (show w.heap.size ≤ g5 from (by rw [hg]; exact HB.out.size)); have B5 := Aside0.mk hbox; clear hbox hg; have d_ := Aside0.mk (below_then HB.out HB.out.size hb); clear HB; have HB := d_; clear d_ hb))
  go_loopg [7, 8, 9] l.length (fun gg s7 s8 s9 wr => ∃ (i : Nat) (laid : Bool) (rows : List RS) (items : List S67), i ≤ l.length ∧ rows.length ≤ i + 1 ∧ (laid = false → rows.length ≤ i) ∧ l.length - i ≤ gg ∧ s8 = .bool laid ∧ s9 = .int .i64 i ∧ Aside0 (Below w.heap.size w wr) ∧ Aside0 (Kd.R kRS 67 wr w.heap.size (fun _ => True) s7 rows) ∧ Aside0 (AllSl w wr rows items) ∧ Aside0 (wr.heap[g5]? = some (.cells #[.int .i64 v.f0, .string v.f1, .bool v.f2] 80 (0, 0))) ∧ Aside0 (items ++ withGo key v (l.drop i) laid = D))
  case atStart => exact ⟨0, false, [], [], Nat.zero_le _, by simp, by simp, by omega, rfl, rfl, HB, ⟨Kd.R_nil _ _ _ _ _⟩, ⟨trivial⟩, B5, ⟨by simpa using HD.out⟩⟩
  case round =>
    clear HB B5
    obtain ⟨i, laid, rows, items, hi, hacc, hla, hgg, rfl, rfl, HB, HR, HA, B5, HE⟩ := hrel
    have HLA := Aside0.mk hla
    have HACC := Aside0.mk hacc
    have HLN : Aside0 ((rows.length + 1) * 40 ≤ 140737488355328) := ⟨by omega⟩
    have c50 := (blk_cell B5.out 0).trans rfl
    have c51 := (blk_cell B5.out 1).trans rfl
    have c52 := (blk_cell B5.out 2).trans rfl
    clear hla hacc
    by_cases hil : i < l.length
    · have hiz : (i : Int) < (l.length : Int) := by omega
      have hmem := List.getElem_mem hil
      obtain ⟨ad, A1, c1, e, g0, g1, g2, g3⟩ := at_T67 HC.out (i : Int) (by omega) hiz
      cases e
      have hr : rd_T67 l (i : Int) = l[i] := by simp [rd_T67, List.getD_eq_getElem?_getD, hil]
      rw [hr] at g0 g1 g2 g3
      simp only [Int.toNat_natCast] at g0 g1
      have hvs := HVL.out _ hmem
      have hst : withGo key v (l.drop i) laid = withGo key v (l[i] :: l.drop (i + 1)) laid := by rw [← List.drop_eq_getElem_cons hil]
      rw [withGo_cons] at hst
      obtain ⟨xk, vs, hx⟩ : ∃ xk vs, l[i] = ⟨xk, vs⟩ := ⟨_, _, rfl⟩
      rw [hx] at g0 g1 g2 g3 hvs hst
      simp only at g0 g1 g2 g3 hvs hst
      have HLC := Aside0.mk g2
      have HCV := Aside0.mk g3
      have HVS := Aside0.mk hvs
      have HST := Aside0.mk hst
      obtain ⟨pl, hpl⟩ : ∃ pl, placedP vs v = pl := ⟨_, rfl⟩
      have HPL := Aside0.mk hpl
      have h0 := (HB.out.cell (World.block_lt_of_cell? w _ g0)).trans g0
      have h1 := (HB.out.cell (World.block_lt_of_cell? w _ g1)).trans g1
      obtain ⟨q, hq⟩ : ∃ q, ltS xk key = q := ⟨_, rfl⟩
      have HQ := Aside0.mk hq
      obtain ⟨q2, hk2⟩ : ∃ q, (xk.toList == key.toList) = q := ⟨_, rfl⟩
      have HK2 := Aside0.mk hk2
      have HSZ : Aside0 (xk.size ≤ 9223372036854775807 ∨ key.size ≤ 9223372036854775807) := ⟨Or.inr HK.out⟩
      have HLN2 : Aside0 ((((rows ++ [(⟨key, ⟨some ⟨0, 0, none⟩, 1, 1⟩⟩ : RS)]).length + 1) * 40 ≤ 140737488355328)) := ⟨by have := HACC.out; simp; omega⟩
      clear g0 g1 g2 g3 hvs hst hx hr hmem hpl hq
      cases laid with
      | true =>
        go_wp2_with (first | ((with_reducible refine gate_dst (N := 10) rfl ?_); refine box_event ?hg (N := 10) ?hd (cs := #[.string ⟨#[]⟩, .slice none 0 0]) (t := 67) ?hr ?_; (case hd => rfl); (case hg => rfl); (case hr => first | (go_simp; done) | (go_simp; rfl)); intro g10 hg w2 hbox hb; have G10 := Aside0.mk (show w.heap.size ≤ g10 from (by rw [hg]; exact HB.out.size)); have N5 := Aside0.mk (show g5 ≠ g10 from fun e => absurd (blk_lt B5.out) (by omega)); have r_ := Aside0.mk (show Kd.R kRS 67 w2 w.heap.size (fun k_ => k_ ≠ g10) u7 rows from Kd.R_below (Kd.R_mono (Kd.R_bound HR.out) (fun k_ hk_ => by have := hk_.2.2.1; omega)) hb); clear HR; have HR := r_; clear r_; have B10 := Aside0.mk hbox; clear hbox hg; have r0_ := Aside0.mk (below_then HB.out HB.out.size hb); have r1_ := Aside0.mk (HA.out.below hb); have r2_ := Aside0.mk ((hb.block _ (blk_lt B5.out)).trans B5.out); clear HB HA B5; have HB := r0_; have HA := r1_; have B5 := r2_; clear r0_ r1_ r2_; clear hb) | ((with_reducible refine gate_store (t := 67) (p := 10) (v := .tmp 20) rfl ?_); go_must (refine sagg_event rfl 67 (.tmp 10) (.tmp 20) rfl rfl g10 #[.string xk, .slice A1 vs.length c1] _ _ rfl rfl B10.out (by kernel_rfl) rfl rfl ?_); intro w3 hbk hu; have r0_ := Aside0.mk (Kd.R_step HR.out (fun k_ hk_ _ => hu.block k_ hk_)); have r1_ := Aside0.mk (HA.out.kept (row := some g10) ⟨hu.os, hu.tape, hu.output, by rw [hu.size]; exact Nat.le_refl _, fun k_ hk_ hne_ => hu.block k_ (fun e_ => hne_ (by rw [e_]))⟩ (fun b e => by injection e with e; subst e; exact ⟨_, 67, B10.out, by decide⟩)); have r2_ := Aside0.mk (hu.below HB.out G10.out); have r3_ := Aside0.mk (hu.blk B5.out N5.out); clear HR HA HB B5; have HR := r0_; have HA := r1_; have HB := r2_; have B5 := r3_; clear r0_ r1_ r2_ r3_; clear B10; have B10 := Aside0.mk hbk; have c100 := (blk_cell B10.out 0).trans rfl; have c101 := (blk_cell B10.out 1).trans rfl; have c50 := (blk_cell B5.out 0).trans rfl; have c51 := (blk_cell B5.out 1).trans rfl; have c52 := (blk_cell B5.out 2).trans rfl; clear hbk hu) | ((with_reducible refine gate_builtin (b := .append) (xs := #[.tmp 46, .tmp 48]) rfl ?_); at_builtin; have HA2 := Aside0.mk (AllSl.snoc (w0 := w) (r := (⟨xk, ⟨A1, vs.length, c1⟩⟩ : RS)) (x := ⟨xk, vs⟩) ⟨rfl, rfl, HLC.out, Or.inl HCV.out⟩ HA.out); go_must (refine Kd.R_append kRS (w0 := w) w.heap.size rfl (.tmp 46) (.tmp 48) 53 67 (.agg #[(.string ⟨#[]⟩), (.slice none 0 0)]) 40 rfl Try.underlying53 info67 rfl (by decide) (by decide) u7 rows (⟨xk, ⟨A1, vs.length, c1⟩⟩ : RS) [.string xk, .slice A1 vs.length c1] (fun k_ => k_ ≠ g10) (fun _ => False) rfl rfl (kRS_mkM _ _ _ (⟨xk, ⟨A1, vs.length, c1⟩⟩ : RS)) (fun _ hk => hk.elim) (fun k_ hk_ => by have := blk_lt B10.out; omega) HR.out HB.out HB.out.size HLN.out ?_); intro v7 w9 ho hb hgr hat; have r1_ := Aside0.mk (HA2.out.kept hgr (out67 HR.out)); have r2_ := Aside0.mk (blk_grown B5.out hgr (fun e_ => by obtain ⟨i_, o_⟩ := Kd.R_own HR.out; obtain ⟨c_, h_⟩ := own_typed o_ g5 e_.symm; rw [B5.out] at h_; injection h_ with h_; injection h_ with _ h_; cases h_)); have r3_ := Aside0.mk (blk_grown B10.out hgr (fun e_ => HR.out.1 g10 e_.symm rfl)); clear HB HR HA HA2 B5 c50 c51 c52 B10 c100 c101; have HB := Aside0.mk hb; have HR := Aside0.mk ho; have HA := r1_; have B5 := r2_; have B10 := r3_; have c100 := (blk_cell B10.out 0).trans rfl; have c101 := (blk_cell B10.out 1).trans rfl; have c50 := (blk_cell B5.out 0).trans rfl; have c51 := (blk_cell B5.out 1).trans rfl; have c52 := (blk_cell B5.out 2).trans rfl; clear r1_ r2_ ho hb hgr hat r3_))
        go_wp2
        go_roundg (l.length - (i + 1))
        case measure => omega
        case rel => exact ⟨i + 1, true, (rows ++ [⟨xk, ⟨A1, vs.length, c1⟩⟩]), (items ++ [⟨xk, vs⟩]), by omega, by have := HACC.out; simp; omega, by simp, by omega, rfl, by go_num, HB, ⟨Kd.R_mono HR.out (fun _ _ => trivial)⟩, HA, B5, ⟨by have e := HE.out; rw [HST.out, if_neg (by simp)] at e; simpa using e⟩⟩
      | false =>
        cases q with
        | true =>
          go_wp2_with (first | ((with_reducible refine gate_dst (N := 10) rfl ?_); refine box_event ?hg (N := 10) ?hd (cs := #[.string ⟨#[]⟩, .slice none 0 0]) (t := 67) ?hr ?_; (case hd => rfl); (case hg => rfl); (case hr => first | (go_simp; done) | (go_simp; rfl)); intro g10 hg w2 hbox hb; have G10 := Aside0.mk (show w.heap.size ≤ g10 from (by rw [hg]; exact HB.out.size)); have N5 := Aside0.mk (show g5 ≠ g10 from fun e => absurd (blk_lt B5.out) (by omega)); have r_ := Aside0.mk (show Kd.R kRS 67 w2 w.heap.size (fun k_ => k_ ≠ g10) u7 rows from Kd.R_below (Kd.R_mono (Kd.R_bound HR.out) (fun k_ hk_ => by have := hk_.2.2.1; omega)) hb); clear HR; have HR := r_; clear r_; have B10 := Aside0.mk hbox; clear hbox hg; have r0_ := Aside0.mk (below_then HB.out HB.out.size hb); have r1_ := Aside0.mk (HA.out.below hb); have r2_ := Aside0.mk ((hb.block _ (blk_lt B5.out)).trans B5.out); clear HB HA B5; have HB := r0_; have HA := r1_; have B5 := r2_; clear r0_ r1_ r2_; clear hb) | ((with_reducible refine gate_store (t := 67) (p := 10) (v := .tmp 20) rfl ?_); go_must (refine sagg_event rfl 67 (.tmp 10) (.tmp 20) rfl rfl g10 #[.string xk, .slice A1 vs.length c1] _ _ rfl rfl B10.out (by kernel_rfl) rfl rfl ?_); intro w3 hbk hu; have r0_ := Aside0.mk (Kd.R_step HR.out (fun k_ hk_ _ => hu.block k_ hk_)); have r1_ := Aside0.mk (HA.out.kept (row := some g10) ⟨hu.os, hu.tape, hu.output, by rw [hu.size]; exact Nat.le_refl _, fun k_ hk_ hne_ => hu.block k_ (fun e_ => hne_ (by rw [e_]))⟩ (fun b e => by injection e with e; subst e; exact ⟨_, 67, B10.out, by decide⟩)); have r2_ := Aside0.mk (hu.below HB.out G10.out); have r3_ := Aside0.mk (hu.blk B5.out N5.out); clear HR HA HB B5; have HR := r0_; have HA := r1_; have HB := r2_; have B5 := r3_; clear r0_ r1_ r2_ r3_; clear B10; have B10 := Aside0.mk hbk; have c100 := (blk_cell B10.out 0).trans rfl; have c101 := (blk_cell B10.out 1).trans rfl; have c50 := (blk_cell B5.out 0).trans rfl; have c51 := (blk_cell B5.out 1).trans rfl; have c52 := (blk_cell B5.out 2).trans rfl; clear hbk hu) | ((with_reducible refine gate_callee (f := 50) rfl ?_); refine goesL_ (some 27) rfl rfl Try.func50 (by kernel_rfl) rfl #[.string xk, .string key] rfl (by (try simp only [List.map_toArray, List.map_cons, List.map_nil]); first | done | rfl) ?_; go_must (refine (Below50.calls xk key _ HSZ.out).mono ?_); rintro e w5 ⟨rfl, hb⟩; clear c100 c101 c50 c51 c52; have r0_ := Aside0.mk (below_then HB.out HB.out.size hb); have r1_ := Aside0.mk (Kd.R_below HR.out hb); have r2_ := Aside0.mk (HA.out.below hb); have r3_ := Aside0.mk ((hb.block _ (blk_lt B5.out)).trans B5.out); have r4_ := Aside0.mk ((hb.block _ (blk_lt B10.out)).trans B10.out); clear HB HR HA B5 B10; have HB := r0_; have HR := r1_; have HA := r2_; have B5 := r3_; have B10 := r4_; clear r0_ r1_ r2_ r3_ r4_; have c100 := (blk_cell B10.out 0).trans rfl; have c101 := (blk_cell B10.out 1).trans rfl; have c50 := (blk_cell B5.out 0).trans rfl; have c51 := (blk_cell B5.out 1).trans rfl; have c52 := (blk_cell B5.out 2).trans rfl; clear hb; rw [HQ.out]; refine ⟨_, rfl, ?_⟩) | (go_at_call 50; go_must (refine (Below50.calls xk key _ HSZ.out).mono ?_); rintro e w5 ⟨rfl, hb⟩; clear c100 c101 c50 c51 c52; have r0_ := Aside0.mk (below_then HB.out HB.out.size hb); have r1_ := Aside0.mk (Kd.R_below HR.out hb); have r2_ := Aside0.mk (HA.out.below hb); have r3_ := Aside0.mk ((hb.block _ (blk_lt B5.out)).trans B5.out); have r4_ := Aside0.mk ((hb.block _ (blk_lt B10.out)).trans B10.out); clear HB HR HA B5 B10; have HB := r0_; have HR := r1_; have HA := r2_; have B5 := r3_; have B10 := r4_; clear r0_ r1_ r2_ r3_ r4_; have c100 := (blk_cell B10.out 0).trans rfl; have c101 := (blk_cell B10.out 1).trans rfl; have c50 := (blk_cell B5.out 0).trans rfl; have c51 := (blk_cell B5.out 1).trans rfl; have c52 := (blk_cell B5.out 2).trans rfl; clear hb; rw [HQ.out]) | ((with_reducible refine gate_builtin (b := .append) (xs := #[.tmp 46, .tmp 48]) rfl ?_); at_builtin; have HA2 := Aside0.mk (AllSl.snoc (w0 := w) (r := (⟨xk, ⟨A1, vs.length, c1⟩⟩ : RS)) (x := ⟨xk, vs⟩) ⟨rfl, rfl, HLC.out, Or.inl HCV.out⟩ HA.out); go_must (refine Kd.R_append kRS (w0 := w) w.heap.size rfl (.tmp 46) (.tmp 48) 53 67 (.agg #[(.string ⟨#[]⟩), (.slice none 0 0)]) 40 rfl Try.underlying53 info67 rfl (by decide) (by decide) u7 rows (⟨xk, ⟨A1, vs.length, c1⟩⟩ : RS) [.string xk, .slice A1 vs.length c1] (fun k_ => k_ ≠ g10) (fun _ => False) rfl rfl (kRS_mkM _ _ _ (⟨xk, ⟨A1, vs.length, c1⟩⟩ : RS)) (fun _ hk => hk.elim) (fun k_ hk_ => by have := blk_lt B10.out; omega) HR.out HB.out HB.out.size HLN.out ?_); intro v7 w9 ho hb hgr hat; have r1_ := Aside0.mk (HA2.out.kept hgr (out67 HR.out)); have r2_ := Aside0.mk (blk_grown B5.out hgr (fun e_ => by obtain ⟨i_, o_⟩ := Kd.R_own HR.out; obtain ⟨c_, h_⟩ := own_typed o_ g5 e_.symm; rw [B5.out] at h_; injection h_ with h_; injection h_ with _ h_; cases h_)); have r3_ := Aside0.mk (blk_grown B10.out hgr (fun e_ => HR.out.1 g10 e_.symm rfl)); clear HB HR HA HA2 B5 c50 c51 c52 B10 c100 c101; have HB := Aside0.mk hb; have HR := Aside0.mk ho; have HA := r1_; have B5 := r2_; have B10 := r3_; have c100 := (blk_cell B10.out 0).trans rfl; have c101 := (blk_cell B10.out 1).trans rfl; have c50 := (blk_cell B5.out 0).trans rfl; have c51 := (blk_cell B5.out 1).trans rfl; have c52 := (blk_cell B5.out 2).trans rfl; clear r1_ r2_ ho hb hgr hat r3_))
          go_wp2
          go_roundg (l.length - (i + 1))
          case measure => omega
          case rel => exact ⟨i + 1, false, (rows ++ [⟨xk, ⟨A1, vs.length, c1⟩⟩]), (items ++ [⟨xk, vs⟩]), by omega, by have := HACC.out; simp; omega, fun _ => by have := HLA.out (by trivial); simp; omega, by omega, rfl, by go_num, HB, ⟨Kd.R_mono HR.out (fun _ _ => trivial)⟩, HA, B5, ⟨by have e := HE.out; rw [HST.out, HQ.out, if_neg (by simp)] at e; simpa using e⟩⟩
        | false =>
          cases q2 with
          | true =>
            go_wp2_with (first | ((with_reducible refine gate_dst (N := 10) rfl ?_); refine box_event ?hg (N := 10) ?hd (cs := #[.string ⟨#[]⟩, .slice none 0 0]) (t := 67) ?hr ?_; (case hd => rfl); (case hg => rfl); (case hr => first | (go_simp; done) | (go_simp; rfl)); intro g10 hg w2 hbox hb; have G10 := Aside0.mk (show w.heap.size ≤ g10 from (by rw [hg]; exact HB.out.size)); have N5 := Aside0.mk (show g5 ≠ g10 from fun e => absurd (blk_lt B5.out) (by omega)); have r_ := Aside0.mk (show Kd.R kRS 67 w2 w.heap.size (fun k_ => k_ ≠ g10) u7 rows from Kd.R_below (Kd.R_mono (Kd.R_bound HR.out) (fun k_ hk_ => by have := hk_.2.2.1; omega)) hb); clear HR; have HR := r_; clear r_; have B10 := Aside0.mk hbox; clear hbox hg; have r0_ := Aside0.mk (below_then HB.out HB.out.size hb); have r1_ := Aside0.mk (HA.out.below hb); have r2_ := Aside0.mk ((hb.block _ (blk_lt B5.out)).trans B5.out); clear HB HA B5; have HB := r0_; have HA := r1_; have B5 := r2_; clear r0_ r1_ r2_; clear hb) | ((with_reducible refine gate_store (t := 67) (p := 10) (v := .tmp 20) rfl ?_); go_must (refine sagg_event rfl 67 (.tmp 10) (.tmp 20) rfl rfl g10 #[.string xk, .slice A1 vs.length c1] _ _ rfl rfl B10.out (by kernel_rfl) rfl rfl ?_); intro w3 hbk hu; have r0_ := Aside0.mk (Kd.R_step HR.out (fun k_ hk_ _ => hu.block k_ hk_)); have r1_ := Aside0.mk (HA.out.kept (row := some g10) ⟨hu.os, hu.tape, hu.output, by rw [hu.size]; exact Nat.le_refl _, fun k_ hk_ hne_ => hu.block k_ (fun e_ => hne_ (by rw [e_]))⟩ (fun b e => by injection e with e; subst e; exact ⟨_, 67, B10.out, by decide⟩)); have r2_ := Aside0.mk (hu.below HB.out G10.out); have r3_ := Aside0.mk (hu.blk B5.out N5.out); clear HR HA HB B5; have HR := r0_; have HA := r1_; have HB := r2_; have B5 := r3_; clear r0_ r1_ r2_ r3_; clear B10; have B10 := Aside0.mk hbk; have c100 := (blk_cell B10.out 0).trans rfl; have c101 := (blk_cell B10.out 1).trans rfl; have c50 := (blk_cell B5.out 0).trans rfl; have c51 := (blk_cell B5.out 1).trans rfl; have c52 := (blk_cell B5.out 2).trans rfl; clear hbk hu) | ((with_reducible refine gate_callee (f := 50) rfl ?_); refine goesL_ (some 27) rfl rfl Try.func50 (by kernel_rfl) rfl #[.string xk, .string key] rfl (by (try simp only [List.map_toArray, List.map_cons, List.map_nil]); first | done | rfl) ?_; go_must (refine (Below50.calls xk key _ HSZ.out).mono ?_); rintro e w5 ⟨rfl, hb⟩; clear c100 c101 c50 c51 c52; have r0_ := Aside0.mk (below_then HB.out HB.out.size hb); have r1_ := Aside0.mk (Kd.R_below HR.out hb); have r2_ := Aside0.mk (HA.out.below hb); have r3_ := Aside0.mk ((hb.block _ (blk_lt B5.out)).trans B5.out); have r4_ := Aside0.mk ((hb.block _ (blk_lt B10.out)).trans B10.out); clear HB HR HA B5 B10; have HB := r0_; have HR := r1_; have HA := r2_; have B5 := r3_; have B10 := r4_; clear r0_ r1_ r2_ r3_ r4_; have c100 := (blk_cell B10.out 0).trans rfl; have c101 := (blk_cell B10.out 1).trans rfl; have c50 := (blk_cell B5.out 0).trans rfl; have c51 := (blk_cell B5.out 1).trans rfl; have c52 := (blk_cell B5.out 2).trans rfl; clear hb; rw [HQ.out]; refine ⟨_, rfl, ?_⟩) | (go_at_call 50; go_must (refine (Below50.calls xk key _ HSZ.out).mono ?_); rintro e w5 ⟨rfl, hb⟩; clear c100 c101 c50 c51 c52; have r0_ := Aside0.mk (below_then HB.out HB.out.size hb); have r1_ := Aside0.mk (Kd.R_below HR.out hb); have r2_ := Aside0.mk (HA.out.below hb); have r3_ := Aside0.mk ((hb.block _ (blk_lt B5.out)).trans B5.out); have r4_ := Aside0.mk ((hb.block _ (blk_lt B10.out)).trans B10.out); clear HB HR HA B5 B10; have HB := r0_; have HR := r1_; have HA := r2_; have B5 := r3_; have B10 := r4_; clear r0_ r1_ r2_ r3_ r4_; have c100 := (blk_cell B10.out 0).trans rfl; have c101 := (blk_cell B10.out 1).trans rfl; have c50 := (blk_cell B5.out 0).trans rfl; have c51 := (blk_cell B5.out 1).trans rfl; have c52 := (blk_cell B5.out 2).trans rfl; clear hb; rw [HQ.out]) | (go_at_call 78; go_must (refine (Placed.calls vs v pl HPL.out A1 c1 _ HVS.out (Kd.C_below HCV.out HB.out) HLC.out).mono ?_); rintro e w6 ⟨v78, rfl, hr, hb⟩; obtain ⟨A3, c3, rfl, hc3, _⟩ := Kd.R_reads hr; have HRV := Aside0.mk (Kd.R_lower hr HB.out.size); have HC3 := Aside0.mk hc3; clear hr hc3 c100 c101 c50 c51 c52; have r0_ := Aside0.mk (below_then HB.out HB.out.size hb); have r1_ := Aside0.mk (Kd.R_below HR.out hb); have r2_ := Aside0.mk (HA.out.below hb); have r3_ := Aside0.mk ((hb.block _ (blk_lt B5.out)).trans B5.out); have r4_ := Aside0.mk ((hb.block _ (blk_lt B10.out)).trans B10.out); clear HB HR HA B5 B10; have HB := r0_; have HR := r1_; have HA := r2_; have B5 := r3_; have B10 := r4_; clear r0_ r1_ r2_ r3_ r4_; have c100 := (blk_cell B10.out 0).trans rfl; have c101 := (blk_cell B10.out 1).trans rfl; have c50 := (blk_cell B5.out 0).trans rfl; have c51 := (blk_cell B5.out 1).trans rfl; have c52 := (blk_cell B5.out 2).trans rfl; clear hb) | ((with_reducible refine gate_store (t := 65) (p := 45) (v := .tmp 44) rfl ?_); go_must (refine scell_event rfl rfl g10 1 (.slice A3 pl.length c3) _ _ B10.out ?hr ?_); (case hr => have q1_ := (blk_cell B10.out 1).trans rfl; have q2_ := blk_frozen B10.out 1; first | (go_simp; done) | (go_simp; rfl)); intro w7 hbk hu; clear c100 c101 c50 c51 c52; have r0_ := Aside0.mk (Kd.R_mono (Kd.R_step (Kd.R_types HRV.out B10.out (by decide)) (fun k_ hk_ _ => hu.block k_ hk_.2)) (ok' := fun _ => True) (fun _ _ => trivial)); have r1_ := Aside0.mk (Kd.R_step HR.out (fun k_ hk_ _ => hu.block k_ hk_)); have r2_ := Aside0.mk (HA.out.kept (row := some g10) ⟨hu.os, hu.tape, hu.output, by rw [hu.size]; exact Nat.le_refl _, fun k_ hk_ hne_ => hu.block k_ (fun e_ => hne_ (by rw [e_]))⟩ (fun b e => by injection e with e; subst e; exact ⟨_, 67, B10.out, by decide⟩)); have r3_ := Aside0.mk (hu.below HB.out G10.out); have r4_ := Aside0.mk (hu.blk B5.out N5.out); clear HRV HR HA HB B5; have HRV := r0_; have HR := r1_; have HA := r2_; have HB := r3_; have B5 := r4_; clear r0_ r1_ r2_ r3_ r4_; clear B10; have B10 := Aside0.mk (show w7.heap[g10]? = some (.cells #[.string xk, .slice A3 pl.length c3] 67 (0, 0)) from hbk); have c100 := (blk_cell B10.out 0).trans rfl; have c101 := (blk_cell B10.out 1).trans rfl; have c50 := (blk_cell B5.out 0).trans rfl; have c51 := (blk_cell B5.out 1).trans rfl; have c52 := (blk_cell B5.out 2).trans rfl; clear hbk hu) | ((with_reducible refine gate_builtin (b := .append) (xs := #[.tmp 46, .tmp 48]) rfl ?_); at_builtin; have HA2 := Aside0.mk (AllSl.snoc (w0 := w) (r := (⟨xk, ⟨A3, pl.length, c3⟩⟩ : RS)) (x := ⟨xk, pl⟩) ⟨rfl, rfl, HC3.out, Or.inr HRV.out⟩ HA.out); go_must (refine Kd.R_append kRS (w0 := w) w.heap.size rfl (.tmp 46) (.tmp 48) 53 67 (.agg #[(.string ⟨#[]⟩), (.slice none 0 0)]) 40 rfl Try.underlying53 info67 rfl (by decide) (by decide) u7 rows (⟨xk, ⟨A3, pl.length, c3⟩⟩ : RS) [.string xk, .slice A3 pl.length c3] (fun k_ => k_ ≠ g10) (fun _ => False) rfl rfl (kRS_mkM _ _ _ (⟨xk, ⟨A3, pl.length, c3⟩⟩ : RS)) (fun _ hk => hk.elim) (fun k_ hk_ => by have := blk_lt B10.out; omega) HR.out HB.out HB.out.size HLN.out ?_); intro v7 w9 ho hb hgr hat; have r1_ := Aside0.mk (HA2.out.kept hgr (out67 HR.out)); have r2_ := Aside0.mk (blk_grown B5.out hgr (fun e_ => by obtain ⟨i_, o_⟩ := Kd.R_own HR.out; obtain ⟨c_, h_⟩ := own_typed o_ g5 e_.symm; rw [B5.out] at h_; injection h_ with h_; injection h_ with _ h_; cases h_)); have r3_ := Aside0.mk (blk_grown B10.out hgr (fun e_ => HR.out.1 g10 e_.symm rfl)); clear HB HR HA HA2 B5 c50 c51 c52 B10 c100 c101; have HB := Aside0.mk hb; have HR := Aside0.mk ho; have HA := r1_; have B5 := r2_; have B10 := r3_; have c100 := (blk_cell B10.out 0).trans rfl; have c101 := (blk_cell B10.out 1).trans rfl; have c50 := (blk_cell B5.out 0).trans rfl; have c51 := (blk_cell B5.out 1).trans rfl; have c52 := (blk_cell B5.out 2).trans rfl; clear r1_ r2_ ho hb hgr hat r3_))
            go_wp2
            go_roundg (l.length - (i + 1))
            case measure => omega
            case rel => exact ⟨i + 1, true, (rows ++ [⟨xk, ⟨A3, pl.length, c3⟩⟩]), (items ++ [⟨xk, pl⟩]), by omega, by have := HLA.out (by trivial); simp; omega, by simp, by omega, rfl, by go_num, HB, ⟨Kd.R_mono HR.out (fun _ _ => trivial)⟩, HA, B5, ⟨by have e := HE.out; rw [HST.out, HQ.out, if_pos (by trivial), if_pos (eq_of_beq HK2.out), HPL.out] at e; simpa using e⟩⟩
          | false =>
            go_wp2_with (first | ((with_reducible refine gate_dst (N := 10) rfl ?_); refine box_event ?hg (N := 10) ?hd (cs := #[.string ⟨#[]⟩, .slice none 0 0]) (t := 67) ?hr ?_; (case hd => rfl); (case hg => rfl); (case hr => first | (go_simp; done) | (go_simp; rfl)); intro g10 hg w2 hbox hb; have G10 := Aside0.mk (show w.heap.size ≤ g10 from (by rw [hg]; exact HB.out.size)); have N5 := Aside0.mk (show g5 ≠ g10 from fun e => absurd (blk_lt B5.out) (by omega)); have r_ := Aside0.mk (show Kd.R kRS 67 w2 w.heap.size (fun k_ => k_ ≠ g10) u7 rows from Kd.R_below (Kd.R_mono (Kd.R_bound HR.out) (fun k_ hk_ => by have := hk_.2.2.1; omega)) hb); clear HR; have HR := r_; clear r_; have B10 := Aside0.mk hbox; clear hbox hg; have r0_ := Aside0.mk (below_then HB.out HB.out.size hb); have r1_ := Aside0.mk (HA.out.below hb); have r2_ := Aside0.mk ((hb.block _ (blk_lt B5.out)).trans B5.out); clear HB HA B5; have HB := r0_; have HA := r1_; have B5 := r2_; clear r0_ r1_ r2_; clear hb) | ((with_reducible refine gate_store (t := 67) (p := 10) (v := .tmp 20) rfl ?_); go_must (refine sagg_event rfl 67 (.tmp 10) (.tmp 20) rfl rfl g10 #[.string xk, .slice A1 vs.length c1] _ _ rfl rfl B10.out (by kernel_rfl) rfl rfl ?_); intro w3 hbk hu; have r0_ := Aside0.mk (Kd.R_step HR.out (fun k_ hk_ _ => hu.block k_ hk_)); have r1_ := Aside0.mk (HA.out.kept (row := some g10) ⟨hu.os, hu.tape, hu.output, by rw [hu.size]; exact Nat.le_refl _, fun k_ hk_ hne_ => hu.block k_ (fun e_ => hne_ (by rw [e_]))⟩ (fun b e => by injection e with e; subst e; exact ⟨_, 67, B10.out, by decide⟩)); have r2_ := Aside0.mk (hu.below HB.out G10.out); have r3_ := Aside0.mk (hu.blk B5.out N5.out); clear HR HA HB B5; have HR := r0_; have HA := r1_; have HB := r2_; have B5 := r3_; clear r0_ r1_ r2_ r3_; clear B10; have B10 := Aside0.mk hbk; have c100 := (blk_cell B10.out 0).trans rfl; have c101 := (blk_cell B10.out 1).trans rfl; have c50 := (blk_cell B5.out 0).trans rfl; have c51 := (blk_cell B5.out 1).trans rfl; have c52 := (blk_cell B5.out 2).trans rfl; clear hbk hu) | ((with_reducible refine gate_callee (f := 50) rfl ?_); refine goesL_ (some 27) rfl rfl Try.func50 (by kernel_rfl) rfl #[.string xk, .string key] rfl (by (try simp only [List.map_toArray, List.map_cons, List.map_nil]); first | done | rfl) ?_; go_must (refine (Below50.calls xk key _ HSZ.out).mono ?_); rintro e w5 ⟨rfl, hb⟩; clear c100 c101 c50 c51 c52; have r0_ := Aside0.mk (below_then HB.out HB.out.size hb); have r1_ := Aside0.mk (Kd.R_below HR.out hb); have r2_ := Aside0.mk (HA.out.below hb); have r3_ := Aside0.mk ((hb.block _ (blk_lt B5.out)).trans B5.out); have r4_ := Aside0.mk ((hb.block _ (blk_lt B10.out)).trans B10.out); clear HB HR HA B5 B10; have HB := r0_; have HR := r1_; have HA := r2_; have B5 := r3_; have B10 := r4_; clear r0_ r1_ r2_ r3_ r4_; have c100 := (blk_cell B10.out 0).trans rfl; have c101 := (blk_cell B10.out 1).trans rfl; have c50 := (blk_cell B5.out 0).trans rfl; have c51 := (blk_cell B5.out 1).trans rfl; have c52 := (blk_cell B5.out 2).trans rfl; clear hb; rw [HQ.out]; refine ⟨_, rfl, ?_⟩) | (go_at_call 50; go_must (refine (Below50.calls xk key _ HSZ.out).mono ?_); rintro e w5 ⟨rfl, hb⟩; clear c100 c101 c50 c51 c52; have r0_ := Aside0.mk (below_then HB.out HB.out.size hb); have r1_ := Aside0.mk (Kd.R_below HR.out hb); have r2_ := Aside0.mk (HA.out.below hb); have r3_ := Aside0.mk ((hb.block _ (blk_lt B5.out)).trans B5.out); have r4_ := Aside0.mk ((hb.block _ (blk_lt B10.out)).trans B10.out); clear HB HR HA B5 B10; have HB := r0_; have HR := r1_; have HA := r2_; have B5 := r3_; have B10 := r4_; clear r0_ r1_ r2_ r3_ r4_; have c100 := (blk_cell B10.out 0).trans rfl; have c101 := (blk_cell B10.out 1).trans rfl; have c50 := (blk_cell B5.out 0).trans rfl; have c51 := (blk_cell B5.out 1).trans rfl; have c52 := (blk_cell B5.out 2).trans rfl; clear hb; rw [HQ.out]) | ((with_reducible refine gate_dst (N := 37) rfl ?_); refine bs_event ?hg (N := 37) ?hd (cs := #[.int .i64 v.f0, .string v.f1, .bool v.f2]) (t := 80) ?hr ?_; (case hd => rfl); (case hg => rfl); (case hr => first | (go_simp; done) | (go_simp; rfl)); intro g37 hg w8 hbox hb; have HO8 := Aside0.mk (one80 (base := w.heap.size) (v := v) (by rw [hg]; exact HB.out.size) hbox); clear hbox hg c100 c101 c50 c51 c52; have r0_ := Aside0.mk (below_then HB.out HB.out.size hb); have r1_ := Aside0.mk (Kd.R_below HR.out hb); have r2_ := Aside0.mk (HA.out.below hb); have r3_ := Aside0.mk ((hb.block _ (blk_lt B5.out)).trans B5.out); have r4_ := Aside0.mk ((hb.block _ (blk_lt B10.out)).trans B10.out); clear HB HR HA B5 B10; have HB := r0_; have HR := r1_; have HA := r2_; have B5 := r3_; have B10 := r4_; clear r0_ r1_ r2_ r3_ r4_; have c100 := (blk_cell B10.out 0).trans rfl; have c101 := (blk_cell B10.out 1).trans rfl; have c50 := (blk_cell B5.out 0).trans rfl; have c51 := (blk_cell B5.out 1).trans rfl; have c52 := (blk_cell B5.out 2).trans rfl; clear hb) | ((with_reducible refine gate_builtin (b := .append) (xs := #[.tmp 34, .tmp 39]) rfl ?_); at_builtin; have HA2 := Aside0.mk (AllSl.snoc (w0 := w) (r := (⟨key, ⟨(some ⟨g37, 0, none⟩), 1, 1⟩⟩ : RS)) (x := ⟨key, [v]⟩) ⟨rfl, rfl, Nat.le_refl _, Or.inr HO8.out⟩ HA.out); go_must (refine Kd.R_append kRS (w0 := w) w.heap.size rfl (.tmp 34) (.tmp 39) 53 67 (.agg #[(.string ⟨#[]⟩), (.slice none 0 0)]) 40 rfl Try.underlying53 info67 rfl (by decide) (by decide) u7 rows (⟨key, ⟨(some ⟨g37, 0, none⟩), 1, 1⟩⟩ : RS) [.string key, .slice (some ⟨g37, 0, none⟩) 1 1] (fun k_ => k_ ≠ g10) (fun _ => False) rfl rfl (kRS_mkM _ _ _ (⟨key, ⟨(some ⟨g37, 0, none⟩), 1, 1⟩⟩ : RS)) (fun _ hk => hk.elim) (fun k_ hk_ => by have := blk_lt B10.out; omega) HR.out HB.out HB.out.size HLN.out ?_); intro v7 w9 ho hb hgr hat; have r1_ := Aside0.mk (HA2.out.kept hgr (out67 HR.out)); have r2_ := Aside0.mk (blk_grown B5.out hgr (fun e_ => by obtain ⟨i_, o_⟩ := Kd.R_own HR.out; obtain ⟨c_, h_⟩ := own_typed o_ g5 e_.symm; rw [B5.out] at h_; injection h_ with h_; injection h_ with _ h_; cases h_)); have r3_ := Aside0.mk (blk_grown B10.out hgr (fun e_ => HR.out.1 g10 e_.symm rfl)); clear HB HR HA HA2 B5 c50 c51 c52 B10 c100 c101; have HB := Aside0.mk hb; have HR := Aside0.mk ho; have HA := r1_; have B5 := r2_; have B10 := r3_; have c100 := (blk_cell B10.out 0).trans rfl; have c101 := (blk_cell B10.out 1).trans rfl; have c50 := (blk_cell B5.out 0).trans rfl; have c51 := (blk_cell B5.out 1).trans rfl; have c52 := (blk_cell B5.out 2).trans rfl; clear r1_ r2_ ho hb hgr hat r3_) | ((with_reducible refine gate_builtin (b := .append) (xs := #[.tmp 46, .tmp 48]) rfl ?_); at_builtin; have HA2 := Aside0.mk (AllSl.snoc (w0 := w) (r := (⟨xk, ⟨A1, vs.length, c1⟩⟩ : RS)) (x := ⟨xk, vs⟩) ⟨rfl, rfl, HLC.out, Or.inl HCV.out⟩ HA.out); go_must (refine Kd.R_append kRS (w0 := w) w.heap.size rfl (.tmp 46) (.tmp 48) 53 67 (.agg #[(.string ⟨#[]⟩), (.slice none 0 0)]) 40 rfl Try.underlying53 info67 rfl (by decide) (by decide) v7 (rows ++ [(⟨key, ⟨some ⟨g37, 0, none⟩, 1, 1⟩⟩ : RS)]) (⟨xk, ⟨A1, vs.length, c1⟩⟩ : RS) [.string xk, .slice A1 vs.length c1] (fun k_ => k_ ≠ g10) (fun _ => False) rfl rfl (kRS_mkM _ _ _ (⟨xk, ⟨A1, vs.length, c1⟩⟩ : RS)) (fun _ hk => hk.elim) (fun k_ hk_ => by have := blk_lt B10.out; omega) HR.out HB.out HB.out.size (by have := HLN2.out; simp at this ⊢; omega) ?_); intro v8 w10 ho hb hgr hat; have r1_ := Aside0.mk (HA2.out.kept hgr (out67 HR.out)); have r2_ := Aside0.mk (blk_grown B5.out hgr (fun e_ => by obtain ⟨i_, o_⟩ := Kd.R_own HR.out; obtain ⟨c_, h_⟩ := own_typed o_ g5 e_.symm; rw [B5.out] at h_; injection h_ with h_; injection h_ with _ h_; cases h_)); have r3_ := Aside0.mk (blk_grown B10.out hgr (fun e_ => HR.out.1 g10 e_.symm rfl)); clear HB HR HA HA2 B5 c50 c51 c52 B10 c100 c101; have HB := Aside0.mk hb; have HR := Aside0.mk ho; have HA := r1_; have B5 := r2_; have B10 := r3_; have c100 := (blk_cell B10.out 0).trans rfl; have c101 := (blk_cell B10.out 1).trans rfl; have c50 := (blk_cell B5.out 0).trans rfl; have c51 := (blk_cell B5.out 1).trans rfl; have c52 := (blk_cell B5.out 2).trans rfl; clear r1_ r2_ ho hb hgr hat r3_))
            go_wp2
            go_roundg (l.length - (i + 1))
            case measure => omega
            case rel => exact ⟨i + 1, true, (rows ++ [⟨key, ⟨some ⟨g37, 0, none⟩, 1, 1⟩⟩] ++ [⟨xk, ⟨A1, vs.length, c1⟩⟩]), (items ++ [⟨key, [v]⟩] ++ [⟨xk, vs⟩]), by omega, by have := HLA.out (by trivial); simp; omega, by simp, by omega, rfl, by go_num, HB, ⟨Kd.R_mono HR.out (fun _ _ => trivial)⟩, HA, B5, ⟨by have e := HE.out; rw [HST.out, HQ.out, if_pos (by trivial), if_neg (ne_of_beqF HK2.out)] at e; simpa using e⟩⟩
    · have hiz : ¬ (i : Int) < (l.length : Int) := by omega
      cases laid with
      | true =>
        have HF : Aside0 (items = D) := ⟨by have e := HE.out; rw [List.drop_of_length_le (by omega)] at e; simpa [withGo] using e⟩
        go_wp2
        go_ret
        exact ⟨_, rfl, by rw [← HF.out]; exact HA.out.rd HB.out HR.out, HB.out⟩
      | false =>
        have HF : Aside0 (items ++ [⟨key, [v]⟩] = D) := ⟨by have e := HE.out; rw [List.drop_of_length_le (by omega)] at e; simpa [withGo] using e⟩
        go_wp2_with (first | ((with_reducible refine gate_dst (N := 55) rfl ?_); refine bs_event ?hg (N := 55) ?hd (cs := #[.int .i64 v.f0, .string v.f1, .bool v.f2]) (t := 80) ?hr ?_; (case hd => rfl); (case hg => rfl); (case hr => first | (go_simp; done) | (go_simp; rfl)); intro g37 hg w8 hbox hb; have HO8 := Aside0.mk (one80 (base := w.heap.size) (v := v) (by rw [hg]; exact HB.out.size) hbox); clear hbox hg c50 c51 c52; have r0_ := Aside0.mk (below_then HB.out HB.out.size hb); have r1_ := Aside0.mk (Kd.R_below HR.out hb); have r2_ := Aside0.mk (HA.out.below hb); have r3_ := Aside0.mk ((hb.block _ (blk_lt B5.out)).trans B5.out); clear HB HR HA B5; have HB := r0_; have HR := r1_; have HA := r2_; have B5 := r3_; clear r0_ r1_ r2_ r3_; have c50 := (blk_cell B5.out 0).trans rfl; have c51 := (blk_cell B5.out 1).trans rfl; have c52 := (blk_cell B5.out 2).trans rfl; clear hb) | ((with_reducible refine gate_builtin (b := .append) (xs := #[.tmp 52, .tmp 57]) rfl ?_); at_builtin; have HA2 := Aside0.mk (AllSl.snoc (w0 := w) (r := (⟨key, ⟨(some ⟨g37, 0, none⟩), 1, 1⟩⟩ : RS)) (x := ⟨key, [v]⟩) ⟨rfl, rfl, Nat.le_refl _, Or.inr HO8.out⟩ HA.out); go_must (refine Kd.R_append kRS (w0 := w) w.heap.size rfl (.tmp 52) (.tmp 57) 53 67 (.agg #[(.string ⟨#[]⟩), (.slice none 0 0)]) 40 rfl Try.underlying53 info67 rfl (by decide) (by decide) u7 rows (⟨key, ⟨(some ⟨g37, 0, none⟩), 1, 1⟩⟩ : RS) [.string key, .slice (some ⟨g37, 0, none⟩) 1 1] (fun _ => True) (fun _ => False) rfl rfl (kRS_mkM _ _ _ (⟨key, ⟨(some ⟨g37, 0, none⟩), 1, 1⟩⟩ : RS)) (fun _ hk => hk.elim) (fun _ _ => trivial) HR.out HB.out HB.out.size HLN.out ?_); intro v7 w9 ho hb hgr hat; have r1_ := Aside0.mk (HA2.out.kept hgr (out67 HR.out)); have r2_ := Aside0.mk (blk_grown B5.out hgr (fun e_ => by obtain ⟨i_, o_⟩ := Kd.R_own HR.out; obtain ⟨c_, h_⟩ := own_typed o_ g5 e_.symm; rw [B5.out] at h_; injection h_ with h_; injection h_ with _ h_; cases h_)); clear HB HR HA HA2 B5 c50 c51 c52; have HB := Aside0.mk hb; have HR := Aside0.mk ho; have HA := r1_; have B5 := r2_; have c50 := (blk_cell B5.out 0).trans rfl; have c51 := (blk_cell B5.out 1).trans rfl; have c52 := (blk_cell B5.out 2).trans rfl; clear r1_ r2_ ho hb hgr hat))
        go_ret
        exact ⟨_, rfl, by rw [← HF.out]; exact HA.out.rd HB.out HR.out, HB.out⟩
end Go.Proofs.Ytehcmedeeaoebaa.PB
end
section
namespace Go.Proofs.Ytehcmedeeaoebaa.PB
open Go.RowKit Go.Proofs.YtehcmedeeaoebaaW.PrintWords Go.Proofs.YtehcmedeeaoebaaW.PrintLast Go.Proofs.YtehcmedeeaoebaaW.PrintMore
set_option linter.unusedVariables false
def bytesU (t : Int) : List UInt8 := (bytes8 (t % 18446744073709551616)).map fun n => UInt8.ofNat n.toNat
theorem bytesU_length (t : Int) : (bytesU t).length = 8 := by unfold bytesU; rw [List.length_map, bytes8_low, lowBytes_length]
end Go.Proofs.Ytehcmedeeaoebaa.PB
end
section
namespace Go.Proofs.Ytehcmedeeaoebaa.PB
open Go.ChangeMaps Go.MapKept Go.ChangeShapes
open Go.RowKit Go.Proofs.YtehcmedeeaoebaaW.PrintWords Go.Proofs.YtehcmedeeaoebaaW.PrintLast Go.Proofs.YtehcmedeeaoebaaW.PrintMore
set_option linter.unusedVariables false
abbrev HV (v : Value) : Option (DataW Value × List MemPlace) := some (.held v, [])
def klit (k : ByteArray) : Lit := .string k.data.toList
structure G80 where
  k : ByteArray
  v : Value
  vs : List S80
def nil80 : Value := .slice none 0 0
def hasG (G : List G80) (key : ByteArray) : Bool := G.any fun g => g.k.toList == key.toList
def valG : List G80 → ByteArray → Value
  | [], _ => nil80
  | g :: G, key => if (g.k.toList == key.toList) = true then g.v else valG G key
def rowG : List G80 → ByteArray → List S80
  | [], _ => []
  | g :: G, key => if (g.k.toList == key.toList) = true then g.vs else rowG G key
def putG : List G80 → ByteArray → Value → List S80 → List G80
  | [], key, v, vs => [⟨key, v, vs⟩]
  | g :: G, key, v, vs => if (g.k.toList == key.toList) = true then ⟨key, v, vs⟩ :: G else g :: putG G key v vs
def apartG (x y : G80) : Prop := ¬ x.k.toList = y.k.toList ∧ ∀ b, x.v.ownBlock = some b → y.v.ownBlock ≠ some b
structure Grp (w : World) (base m n : Nat) (G : List G80) : Prop where
  made : ∃ D, w.ownsMap Try.prog 9 HV m n D ∧ (∀ key : ByteArray, Maps.has D (klit key) = hasG G key) ∧ ∀ g ∈ G, D.atKey (klit g.k) (.held nil80) = .held g.v
  row : ∀ g ∈ G, Kd.R k80 80 w base (fun _ => True) g.v g.vs
  apart : G.Pairwise apartG
theorem k80_any {w : World} {base : Nat} {ok1 ok2 : Nat → Prop} {x : S80} {cs : List Value} (h : k80.M w base ok1 x cs) : k80.M w base ok2 x cs := by
  rw [k80_openM h]
  exact k80_mkM _ _ _ _
theorem klit_inj {a b : ByteArray} : klit a = klit b ↔ a.toList = b.toList := by
  unfold klit
  rw [Lib.toList_data, Lib.toList_data]
  constructor
  · intro h; injection h
  · intro h; rw [h]
theorem hasG_mem {G : List G80} {key : ByteArray} (h : hasG G key = true) : ∃ g ∈ G, g.k.toList = key.toList ∧ valG G key = g.v ∧ rowG G key = g.vs := by
  induction G with
  | nil => cases h
  | cons g G ih =>
    by_cases c : (g.k.toList == key.toList) = true
    · exact ⟨g, List.mem_cons_self, eq_of_beq c, by rw [valG, if_pos c], by rw [rowG, if_pos c]⟩
    · have : hasG G key = true := by
        unfold hasG at h ⊢
        rw [List.any_cons, Bool.or_eq_true] at h
        exact h.resolve_left c
      obtain ⟨g', h1, h2, h3, h4⟩ := ih this
      exact ⟨g', List.mem_cons_of_mem _ h1, h2, by rw [valG, if_neg c, h3], by rw [rowG, if_neg c, h4]⟩
theorem hasG_not {G : List G80} {key : ByteArray} (h : hasG G key = false) : valG G key = nil80 ∧ rowG G key = [] ∧ ∀ v vs, putG G key v vs = G ++ [⟨key, v, vs⟩] := by
  induction G with
  | nil => exact ⟨rfl, rfl, fun _ _ => rfl⟩
  | cons g G ih =>
    unfold hasG at h
    rw [List.any_cons, Bool.or_eq_false_iff] at h
    obtain ⟨h1, h2, h3⟩ := ih h.2
    exact ⟨by rw [valG, if_neg (by rw [h.1]; simp), h1], by rw [rowG, if_neg (by rw [h.1]; simp), h2], fun v vs => by rw [putG, if_neg (by rw [h.1]; simp), h3]; rfl⟩
theorem grp_made (w : World) (base : Nat) : Grp (w.alloc (.map #[] 0)) base w.heap.size 0 [] :=
  ⟨⟨.map [], World.ownsMap_made _ _ _ _, fun _ => rfl, by simp⟩, by simp, List.Pairwise.nil⟩
section
variable {w w' : World} {base m n : Nat} {G : List G80}
theorem Grp.val (h : Grp w base m n G) (key : ByteArray) : Kd.R k80 80 w base (fun _ => True) (valG G key) (rowG G key) := by
  cases c : hasG G key with
  | true =>
    obtain ⟨g, h1, _, h3, h4⟩ := hasG_mem c
    rw [h3, h4]
    exact h.row g h1
  | false =>
    obtain ⟨h1, h2, _⟩ := hasG_not c
    rw [h1, h2]
    exact Kd.R_nil _ _ _ _ _
theorem Grp.at_ (h : Grp w base m n G) (key : ByteArray) {D : DataW Value} (hh : ∀ key : ByteArray, Maps.has D (klit key) = hasG G key) (hat : ∀ g ∈ G, D.atKey (klit g.k) (.held nil80) = .held g.v) : D.atKey (klit key) (.held nil80) = .held (valG G key) := by
  cases c : hasG G key with
  | true =>
    obtain ⟨g, h1, h2, h3, _⟩ := hasG_mem c
    rw [h3, ← hat g h1, klit_inj.2 h2]
  | false =>
    rw [(hasG_not c).1]
    exact Maps.atKey_of_not_has (by rw [hh key, c]) _
theorem Grp.map_lt (h : Grp w base m n G) : m < w.heap.size := by obtain ⟨D, hD, _⟩ := h.made; exact hD.lt
theorem Grp.map_obj (h : Grp w base m n G) : ∃ es c, w.heap[m]? = some (.map es c) := by obtain ⟨D, ⟨es, c, hb, _⟩, _⟩ := h.made; exact ⟨es, c, hb⟩
theorem Grp.own_block (h : Grp w base m n G) {g : G80} (hg : g ∈ G) {b : Nat} (hb : g.v.ownBlock = some b) : ∃ cells, w.heap[b]? = some (.cells cells 80 (0, 0)) := by
  obtain ⟨inner, ho⟩ := Kd.R_own (h.row g hg)
  exact own_typed ho b hb
theorem Grp.kept (h : Grp w base m n G) {row : Option Nat} (hg : w.grownBy w' row) (h1 : some m ≠ row) (h2 : ∀ g ∈ G, ∀ b, g.v.ownBlock = some b → some b ≠ row) : Grp w' base m n G := by
  obtain ⟨D, hD, hh, hat⟩ := h.made
  refine ⟨⟨D, hD.kept hg h1, hh, hat⟩, fun g hgG => ?_, h.apart⟩
  have hr := h.row g hgG
  have := Kd.R_bound hr
  refine Kd.R_mono (Kd.R_grown (ok := fun k => some k = g.v.ownBlock) (Kd.R_flat (fun hd => k80_any hd) hr (fun k hk _ => hk.symm)) hg (fun k hk => h2 g hgG k hk.symm)) (fun _ _ => trivial)
theorem Grp.typed (h : Grp w base m n G) {r t : Nat} {cells : Array Value} (hr : w.heap[r]? = some (.cells cells t (0, 0))) (ht : t ≠ 80) {row : Option Nat} (hrow : ∀ b, row = some b → b = r) (hg : w.grownBy w' row) : Grp w' base m n G := by
  refine h.kept hg (fun e => ?_) (fun g hgG b hb e => ?_)
  · have := hrow m e.symm
    subst this
    obtain ⟨es, c, hm⟩ := h.map_obj
    rw [hm] at hr; cases hr
  · have := hrow b e.symm
    subst this
    obtain ⟨cs, hc⟩ := h.own_block hgG hb
    rw [hc] at hr
    injection hr with hr
    injection hr with _ hr
    exact ht hr.symm
theorem Grp.below (h : Grp w base m n G) (hb : Below w.heap.size w w') : Grp w' base m n G :=
  h.kept (row := none) ⟨hb.os, hb.tape, hb.output, hb.size, fun k hk _ => hb.block k hk⟩ (by simp) (by simp)
end
theorem key9 : Maps.Keyed Try.prog 9 := Maps.string_keyed Try.underlying9
theorem zero65 (w : World) : (zeroValue 65).run Try.prog w = .ok nil80 w := by kernel_rfl
theorem klit_key (key : ByteArray) (h : key.size ≤ 9223372036854775807) : keyOf Try.prog 9 (.string key) = some (klit key) := Go.WideMaps.keyOf_string_mk Try.underlying9 h
theorem klit_is (key : ByteArray) : WideAt.IsKeyLit (klit key) := trivial
theorem hasG_put (G : List G80) (key k : ByteArray) (v : Value) (vs : List S80) : hasG (putG G key v vs) k = (key.toList == k.toList || hasG G k) := by
  induction G with
  | nil => rfl
  | cons g G ih =>
    rw [putG]
    by_cases c : (g.k.toList == key.toList) = true
    · rw [if_pos c]
      unfold hasG
      rw [List.any_cons, List.any_cons, eq_of_beq c, ← Bool.or_assoc, Bool.or_self]
    · rw [if_neg c]
      unfold hasG at ih ⊢
      rw [List.any_cons, List.any_cons, ih, ← Bool.or_assoc, ← Bool.or_assoc, Bool.or_comm (g.k.toList == k.toList)]
theorem putG_mem {G : List G80} {key : ByteArray} {v : Value} {vs : List S80} {x : G80} (ha : G.Pairwise apartG) (h : x ∈ putG G key v vs) : (x = ⟨key, v, vs⟩) ∨ (x ∈ G ∧ ¬ x.k.toList = key.toList) := by
  induction G with
  | nil => exact Or.inl (List.mem_singleton.1 h)
  | cons g G ih =>
    rw [putG] at h
    by_cases c : (g.k.toList == key.toList) = true
    · rw [if_pos c] at h
      rcases List.mem_cons.1 h with h | h
      · exact Or.inl h
      · refine Or.inr ⟨List.mem_cons_of_mem _ h, fun e => ?_⟩
        exact ((List.pairwise_cons.1 ha).1 x h).1 ((eq_of_beq c).trans e.symm)
    · rw [if_neg c] at h
      rcases List.mem_cons.1 h with h | h
      · exact Or.inr ⟨by rw [h]; exact List.mem_cons_self, by rw [h]; simpa using c⟩
      · rcases ih (List.pairwise_cons.1 ha).2 h with h | ⟨h1, h2⟩
        · exact Or.inl h
        · exact Or.inr ⟨List.mem_cons_of_mem _ h1, h2⟩
theorem putG_apart {G : List G80} {key : ByteArray} {v : Value} {vs : List S80} (ha : G.Pairwise apartG) (hv : ∀ g ∈ G, ¬ g.k.toList = key.toList → ∀ b, g.v.ownBlock = some b → v.ownBlock ≠ some b) : (putG G key v vs).Pairwise apartG := by
  induction G with
  | nil => exact List.pairwise_singleton _ _
  | cons g G ih =>
    rw [putG]
    obtain ⟨h1, h2⟩ := List.pairwise_cons.1 ha
    by_cases c : (g.k.toList == key.toList) = true
    · rw [if_pos c]
      refine List.pairwise_cons.2 ⟨fun x hx => ⟨?_, fun b hb e => ?_⟩, h2⟩
      · show ¬ key.toList = x.k.toList
        rw [← eq_of_beq c]; exact (h1 x hx).1
      · refine hv x (List.mem_cons_of_mem _ hx) (fun e2 => (h1 x hx).1 ((eq_of_beq c).trans e2.symm)) b e hb
    · rw [if_neg c]
      refine List.pairwise_cons.2 ⟨fun x hx => ?_, ih h2 fun g hg => hv g (List.mem_cons_of_mem _ hg)⟩
      rcases putG_mem h2 hx with rfl | ⟨hx, _⟩
      · exact ⟨by simpa using c, fun b hb e => hv g List.mem_cons_self (by simpa using c) b hb e⟩
      · exact h1 x hx
theorem Grp.put {w w1 w2 : World} {base m n : Nat} {G : List G80} {D : DataW Value} (h : Grp w base m n G) (key : ByteArray) (v : Value) (vs : List S80) (hg1 : w.grownBy w1 (valG G key).ownBlock) (hv : Kd.R k80 80 w1 base (fun _ => True) v vs)
    (hat : v.ownBlock = (valG G key).ownBlock ∨ ∃ b, v.ownBlock = some b ∧ w.heap.size ≤ b) (h1 : w1.ownsMap Try.prog 9 HV m n D) (h2 : w2.ownsMap Try.prog 9 HV m (n + 1) (D.put (klit key) (.held v)))
    (hh : ∀ key : ByteArray, Maps.has D (klit key) = hasG G key) (hD : ∀ g ∈ G, D.atKey (klit g.k) (.held nil80) = .held g.v) (hg2 : w1.grownBy w2 (some m)) : Grp w2 base m (n + 1) (putG G key v vs) := by
  have hother : ∀ g ∈ G, ¬ g.k.toList = key.toList → ∀ b, g.v.ownBlock = some b → some b ≠ (valG G key).ownBlock := by
    intro g hg hk b hb e
    cases c : hasG G key with
    | false => rw [(hasG_not c).1] at e; cases e
    | true =>
      obtain ⟨g', h1', h2', h3', _⟩ := hasG_mem c
      rw [h3'] at e
      have : ∀ (L : List G80), L.Pairwise apartG → g ∈ L → g' ∈ L → g = g' ∨ apartG g g' ∨ apartG g' g := by
        intro L hL hgL hg'L
        induction L with
        | nil => cases hgL
        | cons a L ih =>
          obtain ⟨p1, p2⟩ := List.pairwise_cons.1 hL
          rcases List.mem_cons.1 hgL with e1 | e1 <;> rcases List.mem_cons.1 hg'L with e2 | e2
          · exact Or.inl (e1.trans e2.symm)
          · rw [e1]; exact Or.inr (Or.inl (p1 _ e2))
          · rw [e2]; exact Or.inr (Or.inr (p1 _ e1))
          · exact ih p2 e1 e2
      rcases this G h.apart hg h1' with rfl | ha | ha
      · exact hk h2'
      · exact ha.2 b hb e.symm
      · exact ha.2 b e.symm hb
  have hfar : ∀ g ∈ G, ¬ g.k.toList = key.toList → ∀ b, g.v.ownBlock = some b → v.ownBlock ≠ some b := by
    intro g hg hk b hb e
    rcases hat with hat | ⟨b', hb', hge⟩
    · exact hother g hg hk b hb (by rw [← hat, e])
    · rw [hb'] at e
      injection e with e
      obtain ⟨cs, hc⟩ := h.own_block hg hb
      have := blk_lt hc
      omega
  have hmap : ∀ (x : G80) (W : World) (b : Nat) (cells : Array Value), w1.heap[b]? = some (.cells cells 80 (0, 0)) → some b ≠ some m := by
    intro x W b cells hc e
    injection e with e
    subst e
    obtain ⟨es, cl, hm, _⟩ := h1
    rw [hm] at hc; cases hc
  refine ⟨⟨_, h2, fun k => ?_, fun g hg => ?_⟩, fun g hg => ?_, putG_apart h.apart hfar⟩
  · rw [hasG_put]
    by_cases c : key.toList = k.toList
    · rw [← klit_inj.2 c, Maps.has_put_same ⟨_, (h1.isMap).choose_spec⟩ (klit_is key), beq_iff_eq.2 c, Bool.true_or]
    · rw [Maps.has_put_other (fun e => c (klit_inj.1 e).symm), hh k, beq_eq_false_iff_ne.2 c, Bool.false_or]
  · rcases putG_mem h.apart hg with rfl | ⟨hg, hk⟩
    · exact Maps.atKey_put_same ⟨_, (h1.isMap).choose_spec⟩ (klit_is key) _ _
    · rw [Maps.atKey_put_other (fun e => hk (klit_inj.1 e))]; exact hD g hg
  · rcases putG_mem h.apart hg with rfl | ⟨hg, hk⟩
    · obtain ⟨inner, ho⟩ := Kd.R_own hv
      refine Kd.R_mono (Kd.R_grown (ok := fun k => some k = v.ownBlock) (Kd.R_flat (fun hd => k80_any hd) hv (fun k hk _ => hk.symm)) hg2 (fun k hk => ?_)) (fun _ _ => trivial)
      obtain ⟨cells, hc⟩ := own_typed ho k hk.symm
      exact hmap ⟨key, v, vs⟩ w1 k cells hc
    · have hr := h.row g hg
      have r1 : Kd.R k80 80 w1 base (fun k => some k = g.v.ownBlock) g.v g.vs := Kd.R_grown (Kd.R_flat (fun hd => k80_any hd) hr (fun k hk _ => hk.symm)) hg1 (fun k hk' => hother g hg hk k hk'.symm)
      obtain ⟨inner, ho⟩ := Kd.R_own r1
      refine Kd.R_mono (Kd.R_grown r1 hg2 (fun k hk' => ?_)) (fun _ _ => trivial)
      obtain ⟨cells, hc⟩ := own_typed ho k hk'.symm
      exact hmap g w1 k cells hc
section
variable {ops : Array Oper} {rest : List Oper} {o : Oper} {a : Act} {Q : Exit → Act → World → Prop}
theorem grp_lookup_ok {w : World} {base m n : Nat} {G : List G80} (hgd : o.guard = none) (mo xo : Operand) (ho : o.op = .lookup 96 mo xo true) (hm : a.eval mo = .map (some m)) (h : Grp w base m n G) (key : ByteArray) (hx : a.eval xo = .string key) (hk : key.size ≤ 9223372036854775807)
    (hK : wpList Try.prog ops Q rest (a.put o.dst (.tuple #[valG G key, .bool (hasG G key)])) w) : wpList Try.prog ops Q (o :: rest) a w := by
  obtain ⟨D, hD, hh, hat⟩ := h.made
  refine wpList_lookup_own_ok w hgd mo xo 96 ho 9 65 key9 Try.underlying96 HV (zero65 w) (.held nil80) [] rfl m n D hm hD _ (klit key) hx (klit_key key hk) fun v ps hv => ?_
  have e := h.at_ key hh hat
  rw [e] at hv
  have : v = valG G key := by simpa [HV] using (Prod.mk.inj (Option.some.inj hv)).1
  rw [this, hh key]
  exact hK
theorem grp_lookup {w : World} {base m n : Nat} {G : List G80} (hgd : o.guard = none) (mo xo : Operand) (ho : o.op = .lookup 96 mo xo false) (hm : a.eval mo = .map (some m)) (h : Grp w base m n G) (key : ByteArray) (hx : a.eval xo = .string key) (hk : key.size ≤ 9223372036854775807)
    (hK : wpList Try.prog ops Q rest (a.put o.dst (valG G key)) w) : wpList Try.prog ops Q (o :: rest) a w := by
  obtain ⟨D, hD, hh, hat⟩ := h.made
  obtain ⟨v, ps, hrun, hv⟩ := hD.lookup key9 Try.underlying96 (zero65 w) (zd := .held nil80) (zp := []) rfl (klit_key key hk)
  have e := h.at_ key hh hat
  rw [e] at hv
  have ev : v = valG G key := by simpa [HV] using (Prod.mk.inj (Option.some.inj hv)).1
  subst ev
  refine wpList_plain hgd fun K' hK' => ?_
  unfold Oper.wp
  simp [execOp, ho, hm, hx, hrun, Result.andThen]
  exact hK' _ _ hK
theorem grp_put {w w1 : World} {base m n : Nat} {G : List G80} (hgd : o.guard = none) (mo xo vo : Operand) (ho : o.op = .mapUpdate 96 mo xo vo) (hm : a.eval mo = .map (some m)) (h : Grp w base m n G) (key : ByteArray) (hx : a.eval xo = .string key) (hk : key.size ≤ 9223372036854775807) (v : Value) (vs : List S80) (hv : a.eval vo = v) (hn : n < 9223372036854775807) (v0 : Value) (hv0 : valG G key = v0)
    (hg1 : w.grownBy w1 v0.ownBlock) (hR : Kd.R k80 80 w1 base (fun _ => True) v vs) (hat : v.ownBlock = v0.ownBlock ∨ ∃ b, v.ownBlock = some b ∧ w.heap.size ≤ b)
    (hK : ∀ w2, Grp w2 base m (n + 1) (putG G key v vs) → w1.grownBy w2 (some m) → (∃ es c, w1.heap[m]? = some (.map es c)) → wpList Try.prog ops Q rest (a.put o.dst undef) w2) : wpList Try.prog ops Q (o :: rest) a w1 := by
  subst hv0
  obtain ⟨D, hD, hh, hatD⟩ := h.made
  have hne : some m ≠ (valG G key).ownBlock := by
    intro e
    obtain ⟨inner, hown⟩ := Kd.R_own (h.val key)
    obtain ⟨cs, hc⟩ := own_typed hown m e.symm
    obtain ⟨es, cl, hm', _⟩ := hD
    rw [hm'] at hc; cases hc
  have h1 := hD.kept hg1 hne
  exact wpList_mapUpdate_own w1 hgd mo xo vo 96 ho 9 65 key9 Try.underlying96 HV m n D hm h1 hn _ v (klit key) hx hv (klit_key key hk) (.held v) [] rfl fun w2 h2 hg2 => hK w2 (h.put key v vs hg1 hR hat h1 h2 hh hatD hg2) hg2 (by obtain ⟨es, c, hb, _⟩ := h1; exact ⟨es, c, hb⟩)
end
end Go.Proofs.Ytehcmedeeaoebaa.PB
end
section
namespace Go.Proofs.Ytehcmedeeaoebaa.PB
open Go.RowKit Go.Proofs.YtehcmedeeaoebaaW.PrintWords Go.Proofs.YtehcmedeeaoebaaW.PrintLast Go.Proofs.YtehcmedeeaoebaaW.PrintMore
open Go.Sort
set_option linter.unusedVariables false
def sortB (l : List (List UInt8)) : List (List UInt8) := l.mergeSort fun x y => decide (x ≤ y)
def sortS (xs : List ByteArray) : List ByteArray := (sortB (xs.map fun x => x.data.toList)).map fun l => ⟨l.toArray⟩
theorem sortB_length (l : List (List UInt8)) : (sortB l).length = l.length := List.length_mergeSort _
theorem sortS_length (xs : List ByteArray) : (sortS xs).length = xs.length := by unfold sortS; rw [List.length_map, sortB_length, List.length_map]
theorem encs_sortS (xs : List ByteArray) : encs Value.string (sortS xs) = (sortB (xs.map fun x => x.data.toList)).map encStr := by
  unfold sortS encs
  rw [List.map_map]
  rfl
set_option maxHeartbeats 1000000 in
theorem SortStr.calls (base : Nat) (ok : Nat → Prop) (v : Value) (xs : List ByteArray) (w : World) (hR : Kd.R Kd.string 9 w base ok v xs) (hn : xs.length < 4611686018427387904) :
    Calls Try.prog 60 #[v] w fun e w' => e = .returned (.tuple #[]) ∧ Kd.R Kd.string 9 w' base ok v (sortS xs) ∧ Below base w w' ∧ w.grownBy w' v.ownBlock := by
  have ho := Kd.own_of_R hR
  obtain ⟨hok, _⟩ := hR
  obtain ⟨hl, hor⟩ := ho
  rcases hor with ⟨rfl, h0⟩ | ⟨g, cap, cur, rfl, hb, hg, h1, h2, h3, h4⟩
  · obtain rfl : xs = [] := List.eq_nil_of_length_eq_zero h0
    refine Calls.mono (Go.Proofs.Any.slices_Sort_string_none Try.sortStr none 0 w) ?_
    rintro e w' ⟨rfl, rfl⟩
    refine ⟨rfl, ?_, Below.refl _ _, ⟨rfl, rfl, rfl, Nat.le_refl _, fun _ _ _ => rfl⟩⟩
    have : sortS [] = [] := List.eq_nil_of_length_eq_zero (sortS_length [])
    rw [this]
    exact Kd.R_nil _ _ _ _ _
  have hss : (xs.map fun x => x.data.toList).length = xs.length := List.length_map _
  have hgl := blk_lt hg
  have hH : Holds encStr w g 0 (xs.map fun x => x.data.toList).toArray := by
    intro j hj
    have hj' : j < xs.length := by simpa using hj
    refine ⟨?_, blk_frozen hg _⟩
    rw [Nat.zero_add, blk_cell hg]
    have e : cur[j]? = (cur.toList.take (xs.length * 1))[j]? := by rw [List.getElem?_take, if_pos (by omega)]; simp
    rw [e, h4, getElem!_pos _ j hj]
    simp [encs, hj']
  have hcon := Go.Proofs.Any.slices_Sort_string Try.sortStr g 0 cap (xs.map fun x => x.data.toList) w hH hgl (by rw [hss]; exact hn)
  rw [hss] at hcon
  refine Calls.mono (show Calls Try.prog 60 _ _ _ from hcon) ?_
  rintro e w' ⟨rfl, n, os, rfl⟩
  have hsl : (sortB (xs.map fun x => x.data.toList)).length = xs.length := by rw [sortB_length, hss]
  obtain ⟨ys, hys⟩ : ∃ ys, sortB (xs.map fun x => x.data.toList) = ys := ⟨_, rfl⟩
  have hys' : ((xs.map fun x => x.data.toList).mergeSort fun x y => decide (x ≤ y)) = ys := hys
  have hen : encs Value.string (sortS xs) = ys.map encStr := by rw [encs_sortS, hys]
  rw [hys']
  rw [hys] at hsl
  have hblk : (grow (putRow encStr (Go.Sort.ahead w n) g 0 ys.toArray) os).heap[g]? = some (.cells (putCells encStr 0 ys.toArray cur) 9 (0, 0)) := by
    unfold grow putRow mapBlock Go.Sort.ahead
    simp only
    rw [Array.getElem?_append_left (by simpa using hgl), Array.getElem?_modify, if_pos rfl, hg]
    rfl
  have hgrow : w.grownBy (grow (putRow encStr (Go.Sort.ahead w n) g 0 ys.toArray) os) (some g) := by
    refine ⟨rfl, rfl, rfl, by unfold grow putRow mapBlock Go.Sort.ahead; simp, fun k hk hne => ?_⟩
    unfold grow putRow mapBlock Go.Sort.ahead
    simp only
    rw [Array.getElem?_append_left (by simpa using hk), Array.getElem?_modify, if_neg (fun e => hne (by rw [e]))]
  refine ⟨rfl, Kd.R_of_own ⟨?_, Or.inr ⟨g, cap, _, by rw [sortS_length], hb, hblk, by rw [sortS_length]; exact h1, h2, by simp [putCells, h3], ?_⟩⟩ hok, ⟨hgrow.os, hgrow.tape, hgrow.output, Nat.le_trans (by omega) hgrow.size, fun k hk => hgrow.block k (by omega) (fun e => by injection e with e; omega)⟩, hgrow⟩
  · rw [hen, List.length_map, hsl, sortS_length, Nat.mul_one]
  · rw [hen, sortS_length, Nat.mul_one]
    refine List.ext_getElem (by simp [putCells, h3, hsl]; omega) fun t ht1 ht2 => ?_
    have ht : t < ys.length := by simpa using ht2
    rw [List.getElem_take, Array.getElem_toList]
    simp only [putCells, Array.getElem_mapIdx, Nat.zero_le, true_and, Nat.zero_add, Nat.sub_zero]
    rw [if_pos (by simpa using ht), getElem!_pos ys.toArray t (by simpa using ht)]
    simp
end Go.Proofs.Ytehcmedeeaoebaa.PB
end
section
namespace Go.Proofs.Ytehcmedeeaoebaa.PB
open Go.RowKit Go.Proofs.YtehcmedeeaoebaaW.PrintWords Go.Proofs.YtehcmedeeaoebaaW.PrintLast Go.Proofs.YtehcmedeeaoebaaW.PrintMore
attribute [local go_sem] max2_int min2_int max_two min_two max_three min_three max_four min_four
set_option linter.unusedVariables false
set_option linter.unusedSimpArgs false
def chain_right.f (a0_0 : Int) (a0_1 : ByteArray) (a0_2 : Bool) : Option (Bool) := if a0_0 ≥ 1 then (if a0_0 ≤ 1152921504606846976 then (if (a0_1.size : Int) ≤ 200 then (if a0_2 = true then (some (a0_1.toList == ([] : List UInt8))) else (some true)) else (some false)) else (some false)) else (some false)
set_option maxHeartbeats 8000000 in
set_option maxRecDepth 100000 in
theorem chain_right.calls (a0_0 : Int) (a0_1 : ByteArray) (a0_2 : Bool) (r : Bool) (w : World) (h : chain_right.f a0_0 a0_1 a0_2 = some r) :
    Calls Try.prog 81 #[.agg #[.int .i64 a0_0, .string a0_1, .bool a0_2]] w fun e w' => e = .returned (.bool r) ∧ Below w.heap.size w w' := by
  have hu80 := Try.underlying80
  have HB := Aside0.mk (Below.refl w.heap.size w)
  have H : (if a0_0 ≥ 1 then (if a0_0 ≤ 1152921504606846976 then (if (a0_1.size : Int) ≤ 200 then (if a0_2 = true then (some (a0_1.toList == ([] : List UInt8))) else (some true)) else (some false)) else (some false)) else (some false)) = some r := h
  clear h
  by_cases c2 : a0_0 ≥ 1
  · rw [if_pos c2] at H
    have c2b0 : decide (1 ≤ a0_0) = true := decide_eq_true c2
    clear c2
    by_cases c3 : a0_0 ≤ 1152921504606846976
    · rw [if_pos c3] at H
      have c3b0 : decide (a0_0 ≤ 1152921504606846976) = true := decide_eq_true c3
      clear c3
      by_cases c4 : (a0_1.size : Int) ≤ 200
      · rw [if_pos c4] at H
        have c4b0 : decide ((a0_1.size : Int) ≤ 200) = true := decide_eq_true c4
        have c4b1 : decide (a0_1.size ≤ 200) = true := decide_eq_true (by omega)
        clear c4
        by_cases c5 : a0_2 = true
        · subst c5
          have H1 : (some (a0_1.toList == ([] : List UInt8))) = some r := by rw [if_pos rfl] at H; exact H
          clear H
          have H := H1
          clear H1
          obtain rfl := Option.some.inj H
          go_enter Try.func81, Try.ntmps81
          go_wp2_with (first | ((with_reducible refine gate_dst (N := 1) rfl ?_); (try (refine gate_guard (by rfl) ?_; dsimp only)); refine box_event ?hg (N := 1) ?hd (cs := #[.int .i64 a0_0, .string a0_1, .bool true]) (t := 80) ?hr ?_; (case hd => rfl); (case hg => rfl); (case hr => first | (go_simp; done) | (go_simp; rfl)); intro gb167 hg w6 hbox hb; have n0_ := Aside0.mk (below_step (by repeat (first | (with_reducible first | exact HB.out | apply below_alloc | apply pw_below_drewN | apply below_drew1) | exact HB.out)) hb); have n1_ := Aside0.mk (hbox); have n2_ := Aside0.mk ((by rw [hg]; exact (below_size (by repeat (first | (with_reducible first | exact HB.out | apply below_alloc | apply pw_below_drewN | apply below_drew1) | exact HB.out))) : w.heap.size ≤ gb167)); have n3_ := Aside0.mk ((by rw [hg]; exact (below_size (by repeat (first | (with_reducible first | exact HB.out | apply below_alloc | apply pw_below_drewN | apply below_drew1) | exact HB.out))) : w.heap.size ≤ gb167)); clear HB; have HB := n0_; have BK167 := n1_; have GW167 := n2_; have GE167 := n3_; clear n0_ n1_ n2_ n3_; clear hb hbox hg; have hcz7_0 : w6.cell? ⟨gb167, 0, none⟩ = some (.int .i64 a0_0) := (blk_cell BK167.out 0).trans rfl; have hcz7_1 : w6.cell? ⟨gb167, 1, none⟩ = some (.string a0_1) := (blk_cell BK167.out 1).trans rfl; have hcz7_2 : w6.cell? ⟨gb167, 2, none⟩ = some (.bool true) := (blk_cell BK167.out 2).trans rfl; have hfz7_0 := blk_frozen BK167.out 0; have hfz7_1 := blk_frozen BK167.out 1; have hfz7_2 := blk_frozen BK167.out 2))
          go_ret
          exact ⟨by first | rfl | (simp [errW_none, errW_some] <;> rfl) | (simp [*, errW_none, errW_some] <;> rfl), by repeat (first | (with_reducible first | exact HB.out | apply below_alloc | apply pw_below_drewN | apply below_drew1 | refine below_set ?_ GE167.out) | exact HB.out)⟩
        · replace c5 := Bool.eq_false_iff.mpr c5
          subst c5
          have H1 : (some true) = some r := by rw [if_neg (show ¬ (false = true) by decide)] at H; exact H
          clear H
          have H := H1
          clear H1
          obtain rfl := Option.some.inj H
          go_enter Try.func81, Try.ntmps81
          go_wp2_with (first | ((with_reducible refine gate_dst (N := 1) rfl ?_); (try (refine gate_guard (by rfl) ?_; dsimp only)); refine box_event ?hg (N := 1) ?hd (cs := #[.int .i64 a0_0, .string a0_1, .bool false]) (t := 80) ?hr ?_; (case hd => rfl); (case hg => rfl); (case hr => first | (go_simp; done) | (go_simp; rfl)); intro gb167 hg w8 hbox hb; have n0_ := Aside0.mk (below_step (by repeat (first | (with_reducible first | exact HB.out | apply below_alloc | apply pw_below_drewN | apply below_drew1) | exact HB.out)) hb); have n1_ := Aside0.mk (hbox); have n2_ := Aside0.mk ((by rw [hg]; exact (below_size (by repeat (first | (with_reducible first | exact HB.out | apply below_alloc | apply pw_below_drewN | apply below_drew1) | exact HB.out))) : w.heap.size ≤ gb167)); have n3_ := Aside0.mk ((by rw [hg]; exact (below_size (by repeat (first | (with_reducible first | exact HB.out | apply below_alloc | apply pw_below_drewN | apply below_drew1) | exact HB.out))) : w.heap.size ≤ gb167)); clear HB; have HB := n0_; have BK167 := n1_; have GW167 := n2_; have GE167 := n3_; clear n0_ n1_ n2_ n3_; clear hb hbox hg; have hcz9_0 : w8.cell? ⟨gb167, 0, none⟩ = some (.int .i64 a0_0) := (blk_cell BK167.out 0).trans rfl; have hcz9_1 : w8.cell? ⟨gb167, 1, none⟩ = some (.string a0_1) := (blk_cell BK167.out 1).trans rfl; have hcz9_2 : w8.cell? ⟨gb167, 2, none⟩ = some (.bool false) := (blk_cell BK167.out 2).trans rfl; have hfz9_0 := blk_frozen BK167.out 0; have hfz9_1 := blk_frozen BK167.out 1; have hfz9_2 := blk_frozen BK167.out 2))
          go_ret
          exact ⟨by first | rfl | (simp [errW_none, errW_some] <;> rfl) | (simp [*, errW_none, errW_some] <;> rfl), by repeat (first | (with_reducible first | exact HB.out | apply below_alloc | apply pw_below_drewN | apply below_drew1 | refine below_set ?_ GE167.out) | exact HB.out)⟩
      · rw [if_neg c4] at H
        have c4b0 : decide ((a0_1.size : Int) ≤ 200) = false := decide_eq_false c4
        have c4b1 : decide (a0_1.size ≤ 200) = false := decide_eq_false (by omega)
        clear c4
        obtain rfl := Option.some.inj H
        go_enter Try.func81, Try.ntmps81
        go_wp2_with (first | ((with_reducible refine gate_dst (N := 1) rfl ?_); (try (refine gate_guard (by rfl) ?_; dsimp only)); refine box_event ?hg (N := 1) ?hd (cs := #[.int .i64 a0_0, .string a0_1, .bool a0_2]) (t := 80) ?hr ?_; (case hd => rfl); (case hg => rfl); (case hr => first | (go_simp; done) | (go_simp; rfl)); intro gb167 hg w10 hbox hb; have n0_ := Aside0.mk (below_step (by repeat (first | (with_reducible first | exact HB.out | apply below_alloc | apply pw_below_drewN | apply below_drew1) | exact HB.out)) hb); have n1_ := Aside0.mk (hbox); have n2_ := Aside0.mk ((by rw [hg]; exact (below_size (by repeat (first | (with_reducible first | exact HB.out | apply below_alloc | apply pw_below_drewN | apply below_drew1) | exact HB.out))) : w.heap.size ≤ gb167)); have n3_ := Aside0.mk ((by rw [hg]; exact (below_size (by repeat (first | (with_reducible first | exact HB.out | apply below_alloc | apply pw_below_drewN | apply below_drew1) | exact HB.out))) : w.heap.size ≤ gb167)); clear HB; have HB := n0_; have BK167 := n1_; have GW167 := n2_; have GE167 := n3_; clear n0_ n1_ n2_ n3_; clear hb hbox hg; have hcz11_0 : w10.cell? ⟨gb167, 0, none⟩ = some (.int .i64 a0_0) := (blk_cell BK167.out 0).trans rfl; have hcz11_1 : w10.cell? ⟨gb167, 1, none⟩ = some (.string a0_1) := (blk_cell BK167.out 1).trans rfl; have hcz11_2 : w10.cell? ⟨gb167, 2, none⟩ = some (.bool a0_2) := (blk_cell BK167.out 2).trans rfl; have hfz11_0 := blk_frozen BK167.out 0; have hfz11_1 := blk_frozen BK167.out 1; have hfz11_2 := blk_frozen BK167.out 2))
        go_ret
        exact ⟨by first | rfl | (simp [errW_none, errW_some] <;> rfl) | (simp [*, errW_none, errW_some] <;> rfl), by repeat (first | (with_reducible first | exact HB.out | apply below_alloc | apply pw_below_drewN | apply below_drew1 | refine below_set ?_ GE167.out) | exact HB.out)⟩
    · rw [if_neg c3] at H
      have c3b0 : decide (a0_0 ≤ 1152921504606846976) = false := decide_eq_false c3
      clear c3
      obtain rfl := Option.some.inj H
      go_enter Try.func81, Try.ntmps81
      go_wp2_with (first | ((with_reducible refine gate_dst (N := 1) rfl ?_); (try (refine gate_guard (by rfl) ?_; dsimp only)); refine box_event ?hg (N := 1) ?hd (cs := #[.int .i64 a0_0, .string a0_1, .bool a0_2]) (t := 80) ?hr ?_; (case hd => rfl); (case hg => rfl); (case hr => first | (go_simp; done) | (go_simp; rfl)); intro gb167 hg w12 hbox hb; have n0_ := Aside0.mk (below_step (by repeat (first | (with_reducible first | exact HB.out | apply below_alloc | apply pw_below_drewN | apply below_drew1) | exact HB.out)) hb); have n1_ := Aside0.mk (hbox); have n2_ := Aside0.mk ((by rw [hg]; exact (below_size (by repeat (first | (with_reducible first | exact HB.out | apply below_alloc | apply pw_below_drewN | apply below_drew1) | exact HB.out))) : w.heap.size ≤ gb167)); have n3_ := Aside0.mk ((by rw [hg]; exact (below_size (by repeat (first | (with_reducible first | exact HB.out | apply below_alloc | apply pw_below_drewN | apply below_drew1) | exact HB.out))) : w.heap.size ≤ gb167)); clear HB; have HB := n0_; have BK167 := n1_; have GW167 := n2_; have GE167 := n3_; clear n0_ n1_ n2_ n3_; clear hb hbox hg; have hcz13_0 : w12.cell? ⟨gb167, 0, none⟩ = some (.int .i64 a0_0) := (blk_cell BK167.out 0).trans rfl; have hcz13_1 : w12.cell? ⟨gb167, 1, none⟩ = some (.string a0_1) := (blk_cell BK167.out 1).trans rfl; have hcz13_2 : w12.cell? ⟨gb167, 2, none⟩ = some (.bool a0_2) := (blk_cell BK167.out 2).trans rfl; have hfz13_0 := blk_frozen BK167.out 0; have hfz13_1 := blk_frozen BK167.out 1; have hfz13_2 := blk_frozen BK167.out 2))
      go_ret
      exact ⟨by first | rfl | (simp [errW_none, errW_some] <;> rfl) | (simp [*, errW_none, errW_some] <;> rfl), by repeat (first | (with_reducible first | exact HB.out | apply below_alloc | apply pw_below_drewN | apply below_drew1 | refine below_set ?_ GE167.out) | exact HB.out)⟩
  · rw [if_neg c2] at H
    have c2b0 : decide (1 ≤ a0_0) = false := decide_eq_false c2
    clear c2
    obtain rfl := Option.some.inj H
    go_enter Try.func81, Try.ntmps81
    go_wp2_with (first | ((with_reducible refine gate_dst (N := 1) rfl ?_); (try (refine gate_guard (by rfl) ?_; dsimp only)); refine box_event ?hg (N := 1) ?hd (cs := #[.int .i64 a0_0, .string a0_1, .bool a0_2]) (t := 80) ?hr ?_; (case hd => rfl); (case hg => rfl); (case hr => first | (go_simp; done) | (go_simp; rfl)); intro gb167 hg w14 hbox hb; have n0_ := Aside0.mk (below_step (by repeat (first | (with_reducible first | exact HB.out | apply below_alloc | apply pw_below_drewN | apply below_drew1) | exact HB.out)) hb); have n1_ := Aside0.mk (hbox); have n2_ := Aside0.mk ((by rw [hg]; exact (below_size (by repeat (first | (with_reducible first | exact HB.out | apply below_alloc | apply pw_below_drewN | apply below_drew1) | exact HB.out))) : w.heap.size ≤ gb167)); have n3_ := Aside0.mk ((by rw [hg]; exact (below_size (by repeat (first | (with_reducible first | exact HB.out | apply below_alloc | apply pw_below_drewN | apply below_drew1) | exact HB.out))) : w.heap.size ≤ gb167)); clear HB; have HB := n0_; have BK167 := n1_; have GW167 := n2_; have GE167 := n3_; clear n0_ n1_ n2_ n3_; clear hb hbox hg; have hcz15_0 : w14.cell? ⟨gb167, 0, none⟩ = some (.int .i64 a0_0) := (blk_cell BK167.out 0).trans rfl; have hcz15_1 : w14.cell? ⟨gb167, 1, none⟩ = some (.string a0_1) := (blk_cell BK167.out 1).trans rfl; have hcz15_2 : w14.cell? ⟨gb167, 2, none⟩ = some (.bool a0_2) := (blk_cell BK167.out 2).trans rfl; have hfz15_0 := blk_frozen BK167.out 0; have hfz15_1 := blk_frozen BK167.out 1; have hfz15_2 := blk_frozen BK167.out 2))
    go_ret
    exact ⟨by first | rfl | (simp [errW_none, errW_some] <;> rfl) | (simp [*, errW_none, errW_some] <;> rfl), by repeat (first | (with_reducible first | exact HB.out | apply below_alloc | apply pw_below_drewN | apply below_drew1 | refine below_set ?_ GE167.out) | exact HB.out)⟩
end Go.Proofs.Ytehcmedeeaoebaa.PB
end
