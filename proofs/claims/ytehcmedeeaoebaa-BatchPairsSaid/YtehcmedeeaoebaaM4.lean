import Derived.Test.YtehcmedeeaoebaaM1
import Derived.Test.YtehcmedeeaoebaaM3
import Derived.BigRegion
import Derived.RegionTactic
import Derived.WalkSpells
import Derived.WalkLawsBesides
import Derived.BigQuiet
import Derived.Test.YtehcmedeeaoebaaM2
import Derived.ChangeArms
import Derived.ChangeSame
import Derived.Deep.Strs
import Derived.Deep.Slices
import Derived.Lib.SmallJoins
section
namespace Go.Proofs.Ytehcmedeeaoebaa.PB
open Go.RowKit Go.Proofs.YtehcmedeeaoebaaW.PrintWords Go.Proofs.YtehcmedeeaoebaaW.PrintLast Go.Proofs.YtehcmedeeaoebaaW.PrintMore
attribute [local go_sem] max2_int min2_int max_two min_two max_three min_three max_four min_four
set_option linter.unusedVariables false
set_option linter.unusedSimpArgs false
def chain_Check.l0 : Nat → List (S80) → List (S80) → Int → Int → Option (Int)
  | 0, _, _, _, _ => none
  | k + 1, x0, x5, x6, x7 => if x7 < x6 then (if 0 ≤ x7 then (if x7 < (x5.length : Int) then ((chain_right.f ((rd_T80 x5 x7).f0) ((rd_T80 x5 x7).f1) ((rd_T80 x5 x7).f2)).bind fun t170 => (if t170 = true then (if x7 > 0 then (if 0 ≤ (wrap64 (x7 - 1)) then (if (wrap64 (x7 - 1)) < (x0.length : Int) then (if ((rd_T80 x5 x7).f0) ≥ ((rd_T80 x0 (wrap64 (x7 - 1))).f0) then (some 4) else (chain_Check.l0 k x0 x5 x6 (wrap64 (x7 + 1)))) else (none)) else (none)) else (chain_Check.l0 k x0 x5 x6 (wrap64 (x7 + 1)))) else (some 4))) else (none)) else (none)) else (some 0)
def chain_Check.f (k : Nat) (l0 : List (S80)) : Option (Int) := chain_Check.l0 k l0 l0 (l0.length : Int) 0
def chain_Check.T4 : Bool × List (List Nat × List Nat) := (true, [([], []), ([0], [0]), ([1], [1]), ([2, 1], [2]), ([3], [3]), ([4, 3], [3, 4]), ([5, 3, 3], [3, 5]), ([6], [6]), ([7, 6], [6, 7]), ([6], [6]), ([6], [6]), ([10, 6], [6, 10]), ([9, 11, 6], [6, 9, 11]), ([12, 6], [6, 12]), ([13, 6], [6, 13]), ([8, 14, 6], [6, 8, 14]), ([6, 15, 3], [3, 6, 15]), ([3, 16], [3, 16])])
def chain_Check.B4 : List Nat := [0, 1, 3, 7, 15, 31, 63, 127, 255, 127, 127, 1151, 3711, 7807, 15999, 32767, 65535, 131071]
theorem chain_Check.tab4 : rtab .any (opsOf Try.f71 4) = chain_Check.T4 := by kernel_rfl
theorem chain_Check.bits4 : waitsOk chain_Check.T4.2 chain_Check.B4 = true := by kernel_rfl
set_option maxHeartbeats 8000000 in
set_option maxRecDepth 100000 in
theorem chain_Check.calls (k : Nat) (A0 : Option Addr) (c0 : Nat) (l0 : List (S80)) (r : Int) (w : World) (hr0 : Kd.C k80 w A0 l0.length l0) (hc0 : l0.length ≤ c0) (h : chain_Check.f k l0 = some r) :
    Calls Try.prog 71 #[.slice A0 l0.length c0] w fun e w' => e = .returned (.int .i64 r) ∧ Below w.heap.size w w' := by
  have hu80 := Try.underlying80
  have HR0 := Aside0.mk hr0
  have HC0 := Aside0.mk hc0
  clear hr0 hc0
  have HB := Aside0.mk (Below.refl w.heap.size w)
  have H : (chain_Check.l0 k l0 l0 (l0.length : Int) 0) = some r := h
  clear h
  have H' := Aside0.mk H
  clear H
  go_enter Try.func71, Try.ntmps71
  go_wp2
  go_loopg [7] k (fun kq v7 w' => ∃ (x7_1 : Int), v7 = .int .i64 x7_1 ∧ Aside0 (chain_Check.l0 kq l0 l0 (l0.length : Int) x7_1 = some r) ∧ Aside0 (kq ≤ k) ∧ Aside0 (Below w.heap.size w w'))
  case atStart => exact ⟨(0), (by first | rfl | (simp; done) | (simp [*]; done)), H', ⟨Nat.le_refl _⟩, ⟨by repeat (first | (with_reducible first | exact HB.out | apply below_alloc | apply pw_below_drewN | apply below_drew1) | exact HB.out)⟩⟩
  case round =>
    clear H'
    obtain ⟨x7_1, rfl, HA, HK1, HB⟩ := hrel
    cases gk with
    | zero => exact absurd HA.out (by simp [chain_Check.l0])
    | succ k1 =>
      have H := HA.out
      clear HA
      simp only [chain_Check.l0] at H
      by_cases c2 : x7_1 < (l0.length : Int)
      · rw [if_pos c2] at H
        have c2b0 : decide (x7_1 < (l0.length : Int)) = true := decide_eq_true c2
        clear c2
        by_cases c3 : 0 ≤ x7_1
        · rw [if_pos c3] at H
          have c3b0 : decide (0 ≤ x7_1) = true := decide_eq_true c3
          clear c3
          by_cases c4 : x7_1 < (l0.length : Int)
          · rw [if_pos c4] at H
            have c4b0 : decide (x7_1 < (l0.length : Int)) = true := decide_eq_true c4
            clear c4
            replace H := Option.bind_eq_some_iff.mp H
            obtain ⟨t170, A50, H⟩ := H
            replace H : (if t170 = true then (if x7_1 > 0 then (if 0 ≤ (wrap64 (x7_1 - 1)) then (if (wrap64 (x7_1 - 1)) < (l0.length : Int) then (if ((rd_T80 l0 x7_1).f0) ≥ ((rd_T80 l0 (wrap64 (x7_1 - 1))).f0) then (some 4) else (chain_Check.l0 k1 l0 l0 (l0.length : Int) (wrap64 (x7_1 + 1)))) else (none)) else (none)) else (chain_Check.l0 k1 l0 l0 (l0.length : Int) (wrap64 (x7_1 + 1)))) else (some 4)) = some r := H
            have A5 := Aside0.mk A50
            clear A50
            by_cases c6 : t170 = true
            · subst c6
              have H1 : (if x7_1 > 0 then (if 0 ≤ (wrap64 (x7_1 - 1)) then (if (wrap64 (x7_1 - 1)) < (l0.length : Int) then (if ((rd_T80 l0 x7_1).f0) ≥ ((rd_T80 l0 (wrap64 (x7_1 - 1))).f0) then (some 4) else (chain_Check.l0 k1 l0 l0 (l0.length : Int) (wrap64 (x7_1 + 1)))) else (none)) else (none)) else (chain_Check.l0 k1 l0 l0 (l0.length : Int) (wrap64 (x7_1 + 1)))) = some r := by rw [if_pos rfl] at H; exact H
              clear H
              have H := H1
              clear H1
              by_cases c7 : x7_1 > 0
              · rw [if_pos c7] at H
                have c7b0 : decide (0 < x7_1) = true := decide_eq_true c7
                clear c7
                obtain ⟨ji8, hji8⟩ : ∃ j_ : Int, (wrap64 (x7_1 - 1)) = j_ := ⟨_, rfl⟩
                replace H : (if 0 ≤ (ji8) then (if (ji8) < (l0.length : Int) then (if ((rd_T80 l0 x7_1).f0) ≥ ((rd_T80 l0 (ji8)).f0) then (some 4) else (chain_Check.l0 k1 l0 l0 (l0.length : Int) (wrap64 (x7_1 + 1)))) else (none)) else (none)) = some r := by first | (rw [hji8] at H; exact H) | (simp only [hji8] at H ⊢; exact H)
                (try rw [hji8] at A5)
                have hji8w : (IntKind.i64.wrap (x7_1 - 1)) = ji8 := (i64_w _).trans hji8
                by_cases c9 : 0 ≤ (ji8)
                · rw [if_pos c9] at H
                  have c9b0 : decide (0 ≤ (ji8)) = true := decide_eq_true c9
                  clear c9
                  by_cases c10 : (ji8) < (l0.length : Int)
                  · rw [if_pos c10] at H
                    have c10b0 : decide ((ji8) < (l0.length : Int)) = true := decide_eq_true c10
                    clear c10
                    by_cases c11 : ((rd_T80 l0 x7_1).f0) ≥ ((rd_T80 l0 (ji8)).f0)
                    · rw [if_pos c11] at H
                      have c11b0 : decide (((rd_T80 l0 (ji8)).f0) ≤ ((rd_T80 l0 x7_1).f0)) = true := decide_eq_true c11
                      clear c11
                      obtain rfl := Option.some.inj H
                      have p168 : 0 ≤ (x7_1 : Int) := of_decide_eq_true (by first | (with_reducible assumption) | assumption)
                      have q168 : x7_1 < (l0.length : Int) := of_decide_eq_true (by first | (with_reducible assumption) | assumption)
                      obtain ⟨ad168, e168, hx168_0, hx168_1, hx168_2⟩ := at_T80 HR0.out x7_1 p168 q168
                      cases e168
                      replace hx168_0 := (HB.out.cell (World.block_lt_of_cell? w _ hx168_0)).trans hx168_0
                      replace hx168_1 := (HB.out.cell (World.block_lt_of_cell? w _ hx168_1)).trans hx168_1
                      replace hx168_2 := (HB.out.cell (World.block_lt_of_cell? w _ hx168_2)).trans hx168_2
                      replace p168 := eq_true p168
                      replace q168 := eq_true q168
                      try go_wp2_with (first | ((with_reducible refine gate_dst (N := 4) rfl ?_); refine box_event ?hg (N := 4) ?hd (cs := #[.int .i64 0, .string (⟨#[]⟩ : ByteArray), .bool false]) (t := 80) ?hr ?_; (case hd => rfl); (case hg => rfl); (case hr => first | (go_simp; done) | (go_simp; rfl)); intro gb169 hg w12 hbox hb; have n0_ := Aside0.mk (below_step (by repeat (first | (with_reducible first | exact HB.out | apply below_alloc | apply pw_below_drewN | apply below_drew1) | exact HB.out)) hb); have n1_ := Aside0.mk (hbox); have n2_ := Aside0.mk ((by rw [hg]; exact (below_size (by repeat (first | (with_reducible first | exact HB.out | apply below_alloc | apply pw_below_drewN | apply below_drew1) | exact HB.out))) : w.heap.size ≤ gb169)); have n3_ := Aside0.mk ((by rw [hg]; exact (below_size (by repeat (first | (with_reducible first | exact HB.out | apply below_alloc | apply pw_below_drewN | apply below_drew1) | exact HB.out))) : w.heap.size ≤ gb169)); clear HB; have HB := n0_; have BK169 := n1_; have GW169 := n2_; have GE169 := n3_; clear n0_ n1_ n2_ n3_; clear hb hbox hg; have hcz13_0 : w12.cell? ⟨gb169, 0, none⟩ = some (.int .i64 0) := (blk_cell BK169.out 0).trans rfl; have hcz13_1 : w12.cell? ⟨gb169, 1, none⟩ = some (.string (⟨#[]⟩ : ByteArray)) := (blk_cell BK169.out 1).trans rfl; have hcz13_2 : w12.cell? ⟨gb169, 2, none⟩ = some (.bool false) := (blk_cell BK169.out 2).trans rfl; have hfz13_0 := blk_frozen BK169.out 0; have hfz13_1 := blk_frozen BK169.out 1; have hfz13_2 := blk_frozen BK169.out 2))
                      have n0_ : Aside0 ((((w12.setCell ⟨gb169, 0, none⟩ (.int .i64 ((rd_T80 l0 x7_1).f0))).setCell ⟨gb169, 1, none⟩ (.string ((rd_T80 l0 x7_1).f1))).setCell ⟨gb169, 2, none⟩ (.bool ((rd_T80 l0 x7_1).f2))).heap[gb169]? = some (.cells #[.int .i64 ((rd_T80 l0 x7_1).f0), .string ((rd_T80 l0 x7_1).f1), .bool ((rd_T80 l0 x7_1).f2)] 80 (0, 0))) := ⟨by (with_reducible repeat (first | refine blk_drewN ?_ _ | refine blk_drew ?_ | refine blk_alloc ?_ _)); refine blk_put (cs := #[.int .i64 ((rd_T80 l0 x7_1).f0), .string ((rd_T80 l0 x7_1).f1), .bool false]) ?_ 2 _ rfl; (with_reducible repeat (first | refine blk_drewN ?_ _ | refine blk_drew ?_ | refine blk_alloc ?_ _)); refine blk_put (cs := #[.int .i64 ((rd_T80 l0 x7_1).f0), .string (⟨#[]⟩ : ByteArray), .bool false]) ?_ 1 _ rfl; (with_reducible repeat (first | refine blk_drewN ?_ _ | refine blk_drew ?_ | refine blk_alloc ?_ _)); refine blk_put (cs := #[.int .i64 0, .string (⟨#[]⟩ : ByteArray), .bool false]) ?_ 0 _ rfl; (with_reducible repeat (first | refine blk_drewN ?_ _ | refine blk_drew ?_ | refine blk_alloc ?_ _)); exact BK169.out⟩
                      have n1_ : Aside0 (Below w.heap.size w (((w12.setCell ⟨gb169, 0, none⟩ (.int .i64 ((rd_T80 l0 x7_1).f0))).setCell ⟨gb169, 1, none⟩ (.string ((rd_T80 l0 x7_1).f1))).setCell ⟨gb169, 2, none⟩ (.bool ((rd_T80 l0 x7_1).f2)))) := ⟨by repeat (first | (with_reducible first | exact HB.out | apply below_alloc | apply pw_below_drewN | apply below_drew1 | refine below_set ?_ GE169.out) | exact HB.out)⟩
                      (try clear BK169)
                      (try clear HB)
                      generalize (((w12.setCell ⟨gb169, 0, none⟩ (.int .i64 ((rd_T80 l0 x7_1).f0))).setCell ⟨gb169, 1, none⟩ (.string ((rd_T80 l0 x7_1).f1))).setCell ⟨gb169, 2, none⟩ (.bool ((rd_T80 l0 x7_1).f2))) = w14 at n0_ n1_ ⊢
                      have BK169 := n0_
                      have HB := n1_
                      clear n0_ n1_
                      have n0_ := Aside0.mk (blk_drew BK169.out)
                      have n1_ := Aside0.mk (below_drew1 HB.out)
                      clear BK169
                      clear HB
                      have BK169 := n0_
                      have HB := n1_
                      clear n0_ n1_
                      have p171 : 0 ≤ ((ji8) : Int) := of_decide_eq_true (by first | (with_reducible assumption) | assumption)
                      have q171 : (ji8) < (l0.length : Int) := of_decide_eq_true (by first | (with_reducible assumption) | assumption)
                      obtain ⟨ad171, e171, hx171_0, hx171_1, hx171_2⟩ := at_T80 HR0.out (ji8) p171 q171
                      have hw171_2 := hx171_2
                      have hw171_1 := hx171_1
                      have hw171_0 := hx171_0
                      obtain rfl : ad168 = ad171 := (by injection e171)
                      replace hx171_0 := (HB.out.cell (World.block_lt_of_cell? w _ hx171_0)).trans hx171_0
                      replace hx171_1 := (HB.out.cell (World.block_lt_of_cell? w _ hx171_1)).trans hx171_1
                      replace hx171_2 := (HB.out.cell (World.block_lt_of_cell? w _ hx171_2)).trans hx171_2
                      replace p171 := eq_true p171
                      replace q171 := eq_true q171
                      refine start_ (n := 18) (S := fun w' => w'.cell? ⟨gb169, 0, none⟩ = some (.int .i64 ((rd_T80 l0 x7_1).f0)) ∧ w'.cell? ⟨gb169, 1, none⟩ = some (.string ((rd_T80 l0 x7_1).f1)) ∧ w'.cell? ⟨gb169, 2, none⟩ = some (.bool ((rd_T80 l0 x7_1).f2)) ∧ w'.cell? (ad168.add (((ji8)).toNat * 3)) = some (.int .i64 ((rd_T80 l0 (ji8)).f0)) ∧ w'.cell? ⟨(ad168.add (((ji8)).toNat * 3)).block, (ad168.add (((ji8)).toNat * 3)).off + 1, none⟩ = some (.string ((rd_T80 l0 (ji8)).f1)) ∧ w'.cell? ⟨(ad168.add (((ji8)).toNat * 3)).block, (ad168.add (((ji8)).toNat * 3)).off + 2, none⟩ = some (.bool ((rd_T80 l0 (ji8)).f2))) (ds := []) #[false, false, false, false, false, false, false, false, false, false, false, false, false, false, false, false, false, false] (by kernel_rfl) rfl rfl ⟨(blk_cell BK169.out 0).trans rfl, (blk_cell BK169.out 1).trans rfl, (blk_cell BK169.out 2).trans rfl, ((HB.out.cell (World.block_lt_of_cell? w _ hw171_0)).trans hw171_0), ((HB.out.cell (World.block_lt_of_cell? w _ hw171_1)).trans hw171_1), ((HB.out.cell (World.block_lt_of_cell? w _ hw171_2)).trans hw171_2)⟩ (fun hHeld => ?_); refine with_tabW chain_Check.tab4 chain_Check.bits4 (fun HT_ HW_ => ?_)
                      generalize w14.drew = w15 at BK169 HB hx171_0 hx171_1 hx171_2 hHeld ⊢
                      refine take_ (i := 0) (N := some 12) (v := ?_) (a' := ?_) #[true, false, false, false, false, false, false, false, false, false, false, false, false, false, false, false, false, false] rfl rfl (take_ofW HT_.out HW_.out (by kernel_rfl)) (fun _ _ _ h => h) (Or.inl ⟨by rfl, ?_⟩) hHeld ?_ ?_
                      rotate_left
                      · rintro w' ⟨s0, s1, s2, s3, s4, s5⟩
                        go_simp
                        with_reducible rfl
                      rotate_left
                      · simp only [Act.put, List.setIfInBounds_toArray, List.set_cons_zero, List.set_cons_succ, i64_w, i32_w]
                        rfl
                      refine one_ (i := 1) (N := some 13) #[true, true, false, false, false, false, false, false, false, false, false, false, false, false, false, false, false, false] rfl rfl (one_of HT_.out (by kernel_rfl)) (by decide) (fun K hK => ?_)
                      refine goes_ Try.func81 (by kernel_rfl) rfl #[.agg #[.int .i64 ((rd_T80 l0 x7_1).f0), .string ((rd_T80 l0 x7_1).f1), .bool ((rd_T80 l0 x7_1).f2)]] (by rfl) rfl rfl (by (try simp only [List.map_toArray, List.map_cons, List.map_nil]); first | done | rfl | (simp only [List.length_drop, List.length_take]; rfl)) ?_
                      with_reducible refine (chain_right.calls ((rd_T80 l0 x7_1).f0) ((rd_T80 l0 x7_1).f1) ((rd_T80 l0 x7_1).f2) true _ A5.out).mono ?_
                      rintro e w16 ⟨rfl, hb⟩
                      refine ⟨_, rfl, ?_⟩
                      have n0_ := Aside0.mk (blk_below (g := gb169) (o := .cells #[.int .i64 ((rd_T80 l0 x7_1).f0), .string ((rd_T80 l0 x7_1).f1), .bool ((rd_T80 l0 x7_1).f2)] 80 (0, 0)) (by (with_reducible repeat (first | refine blk_drewN ?_ _ | refine blk_drew ?_ | refine blk_alloc ?_ _)); exact BK169.out) hb)
                      have n1_ := Aside0.mk (below_step (by repeat (first | (with_reducible first | exact HB.out | apply below_alloc | apply pw_below_drewN | apply below_drew1 | refine below_set ?_ GE169.out) | exact HB.out)) hb)
                      clear BK169
                      clear HB
                      have BK169 := n0_
                      have HB := n1_
                      clear n0_ n1_
                      (try clear hb)
                      (try clear hb2)
                      (try clear hk)
                      (try clear hi)
                      refine hK.out _ _ ⟨(blk_cell BK169.out 0).trans rfl, (blk_cell BK169.out 1).trans rfl, (blk_cell BK169.out 2).trans rfl, ((HB.out.cell (World.block_lt_of_cell? w _ hw171_0)).trans hw171_0), ((HB.out.cell (World.block_lt_of_cell? w _ hw171_1)).trans hw171_1), ((HB.out.cell (World.block_lt_of_cell? w _ hw171_2)).trans hw171_2)⟩ (fun hHeld => ?_)
                      clear hK K
                      refine norm_ (a' := ?_) ?_ ?_
                      rotate_left
                      · show Act.put _ (some 13) _ = _
                        simp only [Act.put, List.setIfInBounds_toArray, List.set_cons_zero, List.set_cons_succ, i64_w, i32_w]
                        rfl
                      refine pure_ (i := 2) (N := some 14) (v := ?_) (a' := ?_) #[true, true, true, false, false, false, false, false, false, false, false, false, false, false, false, false, false, false] rfl rfl (any_of HT_.out (by kernel_rfl)) (fun _ _ _ h => h) (Or.inl ⟨by rfl, ?_⟩) ?_ ?_
                      rotate_left
                      · intro w'
                        go_simp
                        with_reducible rfl
                      rotate_left
                      · simp only [Act.put, List.setIfInBounds_toArray, List.set_cons_zero, List.set_cons_succ, i64_w, i32_w]
                        rfl
                      refine pure_ (i := 3) (N := some 15) (v := ?_) (a' := ?_) #[true, true, true, true, false, false, false, false, false, false, false, false, false, false, false, false, false, false] rfl rfl (any_of HT_.out (by kernel_rfl)) (fun _ _ _ h => h) (Or.inl ⟨by rfl, ?_⟩) ?_ ?_
                      rotate_left
                      · intro w'
                        go_simp
                        with_reducible rfl
                      rotate_left
                      · simp only [Act.put, List.setIfInBounds_toArray, List.set_cons_zero, List.set_cons_succ, i64_w, i32_w]
                        rfl
                      refine pure_ (i := 4) (N := some 16) (v := ?_) (a' := ?_) #[true, true, true, true, true, false, false, false, false, false, false, false, false, false, false, false, false, false] rfl rfl (any_of HT_.out (by kernel_rfl)) (fun _ _ _ h => h) (Or.inl ⟨by rfl, ?_⟩) ?_ ?_
                      rotate_left
                      · intro w'
                        go_simp
                        with_reducible rfl
                      rotate_left
                      · simp only [Act.put, List.setIfInBounds_toArray, List.set_cons_zero, List.set_cons_succ, i64_w, i32_w]
                        rfl
                      refine pure_ (i := 5) (N := some 17) (v := ?_) (a' := ?_) #[true, true, true, true, true, true, false, false, false, false, false, false, false, false, false, false, false, false] rfl rfl (any_of HT_.out (by kernel_rfl)) (fun _ _ _ h => h) (Or.inl ⟨by rfl, ?_⟩) ?_ ?_
                      rotate_left
                      · intro w'
                        go_simp
                        with_reducible rfl
                      rotate_left
                      · simp only [Act.put, List.setIfInBounds_toArray, List.set_cons_zero, List.set_cons_succ, i64_w, i32_w]
                        rfl
                      refine pure_ (i := 6) (N := some 18) (v := ?_) (a' := ?_) #[true, true, true, true, true, true, true, false, false, false, false, false, false, false, false, false, false, false] rfl rfl (any_of HT_.out (by kernel_rfl)) (fun _ _ _ h => h) (Or.inl ⟨by rfl, ?_⟩) ?_ ?_
                      rotate_left
                      · intro w'
                        go_simp
                        with_reducible rfl
                      rotate_left
                      · simp only [Act.put, List.setIfInBounds_toArray, List.set_cons_zero, List.set_cons_succ, i64_w, i32_w]
                        rfl
                      refine pure_ (i := 7) (N := some 19) (v := ?_) (a' := ?_) #[true, true, true, true, true, true, true, true, false, false, false, false, false, false, false, false, false, false] rfl rfl (any_of HT_.out (by kernel_rfl)) (fun _ _ _ h => h) (Or.inl ⟨by rfl, ?_⟩) ?_ ?_
                      rotate_left
                      · intro w'
                        go_simp
                        with_reducible rfl
                      rotate_left
                      · simp only [Act.put, List.setIfInBounds_toArray, List.set_cons_zero, List.set_cons_succ, i64_w, i32_w]
                        rfl
                      refine pure_ (i := 9) (N := some 21) (v := ?_) (a' := ?_) #[true, true, true, true, true, true, true, true, false, true, false, false, false, false, false, false, false, false] rfl rfl (any_of HT_.out (by kernel_rfl)) (fun _ _ _ h => h) (Or.inl ⟨by rfl, ?_⟩) ?_ ?_
                      rotate_left
                      · intro w'
                        go_simp
                        with_reducible rfl
                      rotate_left
                      · simp only [Act.put, List.setIfInBounds_toArray, List.set_cons_zero, List.set_cons_succ, i64_w, i32_w]
                        rfl
                      refine pure_ (i := 10) (N := some 22) (v := ?_) (a' := ?_) #[true, true, true, true, true, true, true, true, false, true, true, false, false, false, false, false, false, false] rfl rfl (any_of HT_.out (by kernel_rfl)) (fun _ _ _ h => h) (Or.inl ⟨by rfl, ?_⟩) ?_ ?_
                      rotate_left
                      · intro w'
                        go_simp
                        with_reducible rfl
                      rotate_left
                      · simp only [Act.put, List.setIfInBounds_toArray, List.set_cons_zero, List.set_cons_succ, i64_w, i32_w]
                        rfl
                      refine pure_ (i := 11) (N := some 23) (v := ?_) (a' := ?_) #[true, true, true, true, true, true, true, true, false, true, true, true, false, false, false, false, false, false] rfl rfl (any_of HT_.out (by kernel_rfl)) (fun _ _ _ h => h) (Or.inl ⟨by rfl, ?_⟩) ?_ ?_
                      rotate_left
                      · intro w'
                        go_simp
                        with_reducible rfl
                      rotate_left
                      · simp only [Act.put, List.setIfInBounds_toArray, List.set_cons_zero, List.set_cons_succ, i64_w, i32_w]
                        rfl
                      refine pure_ (i := 12) (N := some 24) (v := ?_) (a' := ?_) #[true, true, true, true, true, true, true, true, false, true, true, true, true, false, false, false, false, false] rfl rfl (any_of HT_.out (by kernel_rfl)) (fun _ _ _ h => h) (Or.inl ⟨by rfl, ?_⟩) ?_ ?_
                      rotate_left
                      · intro w'
                        go_simp
                        with_reducible rfl
                      rotate_left
                      · simp only [Act.put, List.setIfInBounds_toArray, List.set_cons_zero, List.set_cons_succ, i64_w, i32_w]
                        rfl
                      refine pure_ (i := 13) (N := some 25) (v := ?_) (a' := ?_) #[true, true, true, true, true, true, true, true, false, true, true, true, true, true, false, false, false, false] rfl rfl (any_of HT_.out (by kernel_rfl)) (fun _ _ _ h => h) (Or.inl ⟨by rfl, ?_⟩) ?_ ?_
                      rotate_left
                      · intro w'
                        go_simp
                        with_reducible rfl
                      rotate_left
                      · simp only [Act.put, List.setIfInBounds_toArray, List.set_cons_zero, List.set_cons_succ, i64_w, i32_w]
                        rfl
                      refine take_ (i := 8) (N := some 20) (v := ?_) (a' := ?_) #[true, true, true, true, true, true, true, true, true, true, true, true, true, true, false, false, false, false] rfl rfl (take_ofW HT_.out HW_.out (by kernel_rfl)) (fun _ _ _ h => h) (Or.inl ⟨by rfl, ?_⟩) hHeld ?_ ?_
                      rotate_left
                      · rintro w' ⟨s0, s1, s2, s3, s4, s5⟩
                        go_simp
                        with_reducible rfl
                      rotate_left
                      · simp only [Act.put, List.setIfInBounds_toArray, List.set_cons_zero, List.set_cons_succ, i64_w, i32_w]
                        rfl
                      refine take_ (i := 14) (N := some 26) (v := ?_) (a' := ?_) #[true, true, true, true, true, true, true, true, true, true, true, true, true, true, true, false, false, false] rfl rfl (take_ofW HT_.out HW_.out (by kernel_rfl)) (fun _ _ _ h => h) (Or.inl ⟨by rfl, ?_⟩) hHeld ?_ ?_
                      rotate_left
                      · rintro w' ⟨s0, s1, s2, s3, s4, s5⟩
                        go_simp
                        with_reducible rfl
                      rotate_left
                      · simp only [Act.put, List.setIfInBounds_toArray, List.set_cons_zero, List.set_cons_succ, i64_w, i32_w]
                        rfl
                      refine pure_ (i := 15) (N := some 27) (v := ?_) (a' := ?_) #[true, true, true, true, true, true, true, true, true, true, true, true, true, true, true, true, false, false] rfl rfl (any_of HT_.out (by kernel_rfl)) (fun _ _ _ h => h) (Or.inl ⟨by rfl, ?_⟩) ?_ ?_
                      rotate_left
                      · intro w'
                        go_simp
                        with_reducible rfl
                      rotate_left
                      · simp only [Act.put, List.setIfInBounds_toArray, List.set_cons_zero, List.set_cons_succ, i64_w, i32_w]
                        rfl
                      refine pure_ (i := 16) (N := some 28) (v := ?_) (a' := ?_) #[true, true, true, true, true, true, true, true, true, true, true, true, true, true, true, true, true, false] rfl rfl (any_of HT_.out (by kernel_rfl)) (fun _ _ _ h => h) (Or.inl ⟨by rfl, ?_⟩) ?_ ?_
                      rotate_left
                      · intro w'
                        go_simp
                        with_reducible rfl
                      rotate_left
                      · simp only [Act.put, List.setIfInBounds_toArray, List.set_cons_zero, List.set_cons_succ, i64_w, i32_w]
                        rfl
                      refine pure_ (i := 17) (N := some 29) (v := ?_) (a' := ?_) #[true, true, true, true, true, true, true, true, true, true, true, true, true, true, true, true, true, true] rfl rfl (any_of HT_.out (by kernel_rfl)) (fun _ _ _ h => h) (Or.inl ⟨by rfl, ?_⟩) ?_ ?_
                      rotate_left
                      · intro w'
                        go_simp
                        with_reducible rfl
                      rotate_left
                      · simp only [Act.put, List.setIfInBounds_toArray, List.set_cons_zero, List.set_cons_succ, i64_w, i32_w]
                        rfl
                      refine done_ (done_of HT_.out (by kernel_rfl)) ?_
                      try go_wp2
                      go_ret
                      exact ⟨by first | rfl | (simp [errW_none, errW_some] <;> rfl) | (simp only [← hji8]; first | rfl | (simp [errW_none, errW_some] <;> rfl)) | (simp [*, errW_none, errW_some] <;> rfl), by repeat (first | (with_reducible first | exact HB.out | apply below_alloc | apply pw_below_drewN | apply below_drew1 | refine below_set ?_ GE169.out) | exact HB.out)⟩
                    · rw [if_neg c11] at H
                      have c11b0 : decide (((rd_T80 l0 (ji8)).f0) ≤ ((rd_T80 l0 x7_1).f0)) = false := decide_eq_false c11
                      clear c11
                      have H' := Aside0.mk H
                      clear H
                      have p168 : 0 ≤ (x7_1 : Int) := of_decide_eq_true (by first | (with_reducible assumption) | assumption)
                      have q168 : x7_1 < (l0.length : Int) := of_decide_eq_true (by first | (with_reducible assumption) | assumption)
                      obtain ⟨ad168, e168, hx168_0, hx168_1, hx168_2⟩ := at_T80 HR0.out x7_1 p168 q168
                      cases e168
                      replace hx168_0 := (HB.out.cell (World.block_lt_of_cell? w _ hx168_0)).trans hx168_0
                      replace hx168_1 := (HB.out.cell (World.block_lt_of_cell? w _ hx168_1)).trans hx168_1
                      replace hx168_2 := (HB.out.cell (World.block_lt_of_cell? w _ hx168_2)).trans hx168_2
                      replace p168 := eq_true p168
                      replace q168 := eq_true q168
                      try go_wp2_with (first | ((with_reducible refine gate_dst (N := 4) rfl ?_); refine box_event ?hg (N := 4) ?hd (cs := #[.int .i64 0, .string (⟨#[]⟩ : ByteArray), .bool false]) (t := 80) ?hr ?_; (case hd => rfl); (case hg => rfl); (case hr => first | (go_simp; done) | (go_simp; rfl)); intro gb169 hg w17 hbox hb; have n0_ := Aside0.mk (below_step (by repeat (first | (with_reducible first | exact HB.out | apply below_alloc | apply pw_below_drewN | apply below_drew1) | exact HB.out)) hb); have n1_ := Aside0.mk (hbox); have n2_ := Aside0.mk ((by rw [hg]; exact (below_size (by repeat (first | (with_reducible first | exact HB.out | apply below_alloc | apply pw_below_drewN | apply below_drew1) | exact HB.out))) : w.heap.size ≤ gb169)); have n3_ := Aside0.mk ((by rw [hg]; exact (below_size (by repeat (first | (with_reducible first | exact HB.out | apply below_alloc | apply pw_below_drewN | apply below_drew1) | exact HB.out))) : w.heap.size ≤ gb169)); clear HB; have HB := n0_; have BK169 := n1_; have GW169 := n2_; have GE169 := n3_; clear n0_ n1_ n2_ n3_; clear hb hbox hg; have hcz18_0 : w17.cell? ⟨gb169, 0, none⟩ = some (.int .i64 0) := (blk_cell BK169.out 0).trans rfl; have hcz18_1 : w17.cell? ⟨gb169, 1, none⟩ = some (.string (⟨#[]⟩ : ByteArray)) := (blk_cell BK169.out 1).trans rfl; have hcz18_2 : w17.cell? ⟨gb169, 2, none⟩ = some (.bool false) := (blk_cell BK169.out 2).trans rfl; have hfz18_0 := blk_frozen BK169.out 0; have hfz18_1 := blk_frozen BK169.out 1; have hfz18_2 := blk_frozen BK169.out 2))
                      have n0_ : Aside0 ((((w17.setCell ⟨gb169, 0, none⟩ (.int .i64 ((rd_T80 l0 x7_1).f0))).setCell ⟨gb169, 1, none⟩ (.string ((rd_T80 l0 x7_1).f1))).setCell ⟨gb169, 2, none⟩ (.bool ((rd_T80 l0 x7_1).f2))).heap[gb169]? = some (.cells #[.int .i64 ((rd_T80 l0 x7_1).f0), .string ((rd_T80 l0 x7_1).f1), .bool ((rd_T80 l0 x7_1).f2)] 80 (0, 0))) := ⟨by (with_reducible repeat (first | refine blk_drewN ?_ _ | refine blk_drew ?_ | refine blk_alloc ?_ _)); refine blk_put (cs := #[.int .i64 ((rd_T80 l0 x7_1).f0), .string ((rd_T80 l0 x7_1).f1), .bool false]) ?_ 2 _ rfl; (with_reducible repeat (first | refine blk_drewN ?_ _ | refine blk_drew ?_ | refine blk_alloc ?_ _)); refine blk_put (cs := #[.int .i64 ((rd_T80 l0 x7_1).f0), .string (⟨#[]⟩ : ByteArray), .bool false]) ?_ 1 _ rfl; (with_reducible repeat (first | refine blk_drewN ?_ _ | refine blk_drew ?_ | refine blk_alloc ?_ _)); refine blk_put (cs := #[.int .i64 0, .string (⟨#[]⟩ : ByteArray), .bool false]) ?_ 0 _ rfl; (with_reducible repeat (first | refine blk_drewN ?_ _ | refine blk_drew ?_ | refine blk_alloc ?_ _)); exact BK169.out⟩
                      have n1_ : Aside0 (Below w.heap.size w (((w17.setCell ⟨gb169, 0, none⟩ (.int .i64 ((rd_T80 l0 x7_1).f0))).setCell ⟨gb169, 1, none⟩ (.string ((rd_T80 l0 x7_1).f1))).setCell ⟨gb169, 2, none⟩ (.bool ((rd_T80 l0 x7_1).f2)))) := ⟨by repeat (first | (with_reducible first | exact HB.out | apply below_alloc | apply pw_below_drewN | apply below_drew1 | refine below_set ?_ GE169.out) | exact HB.out)⟩
                      (try clear BK169)
                      (try clear HB)
                      generalize (((w17.setCell ⟨gb169, 0, none⟩ (.int .i64 ((rd_T80 l0 x7_1).f0))).setCell ⟨gb169, 1, none⟩ (.string ((rd_T80 l0 x7_1).f1))).setCell ⟨gb169, 2, none⟩ (.bool ((rd_T80 l0 x7_1).f2))) = w19 at n0_ n1_ ⊢
                      have BK169 := n0_
                      have HB := n1_
                      clear n0_ n1_
                      have n0_ := Aside0.mk (blk_drew BK169.out)
                      have n1_ := Aside0.mk (below_drew1 HB.out)
                      clear BK169
                      clear HB
                      have BK169 := n0_
                      have HB := n1_
                      clear n0_ n1_
                      have p171 : 0 ≤ ((ji8) : Int) := of_decide_eq_true (by first | (with_reducible assumption) | assumption)
                      have q171 : (ji8) < (l0.length : Int) := of_decide_eq_true (by first | (with_reducible assumption) | assumption)
                      obtain ⟨ad171, e171, hx171_0, hx171_1, hx171_2⟩ := at_T80 HR0.out (ji8) p171 q171
                      have hw171_2 := hx171_2
                      have hw171_1 := hx171_1
                      have hw171_0 := hx171_0
                      obtain rfl : ad168 = ad171 := (by injection e171)
                      replace hx171_0 := (HB.out.cell (World.block_lt_of_cell? w _ hx171_0)).trans hx171_0
                      replace hx171_1 := (HB.out.cell (World.block_lt_of_cell? w _ hx171_1)).trans hx171_1
                      replace hx171_2 := (HB.out.cell (World.block_lt_of_cell? w _ hx171_2)).trans hx171_2
                      replace p171 := eq_true p171
                      replace q171 := eq_true q171
                      refine start_ (n := 18) (S := fun w' => w'.cell? ⟨gb169, 0, none⟩ = some (.int .i64 ((rd_T80 l0 x7_1).f0)) ∧ w'.cell? ⟨gb169, 1, none⟩ = some (.string ((rd_T80 l0 x7_1).f1)) ∧ w'.cell? ⟨gb169, 2, none⟩ = some (.bool ((rd_T80 l0 x7_1).f2)) ∧ w'.cell? (ad168.add (((ji8)).toNat * 3)) = some (.int .i64 ((rd_T80 l0 (ji8)).f0)) ∧ w'.cell? ⟨(ad168.add (((ji8)).toNat * 3)).block, (ad168.add (((ji8)).toNat * 3)).off + 1, none⟩ = some (.string ((rd_T80 l0 (ji8)).f1)) ∧ w'.cell? ⟨(ad168.add (((ji8)).toNat * 3)).block, (ad168.add (((ji8)).toNat * 3)).off + 2, none⟩ = some (.bool ((rd_T80 l0 (ji8)).f2))) (ds := []) #[false, false, false, false, false, false, false, false, false, false, false, false, false, false, false, false, false, false] (by kernel_rfl) rfl rfl ⟨(blk_cell BK169.out 0).trans rfl, (blk_cell BK169.out 1).trans rfl, (blk_cell BK169.out 2).trans rfl, ((HB.out.cell (World.block_lt_of_cell? w _ hw171_0)).trans hw171_0), ((HB.out.cell (World.block_lt_of_cell? w _ hw171_1)).trans hw171_1), ((HB.out.cell (World.block_lt_of_cell? w _ hw171_2)).trans hw171_2)⟩ (fun hHeld => ?_); refine with_tabW chain_Check.tab4 chain_Check.bits4 (fun HT_ HW_ => ?_)
                      generalize w19.drew = w20 at BK169 HB hx171_0 hx171_1 hx171_2 hHeld ⊢
                      refine take_ (i := 0) (N := some 12) (v := ?_) (a' := ?_) #[true, false, false, false, false, false, false, false, false, false, false, false, false, false, false, false, false, false] rfl rfl (take_ofW HT_.out HW_.out (by kernel_rfl)) (fun _ _ _ h => h) (Or.inl ⟨by rfl, ?_⟩) hHeld ?_ ?_
                      rotate_left
                      · rintro w' ⟨s0, s1, s2, s3, s4, s5⟩
                        go_simp
                        with_reducible rfl
                      rotate_left
                      · simp only [Act.put, List.setIfInBounds_toArray, List.set_cons_zero, List.set_cons_succ, i64_w, i32_w]
                        rfl
                      refine one_ (i := 1) (N := some 13) #[true, true, false, false, false, false, false, false, false, false, false, false, false, false, false, false, false, false] rfl rfl (one_of HT_.out (by kernel_rfl)) (by decide) (fun K hK => ?_)
                      refine goes_ Try.func81 (by kernel_rfl) rfl #[.agg #[.int .i64 ((rd_T80 l0 x7_1).f0), .string ((rd_T80 l0 x7_1).f1), .bool ((rd_T80 l0 x7_1).f2)]] (by rfl) rfl rfl (by (try simp only [List.map_toArray, List.map_cons, List.map_nil]); first | done | rfl | (simp only [List.length_drop, List.length_take]; rfl)) ?_
                      with_reducible refine (chain_right.calls ((rd_T80 l0 x7_1).f0) ((rd_T80 l0 x7_1).f1) ((rd_T80 l0 x7_1).f2) true _ A5.out).mono ?_
                      rintro e w21 ⟨rfl, hb⟩
                      refine ⟨_, rfl, ?_⟩
                      have n0_ := Aside0.mk (blk_below (g := gb169) (o := .cells #[.int .i64 ((rd_T80 l0 x7_1).f0), .string ((rd_T80 l0 x7_1).f1), .bool ((rd_T80 l0 x7_1).f2)] 80 (0, 0)) (by (with_reducible repeat (first | refine blk_drewN ?_ _ | refine blk_drew ?_ | refine blk_alloc ?_ _)); exact BK169.out) hb)
                      have n1_ := Aside0.mk (below_step (by repeat (first | (with_reducible first | exact HB.out | apply below_alloc | apply pw_below_drewN | apply below_drew1 | refine below_set ?_ GE169.out) | exact HB.out)) hb)
                      clear BK169
                      clear HB
                      have BK169 := n0_
                      have HB := n1_
                      clear n0_ n1_
                      (try clear hb)
                      (try clear hb2)
                      (try clear hk)
                      (try clear hi)
                      refine hK.out _ _ ⟨(blk_cell BK169.out 0).trans rfl, (blk_cell BK169.out 1).trans rfl, (blk_cell BK169.out 2).trans rfl, ((HB.out.cell (World.block_lt_of_cell? w _ hw171_0)).trans hw171_0), ((HB.out.cell (World.block_lt_of_cell? w _ hw171_1)).trans hw171_1), ((HB.out.cell (World.block_lt_of_cell? w _ hw171_2)).trans hw171_2)⟩ (fun hHeld => ?_)
                      clear hK K
                      refine norm_ (a' := ?_) ?_ ?_
                      rotate_left
                      · show Act.put _ (some 13) _ = _
                        simp only [Act.put, List.setIfInBounds_toArray, List.set_cons_zero, List.set_cons_succ, i64_w, i32_w]
                        rfl
                      refine pure_ (i := 2) (N := some 14) (v := ?_) (a' := ?_) #[true, true, true, false, false, false, false, false, false, false, false, false, false, false, false, false, false, false] rfl rfl (any_of HT_.out (by kernel_rfl)) (fun _ _ _ h => h) (Or.inl ⟨by rfl, ?_⟩) ?_ ?_
                      rotate_left
                      · intro w'
                        go_simp
                        with_reducible rfl
                      rotate_left
                      · simp only [Act.put, List.setIfInBounds_toArray, List.set_cons_zero, List.set_cons_succ, i64_w, i32_w]
                        rfl
                      refine pure_ (i := 3) (N := some 15) (v := ?_) (a' := ?_) #[true, true, true, true, false, false, false, false, false, false, false, false, false, false, false, false, false, false] rfl rfl (any_of HT_.out (by kernel_rfl)) (fun _ _ _ h => h) (Or.inl ⟨by rfl, ?_⟩) ?_ ?_
                      rotate_left
                      · intro w'
                        go_simp
                        with_reducible rfl
                      rotate_left
                      · simp only [Act.put, List.setIfInBounds_toArray, List.set_cons_zero, List.set_cons_succ, i64_w, i32_w]
                        rfl
                      refine pure_ (i := 4) (N := some 16) (v := ?_) (a' := ?_) #[true, true, true, true, true, false, false, false, false, false, false, false, false, false, false, false, false, false] rfl rfl (any_of HT_.out (by kernel_rfl)) (fun _ _ _ h => h) (Or.inl ⟨by rfl, ?_⟩) ?_ ?_
                      rotate_left
                      · intro w'
                        go_simp
                        with_reducible rfl
                      rotate_left
                      · simp only [Act.put, List.setIfInBounds_toArray, List.set_cons_zero, List.set_cons_succ, i64_w, i32_w]
                        rfl
                      refine pure_ (i := 5) (N := some 17) (v := ?_) (a' := ?_) #[true, true, true, true, true, true, false, false, false, false, false, false, false, false, false, false, false, false] rfl rfl (any_of HT_.out (by kernel_rfl)) (fun _ _ _ h => h) (Or.inl ⟨by rfl, ?_⟩) ?_ ?_
                      rotate_left
                      · intro w'
                        go_simp
                        with_reducible rfl
                      rotate_left
                      · simp only [Act.put, List.setIfInBounds_toArray, List.set_cons_zero, List.set_cons_succ, i64_w, i32_w]
                        rfl
                      refine pure_ (i := 6) (N := some 18) (v := ?_) (a' := ?_) #[true, true, true, true, true, true, true, false, false, false, false, false, false, false, false, false, false, false] rfl rfl (any_of HT_.out (by kernel_rfl)) (fun _ _ _ h => h) (Or.inl ⟨by rfl, ?_⟩) ?_ ?_
                      rotate_left
                      · intro w'
                        go_simp
                        with_reducible rfl
                      rotate_left
                      · simp only [Act.put, List.setIfInBounds_toArray, List.set_cons_zero, List.set_cons_succ, i64_w, i32_w]
                        rfl
                      refine pure_ (i := 7) (N := some 19) (v := ?_) (a' := ?_) #[true, true, true, true, true, true, true, true, false, false, false, false, false, false, false, false, false, false] rfl rfl (any_of HT_.out (by kernel_rfl)) (fun _ _ _ h => h) (Or.inl ⟨by rfl, ?_⟩) ?_ ?_
                      rotate_left
                      · intro w'
                        go_simp
                        with_reducible rfl
                      rotate_left
                      · simp only [Act.put, List.setIfInBounds_toArray, List.set_cons_zero, List.set_cons_succ, i64_w, i32_w]
                        rfl
                      refine pure_ (i := 9) (N := some 21) (v := ?_) (a' := ?_) #[true, true, true, true, true, true, true, true, false, true, false, false, false, false, false, false, false, false] rfl rfl (any_of HT_.out (by kernel_rfl)) (fun _ _ _ h => h) (Or.inl ⟨by rfl, ?_⟩) ?_ ?_
                      rotate_left
                      · intro w'
                        go_simp
                        with_reducible rfl
                      rotate_left
                      · simp only [Act.put, List.setIfInBounds_toArray, List.set_cons_zero, List.set_cons_succ, i64_w, i32_w]
                        rfl
                      refine pure_ (i := 10) (N := some 22) (v := ?_) (a' := ?_) #[true, true, true, true, true, true, true, true, false, true, true, false, false, false, false, false, false, false] rfl rfl (any_of HT_.out (by kernel_rfl)) (fun _ _ _ h => h) (Or.inl ⟨by rfl, ?_⟩) ?_ ?_
                      rotate_left
                      · intro w'
                        go_simp
                        with_reducible rfl
                      rotate_left
                      · simp only [Act.put, List.setIfInBounds_toArray, List.set_cons_zero, List.set_cons_succ, i64_w, i32_w]
                        rfl
                      refine pure_ (i := 11) (N := some 23) (v := ?_) (a' := ?_) #[true, true, true, true, true, true, true, true, false, true, true, true, false, false, false, false, false, false] rfl rfl (any_of HT_.out (by kernel_rfl)) (fun _ _ _ h => h) (Or.inl ⟨by rfl, ?_⟩) ?_ ?_
                      rotate_left
                      · intro w'
                        go_simp
                        with_reducible rfl
                      rotate_left
                      · simp only [Act.put, List.setIfInBounds_toArray, List.set_cons_zero, List.set_cons_succ, i64_w, i32_w]
                        rfl
                      refine pure_ (i := 12) (N := some 24) (v := ?_) (a' := ?_) #[true, true, true, true, true, true, true, true, false, true, true, true, true, false, false, false, false, false] rfl rfl (any_of HT_.out (by kernel_rfl)) (fun _ _ _ h => h) (Or.inl ⟨by rfl, ?_⟩) ?_ ?_
                      rotate_left
                      · intro w'
                        go_simp
                        with_reducible rfl
                      rotate_left
                      · simp only [Act.put, List.setIfInBounds_toArray, List.set_cons_zero, List.set_cons_succ, i64_w, i32_w]
                        rfl
                      refine pure_ (i := 13) (N := some 25) (v := ?_) (a' := ?_) #[true, true, true, true, true, true, true, true, false, true, true, true, true, true, false, false, false, false] rfl rfl (any_of HT_.out (by kernel_rfl)) (fun _ _ _ h => h) (Or.inl ⟨by rfl, ?_⟩) ?_ ?_
                      rotate_left
                      · intro w'
                        go_simp
                        with_reducible rfl
                      rotate_left
                      · simp only [Act.put, List.setIfInBounds_toArray, List.set_cons_zero, List.set_cons_succ, i64_w, i32_w]
                        rfl
                      refine take_ (i := 8) (N := some 20) (v := ?_) (a' := ?_) #[true, true, true, true, true, true, true, true, true, true, true, true, true, true, false, false, false, false] rfl rfl (take_ofW HT_.out HW_.out (by kernel_rfl)) (fun _ _ _ h => h) (Or.inl ⟨by rfl, ?_⟩) hHeld ?_ ?_
                      rotate_left
                      · rintro w' ⟨s0, s1, s2, s3, s4, s5⟩
                        go_simp
                        with_reducible rfl
                      rotate_left
                      · simp only [Act.put, List.setIfInBounds_toArray, List.set_cons_zero, List.set_cons_succ, i64_w, i32_w]
                        rfl
                      refine take_ (i := 14) (N := some 26) (v := ?_) (a' := ?_) #[true, true, true, true, true, true, true, true, true, true, true, true, true, true, true, false, false, false] rfl rfl (take_ofW HT_.out HW_.out (by kernel_rfl)) (fun _ _ _ h => h) (Or.inl ⟨by rfl, ?_⟩) hHeld ?_ ?_
                      rotate_left
                      · rintro w' ⟨s0, s1, s2, s3, s4, s5⟩
                        go_simp
                        with_reducible rfl
                      rotate_left
                      · simp only [Act.put, List.setIfInBounds_toArray, List.set_cons_zero, List.set_cons_succ, i64_w, i32_w]
                        rfl
                      refine pure_ (i := 15) (N := some 27) (v := ?_) (a' := ?_) #[true, true, true, true, true, true, true, true, true, true, true, true, true, true, true, true, false, false] rfl rfl (any_of HT_.out (by kernel_rfl)) (fun _ _ _ h => h) (Or.inl ⟨by rfl, ?_⟩) ?_ ?_
                      rotate_left
                      · intro w'
                        go_simp
                        with_reducible rfl
                      rotate_left
                      · simp only [Act.put, List.setIfInBounds_toArray, List.set_cons_zero, List.set_cons_succ, i64_w, i32_w]
                        rfl
                      refine pure_ (i := 16) (N := some 28) (v := ?_) (a' := ?_) #[true, true, true, true, true, true, true, true, true, true, true, true, true, true, true, true, true, false] rfl rfl (any_of HT_.out (by kernel_rfl)) (fun _ _ _ h => h) (Or.inl ⟨by rfl, ?_⟩) ?_ ?_
                      rotate_left
                      · intro w'
                        go_simp
                        with_reducible rfl
                      rotate_left
                      · simp only [Act.put, List.setIfInBounds_toArray, List.set_cons_zero, List.set_cons_succ, i64_w, i32_w]
                        rfl
                      refine pure_ (i := 17) (N := some 29) (v := ?_) (a' := ?_) #[true, true, true, true, true, true, true, true, true, true, true, true, true, true, true, true, true, true] rfl rfl (any_of HT_.out (by kernel_rfl)) (fun _ _ _ h => h) (Or.inl ⟨by rfl, ?_⟩) ?_ ?_
                      rotate_left
                      · intro w'
                        go_simp
                        with_reducible rfl
                      rotate_left
                      · simp only [Act.put, List.setIfInBounds_toArray, List.set_cons_zero, List.set_cons_succ, i64_w, i32_w]
                        rfl
                      refine done_ (done_of HT_.out (by kernel_rfl)) ?_
                      try go_wp2
                      go_roundg k1
                      case measure => have := HK1.out; omega
                      case rel => exact ⟨(wrap64 (x7_1 + 1)), (by first | rfl | (simp; done) | (simp [*]; done)), H', ⟨by have := HK1.out; omega⟩, ⟨by repeat (first | (with_reducible first | exact HB.out | apply below_alloc | apply pw_below_drewN | apply below_drew1 | refine below_set ?_ GE169.out) | exact HB.out)⟩⟩
                  · rw [if_neg c10] at H
                    exact absurd H (by simp)
                · rw [if_neg c9] at H
                  exact absurd H (by simp)
              · rw [if_neg c7] at H
                have c7b0 : decide (0 < x7_1) = false := decide_eq_false c7
                clear c7
                have H' := Aside0.mk H
                clear H
                have p168 : 0 ≤ (x7_1 : Int) := of_decide_eq_true (by first | (with_reducible assumption) | assumption)
                have q168 : x7_1 < (l0.length : Int) := of_decide_eq_true (by first | (with_reducible assumption) | assumption)
                obtain ⟨ad168, e168, hx168_0, hx168_1, hx168_2⟩ := at_T80 HR0.out x7_1 p168 q168
                cases e168
                replace hx168_0 := (HB.out.cell (World.block_lt_of_cell? w _ hx168_0)).trans hx168_0
                replace hx168_1 := (HB.out.cell (World.block_lt_of_cell? w _ hx168_1)).trans hx168_1
                replace hx168_2 := (HB.out.cell (World.block_lt_of_cell? w _ hx168_2)).trans hx168_2
                replace p168 := eq_true p168
                replace q168 := eq_true q168
                try go_wp2_with (first | ((with_reducible refine gate_dst (N := 4) rfl ?_); refine box_event ?hg (N := 4) ?hd (cs := #[.int .i64 0, .string (⟨#[]⟩ : ByteArray), .bool false]) (t := 80) ?hr ?_; (case hd => rfl); (case hg => rfl); (case hr => first | (go_simp; done) | (go_simp; rfl)); intro gb169 hg w22 hbox hb; have n0_ := Aside0.mk (below_step (by repeat (first | (with_reducible first | exact HB.out | apply below_alloc | apply pw_below_drewN | apply below_drew1) | exact HB.out)) hb); have n1_ := Aside0.mk (hbox); have n2_ := Aside0.mk ((by rw [hg]; exact (below_size (by repeat (first | (with_reducible first | exact HB.out | apply below_alloc | apply pw_below_drewN | apply below_drew1) | exact HB.out))) : w.heap.size ≤ gb169)); have n3_ := Aside0.mk ((by rw [hg]; exact (below_size (by repeat (first | (with_reducible first | exact HB.out | apply below_alloc | apply pw_below_drewN | apply below_drew1) | exact HB.out))) : w.heap.size ≤ gb169)); clear HB; have HB := n0_; have BK169 := n1_; have GW169 := n2_; have GE169 := n3_; clear n0_ n1_ n2_ n3_; clear hb hbox hg; have hcz23_0 : w22.cell? ⟨gb169, 0, none⟩ = some (.int .i64 0) := (blk_cell BK169.out 0).trans rfl; have hcz23_1 : w22.cell? ⟨gb169, 1, none⟩ = some (.string (⟨#[]⟩ : ByteArray)) := (blk_cell BK169.out 1).trans rfl; have hcz23_2 : w22.cell? ⟨gb169, 2, none⟩ = some (.bool false) := (blk_cell BK169.out 2).trans rfl; have hfz23_0 := blk_frozen BK169.out 0; have hfz23_1 := blk_frozen BK169.out 1; have hfz23_2 := blk_frozen BK169.out 2))
                have n0_ : Aside0 ((((w22.setCell ⟨gb169, 0, none⟩ (.int .i64 ((rd_T80 l0 x7_1).f0))).setCell ⟨gb169, 1, none⟩ (.string ((rd_T80 l0 x7_1).f1))).setCell ⟨gb169, 2, none⟩ (.bool ((rd_T80 l0 x7_1).f2))).heap[gb169]? = some (.cells #[.int .i64 ((rd_T80 l0 x7_1).f0), .string ((rd_T80 l0 x7_1).f1), .bool ((rd_T80 l0 x7_1).f2)] 80 (0, 0))) := ⟨by (with_reducible repeat (first | refine blk_drewN ?_ _ | refine blk_drew ?_ | refine blk_alloc ?_ _)); refine blk_put (cs := #[.int .i64 ((rd_T80 l0 x7_1).f0), .string ((rd_T80 l0 x7_1).f1), .bool false]) ?_ 2 _ rfl; (with_reducible repeat (first | refine blk_drewN ?_ _ | refine blk_drew ?_ | refine blk_alloc ?_ _)); refine blk_put (cs := #[.int .i64 ((rd_T80 l0 x7_1).f0), .string (⟨#[]⟩ : ByteArray), .bool false]) ?_ 1 _ rfl; (with_reducible repeat (first | refine blk_drewN ?_ _ | refine blk_drew ?_ | refine blk_alloc ?_ _)); refine blk_put (cs := #[.int .i64 0, .string (⟨#[]⟩ : ByteArray), .bool false]) ?_ 0 _ rfl; (with_reducible repeat (first | refine blk_drewN ?_ _ | refine blk_drew ?_ | refine blk_alloc ?_ _)); exact BK169.out⟩
                have n1_ : Aside0 (Below w.heap.size w (((w22.setCell ⟨gb169, 0, none⟩ (.int .i64 ((rd_T80 l0 x7_1).f0))).setCell ⟨gb169, 1, none⟩ (.string ((rd_T80 l0 x7_1).f1))).setCell ⟨gb169, 2, none⟩ (.bool ((rd_T80 l0 x7_1).f2)))) := ⟨by repeat (first | (with_reducible first | exact HB.out | apply below_alloc | apply pw_below_drewN | apply below_drew1 | refine below_set ?_ GE169.out) | exact HB.out)⟩
                (try clear BK169)
                (try clear HB)
                generalize (((w22.setCell ⟨gb169, 0, none⟩ (.int .i64 ((rd_T80 l0 x7_1).f0))).setCell ⟨gb169, 1, none⟩ (.string ((rd_T80 l0 x7_1).f1))).setCell ⟨gb169, 2, none⟩ (.bool ((rd_T80 l0 x7_1).f2))) = w24 at n0_ n1_ ⊢
                have BK169 := n0_
                have HB := n1_
                clear n0_ n1_
                have n0_ := Aside0.mk (blk_drew BK169.out)
                have n1_ := Aside0.mk (below_drew1 HB.out)
                clear BK169
                clear HB
                have BK169 := n0_
                have HB := n1_
                clear n0_ n1_
                refine start_ (n := 18) (S := fun w' => w'.cell? ⟨gb169, 0, none⟩ = some (.int .i64 ((rd_T80 l0 x7_1).f0)) ∧ w'.cell? ⟨gb169, 1, none⟩ = some (.string ((rd_T80 l0 x7_1).f1)) ∧ w'.cell? ⟨gb169, 2, none⟩ = some (.bool ((rd_T80 l0 x7_1).f2))) (ds := []) #[false, false, false, false, false, false, false, false, false, false, false, false, false, false, false, false, false, false] (by kernel_rfl) rfl rfl ⟨(blk_cell BK169.out 0).trans rfl, (blk_cell BK169.out 1).trans rfl, (blk_cell BK169.out 2).trans rfl⟩ (fun hHeld => ?_); refine with_tabW chain_Check.tab4 chain_Check.bits4 (fun HT_ HW_ => ?_)
                generalize w24.drew = w25 at BK169 HB hHeld ⊢
                refine take_ (i := 0) (N := some 12) (v := ?_) (a' := ?_) #[true, false, false, false, false, false, false, false, false, false, false, false, false, false, false, false, false, false] rfl rfl (take_ofW HT_.out HW_.out (by kernel_rfl)) (fun _ _ _ h => h) (Or.inl ⟨by rfl, ?_⟩) hHeld ?_ ?_
                rotate_left
                · rintro w' ⟨s0, s1, s2⟩
                  go_simp
                  with_reducible rfl
                rotate_left
                · simp only [Act.put, List.setIfInBounds_toArray, List.set_cons_zero, List.set_cons_succ, i64_w, i32_w]
                  rfl
                refine one_ (i := 1) (N := some 13) #[true, true, false, false, false, false, false, false, false, false, false, false, false, false, false, false, false, false] rfl rfl (one_of HT_.out (by kernel_rfl)) (by decide) (fun K hK => ?_)
                refine goes_ Try.func81 (by kernel_rfl) rfl #[.agg #[.int .i64 ((rd_T80 l0 x7_1).f0), .string ((rd_T80 l0 x7_1).f1), .bool ((rd_T80 l0 x7_1).f2)]] (by rfl) rfl rfl (by (try simp only [List.map_toArray, List.map_cons, List.map_nil]); first | done | rfl | (simp only [List.length_drop, List.length_take]; rfl)) ?_
                with_reducible refine (chain_right.calls ((rd_T80 l0 x7_1).f0) ((rd_T80 l0 x7_1).f1) ((rd_T80 l0 x7_1).f2) true _ A5.out).mono ?_
                rintro e w26 ⟨rfl, hb⟩
                refine ⟨_, rfl, ?_⟩
                have n0_ := Aside0.mk (blk_below (g := gb169) (o := .cells #[.int .i64 ((rd_T80 l0 x7_1).f0), .string ((rd_T80 l0 x7_1).f1), .bool ((rd_T80 l0 x7_1).f2)] 80 (0, 0)) (by (with_reducible repeat (first | refine blk_drewN ?_ _ | refine blk_drew ?_ | refine blk_alloc ?_ _)); exact BK169.out) hb)
                have n1_ := Aside0.mk (below_step (by repeat (first | (with_reducible first | exact HB.out | apply below_alloc | apply pw_below_drewN | apply below_drew1 | refine below_set ?_ GE169.out) | exact HB.out)) hb)
                clear BK169
                clear HB
                have BK169 := n0_
                have HB := n1_
                clear n0_ n1_
                (try clear hb)
                (try clear hb2)
                (try clear hk)
                (try clear hi)
                refine hK.out _ _ ⟨(blk_cell BK169.out 0).trans rfl, (blk_cell BK169.out 1).trans rfl, (blk_cell BK169.out 2).trans rfl⟩ (fun hHeld => ?_)
                clear hK K
                refine norm_ (a' := ?_) ?_ ?_
                rotate_left
                · show Act.put _ (some 13) _ = _
                  simp only [Act.put, List.setIfInBounds_toArray, List.set_cons_zero, List.set_cons_succ, i64_w, i32_w]
                  rfl
                refine pure_ (i := 2) (N := some 14) (v := ?_) (a' := ?_) #[true, true, true, false, false, false, false, false, false, false, false, false, false, false, false, false, false, false] rfl rfl (any_of HT_.out (by kernel_rfl)) (fun _ _ _ h => h) (Or.inl ⟨by rfl, ?_⟩) ?_ ?_
                rotate_left
                · intro w'
                  go_simp
                  with_reducible rfl
                rotate_left
                · simp only [Act.put, List.setIfInBounds_toArray, List.set_cons_zero, List.set_cons_succ, i64_w, i32_w]
                  rfl
                refine pure_ (i := 3) (N := some 15) (v := ?_) (a' := ?_) #[true, true, true, true, false, false, false, false, false, false, false, false, false, false, false, false, false, false] rfl rfl (any_of HT_.out (by kernel_rfl)) (fun _ _ _ h => h) (Or.inl ⟨by rfl, ?_⟩) ?_ ?_
                rotate_left
                · intro w'
                  go_simp
                  with_reducible rfl
                rotate_left
                · simp only [Act.put, List.setIfInBounds_toArray, List.set_cons_zero, List.set_cons_succ, i64_w, i32_w]
                  rfl
                refine pure_ (i := 4) (N := some 16) (v := ?_) (a' := ?_) #[true, true, true, true, true, false, false, false, false, false, false, false, false, false, false, false, false, false] rfl rfl (any_of HT_.out (by kernel_rfl)) (fun _ _ _ h => h) (Or.inl ⟨by rfl, ?_⟩) ?_ ?_
                rotate_left
                · intro w'
                  go_simp
                  with_reducible rfl
                rotate_left
                · simp only [Act.put, List.setIfInBounds_toArray, List.set_cons_zero, List.set_cons_succ, i64_w, i32_w]
                  rfl
                refine pure_ (i := 5) (N := some 17) (v := ?_) (a' := ?_) #[true, true, true, true, true, true, false, false, false, false, false, false, false, false, false, false, false, false] rfl rfl (any_of HT_.out (by kernel_rfl)) (fun _ _ _ h => h) (Or.inl ⟨by rfl, ?_⟩) ?_ ?_
                rotate_left
                · intro w'
                  go_simp
                  with_reducible rfl
                rotate_left
                · simp only [Act.put, List.setIfInBounds_toArray, List.set_cons_zero, List.set_cons_succ, i64_w, i32_w]
                  rfl
                refine pure_ (i := 6) (N := some 18) (v := ?_) (a' := ?_) #[true, true, true, true, true, true, true, false, false, false, false, false, false, false, false, false, false, false] rfl rfl (any_of HT_.out (by kernel_rfl)) (fun _ _ _ h => h) (Or.inl ⟨by rfl, ?_⟩) ?_ ?_
                rotate_left
                · intro w'
                  go_simp
                  with_reducible rfl
                rotate_left
                · simp only [Act.put, List.setIfInBounds_toArray, List.set_cons_zero, List.set_cons_succ, i64_w, i32_w]
                  rfl
                refine pure_ (i := 7) (N := some 19) (v := undef) (a' := ?_) #[true, true, true, true, true, true, true, true, false, false, false, false, false, false, false, false, false, false] rfl rfl (any_of HT_.out (by kernel_rfl)) (fun _ _ _ h => h) (Or.inr ⟨by rfl, rfl⟩) ?_ ?_
                rotate_left
                · simp only [Act.put, List.setIfInBounds_toArray, List.set_cons_zero, List.set_cons_succ, i64_w, i32_w]
                  rfl
                refine pure_ (i := 8) (N := some 20) (v := undef) (a' := ?_) #[true, true, true, true, true, true, true, true, true, false, false, false, false, false, false, false, false, false] rfl rfl (any_of HT_.out (by kernel_rfl)) (fun _ _ _ h => h) (Or.inr ⟨by rfl, rfl⟩) ?_ ?_
                rotate_left
                · simp only [Act.put, List.setIfInBounds_toArray, List.set_cons_zero, List.set_cons_succ, i64_w, i32_w]
                  rfl
                refine pure_ (i := 9) (N := some 21) (v := undef) (a' := ?_) #[true, true, true, true, true, true, true, true, true, true, false, false, false, false, false, false, false, false] rfl rfl (any_of HT_.out (by kernel_rfl)) (fun _ _ _ h => h) (Or.inr ⟨by rfl, rfl⟩) ?_ ?_
                rotate_left
                · simp only [Act.put, List.setIfInBounds_toArray, List.set_cons_zero, List.set_cons_succ, i64_w, i32_w]
                  rfl
                refine pure_ (i := 10) (N := some 22) (v := undef) (a' := ?_) #[true, true, true, true, true, true, true, true, true, true, true, false, false, false, false, false, false, false] rfl rfl (any_of HT_.out (by kernel_rfl)) (fun _ _ _ h => h) (Or.inr ⟨by rfl, rfl⟩) ?_ ?_
                rotate_left
                · simp only [Act.put, List.setIfInBounds_toArray, List.set_cons_zero, List.set_cons_succ, i64_w, i32_w]
                  rfl
                refine pure_ (i := 11) (N := some 23) (v := undef) (a' := ?_) #[true, true, true, true, true, true, true, true, true, true, true, true, false, false, false, false, false, false] rfl rfl (any_of HT_.out (by kernel_rfl)) (fun _ _ _ h => h) (Or.inr ⟨by rfl, rfl⟩) ?_ ?_
                rotate_left
                · simp only [Act.put, List.setIfInBounds_toArray, List.set_cons_zero, List.set_cons_succ, i64_w, i32_w]
                  rfl
                refine pure_ (i := 12) (N := some 24) (v := undef) (a' := ?_) #[true, true, true, true, true, true, true, true, true, true, true, true, true, false, false, false, false, false] rfl rfl (any_of HT_.out (by kernel_rfl)) (fun _ _ _ h => h) (Or.inr ⟨by rfl, rfl⟩) ?_ ?_
                rotate_left
                · simp only [Act.put, List.setIfInBounds_toArray, List.set_cons_zero, List.set_cons_succ, i64_w, i32_w]
                  rfl
                refine pure_ (i := 13) (N := some 25) (v := undef) (a' := ?_) #[true, true, true, true, true, true, true, true, true, true, true, true, true, true, false, false, false, false] rfl rfl (any_of HT_.out (by kernel_rfl)) (fun _ _ _ h => h) (Or.inr ⟨by rfl, rfl⟩) ?_ ?_
                rotate_left
                · simp only [Act.put, List.setIfInBounds_toArray, List.set_cons_zero, List.set_cons_succ, i64_w, i32_w]
                  rfl
                refine pure_ (i := 14) (N := some 26) (v := undef) (a' := ?_) #[true, true, true, true, true, true, true, true, true, true, true, true, true, true, true, false, false, false] rfl rfl (any_of HT_.out (by kernel_rfl)) (fun _ _ _ h => h) (Or.inr ⟨by rfl, rfl⟩) ?_ ?_
                rotate_left
                · simp only [Act.put, List.setIfInBounds_toArray, List.set_cons_zero, List.set_cons_succ, i64_w, i32_w]
                  rfl
                refine pure_ (i := 15) (N := some 27) (v := undef) (a' := ?_) #[true, true, true, true, true, true, true, true, true, true, true, true, true, true, true, true, false, false] rfl rfl (any_of HT_.out (by kernel_rfl)) (fun _ _ _ h => h) (Or.inr ⟨by rfl, rfl⟩) ?_ ?_
                rotate_left
                · simp only [Act.put, List.setIfInBounds_toArray, List.set_cons_zero, List.set_cons_succ, i64_w, i32_w]
                  rfl
                refine pure_ (i := 16) (N := some 28) (v := ?_) (a' := ?_) #[true, true, true, true, true, true, true, true, true, true, true, true, true, true, true, true, true, false] rfl rfl (any_of HT_.out (by kernel_rfl)) (fun _ _ _ h => h) (Or.inl ⟨by rfl, ?_⟩) ?_ ?_
                rotate_left
                · intro w'
                  go_simp
                  with_reducible rfl
                rotate_left
                · simp only [Act.put, List.setIfInBounds_toArray, List.set_cons_zero, List.set_cons_succ, i64_w, i32_w]
                  rfl
                refine pure_ (i := 17) (N := some 29) (v := ?_) (a' := ?_) #[true, true, true, true, true, true, true, true, true, true, true, true, true, true, true, true, true, true] rfl rfl (any_of HT_.out (by kernel_rfl)) (fun _ _ _ h => h) (Or.inl ⟨by rfl, ?_⟩) ?_ ?_
                rotate_left
                · intro w'
                  go_simp
                  with_reducible rfl
                rotate_left
                · simp only [Act.put, List.setIfInBounds_toArray, List.set_cons_zero, List.set_cons_succ, i64_w, i32_w]
                  rfl
                refine done_ (done_of HT_.out (by kernel_rfl)) ?_
                try go_wp2
                go_roundg k1
                case measure => have := HK1.out; omega
                case rel => exact ⟨(wrap64 (x7_1 + 1)), (by first | rfl | (simp; done) | (simp [*]; done)), H', ⟨by have := HK1.out; omega⟩, ⟨by repeat (first | (with_reducible first | exact HB.out | apply below_alloc | apply pw_below_drewN | apply below_drew1 | refine below_set ?_ GE169.out) | exact HB.out)⟩⟩
            · replace c6 := Bool.eq_false_iff.mpr c6
              subst c6
              have H1 : (some 4) = some r := by rw [if_neg (show ¬ (false = true) by decide)] at H; exact H
              clear H
              have H := H1
              clear H1
              obtain rfl := Option.some.inj H
              have p168 : 0 ≤ (x7_1 : Int) := of_decide_eq_true (by first | (with_reducible assumption) | assumption)
              have q168 : x7_1 < (l0.length : Int) := of_decide_eq_true (by first | (with_reducible assumption) | assumption)
              obtain ⟨ad168, e168, hx168_0, hx168_1, hx168_2⟩ := at_T80 HR0.out x7_1 p168 q168
              cases e168
              replace hx168_0 := (HB.out.cell (World.block_lt_of_cell? w _ hx168_0)).trans hx168_0
              replace hx168_1 := (HB.out.cell (World.block_lt_of_cell? w _ hx168_1)).trans hx168_1
              replace hx168_2 := (HB.out.cell (World.block_lt_of_cell? w _ hx168_2)).trans hx168_2
              replace p168 := eq_true p168
              replace q168 := eq_true q168
              try go_wp2_with (first | ((with_reducible refine gate_dst (N := 4) rfl ?_); refine box_event ?hg (N := 4) ?hd (cs := #[.int .i64 0, .string (⟨#[]⟩ : ByteArray), .bool false]) (t := 80) ?hr ?_; (case hd => rfl); (case hg => rfl); (case hr => first | (go_simp; done) | (go_simp; rfl)); intro gb169 hg w27 hbox hb; have n0_ := Aside0.mk (below_step (by repeat (first | (with_reducible first | exact HB.out | apply below_alloc | apply pw_below_drewN | apply below_drew1) | exact HB.out)) hb); have n1_ := Aside0.mk (hbox); have n2_ := Aside0.mk ((by rw [hg]; exact (below_size (by repeat (first | (with_reducible first | exact HB.out | apply below_alloc | apply pw_below_drewN | apply below_drew1) | exact HB.out))) : w.heap.size ≤ gb169)); have n3_ := Aside0.mk ((by rw [hg]; exact (below_size (by repeat (first | (with_reducible first | exact HB.out | apply below_alloc | apply pw_below_drewN | apply below_drew1) | exact HB.out))) : w.heap.size ≤ gb169)); clear HB; have HB := n0_; have BK169 := n1_; have GW169 := n2_; have GE169 := n3_; clear n0_ n1_ n2_ n3_; clear hb hbox hg; have hcz28_0 : w27.cell? ⟨gb169, 0, none⟩ = some (.int .i64 0) := (blk_cell BK169.out 0).trans rfl; have hcz28_1 : w27.cell? ⟨gb169, 1, none⟩ = some (.string (⟨#[]⟩ : ByteArray)) := (blk_cell BK169.out 1).trans rfl; have hcz28_2 : w27.cell? ⟨gb169, 2, none⟩ = some (.bool false) := (blk_cell BK169.out 2).trans rfl; have hfz28_0 := blk_frozen BK169.out 0; have hfz28_1 := blk_frozen BK169.out 1; have hfz28_2 := blk_frozen BK169.out 2))
              have n0_ : Aside0 ((((w27.setCell ⟨gb169, 0, none⟩ (.int .i64 ((rd_T80 l0 x7_1).f0))).setCell ⟨gb169, 1, none⟩ (.string ((rd_T80 l0 x7_1).f1))).setCell ⟨gb169, 2, none⟩ (.bool ((rd_T80 l0 x7_1).f2))).heap[gb169]? = some (.cells #[.int .i64 ((rd_T80 l0 x7_1).f0), .string ((rd_T80 l0 x7_1).f1), .bool ((rd_T80 l0 x7_1).f2)] 80 (0, 0))) := ⟨by (with_reducible repeat (first | refine blk_drewN ?_ _ | refine blk_drew ?_ | refine blk_alloc ?_ _)); refine blk_put (cs := #[.int .i64 ((rd_T80 l0 x7_1).f0), .string ((rd_T80 l0 x7_1).f1), .bool false]) ?_ 2 _ rfl; (with_reducible repeat (first | refine blk_drewN ?_ _ | refine blk_drew ?_ | refine blk_alloc ?_ _)); refine blk_put (cs := #[.int .i64 ((rd_T80 l0 x7_1).f0), .string (⟨#[]⟩ : ByteArray), .bool false]) ?_ 1 _ rfl; (with_reducible repeat (first | refine blk_drewN ?_ _ | refine blk_drew ?_ | refine blk_alloc ?_ _)); refine blk_put (cs := #[.int .i64 0, .string (⟨#[]⟩ : ByteArray), .bool false]) ?_ 0 _ rfl; (with_reducible repeat (first | refine blk_drewN ?_ _ | refine blk_drew ?_ | refine blk_alloc ?_ _)); exact BK169.out⟩
              have n1_ : Aside0 (Below w.heap.size w (((w27.setCell ⟨gb169, 0, none⟩ (.int .i64 ((rd_T80 l0 x7_1).f0))).setCell ⟨gb169, 1, none⟩ (.string ((rd_T80 l0 x7_1).f1))).setCell ⟨gb169, 2, none⟩ (.bool ((rd_T80 l0 x7_1).f2)))) := ⟨by repeat (first | (with_reducible first | exact HB.out | apply below_alloc | apply pw_below_drewN | apply below_drew1 | refine below_set ?_ GE169.out) | exact HB.out)⟩
              (try clear BK169)
              (try clear HB)
              generalize (((w27.setCell ⟨gb169, 0, none⟩ (.int .i64 ((rd_T80 l0 x7_1).f0))).setCell ⟨gb169, 1, none⟩ (.string ((rd_T80 l0 x7_1).f1))).setCell ⟨gb169, 2, none⟩ (.bool ((rd_T80 l0 x7_1).f2))) = w29 at n0_ n1_ ⊢
              have BK169 := n0_
              have HB := n1_
              clear n0_ n1_
              have n0_ := Aside0.mk (blk_drew BK169.out)
              have n1_ := Aside0.mk (below_drew1 HB.out)
              clear BK169
              clear HB
              have BK169 := n0_
              have HB := n1_
              clear n0_ n1_
              refine start_ (n := 18) (S := fun w' => w'.cell? ⟨gb169, 0, none⟩ = some (.int .i64 ((rd_T80 l0 x7_1).f0)) ∧ w'.cell? ⟨gb169, 1, none⟩ = some (.string ((rd_T80 l0 x7_1).f1)) ∧ w'.cell? ⟨gb169, 2, none⟩ = some (.bool ((rd_T80 l0 x7_1).f2))) (ds := []) #[false, false, false, false, false, false, false, false, false, false, false, false, false, false, false, false, false, false] (by kernel_rfl) rfl rfl ⟨(blk_cell BK169.out 0).trans rfl, (blk_cell BK169.out 1).trans rfl, (blk_cell BK169.out 2).trans rfl⟩ (fun hHeld => ?_); refine with_tabW chain_Check.tab4 chain_Check.bits4 (fun HT_ HW_ => ?_)
              generalize w29.drew = w30 at BK169 HB hHeld ⊢
              refine take_ (i := 0) (N := some 12) (v := ?_) (a' := ?_) #[true, false, false, false, false, false, false, false, false, false, false, false, false, false, false, false, false, false] rfl rfl (take_ofW HT_.out HW_.out (by kernel_rfl)) (fun _ _ _ h => h) (Or.inl ⟨by rfl, ?_⟩) hHeld ?_ ?_
              rotate_left
              · rintro w' ⟨s0, s1, s2⟩
                go_simp
                with_reducible rfl
              rotate_left
              · simp only [Act.put, List.setIfInBounds_toArray, List.set_cons_zero, List.set_cons_succ, i64_w, i32_w]
                rfl
              refine one_ (i := 1) (N := some 13) #[true, true, false, false, false, false, false, false, false, false, false, false, false, false, false, false, false, false] rfl rfl (one_of HT_.out (by kernel_rfl)) (by decide) (fun K hK => ?_)
              refine goes_ Try.func81 (by kernel_rfl) rfl #[.agg #[.int .i64 ((rd_T80 l0 x7_1).f0), .string ((rd_T80 l0 x7_1).f1), .bool ((rd_T80 l0 x7_1).f2)]] (by rfl) rfl rfl (by (try simp only [List.map_toArray, List.map_cons, List.map_nil]); first | done | rfl | (simp only [List.length_drop, List.length_take]; rfl)) ?_
              with_reducible refine (chain_right.calls ((rd_T80 l0 x7_1).f0) ((rd_T80 l0 x7_1).f1) ((rd_T80 l0 x7_1).f2) false _ A5.out).mono ?_
              rintro e w31 ⟨rfl, hb⟩
              refine ⟨_, rfl, ?_⟩
              have n0_ := Aside0.mk (blk_below (g := gb169) (o := .cells #[.int .i64 ((rd_T80 l0 x7_1).f0), .string ((rd_T80 l0 x7_1).f1), .bool ((rd_T80 l0 x7_1).f2)] 80 (0, 0)) (by (with_reducible repeat (first | refine blk_drewN ?_ _ | refine blk_drew ?_ | refine blk_alloc ?_ _)); exact BK169.out) hb)
              have n1_ := Aside0.mk (below_step (by repeat (first | (with_reducible first | exact HB.out | apply below_alloc | apply pw_below_drewN | apply below_drew1 | refine below_set ?_ GE169.out) | exact HB.out)) hb)
              clear BK169
              clear HB
              have BK169 := n0_
              have HB := n1_
              clear n0_ n1_
              (try clear hb)
              (try clear hb2)
              (try clear hk)
              (try clear hi)
              refine hK.out _ _ ⟨(blk_cell BK169.out 0).trans rfl, (blk_cell BK169.out 1).trans rfl, (blk_cell BK169.out 2).trans rfl⟩ (fun hHeld => ?_)
              clear hK K
              refine norm_ (a' := ?_) ?_ ?_
              rotate_left
              · show Act.put _ (some 13) _ = _
                simp only [Act.put, List.setIfInBounds_toArray, List.set_cons_zero, List.set_cons_succ, i64_w, i32_w]
                rfl
              refine pure_ (i := 2) (N := some 14) (v := ?_) (a' := ?_) #[true, true, true, false, false, false, false, false, false, false, false, false, false, false, false, false, false, false] rfl rfl (any_of HT_.out (by kernel_rfl)) (fun _ _ _ h => h) (Or.inl ⟨by rfl, ?_⟩) ?_ ?_
              rotate_left
              · intro w'
                go_simp
                with_reducible rfl
              rotate_left
              · simp only [Act.put, List.setIfInBounds_toArray, List.set_cons_zero, List.set_cons_succ, i64_w, i32_w]
                rfl
              refine pure_ (i := 3) (N := some 15) (v := ?_) (a' := ?_) #[true, true, true, true, false, false, false, false, false, false, false, false, false, false, false, false, false, false] rfl rfl (any_of HT_.out (by kernel_rfl)) (fun _ _ _ h => h) (Or.inl ⟨by rfl, ?_⟩) ?_ ?_
              rotate_left
              · intro w'
                go_simp
                with_reducible rfl
              rotate_left
              · simp only [Act.put, List.setIfInBounds_toArray, List.set_cons_zero, List.set_cons_succ, i64_w, i32_w]
                rfl
              refine pure_ (i := 4) (N := some 16) (v := undef) (a' := ?_) #[true, true, true, true, true, false, false, false, false, false, false, false, false, false, false, false, false, false] rfl rfl (any_of HT_.out (by kernel_rfl)) (fun _ _ _ h => h) (Or.inr ⟨by rfl, rfl⟩) ?_ ?_
              rotate_left
              · simp only [Act.put, List.setIfInBounds_toArray, List.set_cons_zero, List.set_cons_succ, i64_w, i32_w]
                rfl
              refine pure_ (i := 5) (N := some 17) (v := undef) (a' := ?_) #[true, true, true, true, true, true, false, false, false, false, false, false, false, false, false, false, false, false] rfl rfl (any_of HT_.out (by kernel_rfl)) (fun _ _ _ h => h) (Or.inr ⟨by rfl, rfl⟩) ?_ ?_
              rotate_left
              · simp only [Act.put, List.setIfInBounds_toArray, List.set_cons_zero, List.set_cons_succ, i64_w, i32_w]
                rfl
              refine pure_ (i := 6) (N := some 18) (v := undef) (a' := ?_) #[true, true, true, true, true, true, true, false, false, false, false, false, false, false, false, false, false, false] rfl rfl (any_of HT_.out (by kernel_rfl)) (fun _ _ _ h => h) (Or.inr ⟨by rfl, rfl⟩) ?_ ?_
              rotate_left
              · simp only [Act.put, List.setIfInBounds_toArray, List.set_cons_zero, List.set_cons_succ, i64_w, i32_w]
                rfl
              refine pure_ (i := 7) (N := some 19) (v := undef) (a' := ?_) #[true, true, true, true, true, true, true, true, false, false, false, false, false, false, false, false, false, false] rfl rfl (any_of HT_.out (by kernel_rfl)) (fun _ _ _ h => h) (Or.inr ⟨by rfl, rfl⟩) ?_ ?_
              rotate_left
              · simp only [Act.put, List.setIfInBounds_toArray, List.set_cons_zero, List.set_cons_succ, i64_w, i32_w]
                rfl
              refine pure_ (i := 8) (N := some 20) (v := undef) (a' := ?_) #[true, true, true, true, true, true, true, true, true, false, false, false, false, false, false, false, false, false] rfl rfl (any_of HT_.out (by kernel_rfl)) (fun _ _ _ h => h) (Or.inr ⟨by rfl, rfl⟩) ?_ ?_
              rotate_left
              · simp only [Act.put, List.setIfInBounds_toArray, List.set_cons_zero, List.set_cons_succ, i64_w, i32_w]
                rfl
              refine pure_ (i := 9) (N := some 21) (v := undef) (a' := ?_) #[true, true, true, true, true, true, true, true, true, true, false, false, false, false, false, false, false, false] rfl rfl (any_of HT_.out (by kernel_rfl)) (fun _ _ _ h => h) (Or.inr ⟨by rfl, rfl⟩) ?_ ?_
              rotate_left
              · simp only [Act.put, List.setIfInBounds_toArray, List.set_cons_zero, List.set_cons_succ, i64_w, i32_w]
                rfl
              refine pure_ (i := 10) (N := some 22) (v := undef) (a' := ?_) #[true, true, true, true, true, true, true, true, true, true, true, false, false, false, false, false, false, false] rfl rfl (any_of HT_.out (by kernel_rfl)) (fun _ _ _ h => h) (Or.inr ⟨by rfl, rfl⟩) ?_ ?_
              rotate_left
              · simp only [Act.put, List.setIfInBounds_toArray, List.set_cons_zero, List.set_cons_succ, i64_w, i32_w]
                rfl
              refine pure_ (i := 11) (N := some 23) (v := undef) (a' := ?_) #[true, true, true, true, true, true, true, true, true, true, true, true, false, false, false, false, false, false] rfl rfl (any_of HT_.out (by kernel_rfl)) (fun _ _ _ h => h) (Or.inr ⟨by rfl, rfl⟩) ?_ ?_
              rotate_left
              · simp only [Act.put, List.setIfInBounds_toArray, List.set_cons_zero, List.set_cons_succ, i64_w, i32_w]
                rfl
              refine pure_ (i := 12) (N := some 24) (v := undef) (a' := ?_) #[true, true, true, true, true, true, true, true, true, true, true, true, true, false, false, false, false, false] rfl rfl (any_of HT_.out (by kernel_rfl)) (fun _ _ _ h => h) (Or.inr ⟨by rfl, rfl⟩) ?_ ?_
              rotate_left
              · simp only [Act.put, List.setIfInBounds_toArray, List.set_cons_zero, List.set_cons_succ, i64_w, i32_w]
                rfl
              refine pure_ (i := 13) (N := some 25) (v := undef) (a' := ?_) #[true, true, true, true, true, true, true, true, true, true, true, true, true, true, false, false, false, false] rfl rfl (any_of HT_.out (by kernel_rfl)) (fun _ _ _ h => h) (Or.inr ⟨by rfl, rfl⟩) ?_ ?_
              rotate_left
              · simp only [Act.put, List.setIfInBounds_toArray, List.set_cons_zero, List.set_cons_succ, i64_w, i32_w]
                rfl
              refine pure_ (i := 14) (N := some 26) (v := undef) (a' := ?_) #[true, true, true, true, true, true, true, true, true, true, true, true, true, true, true, false, false, false] rfl rfl (any_of HT_.out (by kernel_rfl)) (fun _ _ _ h => h) (Or.inr ⟨by rfl, rfl⟩) ?_ ?_
              rotate_left
              · simp only [Act.put, List.setIfInBounds_toArray, List.set_cons_zero, List.set_cons_succ, i64_w, i32_w]
                rfl
              refine pure_ (i := 15) (N := some 27) (v := undef) (a' := ?_) #[true, true, true, true, true, true, true, true, true, true, true, true, true, true, true, true, false, false] rfl rfl (any_of HT_.out (by kernel_rfl)) (fun _ _ _ h => h) (Or.inr ⟨by rfl, rfl⟩) ?_ ?_
              rotate_left
              · simp only [Act.put, List.setIfInBounds_toArray, List.set_cons_zero, List.set_cons_succ, i64_w, i32_w]
                rfl
              refine pure_ (i := 16) (N := some 28) (v := undef) (a' := ?_) #[true, true, true, true, true, true, true, true, true, true, true, true, true, true, true, true, true, false] rfl rfl (any_of HT_.out (by kernel_rfl)) (fun _ _ _ h => h) (Or.inr ⟨by rfl, rfl⟩) ?_ ?_
              rotate_left
              · simp only [Act.put, List.setIfInBounds_toArray, List.set_cons_zero, List.set_cons_succ, i64_w, i32_w]
                rfl
              refine pure_ (i := 17) (N := some 29) (v := ?_) (a' := ?_) #[true, true, true, true, true, true, true, true, true, true, true, true, true, true, true, true, true, true] rfl rfl (any_of HT_.out (by kernel_rfl)) (fun _ _ _ h => h) (Or.inl ⟨by rfl, ?_⟩) ?_ ?_
              rotate_left
              · intro w'
                go_simp
                with_reducible rfl
              rotate_left
              · simp only [Act.put, List.setIfInBounds_toArray, List.set_cons_zero, List.set_cons_succ, i64_w, i32_w]
                rfl
              refine done_ (done_of HT_.out (by kernel_rfl)) ?_
              try go_wp2
              go_ret
              exact ⟨by first | rfl | (simp [errW_none, errW_some] <;> rfl) | (simp [*, errW_none, errW_some] <;> rfl), by repeat (first | (with_reducible first | exact HB.out | apply below_alloc | apply pw_below_drewN | apply below_drew1 | refine below_set ?_ GE169.out) | exact HB.out)⟩
          · rw [if_neg c4] at H
            exact absurd H (by simp)
        · rw [if_neg c3] at H
          exact absurd H (by simp)
      · rw [if_neg c2] at H
        have c2b0 : decide (x7_1 < (l0.length : Int)) = false := decide_eq_false c2
        clear c2
        obtain rfl := Option.some.inj H
        go_wp2
        go_ret
        exact ⟨by first | rfl | (simp [errW_none, errW_some] <;> rfl) | (simp [*, errW_none, errW_some] <;> rfl), by repeat (first | (with_reducible first | exact HB.out | apply below_alloc | apply pw_below_drewN | apply below_drew1) | exact HB.out)⟩
end Go.Proofs.Ytehcmedeeaoebaa.PB
end
section
namespace Go.Proofs.Ytehcmedeeaoebaa.PB
open Go.RowKit Go.Proofs.YtehcmedeeaoebaaW.PrintWords Go.Proofs.YtehcmedeeaoebaaW.PrintLast Go.Proofs.YtehcmedeeaoebaaW.PrintMore
set_option linter.unusedVariables false
set_option linter.unusedSimpArgs false
theorem rdT80_get (l : List S80) (i : Nat) (h : i < l.length) : rd_T80 l (i : Int) = l[i] := by
  simp [rd_T80, List.getD_eq_getElem?_getD, h]
set_option maxHeartbeats 2000000 in
set_option maxRecDepth 100000 in
theorem IndexFunc80.calls (A : Option Addr) (c : Nat) (l : List S80) (g : Nat) (lb : Array Value) (p : S80 → Bool) (w : World) (eg : ∀ args w, (callFunc g args).run Try.prog w = .ok (.enter g args) w)
    (hr : Kd.C k80 w A l.length l) (hc : l.length ≤ c)
    (hp : ∀ (W : World) (x : S80), Below w.heap.size w W → Calls Try.prog g (#[.agg #[.int .i64 x.f0, .string x.f1, .bool x.f2]] ++ lb) W fun e w' => e = .returned (.bool (p x)) ∧ Below W.heap.size W w') :
    Calls Try.prog 82 #[.slice A l.length c, .func (.func g) #[] lb] w fun e w' => e = .returned (.int .i64 (idxOf p l)) ∧ Below w.heap.size w w' := by
  have hu80 := Try.underlying80
  have hl := hr.2.1
  have HR := Aside0.mk hr
  have HP := Aside0.mk hp
  clear hr hp
  go_enter Try.func82, Try.ntmps82
  go_wp2
  go_loopg [5, 8] l.length (fun gg _ s8 wr => ∃ kk : Nat, kk ≤ l.length ∧ l.length - kk ≤ gg ∧ s8 = .int .i64 kk ∧ Aside0 (Below w.heap.size w wr) ∧ Aside0 (∀ j, (h : j < kk) → (h' : j < l.length) → p l[j] = false))
  case atStart => exact ⟨0, Nat.zero_le _, by omega, rfl, ⟨Below.refl _ w⟩, ⟨fun j hj => absurd hj (Nat.not_lt_zero _)⟩⟩
  case round =>
    obtain ⟨kk, hkk, hg, rfl, BW, HA⟩ := hrel
    by_cases hlt : kk < l.length
    · have hltz : (kk : Int) < (l.length : Int) := by omega
      obtain ⟨ad, e, h0, h1, h2⟩ := at_T80 HR.out (kk : Int) (by omega) hltz
      cases e
      rw [rdT80_get l kk hlt] at h0 h1 h2
      simp only [Int.toNat_natCast] at h0 h1 h2
      have hcall := HP.out wr l[kk] BW.out
      obtain ⟨y, hy⟩ : ∃ y, y = l[kk] := ⟨_, rfl⟩
      rw [← hy] at h0 h1 h2 hcall
      have HY := Aside0.mk hy
      clear hy
      replace h0 := (BW.out.cell (World.block_lt_of_cell? w _ h0)).trans h0
      replace h1 := (BW.out.cell (World.block_lt_of_cell? w _ h1)).trans h1
      replace h2 := (BW.out.cell (World.block_lt_of_cell? w _ h2)).trans h2
      cases hq : p y with
      | true =>
        rw [hq] at hcall
        go_wp2_with (go_at_fn g; refine hcall.mono ?_; rintro e w' ⟨rfl, hb'⟩)
        go_ret
        refine ⟨?_, below_then BW.out BW.out.size hb'⟩
        rw [idxOf_hit p l kk hlt (by rw [← HY.out]; exact hq) (fun j hj => HA.out j hj (by omega))]
        rfl
      | false =>
        rw [hq] at hcall
        go_wp2_with (go_at_fn g; refine hcall.mono ?_; rintro e w' ⟨rfl, hb'⟩)
        go_roundg (l.length - (kk + 1))
        case measure => omega
        case rel =>
          refine ⟨kk + 1, by omega, by omega, by go_num, ⟨below_then BW.out BW.out.size hb'⟩, ⟨fun j hj h' => ?_⟩⟩
          by_cases e : j = kk
          · subst e
            rw [← HY.out]; exact hq
          · exact HA.out j (by omega) h'
    · have hltz : ¬ (kk : Int) < (l.length : Int) := by omega
      go_wp2
      go_ret
      refine ⟨?_, BW.out⟩
      rw [idxOf_miss p l (fun j hj => HA.out j (by omega) hj)]
      rfl
theorem ContainsFunc80.calls (A : Option Addr) (c : Nat) (l : List S80) (g : Nat) (lb : Array Value) (p : S80 → Bool) (w : World) (eg : ∀ args w, (callFunc g args).run Try.prog w = .ok (.enter g args) w)
    (hr : Kd.C k80 w A l.length l) (hc : l.length ≤ c)
    (hp : ∀ (W : World) (x : S80), Below w.heap.size w W → Calls Try.prog g (#[.agg #[.int .i64 x.f0, .string x.f1, .bool x.f2]] ++ lb) W fun e w' => e = .returned (.bool (p x)) ∧ Below W.heap.size W w') :
    Calls Try.prog 72 #[.slice A l.length c, .func (.func g) #[] lb] w fun e w' => e = .returned (.bool (l.any p)) ∧ Below w.heap.size w w' := by
  have H := IndexFunc80.calls A c l g lb p w eg hr hc hp
  have hge := idxOf_ge p l
  obtain ⟨r, hrr⟩ : ∃ r, idxOf p l = r := ⟨_, rfl⟩
  rw [hrr] at H hge
  clear hp hr
  obtain ⟨b, hbb⟩ : ∃ b, l.any p = b := ⟨_, rfl⟩
  rw [hbb] at hge ⊢
  clear hrr hbb
  go_enter Try.func72, Try.ntmps72
  go_wp2_with (go_at_call 82; refine H.mono ?_; rintro e w' ⟨rfl, hb⟩)
  go_ret
  exact ⟨rfl, hb⟩
end Go.Proofs.Ytehcmedeeaoebaa.PB
end
section
namespace Go.Proofs.Ytehcmedeeaoebaa.PB
open Go.RowKit Go.Proofs.YtehcmedeeaoebaaW.PrintWords Go.Proofs.YtehcmedeeaoebaaW.PrintLast Go.Proofs.YtehcmedeeaoebaaW.PrintMore
set_option linter.unusedVariables false
set_option linter.unusedSimpArgs false
def longV (v : S80) : Bool := decide (199 < v.f1.size)
def batch_may.f (k : Nat) (a0_0 : ByteArray) (l0_1 : List S80) : Option Bool :=
  if a0_0.size ≤ 120 then if 0 < l0_1.length then (chain_Check.f k l0_1).bind fun e => if e = 0 then some (!(l0_1.any longV)) else some false else some false else some false
theorem may1.calls (x : S80) (W : World) :
    Calls Try.prog 70 (#[.agg #[.int .i64 x.f0, .string x.f1, .bool x.f2]] ++ #[]) W fun e w' => e = .returned (.bool (longV x)) ∧ Below W.heap.size W w' := by
  unfold longV
  rw [Array.append_empty]
  go_enter Try.func70, Try.ntmps70
  go_wp2
  go_ret
  exact ⟨by simp; omega, (Below.refl _ _).alloc (Nat.le_refl _) _⟩
set_option maxHeartbeats 4000000 in
set_option maxRecDepth 100000 in
theorem batch_may.calls (k : Nat) (a0_0 : ByteArray) (A0_1 : Option Addr) (c0_1 : Nat) (l0_1 : List (S80)) (r : Bool) (w : World) (hr0_1 : Kd.C k80 w A0_1 l0_1.length l0_1) (hc0_1 : l0_1.length ≤ c0_1) (h : batch_may.f k a0_0 l0_1 = some r) :
    Calls Try.prog 53 #[.agg #[.string a0_0, .slice A0_1 l0_1.length c0_1]] w fun e w' => e = .returned (.bool r) ∧ Below w.heap.size w w' := by
  have hl := hr0_1.2.1
  have HR := Aside0.mk hr0_1
  clear hr0_1
  unfold batch_may.f at h
  by_cases c1 : a0_0.size ≤ 120
  · rw [if_pos c1] at h
    by_cases c2 : 0 < l0_1.length
    · rw [if_pos c2] at h
      obtain ⟨e, he, h⟩ := Option.bind_eq_some_iff.1 h
      have HE := Aside0.mk he
      clear he
      by_cases c3 : e = 0
      · rw [if_pos c3] at h
        subst c3
        have hh : (!(l0_1.any longV)) = r := Option.some.inj h
        clear h
        have HH := Aside0.mk hh
        clear hh
        go_enter Try.func53, Try.ntmps53
        go_wp2_with fail
        refine (chain_Check.calls k A0_1 c0_1 l0_1 0 _ (Kd.C_below HR.out (below_alloc (Below.refl _ _) _)) hc0_1 HE.out).mono ?_
        rintro e w1 ⟨rfl, hb1⟩
        have BK1 : w1.heap[w.heap.size]? = some (.cells #[.string a0_0, .slice A0_1 l0_1.length c0_1] 67 (0, 0)) := (hb1.block _ (by simp)).trans (blk_new w _)
        have BW1 : Below w.heap.size w w1 := below_then ((Below.refl _ _).alloc (Nat.le_refl _) _) (by simp) hb1
        have hbk1 := (blk_cell BK1 1).trans rfl
        have hcon := ContainsFunc80.calls A0_1 c0_1 l0_1 70 #[] longV w1 (enters_of Try.func70 (by kernel_rfl) rfl) (Kd.C_below HR.out BW1) hc0_1 (fun W x hb => may1.calls x W)
        have HBW1 := Aside0.mk BW1
        clear hb1 BK1 BW1
        obtain ⟨q, hq⟩ : ∃ q, l0_1.any longV = q := ⟨_, rfl⟩
        rw [hq] at hcon HH
        go_wp2_with (go_at_call 72; refine hcon.mono ?_; rintro e w2 ⟨rfl, hb2⟩)
        go_ret
        exact ⟨by rw [← HH.out]; rfl, below_then HBW1.out HBW1.out.size hb2⟩
      · rw [if_neg c3] at h
        obtain rfl : false = r := by simpa using h
        clear h
        have c3' : (e == 0) = false := by simpa using c3
        go_enter Try.func53, Try.ntmps53
        go_wp2_with (go_at_call 71; refine (chain_Check.calls k A0_1 c0_1 l0_1 e _ (Kd.C_below HR.out (below_alloc (Below.refl _ _) _)) hc0_1 HE.out).mono ?_; rintro e w1 ⟨rfl, hb1⟩)
        go_ret
        exact ⟨rfl, below_then ((Below.refl _ _).alloc (Nat.le_refl _) _) (by simp) hb1⟩
    · rw [if_neg c2] at h
      obtain rfl : false = r := by simpa using h
      clear h
      have c2' : decide (0 < l0_1.length) = false := by simpa using c2
      go_enter Try.func53, Try.ntmps53
      go_wp2
      go_ret
      exact ⟨rfl, (Below.refl _ _).alloc (Nat.le_refl _) _⟩
  · rw [if_neg c1] at h
    obtain rfl : false = r := by simpa using h
    clear h
    have c1' : decide (a0_0.size ≤ 120) = false := by simpa using c1
    go_enter Try.func53, Try.ntmps53
    go_wp2
    go_ret
    exact ⟨rfl, (Below.refl _ _).alloc (Nat.le_refl _) _⟩
end Go.Proofs.Ytehcmedeeaoebaa.PB
end
section
namespace Go.Proofs.Ytehcmedeeaoebaa.PB
open Go.RowKit Go.Proofs.YtehcmedeeaoebaaW.PrintWords Go.Proofs.YtehcmedeeaoebaaW.PrintLast Go.Proofs.YtehcmedeeaoebaaW.PrintMore
set_option linter.unusedVariables false
set_option linter.unusedSimpArgs false
set_option maxHeartbeats 4000000 in
set_option maxRecDepth 100000 in
theorem version_ok.calls (p : S69) (t : Int) (tail : ByteArray) (w : World) (hk : p.f0.size ≤ 140737488351232) (hv : p.f1.size ≤ 140737488351232) (h8 : 8 ≤ p.f0.size) (hne : 0 < p.f1.size) (hb0 : bt p.f1 0 ≤ 1)
    (htail : p.f0.extract ((p.f0.size : Int) - 8).toNat p.f0.size = tail) (htl : tail.size = 8) (ht : wrap64 (be (bytesOf tail)) = t) (h0 : 0 ≤ t) (h1 : t < 1152921504606846976) :
    Calls Try.prog 59 #[.agg #[.string p.f0, .string p.f1]] w fun e w' => e = .returned (.tuple #[.string (p.f0.extract 0 ((p.f0.size : Int) - 8).toNat), .agg #[.int .i64 (1152921504606846976 - t), .string (p.f1.extract 1 p.f1.size), .bool (bt p.f1 0 == 0)], .bool true]) ∧ Below w.heap.size w w' := by
  have HB := Aside0.mk (Below.refl w.heap.size w)
  have hbt : ((p.f1[0]'hne).toNat : Int) = bt p.f1 0 := bt_at p.f1 0 hne
  have d1 : decide ((p.f0.size : Int) - 8 < 0) = false := decide_eq_false (by omega)
  have d2 : decide (1 < bt p.f1 0) = false := decide_eq_false (by omega)
  have d3 : decide (t < 0) = false := decide_eq_false (by omega)
  have d4 : decide (1152921504606846976 ≤ t) = false := decide_eq_false (by omega)
  have hne2 : (p.f1.toList == ([] : List UInt8)) = false := by
    rw [beq_eq_false_iff_ne]; intro h; have h2 : p.f1.data.toList.length = 0 := by { rw [← Lib.toList_data, h]; rfl }; rw [data_length] at h2; omega
  have HT := Aside0.mk (show wrap64 (be (((bytesOf tail).take ((0 : Int) + 8).toNat).drop (0 : Int).toNat)) = t from by simp only [Int.zero_add, Int.toNat_zero, List.drop_zero]; rw [List.take_of_length_le (by rw [bytesOf_length]; simp; omega)]; exact ht)
  have HTL := Aside0.mk htail
  have kb := fun W => print_bytes (P := Try.prog) 9 72 5 Try.underlying9 Try.underlying72 Try.underlying5 tail W
  have htl1 : tail.size ≤ 8 := by omega
  have htl2 : 8 ≤ tail.size := by omega
  clear htl ht
  go_enter Try.func59, Try.ntmps59
  go_wp2_with (first | ((with_reducible refine gate_dst (N := 1) rfl ?_); refine box_event ?hg (N := 1) ?hd (cs := #[.string p.f0, .string p.f1]) (t := 69) ?hr ?_; (case hd => rfl); (case hg => rfl); (case hr => first | (go_simp; done) | (go_simp; rfl)); intro g1 hg w1 hbox hb; have G1 := Aside0.mk (show w.heap.size ≤ g1 from (by rw [hg]; exact HB.out.size)); have B1 := Aside0.mk hbox; clear hbox hg; have n0_ := Aside0.mk (below_then HB.out HB.out.size hb); clear HB; have HB := n0_; clear n0_; clear hb) | ((with_reducible refine gate_dst (N := 3) rfl ?_); refine box_event ?hg (N := 3) ?hd (cs := #[.int .i64 0, .string ⟨#[]⟩, .bool false]) (t := 80) ?hr ?_; (case hd => rfl); (case hg => rfl); (case hr => first | (go_simp; done) | (go_simp; rfl)); intro g3 hg w2 hbox hb; have G3 := Aside0.mk (show w.heap.size ≤ g3 from (by rw [hg]; exact HB.out.size)); have H13 := Aside0.mk (show g1 ≠ g3 from fun e => absurd (blk_lt B1.out) (by omega)); have B3 := Aside0.mk hbox; clear hbox hg; have n0_ := Aside0.mk (below_then HB.out HB.out.size hb); have n1_ := Aside0.mk ((hb.block _ (blk_lt B1.out)).trans B1.out); clear HB B1; have HB := n0_; have B1 := n1_; clear n0_ n1_; clear hb; have c10 := (blk_cell B1.out 0).trans rfl; have c11 := (blk_cell B1.out 1).trans rfl) | ((with_reducible refine gate_dst (N := 29) rfl ?_); refine conv_event ?hg (N := 29) ?hd tail (by omega) ?hr ?_; (case hd => rfl); (case hg => rfl); (case hr => first | (go_simp; done) | (go_simp; rfl)); intro v29 w3 hv29 hrow hb; have n0_ := Aside0.mk (below_then HB.out HB.out.size hb); have n1_ := Aside0.mk ((hb.block _ (blk_lt B1.out)).trans B1.out); have n2_ := Aside0.mk ((hb.block _ (blk_lt B3.out)).trans B3.out); clear HB B1 B3; have HB := n0_; have B1 := n1_; have B3 := n2_; clear n0_ n1_ n2_; obtain ⟨gv, capv, rfl, _, _, hcv⟩ := hrow.reads; have HCV := Aside0.mk hcv; have c30 := (blk_cell B1.out 0).trans rfl; have c31 := (blk_cell B1.out 1).trans rfl; clear hrow hb hv29 hcv) | (go_at_call 33; go_must (refine (NewReader.calls _ capv (bytesOf tail) w3 HCV.out (by rw [bytesOf_length]; omega)).mono ?_); rintro e w4 ⟨gr, Ar, cr, rfl, hgr, hrd, hb⟩; have LR := Aside0.mk hgr; have LB1 := Aside0.mk (blk_lt B1.out); have LB3 := Aside0.mk (blk_lt B3.out); have LBW := Aside0.mk HB.out.size; have n0_ := Aside0.mk (below_then HB.out HB.out.size hb); have n1_ := Aside0.mk ((hb.block _ (blk_lt B1.out)).trans B1.out); have n2_ := Aside0.mk ((hb.block _ (blk_lt B3.out)).trans B3.out); clear HB B1 B3; have HB := n0_; have B1 := n1_; have B3 := n2_; clear n0_ n1_ n2_; have RD := Aside0.mk hrd; have c40 := (blk_cell B1.out 0).trans rfl; have c41 := (blk_cell B1.out 1).trans rfl; clear hgr hrd hb) | (go_at_call 34; go_must (refine (I64.calls gr Ar cr (bytesOf tail) 0 w4 RD.out (by omega) (by rw [bytesOf_length]; omega)).mono ?_); rintro e w5 ⟨rfl, hb⟩; have n0_ := Aside0.mk (HB.out.trans (hb.mono (Nat.le_trans LBW.out LR.out))); have n1_ := Aside0.mk ((hb.block _ (Nat.lt_of_lt_of_le LB1.out LR.out)).trans B1.out); have n2_ := Aside0.mk ((hb.block _ (Nat.lt_of_lt_of_le LB3.out LR.out)).trans B3.out); clear HB B1 B3 hb; have HB := n0_; have B1 := n1_; have B3 := n2_; clear n0_ n1_ n2_; have c50 := (blk_cell B1.out 0).trans rfl; have c51 := (blk_cell B1.out 1).trans rfl; have c52 := (blk_cell B3.out 0).trans rfl; have c53 := (blk_cell B3.out 1).trans rfl; have c54 := (blk_cell B3.out 2).trans rfl; have f52 := blk_frozen B3.out 0; have f53 := blk_frozen B3.out 1; have f54 := blk_frozen B3.out 2; rw [HT.out]) | ((with_reducible refine gate_store (t := 80) (p := 3) (v := .tmp 38) rfl ?_); go_must (refine sagg_event rfl 80 (.tmp 3) (.tmp 38) rfl rfl g3 #[.int .i64 0, .string ⟨#[]⟩, .bool false] _ _ rfl rfl B3.out (by kernel_rfl) rfl rfl ?_); intro w8 hbk hu; have n0_ := Aside0.mk (hu.below HB.out G3.out); clear HB; have HB := n0_; clear n0_; clear B3; have B3 := Aside0.mk hbk; have c80 := (blk_cell B3.out 0).trans rfl; have c81 := (blk_cell B3.out 1).trans rfl; have c82 := (blk_cell B3.out 2).trans rfl; clear hbk hu))
  go_region
  go_wp2
  refine bodyPost_ret (v := .tuple #[.string (p.f0.extract 0 ((p.f0.size : Int) - 8).toNat), .agg #[.int .i64 (1152921504606846976 - t), .string (p.f1.extract 1 p.f1.size), .bool (bt p.f1 0 == 0)], .bool true]) ?_ rfl ?_
  · simp [results, Try.results59, go_sem, c52, c53, c54]
    rw [show ((p.f0.size : Int) - 8).toNat = p.f0.size - 8 by omega]
  · refine ⟨rfl, ?_⟩
    repeat (first | exact HB.out | refine below_drew ?_ | refine Below.setCell ?_ G3.out _)
def noVersion : Ending := .returned (.tuple #[.string ⟨#[]⟩, .agg #[.int .i64 0, .string ⟨#[]⟩, .bool false], .bool false])
set_option maxHeartbeats 4000000 in
set_option maxRecDepth 100000 in
theorem version_short.calls (p : S69) (w : World) (hk : p.f0.size ≤ 140737488351232) (hv : p.f1.size ≤ 140737488351232) (h8 : p.f0.size < 8 ∨ p.f1.size = 0 ∨ (0 < p.f1.size ∧ 1 < bt p.f1 0)) :
    Calls Try.prog 59 #[.agg #[.string p.f0, .string p.f1]] w fun e w' => e = noVersion ∧ Below w.heap.size w w' := by
  unfold noVersion
  have HB := Aside0.mk (Below.refl w.heap.size w)
  by_cases c1 : p.f0.size < 8
  · have d1 : decide ((p.f0.size : Int) - 8 < 0) = true := decide_eq_true (by omega)
    clear h8
    go_enter Try.func59, Try.ntmps59
    go_wp2_with (first | ((with_reducible refine gate_dst (N := 1) rfl ?_); refine box_event ?hg (N := 1) ?hd (cs := #[.string p.f0, .string p.f1]) (t := 69) ?hr ?_; (case hd => rfl); (case hg => rfl); (case hr => first | (go_simp; done) | (go_simp; rfl)); intro g1 hg w1 hbox hb; have G1 := Aside0.mk (show w.heap.size ≤ g1 from (by rw [hg]; exact HB.out.size)); have B1 := Aside0.mk hbox; clear hbox hg; have n0_ := Aside0.mk (below_then HB.out HB.out.size hb); clear HB; have HB := n0_; clear n0_; clear hb) | ((with_reducible refine gate_dst (N := 3) rfl ?_); refine box_event ?hg (N := 3) ?hd (cs := #[.int .i64 0, .string ⟨#[]⟩, .bool false]) (t := 80) ?hr ?_; (case hd => rfl); (case hg => rfl); (case hr => first | (go_simp; done) | (go_simp; rfl)); intro g3 hg w2 hbox hb; have G3 := Aside0.mk (show w.heap.size ≤ g3 from (by rw [hg]; exact HB.out.size)); have H13 := Aside0.mk (show g1 ≠ g3 from fun e => absurd (blk_lt B1.out) (by omega)); have B3 := Aside0.mk hbox; clear hbox hg; have n0_ := Aside0.mk (below_then HB.out HB.out.size hb); have n1_ := Aside0.mk ((hb.block _ (blk_lt B1.out)).trans B1.out); clear HB B1; have HB := n0_; have B1 := n1_; clear n0_ n1_; clear hb; have c10 := (blk_cell B1.out 0).trans rfl; have c11 := (blk_cell B1.out 1).trans rfl) | ((with_reducible refine gate_store (t := 80) (p := 3) (v := .tmp 24) rfl ?_); go_must (refine sagg_event rfl 80 (.tmp 3) (.tmp 24) rfl rfl g3 #[.int .i64 0, .string ⟨#[]⟩, .bool false] _ _ rfl rfl B3.out (by kernel_rfl) rfl rfl ?_); intro w8 hbk hu; have n0_ := Aside0.mk (hu.below HB.out G3.out); clear HB; have HB := n0_; clear n0_; clear B3; have B3 := Aside0.mk hbk; have c80 := (blk_cell B3.out 0).trans rfl; have c81 := (blk_cell B3.out 1).trans rfl; have c82 := (blk_cell B3.out 2).trans rfl; clear hbk hu))
    refine bodyPost_ret (v := .tuple #[.string ⟨#[]⟩, .agg #[.int .i64 0, .string ⟨#[]⟩, .bool false], .bool false]) ?_ rfl ⟨rfl, HB.out⟩
    simp [results, Try.results59, go_sem, c80, c81, c82]
  have d1 : decide ((p.f0.size : Int) - 8 < 0) = false := decide_eq_false (by omega)
  by_cases c2 : p.f1.size = 0
  · have hne2 : (p.f1.toList == ([] : List UInt8)) = true := by
      rw [beq_iff_eq, Lib.toList_data]; exact List.eq_nil_of_length_eq_zero (by rw [data_length]; exact c2)
    clear h8 c2
    go_enter Try.func59, Try.ntmps59
    go_wp2_with (first | ((with_reducible refine gate_dst (N := 1) rfl ?_); refine box_event ?hg (N := 1) ?hd (cs := #[.string p.f0, .string p.f1]) (t := 69) ?hr ?_; (case hd => rfl); (case hg => rfl); (case hr => first | (go_simp; done) | (go_simp; rfl)); intro g1 hg w1 hbox hb; have G1 := Aside0.mk (show w.heap.size ≤ g1 from (by rw [hg]; exact HB.out.size)); have B1 := Aside0.mk hbox; clear hbox hg; have n0_ := Aside0.mk (below_then HB.out HB.out.size hb); clear HB; have HB := n0_; clear n0_; clear hb) | ((with_reducible refine gate_dst (N := 3) rfl ?_); refine box_event ?hg (N := 3) ?hd (cs := #[.int .i64 0, .string ⟨#[]⟩, .bool false]) (t := 80) ?hr ?_; (case hd => rfl); (case hg => rfl); (case hr => first | (go_simp; done) | (go_simp; rfl)); intro g3 hg w2 hbox hb; have G3 := Aside0.mk (show w.heap.size ≤ g3 from (by rw [hg]; exact HB.out.size)); have H13 := Aside0.mk (show g1 ≠ g3 from fun e => absurd (blk_lt B1.out) (by omega)); have B3 := Aside0.mk hbox; clear hbox hg; have n0_ := Aside0.mk (below_then HB.out HB.out.size hb); have n1_ := Aside0.mk ((hb.block _ (blk_lt B1.out)).trans B1.out); clear HB B1; have HB := n0_; have B1 := n1_; clear n0_ n1_; clear hb; have c10 := (blk_cell B1.out 0).trans rfl; have c11 := (blk_cell B1.out 1).trans rfl) | ((with_reducible refine gate_store (t := 80) (p := 3) (v := .tmp 24) rfl ?_); go_must (refine sagg_event rfl 80 (.tmp 3) (.tmp 24) rfl rfl g3 #[.int .i64 0, .string ⟨#[]⟩, .bool false] _ _ rfl rfl B3.out (by kernel_rfl) rfl rfl ?_); intro w8 hbk hu; have n0_ := Aside0.mk (hu.below HB.out G3.out); clear HB; have HB := n0_; clear n0_; clear B3; have B3 := Aside0.mk hbk; have c80 := (blk_cell B3.out 0).trans rfl; have c81 := (blk_cell B3.out 1).trans rfl; have c82 := (blk_cell B3.out 2).trans rfl; clear hbk hu))
    refine bodyPost_ret (v := .tuple #[.string ⟨#[]⟩, .agg #[.int .i64 0, .string ⟨#[]⟩, .bool false], .bool false]) ?_ rfl ⟨rfl, HB.out⟩
    simp [results, Try.results59, go_sem, c80, c81, c82]
  have hne : 0 < p.f1.size := by omega
  have hbt : ((p.f1[0]'hne).toNat : Int) = bt p.f1 0 := bt_at p.f1 0 hne
  have d2 : decide (1 < bt p.f1 0) = true := decide_eq_true (by omega)
  have hne2 : (p.f1.toList == ([] : List UInt8)) = false := by
    rw [beq_eq_false_iff_ne]; intro h; have h2 : p.f1.data.toList.length = 0 := by { rw [← Lib.toList_data, h]; rfl }; rw [data_length] at h2; omega
  clear h8
  go_enter Try.func59, Try.ntmps59
  go_wp2_with (first | ((with_reducible refine gate_dst (N := 1) rfl ?_); refine box_event ?hg (N := 1) ?hd (cs := #[.string p.f0, .string p.f1]) (t := 69) ?hr ?_; (case hd => rfl); (case hg => rfl); (case hr => first | (go_simp; done) | (go_simp; rfl)); intro g1 hg w1 hbox hb; have G1 := Aside0.mk (show w.heap.size ≤ g1 from (by rw [hg]; exact HB.out.size)); have B1 := Aside0.mk hbox; clear hbox hg; have n0_ := Aside0.mk (below_then HB.out HB.out.size hb); clear HB; have HB := n0_; clear n0_; clear hb) | ((with_reducible refine gate_dst (N := 3) rfl ?_); refine box_event ?hg (N := 3) ?hd (cs := #[.int .i64 0, .string ⟨#[]⟩, .bool false]) (t := 80) ?hr ?_; (case hd => rfl); (case hg => rfl); (case hr => first | (go_simp; done) | (go_simp; rfl)); intro g3 hg w2 hbox hb; have G3 := Aside0.mk (show w.heap.size ≤ g3 from (by rw [hg]; exact HB.out.size)); have H13 := Aside0.mk (show g1 ≠ g3 from fun e => absurd (blk_lt B1.out) (by omega)); have B3 := Aside0.mk hbox; clear hbox hg; have n0_ := Aside0.mk (below_then HB.out HB.out.size hb); have n1_ := Aside0.mk ((hb.block _ (blk_lt B1.out)).trans B1.out); clear HB B1; have HB := n0_; have B1 := n1_; clear n0_ n1_; clear hb; have c10 := (blk_cell B1.out 0).trans rfl; have c11 := (blk_cell B1.out 1).trans rfl) | ((with_reducible refine gate_store (t := 80) (p := 3) (v := .tmp 24) rfl ?_); go_must (refine sagg_event rfl 80 (.tmp 3) (.tmp 24) rfl rfl g3 #[.int .i64 0, .string ⟨#[]⟩, .bool false] _ _ rfl rfl B3.out (by kernel_rfl) rfl rfl ?_); intro w8 hbk hu; have n0_ := Aside0.mk (hu.below HB.out G3.out); clear HB; have HB := n0_; clear n0_; clear B3; have B3 := Aside0.mk hbk; have c80 := (blk_cell B3.out 0).trans rfl; have c81 := (blk_cell B3.out 1).trans rfl; have c82 := (blk_cell B3.out 2).trans rfl; clear hbk hu))
  refine bodyPost_ret (v := .tuple #[.string ⟨#[]⟩, .agg #[.int .i64 0, .string ⟨#[]⟩, .bool false], .bool false]) ?_ rfl ⟨rfl, HB.out⟩
  simp [results, Try.results59, go_sem, c80, c81, c82]
set_option maxHeartbeats 4000000 in
set_option maxRecDepth 100000 in
theorem version_time.calls (p : S69) (t : Int) (tail : ByteArray) (w : World) (hk : p.f0.size ≤ 140737488351232) (hv : p.f1.size ≤ 140737488351232) (h8 : 8 ≤ p.f0.size) (hne : 0 < p.f1.size) (hb0 : bt p.f1 0 ≤ 1)
    (htail : p.f0.extract ((p.f0.size : Int) - 8).toNat p.f0.size = tail) (htl : tail.size = 8) (ht : wrap64 (be (bytesOf tail)) = t) (h1 : t < 0 ∨ 1152921504606846976 ≤ t) :
    Calls Try.prog 59 #[.agg #[.string p.f0, .string p.f1]] w fun e w' => e = noVersion ∧ Below w.heap.size w w' := by
  unfold noVersion
  have HB := Aside0.mk (Below.refl w.heap.size w)
  have hbt : ((p.f1[0]'hne).toNat : Int) = bt p.f1 0 := bt_at p.f1 0 hne
  have d1 : decide ((p.f0.size : Int) - 8 < 0) = false := decide_eq_false (by omega)
  have d2 : decide (1 < bt p.f1 0) = false := decide_eq_false (by omega)
  have hne2 : (p.f1.toList == ([] : List UInt8)) = false := by
    rw [beq_eq_false_iff_ne]; intro h; have h2 : p.f1.data.toList.length = 0 := by { rw [← Lib.toList_data, h]; rfl }; rw [data_length] at h2; omega
  have HT := Aside0.mk (show wrap64 (be (((bytesOf tail).take ((0 : Int) + 8).toNat).drop (0 : Int).toNat)) = t from by simp only [Int.zero_add, Int.toNat_zero, List.drop_zero]; rw [List.take_of_length_le (by rw [bytesOf_length]; simp; omega)]; exact ht)
  have HTL := Aside0.mk htail
  have kb := fun W => print_bytes (P := Try.prog) 9 72 5 Try.underlying9 Try.underlying72 Try.underlying5 tail W
  have htl1 : tail.size ≤ 8 := by omega
  have htl2 : 8 ≤ tail.size := by omega
  clear htl ht
  by_cases c3 : t < 0
  · have d3 : decide (t < 0) = true := decide_eq_true c3
    clear h1
    go_enter Try.func59, Try.ntmps59
    go_wp2_with (first | ((with_reducible refine gate_dst (N := 1) rfl ?_); refine box_event ?hg (N := 1) ?hd (cs := #[.string p.f0, .string p.f1]) (t := 69) ?hr ?_; (case hd => rfl); (case hg => rfl); (case hr => first | (go_simp; done) | (go_simp; rfl)); intro g1 hg w1 hbox hb; have G1 := Aside0.mk (show w.heap.size ≤ g1 from (by rw [hg]; exact HB.out.size)); have B1 := Aside0.mk hbox; clear hbox hg; have n0_ := Aside0.mk (below_then HB.out HB.out.size hb); clear HB; have HB := n0_; clear n0_; clear hb) | ((with_reducible refine gate_dst (N := 3) rfl ?_); refine box_event ?hg (N := 3) ?hd (cs := #[.int .i64 0, .string ⟨#[]⟩, .bool false]) (t := 80) ?hr ?_; (case hd => rfl); (case hg => rfl); (case hr => first | (go_simp; done) | (go_simp; rfl)); intro g3 hg w2 hbox hb; have G3 := Aside0.mk (show w.heap.size ≤ g3 from (by rw [hg]; exact HB.out.size)); have H13 := Aside0.mk (show g1 ≠ g3 from fun e => absurd (blk_lt B1.out) (by omega)); have B3 := Aside0.mk hbox; clear hbox hg; have n0_ := Aside0.mk (below_then HB.out HB.out.size hb); have n1_ := Aside0.mk ((hb.block _ (blk_lt B1.out)).trans B1.out); clear HB B1; have HB := n0_; have B1 := n1_; clear n0_ n1_; clear hb; have c10 := (blk_cell B1.out 0).trans rfl; have c11 := (blk_cell B1.out 1).trans rfl) | ((with_reducible refine gate_dst (N := 29) rfl ?_); refine conv_event ?hg (N := 29) ?hd tail (by omega) ?hr ?_; (case hd => rfl); (case hg => rfl); (case hr => first | (go_simp; done) | (go_simp; rfl)); intro v29 w3 hv29 hrow hb; have n0_ := Aside0.mk (below_then HB.out HB.out.size hb); have n1_ := Aside0.mk ((hb.block _ (blk_lt B1.out)).trans B1.out); have n2_ := Aside0.mk ((hb.block _ (blk_lt B3.out)).trans B3.out); clear HB B1 B3; have HB := n0_; have B1 := n1_; have B3 := n2_; clear n0_ n1_ n2_; obtain ⟨gv, capv, rfl, _, _, hcv⟩ := hrow.reads; have HCV := Aside0.mk hcv; have c30 := (blk_cell B1.out 0).trans rfl; have c31 := (blk_cell B1.out 1).trans rfl; clear hrow hb hv29 hcv) | (go_at_call 33; go_must (refine (NewReader.calls _ capv (bytesOf tail) w3 HCV.out (by rw [bytesOf_length]; omega)).mono ?_); rintro e w4 ⟨gr, Ar, cr, rfl, hgr, hrd, hb⟩; have LR := Aside0.mk hgr; have LB1 := Aside0.mk (blk_lt B1.out); have LB3 := Aside0.mk (blk_lt B3.out); have LBW := Aside0.mk HB.out.size; have n0_ := Aside0.mk (below_then HB.out HB.out.size hb); have n1_ := Aside0.mk ((hb.block _ (blk_lt B1.out)).trans B1.out); have n2_ := Aside0.mk ((hb.block _ (blk_lt B3.out)).trans B3.out); clear HB B1 B3; have HB := n0_; have B1 := n1_; have B3 := n2_; clear n0_ n1_ n2_; have RD := Aside0.mk hrd; have c40 := (blk_cell B1.out 0).trans rfl; have c41 := (blk_cell B1.out 1).trans rfl; clear hgr hrd hb) | (go_at_call 34; go_must (refine (I64.calls gr Ar cr (bytesOf tail) 0 w4 RD.out (by omega) (by rw [bytesOf_length]; omega)).mono ?_); rintro e w5 ⟨rfl, hb⟩; have n0_ := Aside0.mk (HB.out.trans (hb.mono (Nat.le_trans LBW.out LR.out))); have n1_ := Aside0.mk ((hb.block _ (Nat.lt_of_lt_of_le LB1.out LR.out)).trans B1.out); have n2_ := Aside0.mk ((hb.block _ (Nat.lt_of_lt_of_le LB3.out LR.out)).trans B3.out); clear HB B1 B3 hb; have HB := n0_; have B1 := n1_; have B3 := n2_; clear n0_ n1_ n2_; have c50 := (blk_cell B1.out 0).trans rfl; have c51 := (blk_cell B1.out 1).trans rfl; have c52 := (blk_cell B3.out 0).trans rfl; have c53 := (blk_cell B3.out 1).trans rfl; have c54 := (blk_cell B3.out 2).trans rfl; have f52 := blk_frozen B3.out 0; have f53 := blk_frozen B3.out 1; have f54 := blk_frozen B3.out 2; rw [HT.out]) | ((with_reducible refine gate_store (t := 80) (p := 3) (v := .tmp 38) rfl ?_); go_must (refine sagg_event rfl 80 (.tmp 3) (.tmp 38) rfl rfl g3 #[.int .i64 0, .string ⟨#[]⟩, .bool false] _ _ rfl rfl B3.out (by kernel_rfl) rfl rfl ?_); intro w8 hbk hu; have n0_ := Aside0.mk (hu.below HB.out G3.out); clear HB; have HB := n0_; clear n0_; clear B3; have B3 := Aside0.mk hbk; have c80 := (blk_cell B3.out 0).trans rfl; have c81 := (blk_cell B3.out 1).trans rfl; have c82 := (blk_cell B3.out 2).trans rfl; clear hbk hu))
    refine bodyPost_ret (v := .tuple #[.string ⟨#[]⟩, .agg #[.int .i64 0, .string ⟨#[]⟩, .bool false], .bool false]) ?_ rfl ⟨rfl, HB.out⟩
    simp [results, Try.results59, go_sem, c80, c81, c82]
  · have d3 : decide (t < 0) = false := decide_eq_false c3
    have d4 : decide (1152921504606846976 ≤ t) = true := decide_eq_true (by omega)
    clear h1
    go_enter Try.func59, Try.ntmps59
    go_wp2_with (first | ((with_reducible refine gate_dst (N := 1) rfl ?_); refine box_event ?hg (N := 1) ?hd (cs := #[.string p.f0, .string p.f1]) (t := 69) ?hr ?_; (case hd => rfl); (case hg => rfl); (case hr => first | (go_simp; done) | (go_simp; rfl)); intro g1 hg w1 hbox hb; have G1 := Aside0.mk (show w.heap.size ≤ g1 from (by rw [hg]; exact HB.out.size)); have B1 := Aside0.mk hbox; clear hbox hg; have n0_ := Aside0.mk (below_then HB.out HB.out.size hb); clear HB; have HB := n0_; clear n0_; clear hb) | ((with_reducible refine gate_dst (N := 3) rfl ?_); refine box_event ?hg (N := 3) ?hd (cs := #[.int .i64 0, .string ⟨#[]⟩, .bool false]) (t := 80) ?hr ?_; (case hd => rfl); (case hg => rfl); (case hr => first | (go_simp; done) | (go_simp; rfl)); intro g3 hg w2 hbox hb; have G3 := Aside0.mk (show w.heap.size ≤ g3 from (by rw [hg]; exact HB.out.size)); have H13 := Aside0.mk (show g1 ≠ g3 from fun e => absurd (blk_lt B1.out) (by omega)); have B3 := Aside0.mk hbox; clear hbox hg; have n0_ := Aside0.mk (below_then HB.out HB.out.size hb); have n1_ := Aside0.mk ((hb.block _ (blk_lt B1.out)).trans B1.out); clear HB B1; have HB := n0_; have B1 := n1_; clear n0_ n1_; clear hb; have c10 := (blk_cell B1.out 0).trans rfl; have c11 := (blk_cell B1.out 1).trans rfl) | ((with_reducible refine gate_dst (N := 29) rfl ?_); refine conv_event ?hg (N := 29) ?hd tail (by omega) ?hr ?_; (case hd => rfl); (case hg => rfl); (case hr => first | (go_simp; done) | (go_simp; rfl)); intro v29 w3 hv29 hrow hb; have n0_ := Aside0.mk (below_then HB.out HB.out.size hb); have n1_ := Aside0.mk ((hb.block _ (blk_lt B1.out)).trans B1.out); have n2_ := Aside0.mk ((hb.block _ (blk_lt B3.out)).trans B3.out); clear HB B1 B3; have HB := n0_; have B1 := n1_; have B3 := n2_; clear n0_ n1_ n2_; obtain ⟨gv, capv, rfl, _, _, hcv⟩ := hrow.reads; have HCV := Aside0.mk hcv; have c30 := (blk_cell B1.out 0).trans rfl; have c31 := (blk_cell B1.out 1).trans rfl; clear hrow hb hv29 hcv) | (go_at_call 33; go_must (refine (NewReader.calls _ capv (bytesOf tail) w3 HCV.out (by rw [bytesOf_length]; omega)).mono ?_); rintro e w4 ⟨gr, Ar, cr, rfl, hgr, hrd, hb⟩; have LR := Aside0.mk hgr; have LB1 := Aside0.mk (blk_lt B1.out); have LB3 := Aside0.mk (blk_lt B3.out); have LBW := Aside0.mk HB.out.size; have n0_ := Aside0.mk (below_then HB.out HB.out.size hb); have n1_ := Aside0.mk ((hb.block _ (blk_lt B1.out)).trans B1.out); have n2_ := Aside0.mk ((hb.block _ (blk_lt B3.out)).trans B3.out); clear HB B1 B3; have HB := n0_; have B1 := n1_; have B3 := n2_; clear n0_ n1_ n2_; have RD := Aside0.mk hrd; have c40 := (blk_cell B1.out 0).trans rfl; have c41 := (blk_cell B1.out 1).trans rfl; clear hgr hrd hb) | (go_at_call 34; go_must (refine (I64.calls gr Ar cr (bytesOf tail) 0 w4 RD.out (by omega) (by rw [bytesOf_length]; omega)).mono ?_); rintro e w5 ⟨rfl, hb⟩; have n0_ := Aside0.mk (HB.out.trans (hb.mono (Nat.le_trans LBW.out LR.out))); have n1_ := Aside0.mk ((hb.block _ (Nat.lt_of_lt_of_le LB1.out LR.out)).trans B1.out); have n2_ := Aside0.mk ((hb.block _ (Nat.lt_of_lt_of_le LB3.out LR.out)).trans B3.out); clear HB B1 B3 hb; have HB := n0_; have B1 := n1_; have B3 := n2_; clear n0_ n1_ n2_; have c50 := (blk_cell B1.out 0).trans rfl; have c51 := (blk_cell B1.out 1).trans rfl; have c52 := (blk_cell B3.out 0).trans rfl; have c53 := (blk_cell B3.out 1).trans rfl; have c54 := (blk_cell B3.out 2).trans rfl; have f52 := blk_frozen B3.out 0; have f53 := blk_frozen B3.out 1; have f54 := blk_frozen B3.out 2; rw [HT.out]) | ((with_reducible refine gate_store (t := 80) (p := 3) (v := .tmp 38) rfl ?_); go_must (refine sagg_event rfl 80 (.tmp 3) (.tmp 38) rfl rfl g3 #[.int .i64 0, .string ⟨#[]⟩, .bool false] _ _ rfl rfl B3.out (by kernel_rfl) rfl rfl ?_); intro w8 hbk hu; have n0_ := Aside0.mk (hu.below HB.out G3.out); clear HB; have HB := n0_; clear n0_; clear B3; have B3 := Aside0.mk hbk; have c80 := (blk_cell B3.out 0).trans rfl; have c81 := (blk_cell B3.out 1).trans rfl; have c82 := (blk_cell B3.out 2).trans rfl; clear hbk hu))
    refine bodyPost_ret (v := .tuple #[.string ⟨#[]⟩, .agg #[.int .i64 0, .string ⟨#[]⟩, .bool false], .bool false]) ?_ rfl ⟨rfl, HB.out⟩
    simp [results, Try.results59, go_sem, c80, c81, c82]
end Go.Proofs.Ytehcmedeeaoebaa.PB
end
section
namespace Go.Proofs.Ytehcmedeeaoebaa.PB
open Go.RowKit Go.Proofs.YtehcmedeeaoebaaW.PrintWords Go.Proofs.YtehcmedeeaoebaaW.PrintLast Go.Proofs.YtehcmedeeaoebaaW.PrintMore
set_option linter.unusedVariables false
set_option linter.unusedSimpArgs false
def versionP (p : S69) : Option (ByteArray × S80) :=
  if p.f0.size < 8 ∨ p.f1.size = 0 then none else if 1 < bt p.f1 0 then none else
    if wrap64 (be (bytesOf (p.f0.extract ((p.f0.size : Int) - 8).toNat p.f0.size))) < 0 ∨ 1152921504606846976 ≤ wrap64 (be (bytesOf (p.f0.extract ((p.f0.size : Int) - 8).toNat p.f0.size))) then none
    else some (p.f0.extract 0 ((p.f0.size : Int) - 8).toNat, ⟨1152921504606846976 - wrap64 (be (bytesOf (p.f0.extract ((p.f0.size : Int) - 8).toNat p.f0.size))), p.f1.extract 1 p.f1.size, bt p.f1 0 == 0⟩)
theorem version_some.calls (p : S69) (key : ByteArray) (v : S80) (w : World) (hk : p.f0.size ≤ 140737488351232) (hv : p.f1.size ≤ 140737488351232) (h : versionP p = some (key, v)) :
    Calls Try.prog 59 #[.agg #[.string p.f0, .string p.f1]] w fun e w' => e = .returned (.tuple #[.string key, .agg #[.int .i64 v.f0, .string v.f1, .bool v.f2], .bool true]) ∧ Below w.heap.size w w' := by
  unfold versionP at h
  by_cases c1 : p.f0.size < 8 ∨ p.f1.size = 0
  · rw [if_pos c1] at h; cases h
  by_cases c2 : 1 < bt p.f1 0
  · rw [if_neg c1, if_pos c2] at h; cases h
  by_cases c3 : wrap64 (be (bytesOf (p.f0.extract ((p.f0.size : Int) - 8).toNat p.f0.size))) < 0 ∨ 1152921504606846976 ≤ wrap64 (be (bytesOf (p.f0.extract ((p.f0.size : Int) - 8).toNat p.f0.size)))
  · rw [if_neg c1, if_neg c2, if_pos c3] at h; cases h
  rw [if_neg c1, if_neg c2, if_neg c3] at h
  obtain ⟨rfl, rfl⟩ := Prod.mk.inj (Option.some.inj h)
  exact version_ok.calls p _ _ w hk hv (by omega) (by omega) (by omega) rfl (by rw [ByteArray.size_extract]; omega) rfl (by omega) (by omega)
theorem version_none.calls (p : S69) (w : World) (hk : p.f0.size ≤ 140737488351232) (hv : p.f1.size ≤ 140737488351232) (h : versionP p = none) :
    Calls Try.prog 59 #[.agg #[.string p.f0, .string p.f1]] w fun e w' => e = noVersion ∧ Below w.heap.size w w' := by
  unfold versionP at h
  by_cases c1 : p.f0.size < 8 ∨ p.f1.size = 0
  · exact version_short.calls p w hk hv (by omega)
  by_cases c2 : 1 < bt p.f1 0
  · exact version_short.calls p w hk hv (Or.inr (Or.inr ⟨by omega, c2⟩))
  by_cases c3 : wrap64 (be (bytesOf (p.f0.extract ((p.f0.size : Int) - 8).toNat p.f0.size))) < 0 ∨ 1152921504606846976 ≤ wrap64 (be (bytesOf (p.f0.extract ((p.f0.size : Int) - 8).toNat p.f0.size)))
  · exact version_time.calls p _ _ w hk hv (by omega) (by omega) (by omega) rfl (by rw [ByteArray.size_extract]; omega) rfl (by omega)
  · rw [if_neg c1, if_neg c2, if_neg c3] at h; cases h
def addP : List S67 → ByteArray → S80 → List S67
  | [], key, x => [⟨key, [x]⟩]
  | g :: r, key, x => if (g.f0.toList == key.toList) = true then ⟨key, g.f1 ++ [x]⟩ :: r else g :: addP r key x
def rowP : List S67 → ByteArray → List S80
  | [], _ => []
  | g :: r, key => if (g.f0.toList == key.toList) = true then g.f1 else rowP r key
def pairAt (l : List S69) (i : Nat) : S69 := l.getD i z69
def gatherL (l : List S69) : Nat → Nat → List S67 → Option (List S67)
  | 0, _, A => some A
  | n + 1, i, A => match versionP (pairAt l i) with
    | none => none
    | some (key, v) => if 0 < i ∧ ltS (pairAt l (i - 1)).f0 (pairAt l i).f0 = false then none else gatherL l n (i + 1) (addP A key v)
def itemsL (k : Nat) (A : List S67) : List ByteArray → List S67 → Option (List S67 × Int)
  | [], out => some (out, 0)
  | key :: r, out => (batch_may.f k key (rowP A key)).bind fun b => if b = true then itemsL k A r (out ++ [⟨key, rowP A key⟩]) else some ([], 4)
def fit47 (l : List S69) : Prop := l.length ≤ 1000000000 ∧ ∀ x ∈ l, x.f0.size ≤ 140737488351232 ∧ x.f1.size ≤ 140737488351232
instance (l : List S69) : Decidable (fit47 l) := by unfold fit47; infer_instance
def batch_Items.f (k : Nat) (l : List S69) : Option (List S67 × Int) :=
  if fit47 l then match gatherL l l.length 0 [] with
    | none => some ([], 4)
    | some A => itemsL k A (sortS (A.map (·.f0))) []
  else none
theorem info9 : (Try.prog.info? 9).map (fun i => (i.zero, i.size, i.bytes)) = some (some (.string ⟨#[]⟩), 1, 16) := by kernel_rfl
def plainG (G : List G80) : List S67 := G.map fun g => ⟨g.k, g.vs⟩
theorem plain_put (G : List G80) (key : ByteArray) (v : Value) (x : S80) : plainG (putG G key v (rowG G key ++ [x])) = addP (plainG G) key x := by
  induction G with
  | nil => rfl
  | cons g G ih =>
    by_cases c : (g.k.toList == key.toList) = true
    · rw [rowG, if_pos c, putG, if_pos c]
      show _ = addP (⟨g.k, g.vs⟩ :: plainG G) key x
      rw [addP, if_pos c]; rfl
    · rw [rowG, if_neg c, putG, if_neg c]
      show ⟨g.k, g.vs⟩ :: plainG _ = addP (⟨g.k, g.vs⟩ :: plainG G) key x
      rw [addP, if_neg c, ih]
theorem plain_row (G : List G80) (key : ByteArray) : rowP (plainG G) key = rowG G key := by
  induction G with
  | nil => rfl
  | cons g G ih =>
    show rowP (⟨g.k, g.vs⟩ :: plainG G) key = _
    rw [rowP, rowG, ih]
theorem plain_keys (G : List G80) : (plainG G).map (·.f0) = G.map (·.k) := by unfold plainG; rw [List.map_map]; rfl
theorem keys_put (G : List G80) (key : ByteArray) (v : Value) (vs : List S80) : (putG G key v vs).map (·.k) = if hasG G key = true then G.map (·.k) else G.map (·.k) ++ [key] := by
  induction G with
  | nil => rfl
  | cons g G ih =>
    unfold hasG
    rw [putG, List.any_cons]
    by_cases c : (g.k.toList == key.toList) = true
    · rw [if_pos c, c, Bool.true_or, if_pos rfl, List.map_cons, List.map_cons]
      have : key = g.k := ByteArray.ext (Array.toList_inj.1 (by rw [← Lib.toList_data, ← Lib.toList_data]; exact (eq_of_beq c).symm))
      rw [this]
    · have cf : (g.k.toList == key.toList) = false := by simpa using c
      rw [if_neg c, cf, Bool.false_or, List.map_cons, ih]
      unfold hasG
      split <;> rfl
theorem rows_put (G : List G80) (key : ByteArray) (v : Value) (x : S80) : ∀ k, (rowG (putG G key v (rowG G key ++ [x])) k).length ≤ (rowG G k).length + 1 := by
  intro k
  rw [← plain_row (putG G key v (rowG G key ++ [x])), plain_put, ← plain_row G k]
  induction plainG G with
  | nil =>
    show (if (key.toList == k.toList) = true then [x] else []).length ≤ _
    split <;> simp [rowP]
  | cons g r ih =>
    rw [addP]
    by_cases c : (g.f0.toList == key.toList) = true
    · rw [if_pos c, rowP, rowP]
      by_cases d : (key.toList == k.toList) = true
      · rw [if_pos d, if_pos (by rw [eq_of_beq c]; exact d)]; simp
      · rw [if_neg d, if_neg (by rw [eq_of_beq c]; exact d)]; omega
    · rw [if_neg c, rowP, rowP]
      split
      · omega
      · exact ih
theorem putG_in {G : List G80} {key : ByteArray} {v : Value} {vs : List S80} {x : G80} (h : x ∈ putG G key v vs) : x = ⟨key, v, vs⟩ ∨ x ∈ G := by
  induction G with
  | nil => exact Or.inl (List.mem_singleton.1 h)
  | cons g G ih =>
    rw [putG] at h
    split at h
    · rcases List.mem_cons.1 h with h | h
      · exact Or.inl h
      · exact Or.inr (List.mem_cons_of_mem _ h)
    · rcases List.mem_cons.1 h with h | h
      · exact Or.inr (by rw [h]; exact List.mem_cons_self)
      · rcases ih h with h | h
        · exact Or.inl h
        · exact Or.inr (List.mem_cons_of_mem _ h)
theorem sortS_mem {xs : List ByteArray} {x : ByteArray} : x ∈ sortS xs ↔ x ∈ xs := by
  unfold sortS sortB
  rw [List.mem_map]
  constructor
  · rintro ⟨l, hl, rfl⟩
    obtain ⟨y, hy, rfl⟩ := List.mem_map.1 ((List.mergeSort_perm _ _).mem_iff.1 hl)
    exact hy
  · intro h
    exact ⟨x.data.toList, (List.mergeSort_perm _ _).mem_iff.2 (List.mem_map.2 ⟨x, h, rfl⟩), rfl⟩
theorem str_at {w : World} {A : Option Addr} {n : Nat} {xs : List ByteArray} (h : Kd.C Kd.string w A n xs) (i : Nat) (h1 : i < n) (h2 : i < xs.length) : ∃ ad, A = some ad ∧ w.cell? (ad.add i) = some (.string xs[i]) := by
  obtain ⟨ad, c, e, _, hK, hc⟩ := Kd.C_get h ⟨#[]⟩ (i : Int) (by omega) (by omega)
  have hK' : c = [.string (xs.getD (i : Int).toNat ⟨#[]⟩)] := hK
  subst hK'
  refine ⟨ad, e, ?_⟩
  have := hc 0 _ rfl
  rw [Int.toNat_natCast, List.getD_eq_getElem?_getD, List.getElem?_eq_getElem h2] at this
  simpa [Kd.string, Kd.scalar] using this
theorem keys_own {w : World} {base : Nat} {v : Value} {xs : List ByteArray} (h : Kd.R Kd.string 9 w base (fun _ => True) v xs) : w.ownsRow base 9 1 v xs.length (encs Value.string xs) := Kd.own_of_R h
theorem keys_of {w : World} {base : Nat} {v : Value} {xs : List ByteArray} (h : w.ownsRow base 9 1 v xs.length (encs Value.string xs)) : Kd.R Kd.string 9 w base (fun _ => True) v xs := Kd.R_of_own h (fun _ _ => trivial)
theorem keys_kept {w w' : World} {base : Nat} {v : Value} {xs : List ByteArray} {row : Option Nat} (h : Kd.R Kd.string 9 w base (fun _ => True) v xs) (hg : w.grownBy w' row) (hne : ∀ b, row = some b → ∀ cells, w.heap[b]? ≠ some (.cells cells 9 (0, 0))) : Kd.R Kd.string 9 w' base (fun _ => True) v xs := by
  refine Kd.R_mono (Kd.R_grown (ok := fun k => some k = v.ownBlock) (Kd.R_flat (fun hd => hd) h (fun k hk _ => hk.symm)) hg (fun k hk e => ?_)) (fun _ _ => trivial)
  obtain ⟨inner, ho⟩ := Kd.R_own h
  obtain ⟨cells, hc⟩ := own_typed ho k hk.symm
  exact hne k e.symm cells hc
theorem rdT69_at (l : List S69) (i : Nat) : rd_T69 l (i : Int) = pairAt l i := by simp [rd_T69, pairAt]
set_option maxHeartbeats 16000000 in
set_option maxRecDepth 100000 in
theorem batch_Items.calls (k : Nat) (A0 : Option Addr) (c0 : Nat) (l0 : List S69) (r1 : List S67) (r2 : Int) (w : World) (hr0 : Kd.C k69 w A0 l0.length l0) (hc0 : l0.length ≤ c0) (h : batch_Items.f k l0 = some (r1, r2)) :
    Calls Try.prog 30 #[.slice A0 l0.length c0] w fun e w' => ∃ v0_ : Value, e = .returned (.tuple #[v0_, .int .i64 r2]) ∧ Kd.R k67 67 w' w.heap.size (fun _ => True) v0_ r1 ∧ Below w.heap.size w w' := by
  unfold batch_Items.f at h
  by_cases hfit : fit47 l0
  case neg => rw [if_neg hfit] at h; cases h
  rw [if_pos hfit] at h
  have HFIT := Aside0.mk hfit
  have HC := Aside0.mk hr0
  have HH := Aside0.mk h
  have HB := Aside0.mk (Below.refl w.heap.size w)
  have hlen : (l0.length : Int) ≤ 1000000000 := by have := hfit.1; omega
  clear hr0 hc0 h hfit
  have hmm := @run_makeMap Try.prog
  go_enter Try.func30, Try.ntmps30
  go_wp2
  clear hmm
  go_loopg [5, 20] l0.length (fun gg s5 s20 wr => ∃ (i : Nat) (G : List G80), i ≤ l0.length ∧ l0.length - i ≤ gg ∧ s20 = .int .i64 i ∧ Aside0 (Below w.heap.size w wr) ∧ Aside0 (Grp wr w.heap.size w.heap.size i G) ∧ Aside0 (Kd.R Kd.string 9 wr w.heap.size (fun _ => True) s5 (G.map (·.k))) ∧ Aside0 ((∀ k, (rowG G k).length ≤ i) ∧ G.length ≤ i ∧ (∀ g ∈ G, g.k.size ≤ 9223372036854775807) ∧ gatherL l0 (l0.length - i) i (plainG G) = gatherL l0 l0.length 0 []))
  case atStart => exact ⟨0, [], Nat.zero_le _, by omega, rfl, ⟨below_alloc HB.out _⟩, ⟨grp_made w _⟩, ⟨Kd.R_nil _ _ _ _ _⟩, ⟨fun k => Nat.le_refl _, Nat.le_refl _, (fun g hg => by cases hg), rfl⟩⟩
  case round =>
    clear HB
    obtain ⟨i, G, hi, hgg, rfl, HB, HG, HK, HP⟩ := hrel
    have HIL := Aside0.mk (show i < 9223372036854775807 by omega)
    by_cases hil : i < l0.length
    · have hiz : (i : Int) < (l0.length : Int) := by omega
      have hiw : (i : Int) ≤ 1000000000 := by omega
      obtain ⟨n, hn⟩ : ∃ n, l0.length - i = n + 1 := ⟨l0.length - i - 1, by omega⟩
      have HN := Aside0.mk hn
      have hpl := HP.out.2.2.2
      rw [hn, gatherL] at hpl
      have hmem : pairAt l0 i ∈ l0 := by unfold pairAt; rw [List.getD_eq_getElem?_getD, List.getElem?_eq_getElem hil]; exact List.getElem_mem hil
      have hsz := HFIT.out.2 _ hmem
      obtain ⟨ad, e, g0, g1⟩ := at_T69 HC.out (i : Int) (by omega) hiz
      cases e
      rw [rdT69_at] at g0 g1
      simp only [Int.toNat_natCast] at g0 g1
      obtain ⟨pk, pv, hx⟩ : ∃ pk pv, pairAt l0 i = ⟨pk, pv⟩ := ⟨_, _, rfl⟩
      rw [hx] at g0 g1 hsz hpl
      simp only at g0 g1 hsz hpl
      have h0 := (HB.out.cell (World.block_lt_of_cell? w _ g0)).trans g0
      have h1 := (HB.out.cell (World.block_lt_of_cell? w _ g1)).trans g1
      have HS0 := Aside0.mk hsz.1
      have HS1 := Aside0.mk hsz.2
      clear g0 g1 hsz hmem hn
      rcases hver : versionP ⟨pk, pv⟩ with _ | ⟨key, va, vb, vc⟩
      · have HVN := Aside0.mk hver
        have HF : Aside0 ([] = r1 ∧ (4 : Int) = r2) := ⟨by
          rw [hver] at hpl
          have e := HH.out
          rw [← hpl] at e
          exact ⟨(Prod.mk.inj (Option.some.inj e)).1, (Prod.mk.inj (Option.some.inj e)).2⟩⟩
        clear hver hpl hx
        go_wp2_with (first | ((with_reducible refine gate_dst (N := 7) rfl ?_); refine box_event ?hg (N := 7) ?hd (cs := #[.string ⟨#[]⟩, .string ⟨#[]⟩]) (t := 69) ?hr ?_; (case hd => rfl); (case hg => rfl); (case hr => first | (go_simp; done) | (go_simp; rfl)); intro g7 hg w2 hbox hb; have G7 := Aside0.mk (show w.heap.size ≤ g7 from (by rw [hg]; exact HB.out.size)); have B7 := Aside0.mk hbox; clear hbox hg; have r0_ := Aside0.mk (below_then HB.out HB.out.size hb); have r1_ := Aside0.mk (HG.out.below hb); have r2_ := Aside0.mk (Kd.R_below HK.out hb); clear HB HG HK; have HB := r0_; have HG := r1_; have HK := r2_; clear r0_ r1_ r2_; clear hb) | ((with_reducible refine gate_store (t := 69) (p := 7) (v := .tmp 24) rfl ?_); go_must (refine sagg_event rfl 69 (.tmp 7) (.tmp 24) rfl rfl g7 #[.string pk, .string pv] _ _ rfl rfl B7.out (by kernel_rfl) rfl rfl ?_); intro w3 hbk hu; have r0_ := Aside0.mk (HG.out.typed B7.out (by decide) (row := some g7) (fun b e => by injection e with e; exact e.symm) ⟨hu.os, hu.tape, hu.output, by rw [hu.size]; exact Nat.le_refl _, fun k_ hk_ hne_ => hu.block k_ (fun e_ => hne_ (by rw [e_]))⟩); have r1_ := Aside0.mk (keys_kept HK.out (row := some g7) ⟨hu.os, hu.tape, hu.output, by rw [hu.size]; exact Nat.le_refl _, fun k_ hk_ hne_ => hu.block k_ (fun e_ => hne_ (by rw [e_]))⟩ (fun b e cells hc => by injection e with e; subst e; rw [B7.out] at hc; injection hc with hc; injection hc with _ hc; cases hc)); have r2_ := Aside0.mk (hu.below HB.out G7.out); clear HG HK HB; have HG := r0_; have HK := r1_; have HB := r2_; clear r0_ r1_ r2_; clear B7; have B7 := Aside0.mk hbk; have c70 := (blk_cell B7.out 0).trans rfl; have c71 := (blk_cell B7.out 1).trans rfl; clear hbk hu) | (go_at_call 59; go_must (refine (version_none.calls ⟨pk, pv⟩ _ HS0.out HS1.out HVN.out).mono ?_); rintro e w4 ⟨he, hb⟩; unfold noVersion at he; subst he; have r0_ := Aside0.mk (below_then HB.out HB.out.size hb); have r1_ := Aside0.mk (HG.out.below hb); have r2_ := Aside0.mk (Kd.R_below HK.out hb); have r3_ := Aside0.mk ((hb.block _ (blk_lt B7.out)).trans B7.out); clear HB HG HK B7; have HB := r0_; have HG := r1_; have HK := r2_; have B7 := r3_; clear r0_ r1_ r2_ r3_; clear c70 c71; have c70 := (blk_cell B7.out 0).trans rfl; have c71 := (blk_cell B7.out 1).trans rfl; clear hb) | ((with_reducible refine gate_dst (N := 9) rfl ?_); refine box_event ?hg (N := 9) ?hd (cs := #[.int .i64 0, .string ⟨#[]⟩, .bool false]) (t := 80) ?hr ?_; (case hd => rfl); (case hg => rfl); (case hr => first | (go_simp; done) | (go_simp; rfl)); intro g9 hg w5 hbox hb; have G9 := Aside0.mk (show w.heap.size ≤ g9 from (by rw [hg]; exact HB.out.size)); have NG := Aside0.mk (show some w.heap.size ≠ some g9 ∧ ∀ g ∈ G, ∀ b, g.v.ownBlock = some b → some b ≠ some g9 from ⟨fun e => by injection e with e; have := HG.out.map_lt; omega, fun g hg' b hb' e => by injection e with e; obtain ⟨cs, hc⟩ := HG.out.own_block hg' hb'; have := blk_lt hc; omega⟩); have N7 := Aside0.mk (show g7 ≠ g9 from fun e => absurd (blk_lt B7.out) (by omega)); have B9 := Aside0.mk hbox; clear hbox hg; have r0_ := Aside0.mk (below_then HB.out HB.out.size hb); have r1_ := Aside0.mk (HG.out.below hb); have r2_ := Aside0.mk (Kd.R_below HK.out hb); have r3_ := Aside0.mk ((hb.block _ (blk_lt B7.out)).trans B7.out); clear HB HG HK B7; have HB := r0_; have HG := r1_; have HK := r2_; have B7 := r3_; clear r0_ r1_ r2_ r3_; clear hb) | ((with_reducible refine gate_store (t := 80) (p := 9) (v := .tmp 29) rfl ?_); go_must (refine sagg_event rfl 80 (.tmp 9) (.tmp 29) rfl rfl g9 #[.int .i64 0, .string ⟨#[]⟩, .bool false] _ _ rfl rfl B9.out (by kernel_rfl) rfl rfl ?_); intro w6 hbk hu; have r0_ := Aside0.mk (HG.out.kept (row := some g9) ⟨hu.os, hu.tape, hu.output, by rw [hu.size]; exact Nat.le_refl _, fun k_ hk_ hne_ => hu.block k_ (fun e_ => hne_ (by rw [e_]))⟩ NG.out.1 NG.out.2); have r1_ := Aside0.mk (keys_kept HK.out (row := some g9) ⟨hu.os, hu.tape, hu.output, by rw [hu.size]; exact Nat.le_refl _, fun k_ hk_ hne_ => hu.block k_ (fun e_ => hne_ (by rw [e_]))⟩ (fun b e cells hc => by injection e with e; subst e; rw [B9.out] at hc; injection hc with hc; injection hc with _ hc; cases hc)); have r2_ := Aside0.mk (hu.below HB.out G9.out); have r3_ := Aside0.mk (hu.blk B7.out N7.out); clear HG HK HB B7; have HG := r0_; have HK := r1_; have HB := r2_; have B7 := r3_; clear r0_ r1_ r2_ r3_; clear B9; have B9 := Aside0.mk hbk; clear c70 c71; have c70 := (blk_cell B7.out 0).trans rfl; have c71 := (blk_cell B7.out 1).trans rfl; have c90 := (blk_cell B9.out 0).trans rfl; have c91 := (blk_cell B9.out 1).trans rfl; have c92 := (blk_cell B9.out 2).trans rfl; clear hbk hu))
        go_wp2
        go_quiet (fail)
        try go_frame
        have d1_ := Aside0.mk (pw_below_drewN HB.out nq)
        have d2_ := Aside0.mk (HG.out.below (pw_below_drewN (Below.refl _ _) nq))
        have d3_ := Aside0.mk (Kd.R_drewN HK.out nq)
        have d4_ := Aside0.mk (blk_drewN B9.out nq)
        have ec90 : (w6.drewN nq).cell? ⟨g9, 0, none⟩ = some (.int .i64 0) := c90
        have ec91 : (w6.drewN nq).cell? ⟨g9, 1, none⟩ = some (.string ⟨#[]⟩) := c91
        have ec92 : (w6.drewN nq).cell? ⟨g9, 2, none⟩ = some (.bool false) := c92
        clear HB HG HK B9 B7 c90 c91 c92
        revert d1_ d2_ d3_ d4_ ec90 ec91 ec92
        generalize w6.drewN nq = x1
        intro HB HG HK B9 c90 c91 c92
        go_wp2
        go_ret2
        exact ⟨.slice none 0 0, by rw [← HF.out.2] <;> rfl, by rw [← HF.out.1]; exact Kd.R_nil _ _ _ _ _, HB.out⟩
      · have HVS1 := Aside0.mk hver
        rw [hver] at hpl
        simp only at hpl
        have HKZ : Aside0 (key.size ≤ 9223372036854775807) := ⟨by
          have e := hver
          unfold versionP at e
          split at e
          · cases e
          · split at e
            · cases e
            · split at e
              · cases e
              · obtain ⟨e1, _⟩ := Prod.mk.inj (Option.some.inj e)
                have e2 : pk.extract 0 ((pk.size : Int) - 8).toNat = key := e1
                rw [← e2, ByteArray.size_extract]
                have := HS0.out
                omega⟩
        obtain ⟨v0, hv0⟩ : ∃ v0, valG G key = v0 := ⟨_, rfl⟩
        obtain ⟨hb0, hhb⟩ : ∃ b, hasG G key = b := ⟨_, rfl⟩
        obtain ⟨vs0, hvs⟩ : ∃ vs0, rowG G key = vs0 := ⟨_, rfl⟩
        have HV0 := Aside0.mk hv0
        have HHB := Aside0.mk hhb
        have HVS := Aside0.mk hvs
        have HLV : Aside0 ((vs0.length + 1) * 32 ≤ 140737488355328) := ⟨by rw [← hvs]; have := HP.out.1 key; omega⟩
        have HLK : Aside0 (((G.map (·.k)).length + 1) * 16 ≤ 140737488355328) := ⟨by rw [List.length_map]; have := HP.out.2.1; omega⟩
        have HPX := Aside0.mk hx
        clear hver hv0 hhb hvs hx
        by_cases hi0 : ¬ 0 < i
        · have p2 : ¬ (0 : Int) < (i : Int) := by omega
          have p3 : decide ((0 : Int) < (i : Int)) = false := decide_eq_false p2
          have HPL : Aside0 (gatherL l0 n (i + 1) (addP (plainG G) key ⟨va, vb, vc⟩) = gatherL l0 l0.length 0 []) := ⟨by rw [if_neg (fun h => hi0 h.1)] at hpl; exact hpl⟩
          clear hpl
          go_wp2_with (first | ((with_reducible refine gate_dst (N := 7) rfl ?_); refine box_event ?hg (N := 7) ?hd (cs := #[.string ⟨#[]⟩, .string ⟨#[]⟩]) (t := 69) ?hr ?_; (case hd => rfl); (case hg => rfl); (case hr => first | (go_simp; done) | (go_simp; rfl)); intro g7 hg w2 hbox hb; have G7 := Aside0.mk (show w.heap.size ≤ g7 from (by rw [hg]; exact HB.out.size)); have B7 := Aside0.mk hbox; clear hbox hg; have r0_ := Aside0.mk (below_then HB.out HB.out.size hb); have r1_ := Aside0.mk (HG.out.below hb); have r2_ := Aside0.mk (Kd.R_below HK.out hb); clear HB HG HK; have HB := r0_; have HG := r1_; have HK := r2_; clear r0_ r1_ r2_; clear hb) | ((with_reducible refine gate_store (t := 69) (p := 7) (v := .tmp 24) rfl ?_); go_must (refine sagg_event rfl 69 (.tmp 7) (.tmp 24) rfl rfl g7 #[.string pk, .string pv] _ _ rfl rfl B7.out (by kernel_rfl) rfl rfl ?_); intro w3 hbk hu; have r0_ := Aside0.mk (HG.out.typed B7.out (by decide) (row := some g7) (fun b e => by injection e with e; exact e.symm) ⟨hu.os, hu.tape, hu.output, by rw [hu.size]; exact Nat.le_refl _, fun k_ hk_ hne_ => hu.block k_ (fun e_ => hne_ (by rw [e_]))⟩); have r1_ := Aside0.mk (keys_kept HK.out (row := some g7) ⟨hu.os, hu.tape, hu.output, by rw [hu.size]; exact Nat.le_refl _, fun k_ hk_ hne_ => hu.block k_ (fun e_ => hne_ (by rw [e_]))⟩ (fun b e cells hc => by injection e with e; subst e; rw [B7.out] at hc; injection hc with hc; injection hc with _ hc; cases hc)); have r2_ := Aside0.mk (hu.below HB.out G7.out); clear HG HK HB; have HG := r0_; have HK := r1_; have HB := r2_; clear r0_ r1_ r2_; clear B7; have B7 := Aside0.mk hbk; have c70 := (blk_cell B7.out 0).trans rfl; have c71 := (blk_cell B7.out 1).trans rfl; clear hbk hu) | (go_at_call 59; go_must (refine (version_some.calls ⟨pk, pv⟩ key ⟨va, vb, vc⟩ _ HS0.out HS1.out HVS1.out).mono ?_); rintro e w4 ⟨rfl, hb⟩; have r0_ := Aside0.mk (below_then HB.out HB.out.size hb); have r1_ := Aside0.mk (HG.out.below hb); have r2_ := Aside0.mk (Kd.R_below HK.out hb); have r3_ := Aside0.mk ((hb.block _ (blk_lt B7.out)).trans B7.out); clear HB HG HK B7; have HB := r0_; have HG := r1_; have HK := r2_; have B7 := r3_; clear r0_ r1_ r2_ r3_; clear c70 c71; have c70 := (blk_cell B7.out 0).trans rfl; have c71 := (blk_cell B7.out 1).trans rfl; clear hb) | ((with_reducible refine gate_dst (N := 9) rfl ?_); refine box_event ?hg (N := 9) ?hd (cs := #[.int .i64 0, .string ⟨#[]⟩, .bool false]) (t := 80) ?hr ?_; (case hd => rfl); (case hg => rfl); (case hr => first | (go_simp; done) | (go_simp; rfl)); intro g9 hg w5 hbox hb; have G9 := Aside0.mk (show w.heap.size ≤ g9 from (by rw [hg]; exact HB.out.size)); have NG := Aside0.mk (show some w.heap.size ≠ some g9 ∧ ∀ g ∈ G, ∀ b, g.v.ownBlock = some b → some b ≠ some g9 from ⟨fun e => by injection e with e; have := HG.out.map_lt; omega, fun g hg' b hb' e => by injection e with e; obtain ⟨cs, hc⟩ := HG.out.own_block hg' hb'; have := blk_lt hc; omega⟩); have N7 := Aside0.mk (show g7 ≠ g9 from fun e => absurd (blk_lt B7.out) (by omega)); have B9 := Aside0.mk hbox; clear hbox hg; have r0_ := Aside0.mk (below_then HB.out HB.out.size hb); have r1_ := Aside0.mk (HG.out.below hb); have r2_ := Aside0.mk (Kd.R_below HK.out hb); have r3_ := Aside0.mk ((hb.block _ (blk_lt B7.out)).trans B7.out); clear HB HG HK B7; have HB := r0_; have HG := r1_; have HK := r2_; have B7 := r3_; clear r0_ r1_ r2_ r3_; clear hb) | ((with_reducible refine gate_store (t := 80) (p := 9) (v := .tmp 29) rfl ?_); go_must (refine sagg_event rfl 80 (.tmp 9) (.tmp 29) rfl rfl g9 #[.int .i64 va, .string vb, .bool vc] _ _ rfl rfl B9.out (by kernel_rfl) rfl rfl ?_); intro w6 hbk hu; have r0_ := Aside0.mk (HG.out.kept (row := some g9) ⟨hu.os, hu.tape, hu.output, by rw [hu.size]; exact Nat.le_refl _, fun k_ hk_ hne_ => hu.block k_ (fun e_ => hne_ (by rw [e_]))⟩ NG.out.1 NG.out.2); have r1_ := Aside0.mk (keys_kept HK.out (row := some g9) ⟨hu.os, hu.tape, hu.output, by rw [hu.size]; exact Nat.le_refl _, fun k_ hk_ hne_ => hu.block k_ (fun e_ => hne_ (by rw [e_]))⟩ (fun b e cells hc => by injection e with e; subst e; rw [B9.out] at hc; injection hc with hc; injection hc with _ hc; cases hc)); have r2_ := Aside0.mk (hu.below HB.out G9.out); have r3_ := Aside0.mk (hu.blk B7.out N7.out); clear HG HK HB B7; have HG := r0_; have HK := r1_; have HB := r2_; have B7 := r3_; clear r0_ r1_ r2_ r3_; clear B9; have B9 := Aside0.mk hbk; clear c70 c71; have c70 := (blk_cell B7.out 0).trans rfl; have c71 := (blk_cell B7.out 1).trans rfl; have c90 := (blk_cell B9.out 0).trans rfl; have c91 := (blk_cell B9.out 1).trans rfl; have c92 := (blk_cell B9.out 2).trans rfl; clear hbk hu))
          go_wp2
          go_quiet (fail)
          try go_frame
          have d1_ := Aside0.mk (pw_below_drewN HB.out nq)
          have d2_ := Aside0.mk (HG.out.below (pw_below_drewN (Below.refl _ _) nq))
          have d3_ := Aside0.mk (Kd.R_drewN HK.out nq)
          have d4_ := Aside0.mk (blk_drewN B9.out nq)
          have ec90 : (w6.drewN nq).cell? ⟨g9, 0, none⟩ = some (.int .i64 va) := c90
          have ec91 : (w6.drewN nq).cell? ⟨g9, 1, none⟩ = some (.string vb) := c91
          have ec92 : (w6.drewN nq).cell? ⟨g9, 2, none⟩ = some (.bool vc) := c92
          clear HB HG HK B9 B7 c90 c91 c92
          revert d1_ d2_ d3_ d4_ ec90 ec91 ec92
          generalize w6.drewN nq = x1
          intro HB HG HK B9 c90 c91 c92
          cases hb0 with
          | true =>
            go_wp2_with (first | ((with_reducible refine gate_dst (N := 51) rfl ?_); go_must (refine grp_lookup_ok rfl _ _ rfl rfl HG.out key rfl HKZ.out ?_); rw [HV0.out, HHB.out]) | ((with_reducible refine gate_builtin (b := .append) (xs := #[.tmp 62, .tmp 64]) rfl ?_); at_builtin; have HVR := Aside0.mk (show Kd.R k80 80 _ w.heap.size (fun _ => True) v0 vs0 from HV0.out ▸ HVS.out ▸ HG.out.val key); go_must (refine Kd.R_append k80 (w0 := w) w.heap.size rfl (.tmp 62) (.tmp 64) 65 80 (.agg #[(.int .i64 0), (.string ⟨#[]⟩), (.bool false)]) 32 rfl Try.underlying65 info80 rfl (by decide) (by decide) v0 vs0 (⟨va, vb, vc⟩ : S80) [.int .i64 va, .string vb, .bool vc] (fun _ => True) (fun _ => False) rfl rfl (k80_mkM _ _ _ (⟨va, vb, vc⟩ : S80)) (fun _ hk => hk.elim) (fun _ _ => trivial) HVR.out HB.out HB.out.size HLV.out ?_); intro v6 w10 ho hb hgr hat; have HK2 := Aside0.mk (keys_kept HK.out hgr (fun b_ e_ cells_ hc_ => by obtain ⟨i_, o_⟩ := Kd.R_own HVR.out; obtain ⟨c_, h_⟩ := own_typed o_ b_ e_; rw [h_] at hc_; injection hc_ with hc_; injection hc_ with _ hc_; cases hc_)); clear HK HB; have HB := Aside0.mk hb; have HV6 := Aside0.mk ho; have HGR := Aside0.mk hgr; have HAT := Aside0.mk hat; clear ho hb hgr hat) | (at_mapUpdate; go_must (refine grp_put (w := x1) rfl _ _ _ rfl rfl HG.out key rfl HKZ.out v6 (vs0 ++ [(⟨va, vb, vc⟩ : S80)]) rfl (by have := HIL.out; omega) v0 HV0.out HGR.out HV6.out HAT.out ?_); intro w11 hG2 hg2 hmo; have HB3 := Aside0.mk (pw_below_grown HB.out (some w.heap.size) HB.out.size hg2 (fun k_ e_ => by injection e_ with e_; rw [← e_]; exact Nat.le_refl _)); have HK3 := Aside0.mk (keys_kept HK2.out hg2 (fun b_ e_ cells_ hc_ => by injection e_ with e_; subst e_; obtain ⟨es_, cl_, m_⟩ := hmo; rw [m_] at hc_; cases hc_)); have HG3 := Aside0.mk hG2; clear hG2 hg2 hmo HB HK2 HG HV6 HGR HAT))
            go_wp2
            go_roundg (l0.length - (i + 1))
            case measure => omega
            case rel =>
              refine ⟨i + 1, putG G key v6 (vs0 ++ [⟨va, vb, vc⟩]), by omega, by omega, by go_num, HB3, HG3, ⟨?_⟩, ⟨?_, ?_, ?_, ?_⟩⟩
              · rw [keys_put, HHB.out]; exact HK3.out
              · rw [← HVS.out]; exact fun k => Nat.le_trans (rows_put G key v6 _ k) (by have := HP.out.1 k; omega)
              · have e := congrArg List.length (keys_put G key v6 (vs0 ++ [⟨va, vb, vc⟩])); rw [List.length_map, HHB.out] at e; simp at e; have := HP.out.2.1; omega
              · intro g_ hg_; rcases putG_in hg_ with rfl | hg_; exact HKZ.out; exact HP.out.2.2.1 g_ hg_
              · rw [← HVS.out, plain_put, show l0.length - (i + 1) = n by have := HN.out; omega]; exact HPL.out
          | false =>
            obtain ⟨ks, hks⟩ : ∃ ks, G.map (·.k) = ks := ⟨_, rfl⟩
            rw [hks] at HK HLK
            have HKS := Aside0.mk hks
            clear hks
            go_wp2_with (first | ((with_reducible refine gate_dst (N := 51) rfl ?_); go_must (refine grp_lookup_ok rfl _ _ rfl rfl HG.out key rfl HKZ.out ?_); rw [HV0.out, HHB.out]) | ((with_reducible refine gate_builtin (b := .append) (xs := #[.tmp 56, .tmp 58]) rfl ?_); at_builtin; have HOW := Aside0.mk (keys_own HK.out); go_must (refine print_append_of (w0 := w) Value.string w.heap.size rfl (.tmp 56) (.tmp 58) 97 9 (.string ⟨#[]⟩) 16 rfl Try.underlying97 info9 rfl (by decide) u5 ks key rfl rfl rfl HOW.out HB.out HB.out.size HLK.out ?_); intro v5 w9 ho hb hg hat; have r1_ := Aside0.mk (HG.out.kept hg (fun e_ => by obtain ⟨i_, o_⟩ := Kd.R_own HK.out; obtain ⟨c_, h_⟩ := own_typed o_ w.heap.size e_.symm; obtain ⟨es_, cl_, m_⟩ := HG.out.map_obj; rw [m_] at h_; cases h_) (fun g_ hg_ b_ hb_ e_ => by obtain ⟨i_, o_⟩ := Kd.R_own HK.out; obtain ⟨c_, h_⟩ := own_typed o_ b_ e_.symm; obtain ⟨d_, k_⟩ := HG.out.own_block hg_ hb_; rw [k_] at h_; injection h_ with h_; injection h_ with _ h_; cases h_)); have r2_ := Aside0.mk (blk_grown B9.out hg (Kd.R_ne HK.out B9.out (by decide))); clear HB HK HG B9 c90 c91 c92; have HB := Aside0.mk hb; have HK := Aside0.mk (keys_of ho); have HG := r1_; have B9 := r2_; have c90 := (blk_cell B9.out 0).trans rfl; have c91 := (blk_cell B9.out 1).trans rfl; have c92 := (blk_cell B9.out 2).trans rfl; clear HOW ho hb hg hat r1_ r2_) | ((with_reducible refine gate_builtin (b := .append) (xs := #[.tmp 62, .tmp 64]) rfl ?_); at_builtin; have HVR := Aside0.mk (show Kd.R k80 80 _ w.heap.size (fun _ => True) v0 vs0 from HV0.out ▸ HVS.out ▸ HG.out.val key); go_must (refine Kd.R_append k80 (w0 := w) w.heap.size rfl (.tmp 62) (.tmp 64) 65 80 (.agg #[(.int .i64 0), (.string ⟨#[]⟩), (.bool false)]) 32 rfl Try.underlying65 info80 rfl (by decide) (by decide) v0 vs0 (⟨va, vb, vc⟩ : S80) [.int .i64 va, .string vb, .bool vc] (fun _ => True) (fun _ => False) rfl rfl (k80_mkM _ _ _ (⟨va, vb, vc⟩ : S80)) (fun _ hk => hk.elim) (fun _ _ => trivial) HVR.out HB.out HB.out.size HLV.out ?_); intro v6 w10 ho hb hgr hat; have HK2 := Aside0.mk (keys_kept HK.out hgr (fun b_ e_ cells_ hc_ => by obtain ⟨i_, o_⟩ := Kd.R_own HVR.out; obtain ⟨c_, h_⟩ := own_typed o_ b_ e_; rw [h_] at hc_; injection hc_ with hc_; injection hc_ with _ hc_; cases hc_)); clear HK HB; have HB := Aside0.mk hb; have HV6 := Aside0.mk ho; have HGR := Aside0.mk hgr; have HAT := Aside0.mk hat; clear ho hb hgr hat) | (at_mapUpdate; go_must (refine grp_put (w := w9) rfl _ _ _ rfl rfl HG.out key rfl HKZ.out v6 (vs0 ++ [(⟨va, vb, vc⟩ : S80)]) rfl (by have := HIL.out; omega) v0 HV0.out HGR.out HV6.out HAT.out ?_); intro w11 hG2 hg2 hmo; have HB3 := Aside0.mk (pw_below_grown HB.out (some w.heap.size) HB.out.size hg2 (fun k_ e_ => by injection e_ with e_; rw [← e_]; exact Nat.le_refl _)); have HK3 := Aside0.mk (keys_kept HK2.out hg2 (fun b_ e_ cells_ hc_ => by injection e_ with e_; subst e_; obtain ⟨es_, cl_, m_⟩ := hmo; rw [m_] at hc_; cases hc_)); have HG3 := Aside0.mk hG2; clear hG2 hg2 hmo HB HK2 HG HV6 HGR HAT))
            go_wp2
            go_roundg (l0.length - (i + 1))
            case measure => omega
            case rel =>
              refine ⟨i + 1, putG G key v6 (vs0 ++ [⟨va, vb, vc⟩]), by omega, by omega, by go_num, HB3, HG3, ⟨?_⟩, ⟨?_, ?_, ?_, ?_⟩⟩
              · rw [keys_put, HHB.out, HKS.out]; exact HK3.out
              · rw [← HVS.out]; exact fun k => Nat.le_trans (rows_put G key v6 _ k) (by have := HP.out.1 k; omega)
              · have e := congrArg List.length (keys_put G key v6 (vs0 ++ [⟨va, vb, vc⟩])); rw [List.length_map, HHB.out] at e; simp at e; have := HP.out.2.1; omega
              · intro g_ hg_; rcases putG_in hg_ with rfl | hg_; exact HKZ.out; exact HP.out.2.2.1 g_ hg_
              · rw [← HVS.out, plain_put, show l0.length - (i + 1) = n by have := HN.out; omega]; exact HPL.out
        · obtain ⟨j, rfl⟩ : ∃ j, i = j + 1 := ⟨i - 1, by omega⟩
          obtain ⟨ad', e', k0, k1⟩ := at_T69 HC.out (j : Int) (by omega) (by omega)
          cases e'
          rw [rdT69_at] at k0 k1
          simp only [Int.toNat_natCast] at k0 k1
          obtain ⟨qk, hqk⟩ : ∃ q, (pairAt l0 j).f0 = q := ⟨_, rfl⟩
          rw [hqk] at k0
          have K0 := Aside0.mk k0
          obtain ⟨q, hq⟩ : ∃ q, ltS qk pk = q := ⟨_, rfl⟩
          have hpl2 : (if 0 < j + 1 ∧ q = false then none else gatherL l0 n (j + 1 + 1) (addP (plainG G) key ⟨va, vb, vc⟩)) = gatherL l0 l0.length 0 [] := by
            rw [← hpl, show j + 1 - 1 = j from rfl, hqk, hq]
          clear hpl k0 k1 hqk hi0
          unfold ltS at hq
          have p0 : (0 : Int) ≤ (j : Int) := by omega
          have p1 : (j : Int) < (l0.length : Int) := by omega
          simp only [Int.natCast_add, Int.cast_ofNat_Int] at hiz hiw ⊢
          have p2 : (0 : Int) < (j : Int) + 1 := by omega
          have p4 : IntKind.i64.wrap (j : Int) = (j : Int) := by simp [IntKind.wrap, IntKind.bits, IntKind.signed]; omega
          have p3 : decide ((0 : Int) < (j : Int) + 1) = true := decide_eq_true p2
          cases q with
          | false =>
            have HF : Aside0 ([] = r1 ∧ (4 : Int) = r2) := ⟨by
              rw [if_pos ⟨by omega, rfl⟩] at hpl2
              have e := HH.out
              rw [← hpl2] at e
              exact ⟨(Prod.mk.inj (Option.some.inj e)).1, (Prod.mk.inj (Option.some.inj e)).2⟩⟩
            clear hpl2
            go_wp2_with (first | ((with_reducible refine gate_dst (N := 7) rfl ?_); refine box_event ?hg (N := 7) ?hd (cs := #[.string ⟨#[]⟩, .string ⟨#[]⟩]) (t := 69) ?hr ?_; (case hd => rfl); (case hg => rfl); (case hr => first | (go_simp; done) | (go_simp; rfl)); intro g7 hg w2 hbox hb; have G7 := Aside0.mk (show w.heap.size ≤ g7 from (by rw [hg]; exact HB.out.size)); have B7 := Aside0.mk hbox; clear hbox hg; have r0_ := Aside0.mk (below_then HB.out HB.out.size hb); have r1_ := Aside0.mk (HG.out.below hb); have r2_ := Aside0.mk (Kd.R_below HK.out hb); clear HB HG HK; have HB := r0_; have HG := r1_; have HK := r2_; clear r0_ r1_ r2_; clear hb) | ((with_reducible refine gate_store (t := 69) (p := 7) (v := .tmp 24) rfl ?_); go_must (refine sagg_event rfl 69 (.tmp 7) (.tmp 24) rfl rfl g7 #[.string pk, .string pv] _ _ rfl rfl B7.out (by kernel_rfl) rfl rfl ?_); intro w3 hbk hu; have r0_ := Aside0.mk (HG.out.typed B7.out (by decide) (row := some g7) (fun b e => by injection e with e; exact e.symm) ⟨hu.os, hu.tape, hu.output, by rw [hu.size]; exact Nat.le_refl _, fun k_ hk_ hne_ => hu.block k_ (fun e_ => hne_ (by rw [e_]))⟩); have r1_ := Aside0.mk (keys_kept HK.out (row := some g7) ⟨hu.os, hu.tape, hu.output, by rw [hu.size]; exact Nat.le_refl _, fun k_ hk_ hne_ => hu.block k_ (fun e_ => hne_ (by rw [e_]))⟩ (fun b e cells hc => by injection e with e; subst e; rw [B7.out] at hc; injection hc with hc; injection hc with _ hc; cases hc)); have r2_ := Aside0.mk (hu.below HB.out G7.out); clear HG HK HB; have HG := r0_; have HK := r1_; have HB := r2_; clear r0_ r1_ r2_; clear B7; have B7 := Aside0.mk hbk; have c70 := (blk_cell B7.out 0).trans rfl; have c71 := (blk_cell B7.out 1).trans rfl; clear hbk hu) | (go_at_call 59; go_must (refine (version_some.calls ⟨pk, pv⟩ key ⟨va, vb, vc⟩ _ HS0.out HS1.out HVS1.out).mono ?_); rintro e w4 ⟨rfl, hb⟩; have r0_ := Aside0.mk (below_then HB.out HB.out.size hb); have r1_ := Aside0.mk (HG.out.below hb); have r2_ := Aside0.mk (Kd.R_below HK.out hb); have r3_ := Aside0.mk ((hb.block _ (blk_lt B7.out)).trans B7.out); clear HB HG HK B7; have HB := r0_; have HG := r1_; have HK := r2_; have B7 := r3_; clear r0_ r1_ r2_ r3_; clear c70 c71; have c70 := (blk_cell B7.out 0).trans rfl; have c71 := (blk_cell B7.out 1).trans rfl; clear hb) | ((with_reducible refine gate_dst (N := 9) rfl ?_); refine box_event ?hg (N := 9) ?hd (cs := #[.int .i64 0, .string ⟨#[]⟩, .bool false]) (t := 80) ?hr ?_; (case hd => rfl); (case hg => rfl); (case hr => first | (go_simp; done) | (go_simp; rfl)); intro g9 hg w5 hbox hb; have G9 := Aside0.mk (show w.heap.size ≤ g9 from (by rw [hg]; exact HB.out.size)); have NG := Aside0.mk (show some w.heap.size ≠ some g9 ∧ ∀ g ∈ G, ∀ b, g.v.ownBlock = some b → some b ≠ some g9 from ⟨fun e => by injection e with e; have := HG.out.map_lt; omega, fun g hg' b hb' e => by injection e with e; obtain ⟨cs, hc⟩ := HG.out.own_block hg' hb'; have := blk_lt hc; omega⟩); have N7 := Aside0.mk (show g7 ≠ g9 from fun e => absurd (blk_lt B7.out) (by omega)); have B9 := Aside0.mk hbox; clear hbox hg; have r0_ := Aside0.mk (below_then HB.out HB.out.size hb); have r1_ := Aside0.mk (HG.out.below hb); have r2_ := Aside0.mk (Kd.R_below HK.out hb); have r3_ := Aside0.mk ((hb.block _ (blk_lt B7.out)).trans B7.out); clear HB HG HK B7; have HB := r0_; have HG := r1_; have HK := r2_; have B7 := r3_; clear r0_ r1_ r2_ r3_; clear hb) | ((with_reducible refine gate_store (t := 80) (p := 9) (v := .tmp 29) rfl ?_); go_must (refine sagg_event rfl 80 (.tmp 9) (.tmp 29) rfl rfl g9 #[.int .i64 va, .string vb, .bool vc] _ _ rfl rfl B9.out (by kernel_rfl) rfl rfl ?_); intro w6 hbk hu; have r0_ := Aside0.mk (HG.out.kept (row := some g9) ⟨hu.os, hu.tape, hu.output, by rw [hu.size]; exact Nat.le_refl _, fun k_ hk_ hne_ => hu.block k_ (fun e_ => hne_ (by rw [e_]))⟩ NG.out.1 NG.out.2); have r1_ := Aside0.mk (keys_kept HK.out (row := some g9) ⟨hu.os, hu.tape, hu.output, by rw [hu.size]; exact Nat.le_refl _, fun k_ hk_ hne_ => hu.block k_ (fun e_ => hne_ (by rw [e_]))⟩ (fun b e cells hc => by injection e with e; subst e; rw [B9.out] at hc; injection hc with hc; injection hc with _ hc; cases hc)); have r2_ := Aside0.mk (hu.below HB.out G9.out); have r3_ := Aside0.mk (hu.blk B7.out N7.out); clear HG HK HB B7; have HG := r0_; have HK := r1_; have HB := r2_; have B7 := r3_; clear r0_ r1_ r2_ r3_; clear B9; have B9 := Aside0.mk hbk; clear c70 c71; have c70 := (blk_cell B7.out 0).trans rfl; have c71 := (blk_cell B7.out 1).trans rfl; have c90 := (blk_cell B9.out 0).trans rfl; have c91 := (blk_cell B9.out 1).trans rfl; have c92 := (blk_cell B9.out 2).trans rfl; clear hbk hu))
            have k0 := (HB.out.cell (World.block_lt_of_cell? w _ K0.out)).trans K0.out
            go_wp2
            go_quiet (fail)
            try go_frame
            have d1_ := Aside0.mk (pw_below_drewN HB.out nq)
            have d2_ := Aside0.mk (HG.out.below (pw_below_drewN (Below.refl _ _) nq))
            have d3_ := Aside0.mk (Kd.R_drewN HK.out nq)
            have d4_ := Aside0.mk (blk_drewN B9.out nq)
            have ec90 : (w6.drewN nq).cell? ⟨g9, 0, none⟩ = some (.int .i64 va) := c90
            have ec91 : (w6.drewN nq).cell? ⟨g9, 1, none⟩ = some (.string vb) := c91
            have ec92 : (w6.drewN nq).cell? ⟨g9, 2, none⟩ = some (.bool vc) := c92
            clear HB HG HK B9 B7 c90 c91 c92
            revert d1_ d2_ d3_ d4_ ec90 ec91 ec92
            generalize w6.drewN nq = x1
            intro HB HG HK B9 c90 c91 c92
            go_wp2
            go_ret2
            exact ⟨.slice none 0 0, by rw [← HF.out.2] <;> rfl, by rw [← HF.out.1]; exact Kd.R_nil _ _ _ _ _, HB.out⟩
          | true =>
            have HPL : Aside0 (gatherL l0 n (j + 1 + 1) (addP (plainG G) key ⟨va, vb, vc⟩) = gatherL l0 l0.length 0 []) := ⟨by rw [if_neg (by simp)] at hpl2; exact hpl2⟩
            clear hpl2
            go_wp2_with (first | ((with_reducible refine gate_dst (N := 7) rfl ?_); refine box_event ?hg (N := 7) ?hd (cs := #[.string ⟨#[]⟩, .string ⟨#[]⟩]) (t := 69) ?hr ?_; (case hd => rfl); (case hg => rfl); (case hr => first | (go_simp; done) | (go_simp; rfl)); intro g7 hg w2 hbox hb; have G7 := Aside0.mk (show w.heap.size ≤ g7 from (by rw [hg]; exact HB.out.size)); have B7 := Aside0.mk hbox; clear hbox hg; have r0_ := Aside0.mk (below_then HB.out HB.out.size hb); have r1_ := Aside0.mk (HG.out.below hb); have r2_ := Aside0.mk (Kd.R_below HK.out hb); clear HB HG HK; have HB := r0_; have HG := r1_; have HK := r2_; clear r0_ r1_ r2_; clear hb) | ((with_reducible refine gate_store (t := 69) (p := 7) (v := .tmp 24) rfl ?_); go_must (refine sagg_event rfl 69 (.tmp 7) (.tmp 24) rfl rfl g7 #[.string pk, .string pv] _ _ rfl rfl B7.out (by kernel_rfl) rfl rfl ?_); intro w3 hbk hu; have r0_ := Aside0.mk (HG.out.typed B7.out (by decide) (row := some g7) (fun b e => by injection e with e; exact e.symm) ⟨hu.os, hu.tape, hu.output, by rw [hu.size]; exact Nat.le_refl _, fun k_ hk_ hne_ => hu.block k_ (fun e_ => hne_ (by rw [e_]))⟩); have r1_ := Aside0.mk (keys_kept HK.out (row := some g7) ⟨hu.os, hu.tape, hu.output, by rw [hu.size]; exact Nat.le_refl _, fun k_ hk_ hne_ => hu.block k_ (fun e_ => hne_ (by rw [e_]))⟩ (fun b e cells hc => by injection e with e; subst e; rw [B7.out] at hc; injection hc with hc; injection hc with _ hc; cases hc)); have r2_ := Aside0.mk (hu.below HB.out G7.out); clear HG HK HB; have HG := r0_; have HK := r1_; have HB := r2_; clear r0_ r1_ r2_; clear B7; have B7 := Aside0.mk hbk; have c70 := (blk_cell B7.out 0).trans rfl; have c71 := (blk_cell B7.out 1).trans rfl; clear hbk hu) | (go_at_call 59; go_must (refine (version_some.calls ⟨pk, pv⟩ key ⟨va, vb, vc⟩ _ HS0.out HS1.out HVS1.out).mono ?_); rintro e w4 ⟨rfl, hb⟩; have r0_ := Aside0.mk (below_then HB.out HB.out.size hb); have r1_ := Aside0.mk (HG.out.below hb); have r2_ := Aside0.mk (Kd.R_below HK.out hb); have r3_ := Aside0.mk ((hb.block _ (blk_lt B7.out)).trans B7.out); clear HB HG HK B7; have HB := r0_; have HG := r1_; have HK := r2_; have B7 := r3_; clear r0_ r1_ r2_ r3_; clear c70 c71; have c70 := (blk_cell B7.out 0).trans rfl; have c71 := (blk_cell B7.out 1).trans rfl; clear hb) | ((with_reducible refine gate_dst (N := 9) rfl ?_); refine box_event ?hg (N := 9) ?hd (cs := #[.int .i64 0, .string ⟨#[]⟩, .bool false]) (t := 80) ?hr ?_; (case hd => rfl); (case hg => rfl); (case hr => first | (go_simp; done) | (go_simp; rfl)); intro g9 hg w5 hbox hb; have G9 := Aside0.mk (show w.heap.size ≤ g9 from (by rw [hg]; exact HB.out.size)); have NG := Aside0.mk (show some w.heap.size ≠ some g9 ∧ ∀ g ∈ G, ∀ b, g.v.ownBlock = some b → some b ≠ some g9 from ⟨fun e => by injection e with e; have := HG.out.map_lt; omega, fun g hg' b hb' e => by injection e with e; obtain ⟨cs, hc⟩ := HG.out.own_block hg' hb'; have := blk_lt hc; omega⟩); have N7 := Aside0.mk (show g7 ≠ g9 from fun e => absurd (blk_lt B7.out) (by omega)); have B9 := Aside0.mk hbox; clear hbox hg; have r0_ := Aside0.mk (below_then HB.out HB.out.size hb); have r1_ := Aside0.mk (HG.out.below hb); have r2_ := Aside0.mk (Kd.R_below HK.out hb); have r3_ := Aside0.mk ((hb.block _ (blk_lt B7.out)).trans B7.out); clear HB HG HK B7; have HB := r0_; have HG := r1_; have HK := r2_; have B7 := r3_; clear r0_ r1_ r2_ r3_; clear hb) | ((with_reducible refine gate_store (t := 80) (p := 9) (v := .tmp 29) rfl ?_); go_must (refine sagg_event rfl 80 (.tmp 9) (.tmp 29) rfl rfl g9 #[.int .i64 va, .string vb, .bool vc] _ _ rfl rfl B9.out (by kernel_rfl) rfl rfl ?_); intro w6 hbk hu; have r0_ := Aside0.mk (HG.out.kept (row := some g9) ⟨hu.os, hu.tape, hu.output, by rw [hu.size]; exact Nat.le_refl _, fun k_ hk_ hne_ => hu.block k_ (fun e_ => hne_ (by rw [e_]))⟩ NG.out.1 NG.out.2); have r1_ := Aside0.mk (keys_kept HK.out (row := some g9) ⟨hu.os, hu.tape, hu.output, by rw [hu.size]; exact Nat.le_refl _, fun k_ hk_ hne_ => hu.block k_ (fun e_ => hne_ (by rw [e_]))⟩ (fun b e cells hc => by injection e with e; subst e; rw [B9.out] at hc; injection hc with hc; injection hc with _ hc; cases hc)); have r2_ := Aside0.mk (hu.below HB.out G9.out); have r3_ := Aside0.mk (hu.blk B7.out N7.out); clear HG HK HB B7; have HG := r0_; have HK := r1_; have HB := r2_; have B7 := r3_; clear r0_ r1_ r2_ r3_; clear B9; have B9 := Aside0.mk hbk; clear c70 c71; have c70 := (blk_cell B7.out 0).trans rfl; have c71 := (blk_cell B7.out 1).trans rfl; have c90 := (blk_cell B9.out 0).trans rfl; have c91 := (blk_cell B9.out 1).trans rfl; have c92 := (blk_cell B9.out 2).trans rfl; clear hbk hu))
            have k0 := (HB.out.cell (World.block_lt_of_cell? w _ K0.out)).trans K0.out
            go_wp2
            go_quiet (fail)
            try go_frame
            have d1_ := Aside0.mk (pw_below_drewN HB.out nq)
            have d2_ := Aside0.mk (HG.out.below (pw_below_drewN (Below.refl _ _) nq))
            have d3_ := Aside0.mk (Kd.R_drewN HK.out nq)
            have d4_ := Aside0.mk (blk_drewN B9.out nq)
            have ec90 : (w6.drewN nq).cell? ⟨g9, 0, none⟩ = some (.int .i64 va) := c90
            have ec91 : (w6.drewN nq).cell? ⟨g9, 1, none⟩ = some (.string vb) := c91
            have ec92 : (w6.drewN nq).cell? ⟨g9, 2, none⟩ = some (.bool vc) := c92
            clear HB HG HK B9 B7 c90 c91 c92
            revert d1_ d2_ d3_ d4_ ec90 ec91 ec92
            generalize w6.drewN nq = x1
            intro HB HG HK B9 c90 c91 c92
            cases hb0 with
            | true =>
              go_wp2_with (first | ((with_reducible refine gate_dst (N := 51) rfl ?_); go_must (refine grp_lookup_ok rfl _ _ rfl rfl HG.out key rfl HKZ.out ?_); rw [HV0.out, HHB.out]) | ((with_reducible refine gate_builtin (b := .append) (xs := #[.tmp 62, .tmp 64]) rfl ?_); at_builtin; have HVR := Aside0.mk (show Kd.R k80 80 _ w.heap.size (fun _ => True) v0 vs0 from HV0.out ▸ HVS.out ▸ HG.out.val key); go_must (refine Kd.R_append k80 (w0 := w) w.heap.size rfl (.tmp 62) (.tmp 64) 65 80 (.agg #[(.int .i64 0), (.string ⟨#[]⟩), (.bool false)]) 32 rfl Try.underlying65 info80 rfl (by decide) (by decide) v0 vs0 (⟨va, vb, vc⟩ : S80) [.int .i64 va, .string vb, .bool vc] (fun _ => True) (fun _ => False) rfl rfl (k80_mkM _ _ _ (⟨va, vb, vc⟩ : S80)) (fun _ hk => hk.elim) (fun _ _ => trivial) HVR.out HB.out HB.out.size HLV.out ?_); intro v6 w10 ho hb hgr hat; have HK2 := Aside0.mk (keys_kept HK.out hgr (fun b_ e_ cells_ hc_ => by obtain ⟨i_, o_⟩ := Kd.R_own HVR.out; obtain ⟨c_, h_⟩ := own_typed o_ b_ e_; rw [h_] at hc_; injection hc_ with hc_; injection hc_ with _ hc_; cases hc_)); clear HK HB; have HB := Aside0.mk hb; have HV6 := Aside0.mk ho; have HGR := Aside0.mk hgr; have HAT := Aside0.mk hat; clear ho hb hgr hat) | (at_mapUpdate; go_must (refine grp_put (w := x1) rfl _ _ _ rfl rfl HG.out key rfl HKZ.out v6 (vs0 ++ [(⟨va, vb, vc⟩ : S80)]) rfl (by have := HIL.out; omega) v0 HV0.out HGR.out HV6.out HAT.out ?_); intro w11 hG2 hg2 hmo; have HB3 := Aside0.mk (pw_below_grown HB.out (some w.heap.size) HB.out.size hg2 (fun k_ e_ => by injection e_ with e_; rw [← e_]; exact Nat.le_refl _)); have HK3 := Aside0.mk (keys_kept HK2.out hg2 (fun b_ e_ cells_ hc_ => by injection e_ with e_; subst e_; obtain ⟨es_, cl_, m_⟩ := hmo; rw [m_] at hc_; cases hc_)); have HG3 := Aside0.mk hG2; clear hG2 hg2 hmo HB HK2 HG HV6 HGR HAT))
              go_wp2
              go_roundg (l0.length - ((j + 1) + 1))
              case measure => omega
              case rel =>
                refine ⟨(j + 1) + 1, putG G key v6 (vs0 ++ [⟨va, vb, vc⟩]), by omega, by omega, by go_num, HB3, HG3, ⟨?_⟩, ⟨?_, ?_, ?_, ?_⟩⟩
                · rw [keys_put, HHB.out]; exact HK3.out
                · rw [← HVS.out]; exact fun k => Nat.le_trans (rows_put G key v6 _ k) (by have := HP.out.1 k; omega)
                · have e := congrArg List.length (keys_put G key v6 (vs0 ++ [⟨va, vb, vc⟩])); rw [List.length_map, HHB.out] at e; simp at e; have := HP.out.2.1; omega
                · intro g_ hg_; rcases putG_in hg_ with rfl | hg_; exact HKZ.out; exact HP.out.2.2.1 g_ hg_
                · rw [← HVS.out, plain_put, show l0.length - ((j + 1) + 1) = n by have := HN.out; omega]; exact HPL.out
            | false =>
              obtain ⟨ks, hks⟩ : ∃ ks, G.map (·.k) = ks := ⟨_, rfl⟩
              rw [hks] at HK HLK
              have HKS := Aside0.mk hks
              clear hks
              go_wp2_with (first | ((with_reducible refine gate_dst (N := 51) rfl ?_); go_must (refine grp_lookup_ok rfl _ _ rfl rfl HG.out key rfl HKZ.out ?_); rw [HV0.out, HHB.out]) | ((with_reducible refine gate_builtin (b := .append) (xs := #[.tmp 56, .tmp 58]) rfl ?_); at_builtin; have HOW := Aside0.mk (keys_own HK.out); go_must (refine print_append_of (w0 := w) Value.string w.heap.size rfl (.tmp 56) (.tmp 58) 97 9 (.string ⟨#[]⟩) 16 rfl Try.underlying97 info9 rfl (by decide) u5 ks key rfl rfl rfl HOW.out HB.out HB.out.size HLK.out ?_); intro v5 w9 ho hb hg hat; have r1_ := Aside0.mk (HG.out.kept hg (fun e_ => by obtain ⟨i_, o_⟩ := Kd.R_own HK.out; obtain ⟨c_, h_⟩ := own_typed o_ w.heap.size e_.symm; obtain ⟨es_, cl_, m_⟩ := HG.out.map_obj; rw [m_] at h_; cases h_) (fun g_ hg_ b_ hb_ e_ => by obtain ⟨i_, o_⟩ := Kd.R_own HK.out; obtain ⟨c_, h_⟩ := own_typed o_ b_ e_.symm; obtain ⟨d_, k_⟩ := HG.out.own_block hg_ hb_; rw [k_] at h_; injection h_ with h_; injection h_ with _ h_; cases h_)); have r2_ := Aside0.mk (blk_grown B9.out hg (Kd.R_ne HK.out B9.out (by decide))); clear HB HK HG B9 c90 c91 c92; have HB := Aside0.mk hb; have HK := Aside0.mk (keys_of ho); have HG := r1_; have B9 := r2_; have c90 := (blk_cell B9.out 0).trans rfl; have c91 := (blk_cell B9.out 1).trans rfl; have c92 := (blk_cell B9.out 2).trans rfl; clear HOW ho hb hg hat r1_ r2_) | ((with_reducible refine gate_builtin (b := .append) (xs := #[.tmp 62, .tmp 64]) rfl ?_); at_builtin; have HVR := Aside0.mk (show Kd.R k80 80 _ w.heap.size (fun _ => True) v0 vs0 from HV0.out ▸ HVS.out ▸ HG.out.val key); go_must (refine Kd.R_append k80 (w0 := w) w.heap.size rfl (.tmp 62) (.tmp 64) 65 80 (.agg #[(.int .i64 0), (.string ⟨#[]⟩), (.bool false)]) 32 rfl Try.underlying65 info80 rfl (by decide) (by decide) v0 vs0 (⟨va, vb, vc⟩ : S80) [.int .i64 va, .string vb, .bool vc] (fun _ => True) (fun _ => False) rfl rfl (k80_mkM _ _ _ (⟨va, vb, vc⟩ : S80)) (fun _ hk => hk.elim) (fun _ _ => trivial) HVR.out HB.out HB.out.size HLV.out ?_); intro v6 w10 ho hb hgr hat; have HK2 := Aside0.mk (keys_kept HK.out hgr (fun b_ e_ cells_ hc_ => by obtain ⟨i_, o_⟩ := Kd.R_own HVR.out; obtain ⟨c_, h_⟩ := own_typed o_ b_ e_; rw [h_] at hc_; injection hc_ with hc_; injection hc_ with _ hc_; cases hc_)); clear HK HB; have HB := Aside0.mk hb; have HV6 := Aside0.mk ho; have HGR := Aside0.mk hgr; have HAT := Aside0.mk hat; clear ho hb hgr hat) | (at_mapUpdate; go_must (refine grp_put (w := w9) rfl _ _ _ rfl rfl HG.out key rfl HKZ.out v6 (vs0 ++ [(⟨va, vb, vc⟩ : S80)]) rfl (by have := HIL.out; omega) v0 HV0.out HGR.out HV6.out HAT.out ?_); intro w11 hG2 hg2 hmo; have HB3 := Aside0.mk (pw_below_grown HB.out (some w.heap.size) HB.out.size hg2 (fun k_ e_ => by injection e_ with e_; rw [← e_]; exact Nat.le_refl _)); have HK3 := Aside0.mk (keys_kept HK2.out hg2 (fun b_ e_ cells_ hc_ => by injection e_ with e_; subst e_; obtain ⟨es_, cl_, m_⟩ := hmo; rw [m_] at hc_; cases hc_)); have HG3 := Aside0.mk hG2; clear hG2 hg2 hmo HB HK2 HG HV6 HGR HAT))
              go_wp2
              go_roundg (l0.length - ((j + 1) + 1))
              case measure => omega
              case rel =>
                refine ⟨(j + 1) + 1, putG G key v6 (vs0 ++ [⟨va, vb, vc⟩]), by omega, by omega, by go_num, HB3, HG3, ⟨?_⟩, ⟨?_, ?_, ?_, ?_⟩⟩
                · rw [keys_put, HHB.out, HKS.out]; exact HK3.out
                · rw [← HVS.out]; exact fun k => Nat.le_trans (rows_put G key v6 _ k) (by have := HP.out.1 k; omega)
                · have e := congrArg List.length (keys_put G key v6 (vs0 ++ [⟨va, vb, vc⟩])); rw [List.length_map, HHB.out] at e; simp at e; have := HP.out.2.1; omega
                · intro g_ hg_; rcases putG_in hg_ with rfl | hg_; exact HKZ.out; exact HP.out.2.2.1 g_ hg_
                · rw [← HVS.out, plain_put, show l0.length - ((j + 1) + 1) = n by have := HN.out; omega]; exact HPL.out
    · have hiz : ¬ (i : Int) < (l0.length : Int) := by omega
      have hA : gatherL l0 l0.length 0 [] = some (plainG G) := by
        have e := HP.out.2.2.2
        rw [show l0.length - i = 0 by omega, gatherL] at e
        exact e.symm
      have HF : Aside0 (itemsL k (plainG G) (sortS (G.map (·.k))) [] = some (r1, r2)) := ⟨by
        have e := HH.out
        rw [hA] at e
        simp only at e
        rw [plain_keys] at e
        exact e⟩
      obtain ⟨ks, hks⟩ : ∃ ks, G.map (·.k) = ks := ⟨_, rfl⟩
      rw [hks] at HK HF
      have hkl : ks.length ≤ 1000000000 := by rw [← hks, List.length_map]; have := HP.out.2.1; have := HFIT.out.1; omega
      obtain ⟨ss, hss⟩ : ∃ ss, sortS ks = ss := ⟨_, rfl⟩
      have hsl : ss.length = ks.length := by rw [← hss]; exact sortS_length ks
      have hsz0 : ss.length ≤ 1000000000 := by omega
      have HSS := Aside0.mk hss
      have HSZ := Aside0.mk hsz0
      have HKL := Aside0.mk (show ks.length < 4611686018427387904 by omega)
      have HKK : Aside0 (∀ x ∈ ss, x.size ≤ 9223372036854775807) := ⟨fun x hx => by
        rw [← hss, sortS_mem, ← hks] at hx
        obtain ⟨g, hg, rfl⟩ := List.mem_map.1 hx
        exact HP.out.2.2.1 g hg⟩
      rw [hss] at HF
      obtain ⟨Ak, ck, hu5, _, _⟩ := Kd.R_reads HK.out
      rw [← hsl] at hu5
      subst hu5
      have hssz : (ss.length : Int) ≤ 1000000000 := by omega
      clear hA hks hss hsl hkl hsz0 HH
      go_wp2_with (go_at_call 60; go_must (refine (SortStr.calls w.heap.size (fun _ => True) (.slice Ak ss.length ck) ks _ HK.out HKL.out).mono ?_); rintro e w20 ⟨rfl, hr, hb, hgr⟩; have r1_ := Aside0.mk (HG.out.kept hgr (fun e_ => by obtain ⟨i_, o_⟩ := Kd.R_own HK.out; obtain ⟨c_, h_⟩ := own_typed o_ w.heap.size e_.symm; obtain ⟨es_, cl_, m_⟩ := HG.out.map_obj; rw [m_] at h_; cases h_) (fun g_ hg_ b_ hb_ e_ => by obtain ⟨i_, o_⟩ := Kd.R_own HK.out; obtain ⟨c_, h_⟩ := own_typed o_ b_ e_.symm; obtain ⟨d_, k_⟩ := HG.out.own_block hg_ hb_; rw [k_] at h_; injection h_ with h_; injection h_ with _ h_; cases h_)); have r2_ := Aside0.mk (HB.out.trans hb); rw [HSS.out] at hr; clear HB HG HK; have HB := r2_; have HG := r1_; have HK := Aside0.mk hr; clear r1_ r2_ hr hb hgr)
      go_loopg [13, 71] ss.length (fun gg s13 s71 wr => ∃ (j : Nat) (out : List S67), j ≤ ss.length ∧ out.length ≤ j ∧ ss.length - j ≤ gg ∧ s71 = .int .i64 j ∧ Aside0 (Below w.heap.size w wr) ∧ Aside0 (Grp wr w.heap.size w.heap.size i G) ∧ Aside0 (Kd.R Kd.string 9 wr w.heap.size (fun _ => True) (.slice Ak ss.length ck) ss) ∧ Aside0 (Kd.R k67 67 wr w.heap.size (fun _ => True) s13 out) ∧ Aside0 (itemsL k (plainG G) (ss.drop j) out = some (r1, r2)))
      case atStart => exact ⟨0, [], Nat.zero_le _, by simp, by omega, rfl, HB, HG, HK, ⟨Kd.R_nil _ _ _ _ _⟩, ⟨by rw [List.drop_zero]; exact HF.out⟩⟩
      case round =>
        clear HB HG HK HF
        obtain ⟨j, out, hj, hol, hgj, rfl, HB, HG, HK, HO, HF⟩ := hrel
        have HLO : Aside0 ((out.length + 1) * 40 ≤ 140737488355328) := ⟨by have := HSZ.out; omega⟩
        by_cases hjl : j < ss.length
        · have hjz : (j : Int) < (ss.length : Int) := by omega
          obtain ⟨A1, c1, e1, hc1, hC1⟩ := Kd.R_reads HK.out
          injection e1 with e1 _ e2
          subst e1 e2
          obtain ⟨ad, e, h0⟩ := str_at hC1 j hjl hjl
          cases e
          obtain ⟨key, hkey⟩ : ∃ key, ss[j] = key := ⟨_, rfl⟩
          rw [hkey] at h0
          have hF := HF.out
          rw [List.drop_eq_getElem_cons hjl, itemsL, hkey, plain_row] at hF
          obtain ⟨b, hmy, hF⟩ := Option.bind_eq_some_iff.1 hF
          obtain ⟨vs, hvs⟩ : ∃ vs, rowG G key = vs := ⟨_, rfl⟩
          rw [hvs] at hmy hF
          have hval := HG.out.val key
          rw [hvs] at hval
          obtain ⟨A3, c3, hv3, hc3, hC3⟩ := Kd.R_reads hval
          have HV3 := Aside0.mk hv3
          rw [hv3] at hval
          have HC3 := Aside0.mk hc3
          have HCV := Aside0.mk hC3
          have HRV := Aside0.mk hval
          have HMY := Aside0.mk hmy
          have HF2 := Aside0.mk hF
          have HKZ : Aside0 (key.size ≤ 9223372036854775807) := ⟨by rw [← hkey]; exact HKK.out _ (List.getElem_mem hjl)⟩
          clear hkey hC1 hc1 hF hmy hvs hval hv3 hc3 hC3 HF
          cases b with
          | false =>
            have HF3 : Aside0 ([] = r1 ∧ (4 : Int) = r2) := ⟨by have e := HF2.out; rw [if_neg (by simp)] at e; exact ⟨(Prod.mk.inj (Option.some.inj e)).1, (Prod.mk.inj (Option.some.inj e)).2⟩⟩
            go_wp2_with (first | ((with_reducible refine gate_dst (N := 78) rfl ?_); go_must (refine grp_lookup rfl _ _ rfl rfl HG.out key rfl HKZ.out ?_); rw [HV3.out]) | ((with_reducible refine gate_dst (N := 16) rfl ?_); refine box_event ?hg (N := 16) ?hd (cs := #[.string ⟨#[]⟩, .slice none 0 0]) (t := 67) ?hr ?_; (case hd => rfl); (case hg => rfl); (case hr => first | (go_simp; done) | (go_simp; rfl)); intro g16 hg w21 hbox hb; have G16 := Aside0.mk (show w.heap.size ≤ g16 from (by rw [hg]; exact HB.out.size)); have NO := Aside0.mk (show Kd.R k67 67 w21 w.heap.size (fun k_ => k_ ≠ g16) u13 out from Kd.R_below (Kd.R_mono (Kd.R_bound HO.out) (fun k_ hk_ => by have := hk_.2.2.1; omega)) hb); have NV := Aside0.mk (Kd.R_below HRV.out hb); have B16 := Aside0.mk hbox; have NCV := Aside0.mk (Kd.C_below HCV.out hb); clear hbox hg HO HRV HCV h0; have r0_ := Aside0.mk (below_then HB.out HB.out.size hb); have r1_ := Aside0.mk (HG.out.below hb); have r2_ := Aside0.mk (Kd.R_below HK.out hb); clear HB HG HK; have HB := r0_; have HG := r1_; have HK := r2_; clear r0_ r1_ r2_; clear hb) | ((with_reducible refine gate_store (t := 67) (p := 16) (v := .tmp 79) rfl ?_); go_must (refine sagg_event rfl 67 (.tmp 16) (.tmp 79) rfl rfl g16 #[.string key, .slice A3 vs.length c3] _ _ rfl rfl B16.out (by kernel_rfl) rfl rfl ?_); intro w22 hbk hu; have NO2 := Aside0.mk (Kd.R_mono (Kd.R_step NO.out (fun k_ hk_ _ => hu.block k_ hk_)) (ok' := fun _ => True) (fun _ _ => trivial)); have NV2 := Aside0.mk (Kd.R_mono (Kd.R_step (Kd.R_types NV.out B16.out (by decide)) (fun k_ hk_ _ => hu.block k_ hk_.2)) (ok' := fun _ => True) (fun _ _ => trivial)); obtain ⟨A4, c4, hv4, hc4, hC4⟩ := Kd.R_reads NV2.out; obtain ⟨rfl, rfl⟩ : A3 = A4 ∧ c3 = c4 := (by simpa using hv4); have NCV2 := Aside0.mk hC4; clear NO NV NCV hc4 hC4; have r0_ := Aside0.mk (HG.out.typed B16.out (by decide) (row := some g16) (fun b e => by injection e with e; exact e.symm) ⟨hu.os, hu.tape, hu.output, by rw [hu.size]; exact Nat.le_refl _, fun k_ hk_ hne_ => hu.block k_ (fun e_ => hne_ (by rw [e_]))⟩); have r1_ := Aside0.mk (keys_kept HK.out (row := some g16) ⟨hu.os, hu.tape, hu.output, by rw [hu.size]; exact Nat.le_refl _, fun k_ hk_ hne_ => hu.block k_ (fun e_ => hne_ (by rw [e_]))⟩ (fun b e cells hc => by injection e with e; subst e; rw [B16.out] at hc; injection hc with hc; injection hc with _ hc; cases hc)); have r2_ := Aside0.mk (hu.below HB.out G16.out); clear HG HK HB; have HG := r0_; have HK := r1_; have HB := r2_; clear r0_ r1_ r2_; clear B16; have B16 := Aside0.mk hbk; have c160 := (blk_cell B16.out 0).trans rfl; have c161 := (blk_cell B16.out 1).trans rfl; clear hbk hu) | (go_at_call 53; go_must (refine (batch_may.calls k key A3 c3 vs false _ NCV2.out HC3.out HMY.out).mono ?_); rintro e w23 ⟨rfl, hb⟩; have NO3 := Aside0.mk (Kd.R_below NO2.out hb); have NV3 := Aside0.mk (Kd.R_below NV2.out hb); clear NO2 NV2 NCV2; have r0_ := Aside0.mk (below_then HB.out HB.out.size hb); have r1_ := Aside0.mk (HG.out.below hb); have r2_ := Aside0.mk (Kd.R_below HK.out hb); have r3_ := Aside0.mk ((hb.block _ (blk_lt B16.out)).trans B16.out); clear HB HG HK B16; have HB := r0_; have HG := r1_; have HK := r2_; have B16 := r3_; clear r0_ r1_ r2_ r3_; clear c160 c161; have c160 := (blk_cell B16.out 0).trans rfl; have c161 := (blk_cell B16.out 1).trans rfl; clear hb))
            go_ret2
            exact ⟨.slice none 0 0, by rw [← HF3.out.2] <;> rfl, by rw [← HF3.out.1]; exact Kd.R_nil _ _ _ _ _, HB.out⟩
          | true =>
            go_wp2_with (first | ((with_reducible refine gate_dst (N := 78) rfl ?_); go_must (refine grp_lookup rfl _ _ rfl rfl HG.out key rfl HKZ.out ?_); rw [HV3.out]) | ((with_reducible refine gate_dst (N := 16) rfl ?_); refine box_event ?hg (N := 16) ?hd (cs := #[.string ⟨#[]⟩, .slice none 0 0]) (t := 67) ?hr ?_; (case hd => rfl); (case hg => rfl); (case hr => first | (go_simp; done) | (go_simp; rfl)); intro g16 hg w21 hbox hb; have G16 := Aside0.mk (show w.heap.size ≤ g16 from (by rw [hg]; exact HB.out.size)); have NO := Aside0.mk (show Kd.R k67 67 w21 w.heap.size (fun k_ => k_ ≠ g16) u13 out from Kd.R_below (Kd.R_mono (Kd.R_bound HO.out) (fun k_ hk_ => by have := hk_.2.2.1; omega)) hb); have NV := Aside0.mk (Kd.R_below HRV.out hb); have B16 := Aside0.mk hbox; have NCV := Aside0.mk (Kd.C_below HCV.out hb); clear hbox hg HO HRV HCV h0; have r0_ := Aside0.mk (below_then HB.out HB.out.size hb); have r1_ := Aside0.mk (HG.out.below hb); have r2_ := Aside0.mk (Kd.R_below HK.out hb); clear HB HG HK; have HB := r0_; have HG := r1_; have HK := r2_; clear r0_ r1_ r2_; clear hb) | ((with_reducible refine gate_store (t := 67) (p := 16) (v := .tmp 79) rfl ?_); go_must (refine sagg_event rfl 67 (.tmp 16) (.tmp 79) rfl rfl g16 #[.string key, .slice A3 vs.length c3] _ _ rfl rfl B16.out (by kernel_rfl) rfl rfl ?_); intro w22 hbk hu; have NO2 := Aside0.mk (Kd.R_mono (Kd.R_step NO.out (fun k_ hk_ _ => hu.block k_ hk_)) (ok' := fun _ => True) (fun _ _ => trivial)); have NV2 := Aside0.mk (Kd.R_mono (Kd.R_step (Kd.R_types NV.out B16.out (by decide)) (fun k_ hk_ _ => hu.block k_ hk_.2)) (ok' := fun _ => True) (fun _ _ => trivial)); obtain ⟨A4, c4, hv4, hc4, hC4⟩ := Kd.R_reads NV2.out; obtain ⟨rfl, rfl⟩ : A3 = A4 ∧ c3 = c4 := (by simpa using hv4); have NCV2 := Aside0.mk hC4; clear NO NV NCV hc4 hC4; have r0_ := Aside0.mk (HG.out.typed B16.out (by decide) (row := some g16) (fun b e => by injection e with e; exact e.symm) ⟨hu.os, hu.tape, hu.output, by rw [hu.size]; exact Nat.le_refl _, fun k_ hk_ hne_ => hu.block k_ (fun e_ => hne_ (by rw [e_]))⟩); have r1_ := Aside0.mk (keys_kept HK.out (row := some g16) ⟨hu.os, hu.tape, hu.output, by rw [hu.size]; exact Nat.le_refl _, fun k_ hk_ hne_ => hu.block k_ (fun e_ => hne_ (by rw [e_]))⟩ (fun b e cells hc => by injection e with e; subst e; rw [B16.out] at hc; injection hc with hc; injection hc with _ hc; cases hc)); have r2_ := Aside0.mk (hu.below HB.out G16.out); clear HG HK HB; have HG := r0_; have HK := r1_; have HB := r2_; clear r0_ r1_ r2_; clear B16; have B16 := Aside0.mk hbk; have c160 := (blk_cell B16.out 0).trans rfl; have c161 := (blk_cell B16.out 1).trans rfl; clear hbk hu) | (go_at_call 53; go_must (refine (batch_may.calls k key A3 c3 vs true _ NCV2.out HC3.out HMY.out).mono ?_); rintro e w23 ⟨rfl, hb⟩; have NO3 := Aside0.mk (Kd.R_below NO2.out hb); have NV3 := Aside0.mk (Kd.R_below NV2.out hb); clear NO2 NV2 NCV2; have r0_ := Aside0.mk (below_then HB.out HB.out.size hb); have r1_ := Aside0.mk (HG.out.below hb); have r2_ := Aside0.mk (Kd.R_below HK.out hb); have r3_ := Aside0.mk ((hb.block _ (blk_lt B16.out)).trans B16.out); clear HB HG HK B16; have HB := r0_; have HG := r1_; have HK := r2_; have B16 := r3_; clear r0_ r1_ r2_ r3_; clear c160 c161; have c160 := (blk_cell B16.out 0).trans rfl; have c161 := (blk_cell B16.out 1).trans rfl; clear hb) | ((with_reducible refine gate_builtin (b := .append) (xs := #[.tmp 83, .tmp 85]) rfl ?_); at_builtin; have NVO := Aside0.mk (show Kd.R k80 80 _ w.heap.size (fun k_ => some k_ = Value.ownBlock (.slice A3 vs.length c3)) (.slice A3 vs.length c3) vs from Kd.R_flat (fun hd => k80_any hd) NV3.out (fun k_ hk_ _ => hk_.symm)); have NOK := Aside0.mk (fun (k_ : Nat) (hk_ : some k_ = Value.ownBlock (.slice A3 vs.length c3)) => show True ∧ some k_ ≠ u13.ownBlock from ⟨trivial, fun e_ => by obtain ⟨i_, o_⟩ := Kd.R_own NO3.out; obtain ⟨x_, h_⟩ := own_typed o_ k_ e_.symm; obtain ⟨j_, p_⟩ := Kd.R_own NV3.out; obtain ⟨y_, q_⟩ := own_typed p_ k_ hk_.symm; rw [h_] at q_; injection q_ with q_; injection q_ with _ q_; cases q_⟩); go_must (refine Kd.R_append k67 (w0 := w) w.heap.size rfl (.tmp 83) (.tmp 85) 53 67 (.agg #[(.string ⟨#[]⟩), (.slice none 0 0)]) 40 rfl Try.underlying53 info67 rfl (by decide) (by decide) u13 out (⟨key, vs⟩ : S67) [.string key, .slice A3 vs.length c3] (fun _ => True) _ rfl rfl (k67_mkM _ _ _ (⟨key, vs⟩ : S67) NVO.out) NOK.out (fun _ _ => trivial) NO3.out HB.out HB.out.size HLO.out ?_); intro v14 w24 ho hb hgr hat; have HG4 := Aside0.mk (HG.out.kept hgr (fun e_ => by obtain ⟨i_, o_⟩ := Kd.R_own NO3.out; obtain ⟨c_, h_⟩ := own_typed o_ w.heap.size e_.symm; obtain ⟨es_, cl_, m_⟩ := HG.out.map_obj; rw [m_] at h_; cases h_) (fun g_ hg_ b_ hb_ e_ => by obtain ⟨i_, o_⟩ := Kd.R_own NO3.out; obtain ⟨c_, h_⟩ := own_typed o_ b_ e_.symm; obtain ⟨d_, k_⟩ := HG.out.own_block hg_ hb_; rw [k_] at h_; injection h_ with h_; injection h_ with _ h_; cases h_)); have HK4 := Aside0.mk (keys_kept HK.out hgr (fun b_ e_ cells_ hc_ => by obtain ⟨i_, o_⟩ := Kd.R_own NO3.out; obtain ⟨c_, h_⟩ := own_typed o_ b_ e_; rw [h_] at hc_; injection hc_ with hc_; injection hc_ with _ hc_; cases hc_)); clear HB HG HK B16 c160 c161 NVO NOK; have HB := Aside0.mk hb; have HG := HG4; have HK := HK4; have HO := Aside0.mk ho; clear ho hb hgr hat HG4 HK4))
            go_wp2
            go_roundg (ss.length - (j + 1))
            case measure => omega
            case rel => exact ⟨j + 1, out ++ [⟨key, vs⟩], by omega, by simp; omega, by omega, by go_num, HB, HG, HK, HO, ⟨by have e := HF2.out; rw [if_pos (by trivial)] at e; exact e⟩⟩
        · have hjz : ¬ (j : Int) < (ss.length : Int) := by omega
          have HF2 : Aside0 (out = r1 ∧ (0 : Int) = r2) := ⟨by have e := HF.out; rw [List.drop_of_length_le (by omega), itemsL] at e; exact ⟨(Prod.mk.inj (Option.some.inj e)).1, (Prod.mk.inj (Option.some.inj e)).2⟩⟩
          go_wp2
          go_ret2
          exact ⟨_, by rw [← HF2.out.2] <;> rfl, by rw [← HF2.out.1]; exact HO.out, HB.out⟩
end Go.Proofs.Ytehcmedeeaoebaa.PB
end
section
namespace Go.Proofs.Ytehcmedeeaoebaa.PB
open Go.RowKit Go.Proofs.YtehcmedeeaoebaaW.PrintWords Go.Proofs.YtehcmedeeaoebaaW.PrintLast Go.Proofs.YtehcmedeeaoebaaW.PrintMore
set_option linter.unusedVariables false
theorem u8_lt {a b : Int} (ha : 0 ≤ a ∧ a < 256) (hb : 0 ≤ b ∧ b < 256) (h : a < b) : UInt8.ofNat a.toNat < UInt8.ofNat b.toNat := by
  rw [UInt8.lt_iff_toNat_lt, UInt8.toNat_ofNat', UInt8.toNat_ofNat']
  omega
theorem lex_step {a b : Int} {xs ys : List UInt8} (ha : 0 ≤ a ∧ a < 256) (hb : 0 ≤ b ∧ b < 256) (h : a < b ∨ (a = b ∧ xs < ys)) : UInt8.ofNat a.toNat :: xs < UInt8.ofNat b.toNat :: ys := by
  rw [List.cons_lt_cons_iff]
  rcases h with h | ⟨rfl, h⟩
  · exact Or.inl (u8_lt ha hb h)
  · exact Or.inr ⟨rfl, h⟩
theorem bytesU_lt {u v : Int} (h0 : 0 ≤ u) (h : u < v) (h1 : v < 18446744073709551616) : bytesU u < bytesU v := by
  unfold bytesU
  rw [show u % 18446744073709551616 = u by omega, show v % 18446744073709551616 = v by omega, bytes8_list, bytes8_list]
  simp only [List.map_cons, List.map_nil]
  by_cases c7 : u / 72057594037927936 < v / 72057594037927936
  · exact lex_step (by omega) (by omega) (Or.inl (by omega))
  refine lex_step (by omega) (by omega) (Or.inr ⟨by omega, ?_⟩)
  have e7 : u / 72057594037927936 = v / 72057594037927936 := by omega
  by_cases c6 : u / 281474976710656 % 256 < v / 281474976710656 % 256
  · exact lex_step (by omega) (by omega) (Or.inl (by omega))
  have e6 : u / 281474976710656 % 256 = v / 281474976710656 % 256 := by omega
  refine lex_step (by omega) (by omega) (Or.inr ⟨by omega, ?_⟩)
  by_cases c5 : u / 1099511627776 % 256 < v / 1099511627776 % 256
  · exact lex_step (by omega) (by omega) (Or.inl (by omega))
  have e5 : u / 1099511627776 % 256 = v / 1099511627776 % 256 := by omega
  refine lex_step (by omega) (by omega) (Or.inr ⟨by omega, ?_⟩)
  by_cases c4 : u / 4294967296 % 256 < v / 4294967296 % 256
  · exact lex_step (by omega) (by omega) (Or.inl (by omega))
  have e4 : u / 4294967296 % 256 = v / 4294967296 % 256 := by omega
  refine lex_step (by omega) (by omega) (Or.inr ⟨by omega, ?_⟩)
  by_cases c3 : u / 16777216 % 256 < v / 16777216 % 256
  · exact lex_step (by omega) (by omega) (Or.inl (by omega))
  have e3 : u / 16777216 % 256 = v / 16777216 % 256 := by omega
  refine lex_step (by omega) (by omega) (Or.inr ⟨by omega, ?_⟩)
  by_cases c2 : u / 65536 % 256 < v / 65536 % 256
  · exact lex_step (by omega) (by omega) (Or.inl (by omega))
  have e2 : u / 65536 % 256 = v / 65536 % 256 := by omega
  refine lex_step (by omega) (by omega) (Or.inr ⟨by omega, ?_⟩)
  by_cases c1 : u / 256 % 256 < v / 256 % 256
  · exact lex_step (by omega) (by omega) (Or.inl (by omega))
  have e1 : u / 256 % 256 = v / 256 % 256 := by omega
  refine lex_step (by omega) (by omega) (Or.inr ⟨by omega, ?_⟩)
  exact lex_step (by omega) (by omega) (Or.inl (by omega))
theorem pk_list (key : ByteArray) (t : Int) (h0 : 0 ≤ t) (h1 : t ≤ 1152921504606846976) : (pairKey key t).data.toList = key.data.toList ++ bytesU (1152921504606846976 - t) := by
  unfold pairKey bytesU
  rw [strOfNums_data, List.map_append, show (1152921504606846976 - t) % 18446744073709551616 = 1152921504606846976 - t by omega]
  congr 1
  have := congrArg (fun s : ByteArray => s.data.toList) (strOfNums_bytesOf key)
  simp only [strOfNums_data] at this
  exact this
theorem pk_size (key : ByteArray) (t : Int) (h0 : 0 ≤ t) (h1 : t ≤ 1152921504606846976) : (pairKey key t).size = key.size + 8 := by
  have := congrArg List.length (pk_list key t h0 h1)
  rw [List.length_append, bytesU_length] at this
  simpa using this
theorem pk_inj {k1 k2 : ByteArray} {t1 t2 : Int} (h1 : 0 ≤ t1) (h1' : t1 ≤ 1152921504606846976) (h2 : 0 ≤ t2) (h2' : t2 ≤ 1152921504606846976) (h : pairKey k1 t1 = pairKey k2 t2) : k1 = k2 ∧ t1 = t2 := by
  have e := congrArg (fun s : ByteArray => s.data.toList) h
  simp only [pk_list _ _ h1 h1', pk_list _ _ h2 h2'] at e
  obtain ⟨e1, e2⟩ := List.append_inj' e (by rw [bytesU_length, bytesU_length])
  refine ⟨ByteArray.ext (Array.toList_inj.1 e1), ?_⟩
  rcases (show t1 < t2 ∨ t1 = t2 ∨ t2 < t1 by omega) with h | h | h
  · have := bytesU_lt (u := 1152921504606846976 - t2) (v := 1152921504606846976 - t1) (by omega) (by omega) (by omega)
    rw [e2] at this
    exact absurd this (List.lt_irrefl _)
  · exact h
  · have := bytesU_lt (u := 1152921504606846976 - t1) (v := 1152921504606846976 - t2) (by omega) (by omega) (by omega)
    rw [e2] at this
    exact absurd this (List.lt_irrefl _)
theorem append_lt {l a b : List UInt8} (h : a < b) : l ++ a < l ++ b := by
  induction l with
  | nil => exact h
  | cons x l ih => rw [List.cons_append, List.cons_append, List.cons_lt_cons_iff]; exact Or.inr ⟨rfl, ih⟩
theorem pk_lt {key : ByteArray} {t1 t2 : Int} (h2 : 0 ≤ t2) (h : t2 < t1) (h1 : t1 ≤ 1152921504606846976) : ltS (pairKey key t1) (pairKey key t2) = true := by
  rw [ltS_iff, pk_list _ _ (by omega) h1, pk_list _ _ h2 (by omega)]
  exact append_lt (bytesU_lt (by omega) (by omega) (by omega))
def pairOf (key : ByteArray) (v : S80) : S69 := ⟨pairKey key v.f0, pairVal v⟩
def okV (v : S80) : Prop := 1 ≤ v.f0 ∧ v.f0 ≤ 1152921504606846976 ∧ v.f1.size ≤ 199 ∧ (v.f2 = true → v.f1 = ⟨#[]⟩)
theorem pairVal_size (v : S80) : (pairVal v).size = if v.f2 = true then 1 else 1 + v.f1.size := by
  unfold pairVal
  cases v.f2
  · simp only [Bool.false_eq_true, if_false]; rw [size_app]; rfl
  · rfl
theorem versionP_pair (key : ByteArray) (v : S80) (hv : okV v) : versionP (pairOf key v) = some (key, v) := by
  obtain ⟨h1, h2, h3, h4⟩ := hv
  have hks := pk_size key v.f0 (by omega) h2
  have hl := pk_list key v.f0 (by omega) h2
  have hvs : 1 ≤ (pairVal v).size := by rw [pairVal_size]; split <;> omega
  have hb : bt (pairVal v) 0 = if v.f2 = true then 0 else 1 := by
    have : (pairVal v).data.toList = (if v.f2 = true then [0] else 1 :: v.f1.data.toList) := by
      unfold pairVal
      cases v.f2
      · simp only [Bool.false_eq_true, if_false, ByteArray.data_append, Array.toList_append]; rfl
      · rfl
    cases hf : v.f2 with
    | true =>
      rw [hf, if_pos rfl] at this
      have := (frm_cons (s := pairVal v) (p := 0) (b := 0) (rest := []) (by unfold frm; rw [List.drop_zero]; exact this)).2.1
      rw [if_pos rfl]; exact this
    | false =>
      rw [hf, if_neg (by simp)] at this
      have := (frm_cons (s := pairVal v) (p := 0) (b := 1) (rest := v.f1.data.toList) (by unfold frm; rw [List.drop_zero]; exact this)).2.1
      rw [if_neg (by simp)]; exact this
  have htail : ((pairKey key v.f0).extract (((pairKey key v.f0).size : Int) - 8).toNat (pairKey key v.f0).size).data.toList = bytesU (1152921504606846976 - v.f0) := by
    rw [ByteArray.data_extract, Array.toList_extract, List.extract_eq_take_drop, hl, hks, show ((((key.size + 8 : Nat) : Int) - 8).toNat) = key.size by omega]
    have e : key.data.toList.length = key.size := by simp
    rw [List.drop_append_of_le_length (by omega), ← e, List.drop_length, List.nil_append, List.take_of_length_le (by rw [bytesU_length]; omega)]
  have hhead : (pairKey key v.f0).extract 0 (((pairKey key v.f0).size : Int) - 8).toNat = key := by
    apply ByteArray.ext
    apply Array.toList_inj.1
    rw [ByteArray.data_extract, Array.toList_extract, List.extract_eq_take_drop, hl, hks, show ((((key.size + 8 : Nat) : Int) - 8).toNat) = key.size by omega, List.drop_zero]
    have e : key.data.toList.length = key.size := by simp
    rw [Nat.sub_zero, ← e, List.take_left]
  have ht : wrap64 (be (bytesOf ((pairKey key v.f0).extract (((pairKey key v.f0).size : Int) - 8).toNat (pairKey key v.f0).size))) = 1152921504606846976 - v.f0 := by
    have hbb : bytesOf ((pairKey key v.f0).extract (((pairKey key v.f0).size : Int) - 8).toNat (pairKey key v.f0).size) = bytes8 (1152921504606846976 - v.f0) := by
      unfold bytesOf
      rw [htail]
      unfold bytesU
      rw [show (1152921504606846976 - v.f0) % 18446744073709551616 = 1152921504606846976 - v.f0 by omega, bytes8_list]
      simp only [List.map_cons, List.map_nil, UInt8.toNat_ofNat']
      simp only [List.cons.injEq, and_true]
      refine ⟨by omega, by omega, by omega, by omega, by omega, by omega, by omega, by omega⟩
    rw [hbb, be_bytes8 _ (by omega) (by omega), w64 (by omega) (by omega)]
  have hval : (pairVal v).extract 1 (pairVal v).size = v.f1 := by
    apply ByteArray.ext
    apply Array.toList_inj.1
    cases hf : v.f2 with
    | true => rw [h4 hf]; unfold pairVal; rw [hf]; rfl
    | false =>
      unfold pairVal
      rw [hf]
      simp only [Bool.false_eq_true, if_false]
      rw [ByteArray.data_extract, Array.toList_extract, List.extract_eq_take_drop, size_app, ByteArray.data_append, Array.toList_append]
      have e : v.f1.data.toList.length = v.f1.size := by simp
      show List.take ((1 + v.f1.size) - 1) (List.drop 1 (1 :: v.f1.data.toList)) = _
      rw [List.drop_succ_cons, List.drop_zero, List.take_of_length_le (by omega)]
  unfold versionP pairOf
  simp only
  rw [if_neg (by omega), if_neg (by rw [hb]; split <;> omega), if_neg (by rw [ht]; omega), ht, hhead, hval, hb]
  have e1 : 1152921504606846976 - (1152921504606846976 - v.f0) = v.f0 := by omega
  rw [e1]
  cases hf : v.f2
  · cases v; simp_all
  · cases v; simp_all
end Go.Proofs.Ytehcmedeeaoebaa.PB
end
section
namespace Go.Proofs.Ytehcmedeeaoebaa.PB
open Go.ChangeAt Go.Joins Go.Deep Go.WideShapes Go.ChangeShapes
open Go.RowKit Go.Proofs.YtehcmedeeaoebaaW.PrintWords Go.Proofs.YtehcmedeeaoebaaW.PrintLast Go.Proofs.YtehcmedeeaoebaaW.PrintMore
theorem c4 : Try.prog.cellsOf 4 = 1 := by kernel_rfl
theorem c3 : Try.prog.cellsOf 3 = 1 := by kernel_rfl
theorem c9 : Try.prog.cellsOf 9 = 1 := by kernel_rfl
theorem c65 : Try.prog.cellsOf 65 = 1 := by kernel_rfl
theorem c52 : Try.prog.cellsOf 52 = 3 := by kernel_rfl
theorem c69 : Try.prog.cellsOf 69 = 2 := by kernel_rfl
theorem c80 : Try.prog.cellsOf 80 = 3 := by kernel_rfl
theorem c67 : Try.prog.cellsOf 67 = 2 := by kernel_rfl
theorem c24 : Try.prog.cellsOf 24 = 2 := by kernel_rfl
theorem len2 {α : Type} {l : List α} (h : l.length = 2) : ∃ a b, l = [a, b] := by
  match l, h with
  | [a, b], _ => exact ⟨a, b, rfl⟩
theorem len3 {α : Type} {l : List α} (h : l.length = 3) : ∃ a b c, l = [a, b, c] := by
  match l, h with
  | [a, b, c], _ => exact ⟨a, b, c, rfl⟩
instance : Inhabited S52 := ⟨⟨⟨#[]⟩, ⟨#[]⟩, false⟩⟩
instance : Inhabited S80 := ⟨⟨0, ⟨#[]⟩, false⟩⟩
end Go.Proofs.Ytehcmedeeaoebaa.PB
end
