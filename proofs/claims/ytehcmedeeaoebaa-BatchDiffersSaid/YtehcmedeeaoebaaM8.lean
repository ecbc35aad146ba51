import Derived.Test.YtehcmedeeaoebaaM1
import Derived.Test.YtehcmedeeaoebaaM3
import Derived.Test.YtehcmedeeaoebaaM5
import Derived.Test.YtehcmedeeaoebaaM7
import Derived.Test.YtehcmedeeaoebaaM6
import Derived.ChangeArms
import Derived.ChangeSame
import Derived.Deep.Strs
import Derived.Deep.Slices
import Derived.Lib.SmallJoins
section
namespace Go.Proofs.Ytehcmedeeaoebaa.PB
open Go.RowKit Go.Proofs.YtehcmedeeaoebaaW.PrintWords Go.Proofs.YtehcmedeeaoebaaW.PrintLast Go.Proofs.YtehcmedeeaoebaaW.PrintMore
attribute [local go_sem] max2_int min2_int max_two min_two max_three min_three max_four min_four
set_option linter.unusedVariables false
set_option linter.unusedSimpArgs false
def ambrylaw15_BatchDiffers.j0 : Nat → List (S69) → List (S69) → Bool → Option (Bool)
  | 0, _, _, _ => none
  | k + 1, x0, x1, x12 => if x12 = true then ((ambrylaw15_lives.f k).bind fun t303 => (some t303)) else ((batch_Differ.f k x0 x1).bind fun t304 => ((ambryref15_Differ.f k x0 x1).bind fun t307 => ((ambryref15_SameChanges.f k t304 t307).bind fun t310 => (if t310 = true then ((ambrylaw15_lives.f k).bind fun t311 => (some t311)) else (some false)))))
def ambrylaw15_BatchDiffers.f (k : Nat) (l0 : List (S69)) (l1 : List (S69)) : Option (Bool) := if (l0.length : Int) > 1000 then (ambrylaw15_BatchDiffers.j0 k l0 l1 true) else (ambrylaw15_BatchDiffers.j0 k l0 l1 (decide ((l1.length : Int) > 1000)))
theorem ambrylaw15_BatchDiffers.mono_l : ∀ k, (∀ y0 y1 y2, LeO (ambrylaw15_BatchDiffers.j0 k y0 y1 y2) (ambrylaw15_BatchDiffers.j0 (k + 1) y0 y1 y2))
  | 0 => fun _ _ _ r h => by simp [ambrylaw15_BatchDiffers.j0] at h
  | k + 1 => by
    have ih0 := ambrylaw15_BatchDiffers.mono_l k
    · intro y0 y1 y2
      unfold ambrylaw15_BatchDiffers.j0
      repeat' first
      | (with_reducible exact ih0 _ _ _)
      | (with_reducible exact ambrylaw15_lives.mono _)
      | (with_reducible exact ambryref15_Differ.mono _ _ _)
      | (with_reducible exact ambryref15_SameChanges.mono _ _ _)
      | (with_reducible exact batch_Differ.mono _ _ _)
      | (with_reducible exact LeO.refl _)
      | (with_reducible exact LeO.none _)
      | (with_reducible refine LeO.ite ?_ ?_)
      | (with_reducible refine LeO.bind ?_ (fun _ => ?_))
      | exact ih0 _ _ _
      | exact ambrylaw15_lives.mono _
      | exact ambryref15_Differ.mono _ _ _
      | exact ambryref15_SameChanges.mono _ _ _
      | exact batch_Differ.mono _ _ _
      | exact LeO.none _
      | refine LeO.ite ?_ ?_
      | refine LeO.bind ?_ (fun _ => ?_)
theorem ambrylaw15_BatchDiffers.mono : ∀ a0 a1 k, LeO (ambrylaw15_BatchDiffers.f k a0 a1) (ambrylaw15_BatchDiffers.f (k + 1) a0 a1) := by
  intro a0 a1 k
  have ih0 := ambrylaw15_BatchDiffers.mono_l k
  unfold ambrylaw15_BatchDiffers.f
  repeat' first
      | (with_reducible exact ih0 _ _ _)
      | (with_reducible exact ambrylaw15_lives.mono _)
      | (with_reducible exact ambryref15_Differ.mono _ _ _)
      | (with_reducible exact ambryref15_SameChanges.mono _ _ _)
      | (with_reducible exact batch_Differ.mono _ _ _)
      | (with_reducible exact LeO.refl _)
      | (with_reducible exact LeO.none _)
      | (with_reducible refine LeO.ite ?_ ?_)
      | (with_reducible refine LeO.bind ?_ (fun _ => ?_))
      | exact ih0 _ _ _
      | exact ambrylaw15_lives.mono _
      | exact ambryref15_Differ.mono _ _ _
      | exact ambryref15_SameChanges.mono _ _ _
      | exact batch_Differ.mono _ _ _
      | exact LeO.none _
      | refine LeO.ite ?_ ?_
      | refine LeO.bind ?_ (fun _ => ?_)
set_option maxHeartbeats 8000000 in
set_option maxRecDepth 100000 in
theorem ambrylaw15_BatchDiffers.calls (k : Nat) (A0 : Option Addr) (c0 : Nat) (l0 : List (S69)) (A1 : Option Addr) (c1 : Nat) (l1 : List (S69)) (r : Bool) (w : World) (hr0 : Kd.C k69 w A0 l0.length l0) (hc0 : l0.length ≤ c0) (hr1 : Kd.C k69 w A1 l1.length l1) (hc1 : l1.length ≤ c1) (h : ambrylaw15_BatchDiffers.f k l0 l1 = some r) :
    Calls Try.prog 6 #[.slice A0 l0.length c0, .slice A1 l1.length c1] w fun e w' => e = .returned (.bool r) ∧ Below w.heap.size w w' := by
  have HR0 := Aside0.mk hr0
  have HC0 := Aside0.mk hc0
  clear hr0 hc0
  have HR1 := Aside0.mk hr1
  have HC1 := Aside0.mk hc1
  clear hr1 hc1
  have HB := Aside0.mk (Below.refl w.heap.size w)
  have H : (if (l0.length : Int) > 1000 then (ambrylaw15_BatchDiffers.j0 k l0 l1 true) else (ambrylaw15_BatchDiffers.j0 k l0 l1 (decide ((l1.length : Int) > 1000)))) = some r := h
  clear h
  have HC3 := Aside0.mk H
  clear H
  go_enter Try.func6, Try.ntmps6
  go_upto_region 1 with (fail)
  go_cut [12] (fun v12 wc => ∃ (kq : Nat) (x12_2 : Bool), v12 = .bool x12_2 ∧ Aside0 (ambrylaw15_BatchDiffers.j0 kq l0 l1 x12_2 = some r) ∧ Aside0 (kq ≤ k) ∧ Aside0 (Below w.heap.size w wc))
  case first =>
    have H := HC3.out
    clear HC3
    by_cases c4 : (l0.length : Int) > 1000
    · rw [if_pos c4] at H
      have c4b0 : decide (1000 < (l0.length : Int)) = true := decide_eq_true c4
      have c4b1 : decide (1000 < l0.length) = true := decide_eq_true (by omega)
      clear c4
      (first | rw [c4b0] | (simp only [i64_w, i32_w]; rw [c4b0]) | skip)
      have H' := Aside0.mk H
      clear H
      go_wp2
      go_meet
      case rel => exact ⟨_, (true), (by first | rfl | (simp; done) | (simp [*]; done)), H', ⟨by first | omega | exact Nat.le_refl _⟩, ⟨by repeat (first | (with_reducible first | exact HB.out | apply below_alloc | apply pw_below_drewN | apply below_drew1) | exact HB.out)⟩⟩
    · rw [if_neg c4] at H
      have c4b0 : decide (1000 < (l0.length : Int)) = false := decide_eq_false c4
      have c4b1 : decide (1000 < l0.length) = false := decide_eq_false (by omega)
      clear c4
      (first | rw [c4b0] | (simp only [i64_w, i32_w]; rw [c4b0]) | skip)
      have H' := Aside0.mk H
      clear H
      go_wp2
      go_meet
      case rel => exact ⟨_, (decide ((l1.length : Int) > 1000)), (by first | rfl | (simp; done) | (simp [*]; done)), H', ⟨by first | omega | exact Nat.le_refl _⟩, ⟨by repeat (first | (with_reducible first | exact HB.out | apply below_alloc | apply pw_below_drewN | apply below_drew1) | exact HB.out)⟩⟩
  case rest =>
    clear HC3
    try clear c1
    try clear p2
    try clear c4
    try clear c4b0
    try clear c4b1
    obtain ⟨kq, x12_2, rfl, HA, HJ2, HB⟩ := hcut
    cases kq with
    | zero => exact absurd HA.out (by simp [ambrylaw15_BatchDiffers.j0])
    | succ kj2 =>
      have H := HA.out
      clear HA
      simp only [ambrylaw15_BatchDiffers.j0] at H
      by_cases c5 : x12_2 = true
      · subst c5
        have H1 : ((ambrylaw15_lives.f kj2).bind fun t303 => (some t303)) = some r := by rw [if_pos rfl] at H; exact H
        clear H
        have H := H1
        clear H1
        replace H := Option.bind_eq_some_iff.mp H
        obtain ⟨t303, A60, H⟩ := H
        replace H : (some t303) = some r := H
        have A6 := Aside0.mk A60
        clear A60
        obtain rfl := Option.some.inj H
        go_wp2_with (first | ((with_reducible refine gate_callee (f := 13) rfl ?_); refine goesL_ (some 13) rfl rfl Try.func13 (by kernel_rfl) rfl #[] rfl (by (try simp only [List.map_toArray, List.map_cons, List.map_nil]); first | done | rfl | (simp only [List.length_drop, List.length_take]; rfl)) ?_; (with_reducible refine (ambrylaw15_lives.calls kj2  t303 _ A6.out).mono ?_); rintro e w7 ⟨rfl, hb⟩; refine ⟨_, rfl, ?_⟩; have n0_ := Aside0.mk (below_step (by repeat (first | (with_reducible first | exact HB.out | apply below_alloc | apply pw_below_drewN | apply below_drew1) | exact HB.out)) hb); clear HB; have HB := n0_; clear n0_; (try clear hb); (try clear hb2); (try clear hk); (try clear hi)))
        go_ret
        exact ⟨by first | rfl | (simp [errW_none, errW_some] <;> rfl) | (simp [*, errW_none, errW_some] <;> rfl), by repeat (first | (with_reducible first | exact HB.out | apply below_alloc | apply pw_below_drewN | apply below_drew1) | exact HB.out)⟩
      · replace c5 := Bool.eq_false_iff.mpr c5
        subst c5
        have H1 : ((batch_Differ.f kj2 l0 l1).bind fun t304 => ((ambryref15_Differ.f kj2 l0 l1).bind fun t307 => ((ambryref15_SameChanges.f kj2 t304 t307).bind fun t310 => (if t310 = true then ((ambrylaw15_lives.f kj2).bind fun t311 => (some t311)) else (some false))))) = some r := by rw [if_neg (show ¬ (false = true) by decide)] at H; exact H
        clear H
        have H := H1
        clear H1
        replace H := Option.bind_eq_some_iff.mp H
        obtain ⟨t304, A80, H⟩ := H
        replace H : ((ambryref15_Differ.f kj2 l0 l1).bind fun t307 => ((ambryref15_SameChanges.f kj2 t304 t307).bind fun t310 => (if t310 = true then ((ambrylaw15_lives.f kj2).bind fun t311 => (some t311)) else (some false)))) = some r := H
        have A8 := Aside0.mk A80
        clear A80
        replace H := Option.bind_eq_some_iff.mp H
        obtain ⟨t307, A90, H⟩ := H
        replace H : ((ambryref15_SameChanges.f kj2 t304 t307).bind fun t310 => (if t310 = true then ((ambrylaw15_lives.f kj2).bind fun t311 => (some t311)) else (some false))) = some r := H
        have A9 := Aside0.mk A90
        clear A90
        replace H := Option.bind_eq_some_iff.mp H
        obtain ⟨t310, A100, H⟩ := H
        replace H : (if t310 = true then ((ambrylaw15_lives.f kj2).bind fun t311 => (some t311)) else (some false)) = some r := H
        have A10 := Aside0.mk A100
        clear A100
        by_cases c11 : t310 = true
        · subst c11
          have H1 : ((ambrylaw15_lives.f kj2).bind fun t311 => (some t311)) = some r := by rw [if_pos rfl] at H; exact H
          clear H
          have H := H1
          clear H1
          replace H := Option.bind_eq_some_iff.mp H
          obtain ⟨t311, A120, H⟩ := H
          replace H : (some t311) = some r := H
          have A12 := Aside0.mk A120
          clear A120
          obtain rfl := Option.some.inj H
          go_wp2_with (first | ((with_reducible refine gate_callee (f := 21) rfl ?_); refine goesL_ (some 16) rfl rfl Try.func21 (by kernel_rfl) rfl #[.slice A0 l0.length c0, .slice A1 l1.length c1] rfl (by (try simp only [List.map_toArray, List.map_cons, List.map_nil]); first | done | rfl | (simp only [List.length_drop, List.length_take]; rfl)) ?_; (with_reducible refine (batch_Differ.calls kj2 _ _ l0 _ _ l1 t304 _ ?side1 ?side2 ?side3 ?side4 A8.out).mono ?_); (case side1 => repeat (first | exact (Kd.C_below HR0.out HB.out) | (with_reducible refine Kd.C_alloc ?_ _) | (with_reducible refine Kd.C_drewN ?_ _) | (with_reducible refine Kd.C_drew ?_))); (case side2 => exact HC0.out); (case side3 => repeat (first | exact (Kd.C_below HR1.out HB.out) | (with_reducible refine Kd.C_alloc ?_ _) | (with_reducible refine Kd.C_drewN ?_ _) | (with_reducible refine Kd.C_drew ?_))); (case side4 => exact HC1.out); rintro e w13 ⟨v305, rfl, ho0, hb⟩; refine ⟨_, rfl, ?_⟩; have n0_ := Aside0.mk (Kd.R_lower ho0 (below_size (by repeat (first | (with_reducible first | exact HB.out | apply below_alloc | apply pw_below_drewN | apply below_drew1) | exact HB.out)))); have n1_ := Aside0.mk (below_step (by repeat (first | (with_reducible first | exact HB.out | apply below_alloc | apply pw_below_drewN | apply below_drew1) | exact HB.out)) hb); clear HB; have HO306 := n0_; have HB := n1_; clear n0_ n1_; (try clear hb); (try clear hb2); (try clear hk); (try clear hi); (try clear ho0)) | ((with_reducible refine gate_callee (f := 22) rfl ?_); refine goesL_ (some 19) rfl rfl Try.func22 (by kernel_rfl) rfl #[.slice A0 l0.length c0, .slice A1 l1.length c1] rfl (by (try simp only [List.map_toArray, List.map_cons, List.map_nil]); first | done | rfl | (simp only [List.length_drop, List.length_take]; rfl)) ?_; (with_reducible refine (ambryref15_Differ.calls kj2 _ _ l0 _ _ l1 t307 _ ?side1 ?side2 ?side3 ?side4 A9.out).mono ?_); (case side1 => repeat (first | exact (Kd.C_below HR0.out HB.out) | (with_reducible refine Kd.C_alloc ?_ _) | (with_reducible refine Kd.C_drewN ?_ _) | (with_reducible refine Kd.C_drew ?_))); (case side2 => exact HC0.out); (case side3 => repeat (first | exact (Kd.C_below HR1.out HB.out) | (with_reducible refine Kd.C_alloc ?_ _) | (with_reducible refine Kd.C_drewN ?_ _) | (with_reducible refine Kd.C_drew ?_))); (case side4 => exact HC1.out); rintro e w14 ⟨v308, rfl, ho0, hb⟩; refine ⟨_, rfl, ?_⟩; have n0_ := Aside0.mk (Kd.R_elder' (by (with_reducible repeat (first | apply Kd.R_alloc | apply Kd.R_drewN | apply Kd.R_drew)); exact HO306.out) (Kd.R_base ho0) hb); have n1_ := Aside0.mk (Kd.R_lower (Kd.R_new' ho0 (Kd.R_lt (by (with_reducible repeat (first | apply Kd.R_alloc | apply Kd.R_drewN | apply Kd.R_drew)); exact HO306.out))) (below_size (by repeat (first | (with_reducible first | exact HB.out | apply below_alloc | apply pw_below_drewN | apply below_drew1) | exact HB.out)))); have n2_ := Aside0.mk (below_step (by repeat (first | (with_reducible first | exact HB.out | apply below_alloc | apply pw_below_drewN | apply below_drew1) | exact HB.out)) hb); clear HO306; clear HB; have HO306 := n0_; have HO309 := n1_; have HB := n2_; clear n0_ n1_ n2_; (try clear hb); (try clear hb2); (try clear hk); (try clear hi); (try clear ho0); obtain ⟨Ao15, co15, eo15⟩ := Kd.R_slice HO306.out; subst eo15; obtain ⟨Ao16, co16, eo16⟩ := Kd.R_slice HO309.out; subst eo16) | ((with_reducible refine gate_callee (f := 20) rfl ?_); refine goesL_ (some 20) rfl rfl Try.func20 (by kernel_rfl) rfl #[.slice Ao15 t304.length co15, .slice Ao16 t307.length co16] rfl (by (try simp only [List.map_toArray, List.map_cons, List.map_nil]); first | done | rfl | (simp only [List.length_drop, List.length_take]; rfl)) ?_; (with_reducible refine (ambryref15_SameChanges.calls kj2 _ _ t304 _ _ t307 true _ ?side1 ?side2 ?side3 ?side4 A10.out).mono ?_); (case side1 => repeat (first | exact (Kd.R_reads' HO306.out).2.2 | (with_reducible refine Kd.C_alloc ?_ _) | (with_reducible refine Kd.C_drewN ?_ _) | (with_reducible refine Kd.C_drew ?_))); (case side2 => exact (Kd.R_reads' HO306.out).2.1); (case side3 => repeat (first | exact (Kd.R_reads' HO309.out).2.2 | (with_reducible refine Kd.C_alloc ?_ _) | (with_reducible refine Kd.C_drewN ?_ _) | (with_reducible refine Kd.C_drew ?_))); (case side4 => exact (Kd.R_reads' HO309.out).2.1); rintro e w' ⟨rfl, ⟨nd, rfl⟩⟩; refine ⟨_, rfl, ?_⟩) | (go_at_call 13; (with_reducible refine (ambrylaw15_lives.calls kj2  t311 _ A12.out).mono ?_); rintro e w17 ⟨rfl, hb⟩; have n0_ := Aside0.mk (Kd.R_below (by (with_reducible repeat (first | apply Kd.R_alloc | apply Kd.R_drewN | apply Kd.R_drew)); exact HO306.out) hb); have n1_ := Aside0.mk (Kd.R_below (by (with_reducible repeat (first | apply Kd.R_alloc | apply Kd.R_drewN | apply Kd.R_drew)); exact HO309.out) hb); have n2_ := Aside0.mk (below_step (by repeat (first | (with_reducible first | exact HB.out | apply below_alloc | apply pw_below_drewN | apply below_drew1) | exact HB.out)) hb); clear HO306; clear HO309; clear HB; have HO306 := n0_; have HO309 := n1_; have HB := n2_; clear n0_ n1_ n2_; (try clear hb); (try clear hb2); (try clear hk); (try clear hi)))
          go_ret
          exact ⟨by first | rfl | (simp [errW_none, errW_some] <;> rfl) | (simp [*, errW_none, errW_some] <;> rfl), by repeat (first | (with_reducible first | exact HB.out | apply below_alloc | apply pw_below_drewN | apply below_drew1) | exact HB.out)⟩
        · replace c11 := Bool.eq_false_iff.mpr c11
          subst c11
          have H1 : (some false) = some r := by rw [if_neg (show ¬ (false = true) by decide)] at H; exact H
          clear H
          have H := H1
          clear H1
          obtain rfl := Option.some.inj H
          go_wp2_with (first | ((with_reducible refine gate_callee (f := 21) rfl ?_); refine goesL_ (some 16) rfl rfl Try.func21 (by kernel_rfl) rfl #[.slice A0 l0.length c0, .slice A1 l1.length c1] rfl (by (try simp only [List.map_toArray, List.map_cons, List.map_nil]); first | done | rfl | (simp only [List.length_drop, List.length_take]; rfl)) ?_; (with_reducible refine (batch_Differ.calls kj2 _ _ l0 _ _ l1 t304 _ ?side1 ?side2 ?side3 ?side4 A8.out).mono ?_); (case side1 => repeat (first | exact (Kd.C_below HR0.out HB.out) | (with_reducible refine Kd.C_alloc ?_ _) | (with_reducible refine Kd.C_drewN ?_ _) | (with_reducible refine Kd.C_drew ?_))); (case side2 => exact HC0.out); (case side3 => repeat (first | exact (Kd.C_below HR1.out HB.out) | (with_reducible refine Kd.C_alloc ?_ _) | (with_reducible refine Kd.C_drewN ?_ _) | (with_reducible refine Kd.C_drew ?_))); (case side4 => exact HC1.out); rintro e w18 ⟨v305, rfl, ho0, hb⟩; refine ⟨_, rfl, ?_⟩; have n0_ := Aside0.mk (Kd.R_lower ho0 (below_size (by repeat (first | (with_reducible first | exact HB.out | apply below_alloc | apply pw_below_drewN | apply below_drew1) | exact HB.out)))); have n1_ := Aside0.mk (below_step (by repeat (first | (with_reducible first | exact HB.out | apply below_alloc | apply pw_below_drewN | apply below_drew1) | exact HB.out)) hb); clear HB; have HO306 := n0_; have HB := n1_; clear n0_ n1_; (try clear hb); (try clear hb2); (try clear hk); (try clear hi); (try clear ho0)) | ((with_reducible refine gate_callee (f := 22) rfl ?_); refine goesL_ (some 19) rfl rfl Try.func22 (by kernel_rfl) rfl #[.slice A0 l0.length c0, .slice A1 l1.length c1] rfl (by (try simp only [List.map_toArray, List.map_cons, List.map_nil]); first | done | rfl | (simp only [List.length_drop, List.length_take]; rfl)) ?_; (with_reducible refine (ambryref15_Differ.calls kj2 _ _ l0 _ _ l1 t307 _ ?side1 ?side2 ?side3 ?side4 A9.out).mono ?_); (case side1 => repeat (first | exact (Kd.C_below HR0.out HB.out) | (with_reducible refine Kd.C_alloc ?_ _) | (with_reducible refine Kd.C_drewN ?_ _) | (with_reducible refine Kd.C_drew ?_))); (case side2 => exact HC0.out); (case side3 => repeat (first | exact (Kd.C_below HR1.out HB.out) | (with_reducible refine Kd.C_alloc ?_ _) | (with_reducible refine Kd.C_drewN ?_ _) | (with_reducible refine Kd.C_drew ?_))); (case side4 => exact HC1.out); rintro e w19 ⟨v308, rfl, ho0, hb⟩; refine ⟨_, rfl, ?_⟩; have n0_ := Aside0.mk (Kd.R_elder' (by (with_reducible repeat (first | apply Kd.R_alloc | apply Kd.R_drewN | apply Kd.R_drew)); exact HO306.out) (Kd.R_base ho0) hb); have n1_ := Aside0.mk (Kd.R_lower (Kd.R_new' ho0 (Kd.R_lt (by (with_reducible repeat (first | apply Kd.R_alloc | apply Kd.R_drewN | apply Kd.R_drew)); exact HO306.out))) (below_size (by repeat (first | (with_reducible first | exact HB.out | apply below_alloc | apply pw_below_drewN | apply below_drew1) | exact HB.out)))); have n2_ := Aside0.mk (below_step (by repeat (first | (with_reducible first | exact HB.out | apply below_alloc | apply pw_below_drewN | apply below_drew1) | exact HB.out)) hb); clear HO306; clear HB; have HO306 := n0_; have HO309 := n1_; have HB := n2_; clear n0_ n1_ n2_; (try clear hb); (try clear hb2); (try clear hk); (try clear hi); (try clear ho0); obtain ⟨Ao20, co20, eo20⟩ := Kd.R_slice HO306.out; subst eo20; obtain ⟨Ao21, co21, eo21⟩ := Kd.R_slice HO309.out; subst eo21) | ((with_reducible refine gate_callee (f := 20) rfl ?_); refine goesL_ (some 20) rfl rfl Try.func20 (by kernel_rfl) rfl #[.slice Ao20 t304.length co20, .slice Ao21 t307.length co21] rfl (by (try simp only [List.map_toArray, List.map_cons, List.map_nil]); first | done | rfl | (simp only [List.length_drop, List.length_take]; rfl)) ?_; (with_reducible refine (ambryref15_SameChanges.calls kj2 _ _ t304 _ _ t307 false _ ?side1 ?side2 ?side3 ?side4 A10.out).mono ?_); (case side1 => repeat (first | exact (Kd.R_reads' HO306.out).2.2 | (with_reducible refine Kd.C_alloc ?_ _) | (with_reducible refine Kd.C_drewN ?_ _) | (with_reducible refine Kd.C_drew ?_))); (case side2 => exact (Kd.R_reads' HO306.out).2.1); (case side3 => repeat (first | exact (Kd.R_reads' HO309.out).2.2 | (with_reducible refine Kd.C_alloc ?_ _) | (with_reducible refine Kd.C_drewN ?_ _) | (with_reducible refine Kd.C_drew ?_))); (case side4 => exact (Kd.R_reads' HO309.out).2.1); rintro e w' ⟨rfl, ⟨nd, rfl⟩⟩; refine ⟨_, rfl, ?_⟩))
          go_ret
          exact ⟨by first | rfl | (simp [errW_none, errW_some] <;> rfl) | (simp [*, errW_none, errW_some] <;> rfl), by repeat (first | (with_reducible first | exact HB.out | apply below_alloc | apply pw_below_drewN | apply below_drew1) | exact HB.out)⟩
end Go.Proofs.Ytehcmedeeaoebaa.PB
end
section
namespace Go.Proofs.Ytehcmedeeaoebaa.PB
open Go.RowKit Go.Proofs.YtehcmedeeaoebaaW.PrintWords Go.Proofs.YtehcmedeeaoebaaW.PrintLast Go.Proofs.YtehcmedeeaoebaaW.PrintMore
set_option linter.unusedVariables false
def fitP (l : List S69) : Prop := ∀ x ∈ l, x.f0.size ≤ 9223372036854775807 ∧ x.f1.size ≤ 9223372036854775807
theorem ltS_ne {a b : ByteArray} (h : ltS a b = true) : ¬ a.toList = b.toList := by
  intro e
  rw [Lib.toList_data, Lib.toList_data] at e
  have : a = b := ByteArray.ext (Array.toList_inj.1 e)
  rw [this, ltS_irrefl] at h
  cases h
theorem risesRef_loop (l : List S69) (hl : l.length ≤ 9223372036854775806) (hf : fitP l) : ∀ n i, 1 ≤ i → i + n = l.length → Ev (fun k => ambryref15_rises.l0 k l (i : Int)) (risesP (l.drop (i - 1))) := by
  intro n
  induction n with
  | zero =>
    intro i hi hn
    refine Ev.step (Ev.of_eq (v := _) ?_) fun k => by simp only [ambryref15_rises.l0]; rw [if_neg (by omega)]
    obtain ⟨a, ha⟩ : ∃ a, l.drop (i - 1) = [a] := by
      rw [List.drop_eq_getElem_cons (by omega : i - 1 < l.length), List.drop_of_length_le (by omega)]
      exact ⟨_, rfl⟩
    rw [ha]; rfl
  | succ n ih =>
    intro i hi hn
    obtain ⟨j, rfl⟩ : ∃ j, i = j + 1 := ⟨i - 1, by omega⟩
    have e1 : wrap64 (((j + 1 : Nat) : Int) - 1) = (j : Int) := by rw [w64 (by omega) (by omega)]; omega
    have hj : j < l.length := by omega
    have hj1 : j + 1 < l.length := by omega
    have hb := Below_ev l[j].f0 l[j + 1].f0 (Or.inl (hf _ (List.getElem_mem hj)).1)
    have hd : l.drop j = l[j] :: l[j + 1] :: l.drop (j + 2) := by rw [List.drop_eq_getElem_cons hj, List.drop_eq_getElem_cons hj1]
    refine Ev.step (g := fun k => (ambryref02_Below.f k l[j].f0 l[j + 1].f0).bind fun t278 => (if t278 = true then (ambryref15_rises.l0 k l ((j + 1 + 1 : Nat) : Int)) else (some false))) ?_ fun k => ?_
    · refine Ev.bind hb ?_
      rw [show j + 1 - 1 = j from rfl, hd, risesP]
      cases hq : ltS l[j].f0 l[j + 1].f0 with
      | true =>
        simp only [if_true, Bool.true_and]
        have := ih (j + 2) (by omega) (by omega)
        rw [show j + 2 - 1 = j + 1 from rfl, List.drop_eq_getElem_cons hj1] at this
        exact this
      | false =>
        simp only [Bool.false_eq_true, if_false, Bool.false_and]
        exact Ev.const _
    · simp only [ambryref15_rises.l0]
      rw [if_pos (by omega), e1, if_pos (by omega), if_pos (by omega), if_pos (by omega), w64 (by omega) (by omega), rdT69_get l j hj, rdT69_get l (j + 1) hj1]
      rfl
theorem risesRef_ev (l : List S69) (hl : l.length ≤ 9223372036854775806) (hf : fitP l) : Ev (fun k => ambryref15_rises.f k l) (risesP l) := by
  unfold ambryref15_rises.f
  match l, hf with
  | [], _ => exact Ev.step (Ev.const _) fun k => by simp only [ambryref15_rises.l0]; rw [if_neg (by simp)]; rfl
  | a :: r, hf =>
    have := risesRef_loop (a :: r) hl hf r.length 1 (by omega) (by simp; omega)
    exact this
theorem differRef_loop (us bs : List S69) (hu : us.length ≤ 1000) (hb : bs.length ≤ 1000) (fu : fitP us) (fb : fitP bs) : ∀ n i m acc, i ≤ us.length → m ≤ bs.length → us.length - i + (bs.length - m) = n → acc.length ≤ i + m →
    Ev (fun k => ambryref15_Differ.l0 k us bs acc (i : Int) (m : Int)) (acc ++ diffL (us.drop i) (bs.drop m)) := by
  intro n
  induction n using Nat.strongRecOn with
  | _ n ih =>
    intro i m acc hi hm hn hacc
    by_cases c : i < us.length
    · refine Ev.step (g := fun k => ambryref15_Differ.j2 k us bs acc i m true) ?_ fun k => by simp only [ambryref15_Differ.l0]; rw [if_pos (by omega)]
      by_cases c2 : m = bs.length
      · refine Ev.step (g := fun k => ambryref15_Differ.j3 k us bs acc i m true) ?_ fun k => by simp only [ambryref15_Differ.j2]; rw [if_pos trivial, if_pos (by omega)]
        have := ih (us.length - (i + 1) + (bs.length - m)) (by omega) (i + 1) m (acc ++ [delOf us[i]]) (by omega) hm rfl (by simp; omega)
        have ed : acc ++ diffL (us.drop i) (bs.drop m) = (acc ++ [delOf us[i]]) ++ diffL (us.drop (i + 1)) (bs.drop m) := by
          rw [List.drop_of_length_le (by omega : bs.length ≤ m), diffL_nil, diffL_nil, delOf_step c, List.append_assoc]; rfl
        rw [ed]
        refine Ev.step this fun k => ?_
        simp only [ambryref15_Differ.j3]
        rw [if_pos trivial, if_pos (by omega), if_pos (by omega), if_pos (by omega), rdT69_get us i c, w64 (by omega) (by omega)]
        rfl
      · have hml : m < bs.length := by omega
        refine Ev.step (g := fun k => (ambryref02_Below.f k us[i].f0 bs[m].f0).bind fun t => ambryref15_Differ.j3 k us bs acc i m t) ?_ fun k => by
          simp only [ambryref15_Differ.j2]; rw [if_pos trivial, if_neg (by omega), if_pos (by omega), if_pos (by omega), if_pos (by omega), if_pos (by omega), rdT69_get us i c, rdT69_get bs m hml]
        refine Ev.bind (Below_ev _ _ (Or.inl (fu _ (List.getElem_mem c)).1)) ?_
        cases hq : ltS us[i].f0 bs[m].f0 with
        | true =>
          have := ih (us.length - (i + 1) + (bs.length - m)) (by omega) (i + 1) m (acc ++ [delOf us[i]]) (by omega) hm rfl (by simp; omega)
          rw [List.append_assoc, List.singleton_append, ← diffL_lt c hml hq] at this
          refine Ev.step this fun k => ?_
          simp only [ambryref15_Differ.j3]
          rw [if_pos trivial, if_pos (by omega), if_pos (by omega), if_pos (by omega), rdT69_get us i c, w64 (by omega) (by omega)]
          rfl
        | false =>
          refine Ev.step (g := fun k => (ambryref02_Below.f k bs[m].f0 us[i].f0).bind fun t => ambryref15_Differ.j4 k us bs acc i m t) ?_ fun k => by
            simp only [ambryref15_Differ.j3]; rw [if_neg (by simp), if_neg (by omega), if_pos (by omega), if_pos (by omega), if_pos (by omega), if_pos (by omega), rdT69_get us i c, rdT69_get bs m hml]
          refine Ev.bind (Below_ev _ _ (Or.inl (fb _ (List.getElem_mem hml)).1)) ?_
          cases hq2 : ltS bs[m].f0 us[i].f0 with
          | true =>
            have hk : ¬ us[i].f0.toList = bs[m].f0.toList := fun e => ltS_ne hq2 e.symm
            have := ih (us.length - i + (bs.length - (m + 1))) (by omega) i (m + 1) (acc ++ [chgOf bs[m]]) hi (by omega) rfl (by simp; omega)
            rw [List.append_assoc, List.singleton_append, ← diffL_new c hml hq hk] at this
            refine Ev.step this fun k => ?_
            simp only [ambryref15_Differ.j4]
            rw [if_pos trivial, if_pos (by omega), if_pos (by omega), if_pos (by omega), rdT69_get bs m hml, w64 (by omega) (by omega)]
            rfl
          | false =>
            have hk : us[i].f0.toList = bs[m].f0.toList := by rw [ltS_eq hq hq2]
            by_cases hv : us[i].f1.toList = bs[m].f1.toList
            · have := ih (us.length - (i + 1) + (bs.length - (m + 1))) (by omega) (i + 1) (m + 1) acc (by omega) (by omega) rfl (by omega)
              rw [← diffL_same c hml hq hk hv] at this
              refine Ev.step this fun k => ?_
              simp only [ambryref15_Differ.j4]
              rw [if_neg (by simp), if_pos (by omega), if_pos (by omega), if_pos (by omega), if_pos (by omega), rdT69_get us i c, rdT69_get bs m hml, if_pos hv, w64 (by omega) (by omega), w64 (by omega) (by omega)]
              rfl
            · have := ih (us.length - (i + 1) + (bs.length - (m + 1))) (by omega) (i + 1) (m + 1) (acc ++ [chgOf bs[m]]) (by omega) (by omega) rfl (by simp; omega)
              rw [List.append_assoc, List.singleton_append, ← diffL_chg c hml hq hk hv] at this
              refine Ev.step this fun k => ?_
              simp only [ambryref15_Differ.j4]
              rw [if_neg (by simp), if_pos (by omega), if_pos (by omega), if_pos (by omega), if_pos (by omega), rdT69_get us i c, rdT69_get bs m hml, if_neg hv, if_pos (by omega), w64 (by omega) (by omega), w64 (by omega) (by omega)]
              rfl
    · by_cases c2 : m < bs.length
      · refine Ev.step (g := fun k => ambryref15_Differ.j2 k us bs acc i m true) ?_ fun k => by simp only [ambryref15_Differ.l0]; rw [if_neg (by omega), decide_eq_true (by omega)]
        refine Ev.step (g := fun k => ambryref15_Differ.j3 k us bs acc i m false) ?_ fun k => by simp only [ambryref15_Differ.j2]; rw [if_pos trivial, if_neg (by omega), if_neg (by omega)]
        refine Ev.step (g := fun k => ambryref15_Differ.j4 k us bs acc i m true) ?_ fun k => by simp only [ambryref15_Differ.j3]; rw [if_neg (by simp), if_pos (by omega)]
        have := ih (us.length - i + (bs.length - (m + 1))) (by omega) i (m + 1) (acc ++ [chgOf bs[m]]) hi (by omega) rfl (by simp; omega)
        rw [List.append_assoc, List.singleton_append, ← diffL_end (by omega) c2] at this
        refine Ev.step this fun k => ?_
        simp only [ambryref15_Differ.j4]
        rw [if_pos trivial, if_pos (by omega), if_pos (by omega), if_pos (by omega), rdT69_get bs m c2, w64 (by omega) (by omega)]
        rfl
      · refine Ev.step (g := fun k => ambryref15_Differ.j2 k us bs acc i m false) ?_ fun k => by simp only [ambryref15_Differ.l0]; rw [if_neg (by omega), decide_eq_false (by omega)]
        refine Ev.step (Ev.of_eq (v := _) ?_) fun k => by simp only [ambryref15_Differ.j2]; rw [if_neg (by simp)]
        rw [List.drop_of_length_le (by omega : us.length ≤ i), List.drop_of_length_le (by omega : bs.length ≤ m), diffL_nil, List.map_nil, List.append_nil]
theorem differRef_ev (us bs : List S69) (hu : us.length ≤ 1000) (hb : bs.length ≤ 1000) (fu : fitP us) (fb : fitP bs) : Ev (fun k => ambryref15_Differ.f k us bs) (differP us bs) := by
  unfold ambryref15_Differ.f differP
  refine Ev.bind (risesRef_ev us (by omega) fu) ?_
  cases hq : risesP us with
  | false =>
    simp only [Bool.false_eq_true, if_false, false_and]
    exact Ev.step (Ev.const _) fun k => by simp only [ambryref15_Differ.j0, if_true]
  | true =>
    simp only [if_true, true_and]
    refine Ev.bind (risesRef_ev bs (by omega) fb) ?_
    cases hq2 : risesP bs with
    | false =>
      simp only [Bool.false_eq_true, if_false, Bool.not_false]
      exact Ev.step (Ev.const _) fun k => by simp only [ambryref15_Differ.j0, if_true]
    | true =>
      simp only [if_true, Bool.not_true]
      refine Ev.step ?_ fun k => by simp only [ambryref15_Differ.j0, Bool.false_eq_true, if_false]; rfl
      have := differRef_loop us bs hu hb fu fb _ 0 0 [] (by omega) (by omega) rfl (by simp)
      simpa using this
theorem differ_ev (us bs : List S69) (hu : us.length ≤ 1000) (hb : bs.length ≤ 1000) : Ev (fun k => batch_Differ.f k us bs) (differP us bs) := ⟨0, fun k _ => by show batch_Differ.f k us bs = _; unfold batch_Differ.f; rw [if_pos (by omega)]⟩
theorem diffL_length (us bs : List S69) : (diffL us bs).length ≤ us.length + bs.length := by
  fun_induction diffL us bs <;> simp_all <;> omega
theorem differP_length (us bs : List S69) : (differP us bs).length ≤ us.length + bs.length := by
  unfold differP
  split
  · exact diffL_length us bs
  · simp
theorem differs_law (us bs : List S69) (fu : fitP us) (fb : fitP bs) : Ev (fun k => ambrylaw15_BatchDiffers.f k us bs) true := by
  have key : ∀ b, (b = false → us.length ≤ 1000 ∧ bs.length ≤ 1000) → Ev (fun k => ambrylaw15_BatchDiffers.j0 k us bs b) true := by
    intro b hb
    cases b with
    | true => exact Ev.step lives_ev' fun k => by simp only [ambrylaw15_BatchDiffers.j0, if_true]
    | false =>
      obtain ⟨h1, h2⟩ := hb rfl
      refine Ev.step (g := fun k => (batch_Differ.f k us bs).bind fun t304 => ((ambryref15_Differ.f k us bs).bind fun t307 => ((ambryref15_SameChanges.f k t304 t307).bind fun t310 => (if t310 = true then ((ambrylaw15_lives.f k).bind fun t311 => (some t311)) else (some false))))) ?_ fun k => by simp only [ambrylaw15_BatchDiffers.j0, Bool.false_eq_true, if_false]
      refine Ev.bind (differ_ev us bs h1 h2) (Ev.bind (differRef_ev us bs h1 h2 fu fb) (Ev.bind (sameChanges_ev _ (by have := differP_length us bs; omega)) ?_))
      simp only [if_true]
      exact lives_ev'
  unfold ambrylaw15_BatchDiffers.f
  by_cases c : (us.length : Int) > 1000
  · simp only [if_pos c]
    exact key true (fun h => by cases h)
  · simp only [if_neg c]
    exact key _ (fun h => by have := of_decide_eq_false h; omega)
end Go.Proofs.Ytehcmedeeaoebaa.PB
end
section
namespace Go.Proofs.Ytehcmedeeaoebaa.PB
open Go.ChangeAt Go.Joins Go.Deep Go.WideShapes Go.ChangeShapes
open Go.RowKit Go.Proofs.YtehcmedeeaoebaaW.PrintWords Go.Proofs.YtehcmedeeaoebaaW.PrintLast Go.Proofs.YtehcmedeeaoebaaW.PrintMore
def Opens (W : World) {α : Type} (t : TypeId) (d : Kd α) : Prop :=
  ∀ (H : Type) (enc : TypeId × Value → H) (n : Nat) (cs : List Value) (x : DataW H × List MemPlace), DataW.trod enc Try.prog W 0 (fun _ => true) true n t cs = some x → ∃ a, d.K W a cs
theorem c4 : Try.prog.cellsOf 4 = 1 := by kernel_rfl
theorem c3 : Try.prog.cellsOf 3 = 1 := by kernel_rfl
theorem c9 : Try.prog.cellsOf 9 = 1 := by kernel_rfl
theorem c22 : Try.prog.cellsOf 22 = 1 := by kernel_rfl
theorem c65 : Try.prog.cellsOf 65 = 1 := by kernel_rfl
theorem c52 : Try.prog.cellsOf 52 = 3 := by kernel_rfl
theorem c69 : Try.prog.cellsOf 69 = 2 := by kernel_rfl
theorem c80 : Try.prog.cellsOf 80 = 3 := by kernel_rfl
theorem c67 : Try.prog.cellsOf 67 = 2 := by kernel_rfl
theorem c24 : Try.prog.cellsOf 24 = 2 := by kernel_rfl
theorem len2 {α : Type} {l : List α} (h : l.length = 2) : ∃ a b, l = [a, b] := by
  match l, h with
  | [a, b], _ => exact ⟨a, b, rfl⟩
theorem len3 {α : Type} {l : List α} (h : l.length = 3) : ∃ a b c, l = [a, b, c] := by
  match l, h with
  | [a, b, c], _ => exact ⟨a, b, c, rfl⟩
theorem opens52 (W : World) : Opens W 52 k52 := by
  intro H enc n cs x h
  obtain ⟨y0, y1, y2, m, _, hl, h0, h1, h2⟩ := trod_struct3 Try.underlying52 h
  obtain ⟨a, b, c, rfl⟩ := len3 (hl.trans c52)
  obtain ⟨s0, e0, _⟩ := DataW.trod_string Try.underlying9 h0
  obtain ⟨s1, e1, _⟩ := DataW.trod_string Try.underlying9 h1
  obtain ⟨s2, e2, _⟩ := DataW.trod_bool Try.underlying4 h2
  simp only [c9, c4, List.drop_zero, List.drop_succ_cons, List.take_succ_cons, List.take_zero, List.cons.injEq, and_true] at e0 e1 e2
  subst e0 e1 e2
  exact ⟨⟨s0, s1, s2⟩, k52_mk W _⟩
theorem opens69 (W : World) : Opens W 69 k69 := by
  intro H enc n cs x h
  obtain ⟨y0, y1, m, _, hl, h0, h1⟩ := trod_struct2 Try.underlying69 h
  obtain ⟨a, b, rfl⟩ := len2 (hl.trans c69)
  obtain ⟨s0, e0, _⟩ := DataW.trod_string Try.underlying9 h0
  obtain ⟨s1, e1, _⟩ := DataW.trod_string Try.underlying9 h1
  simp only [c9, List.drop_zero, List.drop_succ_cons, List.take_succ_cons, List.take_zero, List.cons.injEq, and_true] at e0 e1
  subst e0 e1
  exact ⟨⟨s0, s1⟩, k69_mk W _⟩
theorem opens80 (W : World) : Opens W 80 k80 := by
  intro H enc n cs x h
  obtain ⟨y0, y1, y2, m, _, hl, h0, h1, h2⟩ := trod_struct3 Try.underlying80 h
  obtain ⟨a, b, c, rfl⟩ := len3 (hl.trans c80)
  obtain ⟨s0, e0, _⟩ := DataW.trod_int Try.underlying3 h0
  obtain ⟨s1, e1, _⟩ := DataW.trod_string Try.underlying9 h1
  obtain ⟨s2, e2, _⟩ := DataW.trod_bool Try.underlying4 h2
  simp only [c3, c9, c4, List.drop_zero, List.drop_succ_cons, List.take_succ_cons, List.take_zero, List.cons.injEq, and_true] at e0 e1 e2
  subst e0 e1 e2
  exact ⟨⟨s0, s1, s2⟩, k80_mk W _⟩
theorem opens_slice {W : World} {α : Type} [Inhabited α] {t e : TypeId} {d : Kd α} (ht : Try.prog.underlying t = some (.slice e)) (hc : Try.prog.cellsOf e = d.sz) (ho : Opens W e d)
    {H : Type} {enc : TypeId × Value → H} {n : Nat} {cs : List Value} {x : DataW H × List MemPlace} (h : DataW.trod enc Try.prog W 0 (fun _ => true) true n t cs = some x) :
    ∃ A c xs, cs = [.slice A xs.length c] ∧ xs.length ≤ c ∧ Kd.C d W A xs.length xs := by
  rcases open_slice ht h with ⟨rfl, _⟩ | ⟨a, len, cap, m, k, D, Pl, rfl, hb, hl, hm, hmm, rfl, hx⟩
  · exact ⟨none, 0, [], rfl, Nat.le_refl _, rfl, by simp, fun h => absurd h (by simp)⟩
  simp only [if_true] at hmm
  subst hmm
  have H1 : ∀ i, ∃ p : α × List Value, i < len → p.2.length = d.sz ∧ d.K W p.1 p.2 ∧ ∀ j u, p.2[j]? = some u → W.cell? (a.add (i * d.sz + j)) = some u := by
    intro i
    by_cases hi : i < len
    · obtain ⟨cs', h1, h2⟩ := hx i (by omega)
      obtain ⟨q, hq⟩ := ho H enc k cs' _ h2
      obtain ⟨_, hlen, hcell⟩ := World.cells?_some h1
      rw [hc] at hlen hcell
      refine ⟨(q, cs'), fun _ => ⟨hlen, hq, fun j u hu => ?_⟩⟩
      have hj : j < cs'.length := (List.getElem?_eq_some_iff.1 hu).1
      have := hcell j (by omega)
      rw [hu, Addr.add_add] at this
      exact this
    · exact ⟨(default, []), fun h => absurd h hi⟩
  obtain ⟨F, hF⟩ := Classical.axiomOfChoice H1
  refine ⟨some a, m, (List.range len).map fun i => (F i).1, by simp, by simpa using hl, rfl, by simp; simp only [maxLen] at hm; omega, fun _ => ⟨a, rfl, fun j p hp => ?_⟩⟩
  have hj : j < len := by have := (List.getElem?_eq_some_iff.1 hp).1; simpa using this
  simp only [List.getElem?_map, List.getElem?_range hj, Option.map_some, Option.some.injEq] at hp
  obtain ⟨h1, h2, h3⟩ := hF j hj
  subst hp
  exact ⟨(F j).2, h1, h2, h3⟩
instance : Inhabited S52 := ⟨⟨⟨#[]⟩, ⟨#[]⟩, false⟩⟩
instance : Inhabited S80 := ⟨⟨0, ⟨#[]⟩, false⟩⟩
theorem opens67 (W : World) : Opens W 67 k67 := by
  intro H enc n cs x h
  obtain ⟨y0, y1, m, _, hl, h0, h1⟩ := trod_struct2 Try.underlying67 h
  obtain ⟨a, b, rfl⟩ := len2 (hl.trans c67)
  obtain ⟨s0, e0, _⟩ := DataW.trod_string Try.underlying9 h0
  obtain ⟨A, c, xs, e1, hle, hC⟩ := opens_slice Try.underlying65 c80 (opens80 W) h1
  simp only [c9, c65, List.drop_zero, List.drop_succ_cons, List.take_succ_cons, List.take_zero, List.cons.injEq, and_true] at e0 e1
  subst e0 e1
  exact ⟨⟨s0, xs⟩, k67_mk W _ hle hC⟩
end Go.Proofs.Ytehcmedeeaoebaa.PB
end
section
namespace Go.Proofs.Ytehcmedeeaoebaa.PB
open Go.ChangeAt Go.Joins Go.Deep Go.WideShapes Go.ChangeShapes
open Go.RowKit Go.Proofs.YtehcmedeeaoebaaW.PrintWords Go.Proofs.YtehcmedeeaoebaaW.PrintLast Go.Proofs.YtehcmedeeaoebaaW.PrintMore
def OpensP (W : World) {α : Type} (t : TypeId) (d : Kd α) (P : α → Prop) : Prop :=
  ∀ (H : Type) (enc : TypeId × Value → H) (n : Nat) (cs : List Value) (x : DataW H × List MemPlace), DataW.trod enc Try.prog W 0 (fun _ => true) true n t cs = some x → ∃ a, d.K W a cs ∧ P a
def fit69 (x : S69) : Prop := x.f0.size ≤ 9223372036854775807 ∧ x.f1.size ≤ 9223372036854775807
def fit80 (x : S80) : Prop := (-9223372036854775808 ≤ x.f0 ∧ x.f0 ≤ 9223372036854775807) ∧ x.f1.size ≤ 9223372036854775807
def fit67 (x : S67) : Prop := x.f0.size ≤ 9223372036854775807 ∧ x.f1.length ≤ 9223372036854775807 ∧ ∀ v ∈ x.f1, fit80 v
theorem opensP69 (W : World) : OpensP W 69 k69 fit69 := by
  intro H enc n cs x h
  obtain ⟨y0, y1, m, _, hl, h0, h1⟩ := trod_struct2 Try.underlying69 h
  obtain ⟨a, b, rfl⟩ := len2 (hl.trans c69)
  obtain ⟨s0, e0, _, b0⟩ := DataW.trod_string Try.underlying9 h0
  obtain ⟨s1, e1, _, b1⟩ := DataW.trod_string Try.underlying9 h1
  simp only [c9, List.drop_zero, List.drop_succ_cons, List.take_succ_cons, List.take_zero, List.cons.injEq, and_true] at e0 e1
  subst e0 e1
  unfold maxLen at b0 b1
  exact ⟨⟨s0, s1⟩, k69_mk W _, ⟨by show s0.size ≤ _; omega, by show s1.size ≤ _; omega⟩⟩
theorem opensP80 (W : World) : OpensP W 80 k80 fit80 := by
  intro H enc n cs x h
  obtain ⟨y0, y1, y2, m, _, hl, h0, h1, h2⟩ := trod_struct3 Try.underlying80 h
  obtain ⟨a, b, c, rfl⟩ := len3 (hl.trans c80)
  obtain ⟨s0, e0, _, b0⟩ := DataW.trod_int Try.underlying3 h0
  obtain ⟨s1, e1, _, b1⟩ := DataW.trod_string Try.underlying9 h1
  obtain ⟨s2, e2, _⟩ := DataW.trod_bool Try.underlying4 h2
  simp only [c3, c9, c4, List.drop_zero, List.drop_succ_cons, List.take_succ_cons, List.take_zero, List.cons.injEq, and_true] at e0 e1 e2
  subst e0 e1 e2
  unfold maxLen at b1
  have b2 : (-9223372036854775808 ≤ s0 ∧ s0 ≤ 9223372036854775807) := by
    simp [Lit.wf, IntKind.min, IntKind.max, IntKind.bits, IntKind.signed] at b0
    omega
  exact ⟨⟨s0, s1, s2⟩, k80_mk W _, ⟨b2, by show s1.size ≤ _; omega⟩⟩
theorem opensP_slice {W : World} {α : Type} [Inhabited α] {P : α → Prop} {t e : TypeId} {d : Kd α} (ht : Try.prog.underlying t = some (.slice e)) (hc : Try.prog.cellsOf e = d.sz) (ho : OpensP W e d P)
    {H : Type} {enc : TypeId × Value → H} {n : Nat} {cs : List Value} {x : DataW H × List MemPlace} (h : DataW.trod enc Try.prog W 0 (fun _ => true) true n t cs = some x) :
    ∃ A c xs, cs = [.slice A xs.length c] ∧ xs.length ≤ c ∧ Kd.C d W A xs.length xs ∧ ∀ x ∈ xs, P x := by
  rcases open_slice ht h with ⟨rfl, _⟩ | ⟨a, len, cap, m, k, D, Pl, rfl, hb, hl, hm, hmm, rfl, hx⟩
  · exact ⟨none, 0, [], rfl, Nat.le_refl _, ⟨rfl, by simp, fun h => absurd h (by simp)⟩, by simp⟩
  simp only [if_true] at hmm
  subst hmm
  have H1 : ∀ i, ∃ p : α × List Value, i < len → p.2.length = d.sz ∧ d.K W p.1 p.2 ∧ P p.1 ∧ ∀ j u, p.2[j]? = some u → W.cell? (a.add (i * d.sz + j)) = some u := by
    intro i
    by_cases hi : i < len
    · obtain ⟨cs', h1, h2⟩ := hx i (by omega)
      obtain ⟨q, hq, hP⟩ := ho H enc k cs' _ h2
      obtain ⟨_, hlen, hcell⟩ := World.cells?_some h1
      rw [hc] at hlen hcell
      refine ⟨(q, cs'), fun _ => ⟨hlen, hq, hP, fun j u hu => ?_⟩⟩
      have hj : j < cs'.length := (List.getElem?_eq_some_iff.1 hu).1
      have := hcell j (by omega)
      rw [hu, Addr.add_add] at this
      exact this
    · exact ⟨(default, []), fun h => absurd h hi⟩
  obtain ⟨F, hF⟩ := Classical.axiomOfChoice H1
  refine ⟨some a, m, (List.range len).map fun i => (F i).1, by simp, by simpa using hl, ⟨rfl, by simp; simp only [maxLen] at hm; omega, fun _ => ⟨a, rfl, fun j p hp => ?_⟩⟩, fun x hx => ?_⟩
  · have hj : j < len := by have := (List.getElem?_eq_some_iff.1 hp).1; simpa using this
    simp only [List.getElem?_map, List.getElem?_range hj, Option.map_some, Option.some.injEq] at hp
    obtain ⟨h1, h2, _, h3⟩ := hF j hj
    subst hp
    exact ⟨(F j).2, h1, h2, h3⟩
  · obtain ⟨i, hi, rfl⟩ := List.mem_map.1 hx
    exact (hF i (List.mem_range.1 hi)).2.2.1
theorem opensP67 (W : World) : OpensP W 67 k67 fit67 := by
  intro H enc n cs x h
  obtain ⟨y0, y1, m, _, hl, h0, h1⟩ := trod_struct2 Try.underlying67 h
  obtain ⟨a, b, rfl⟩ := len2 (hl.trans c67)
  obtain ⟨s0, e0, _, b0⟩ := DataW.trod_string Try.underlying9 h0
  obtain ⟨A, c, xs, e1, hle, hC, hP⟩ := opensP_slice Try.underlying65 c80 (opensP80 W) h1
  simp only [c9, c65, List.drop_zero, List.drop_succ_cons, List.take_succ_cons, List.take_zero, List.cons.injEq, and_true] at e0 e1
  subst e0 e1
  unfold maxLen at b0
  have := hC.2.1
  exact ⟨⟨s0, xs⟩, k67_mk W _ hle hC, ⟨by show s0.size ≤ _; omega, by show xs.length ≤ _; omega, hP⟩⟩
end Go.Proofs.Ytehcmedeeaoebaa.PB
end
