import Derived.Test.YtehcmedeeaoebaaM1
import Derived.Test.YtehcmedeeaoebaaM4
import Derived.Test.YtehcmedeeaoebaaM2
import Derived.Test.YtehcmedeeaoebaaM5
section
namespace Go.Proofs.Ytehcmedeeaoebaa.PB
open Go.RowKit Go.Proofs.YtehcmedeeaoebaaW.PrintWords Go.Proofs.YtehcmedeeaoebaaW.PrintLast Go.Proofs.YtehcmedeeaoebaaW.PrintMore
attribute [local go_sem] max2_int min2_int max_two min_two max_three min_three max_four min_four
set_option linter.unusedVariables false
set_option linter.unusedSimpArgs false
def ambrylaw15_lives.f (k : Nat)  : Option (Bool) := (batch_Bytes.f k 5 (([(⟨(⟨#[97]⟩ : ByteArray), (⟨#[120]⟩ : ByteArray), false⟩ : S52)] : List (S52)))).bind fun bt177 => ((batch_Pairs.f k (([(⟨(⟨#[97]⟩ : ByteArray), (([(⟨5, (⟨#[]⟩ : ByteArray), true⟩ : S80)] : List (S80)))⟩ : S67)] : List (S67)))).bind fun bt185 => ((batch_Read.f k (⟨#[77, 0, 0, 0, 0, 0, 0, 0, 9]⟩ : ByteArray)).bind fun bt189 => (if bt177.1.toList = ([66, 0, 0, 0, 0, 0, 0, 0, 5, 1, 0, 1, 97, 1, 120] : List UInt8) then (if bt177.2 = 0 then ((ambryref10_Same.f k bt185.1 (([(⟨(⟨#[97, 15, 255, 255, 255, 255, 255, 255, 251]⟩ : ByteArray), (⟨#[0]⟩ : ByteArray)⟩ : S69)] : List (S69)))).bind fun t199 => (if t199 = true then (if bt185.2 = 0 then (if bt189.2.2.1 = 9 then (if bt189.2.2.2 = 0 then (some true) else (some false)) else (some false)) else (some false)) else (some false))) else (some false)) else (some false))))
theorem ambrylaw15_lives.mono : ∀ k, LeO (ambrylaw15_lives.f k ) (ambrylaw15_lives.f (k + 1) ) := by
  intro  k
  unfold ambrylaw15_lives.f
  repeat' first
      | (with_reducible exact ambryref10_Same.mono _ _ _)
      | (with_reducible exact batch_Bytes.mono _ _ _)
      | (with_reducible exact batch_Pairs.mono _ _)
      | (with_reducible exact batch_Read.mono _ _)
      | (with_reducible exact LeO.refl _)
      | (with_reducible exact LeO.none _)
      | (with_reducible refine LeO.ite ?_ ?_)
      | (with_reducible refine LeO.bind ?_ (fun _ => ?_))
      | exact ambryref10_Same.mono _ _ _
      | exact batch_Bytes.mono _ _ _
      | exact batch_Pairs.mono _ _
      | exact batch_Read.mono _ _
      | exact LeO.none _
      | refine LeO.ite ?_ ?_
      | refine LeO.bind ?_ (fun _ => ?_)
set_option maxHeartbeats 8000000 in
set_option maxRecDepth 100000 in
theorem ambrylaw15_lives.calls (k : Nat)  (r : Bool) (w : World) (h : ambrylaw15_lives.f k  = some r) :
    Calls Try.prog 13 #[] w fun e w' => e = .returned (.bool r) ∧ Below w.heap.size w w' := by
  have hu52 := Try.underlying52
  have hu24 := Try.underlying24
  have hu80 := Try.underlying80
  have hu67 := Try.underlying67
  have hu69 := Try.underlying69
  have HB := Aside0.mk (Below.refl w.heap.size w)
  have H : ((batch_Bytes.f k 5 (([(⟨(⟨#[97]⟩ : ByteArray), (⟨#[120]⟩ : ByteArray), false⟩ : S52)] : List (S52)))).bind fun bt177 => ((batch_Pairs.f k (([(⟨(⟨#[97]⟩ : ByteArray), (([(⟨5, (⟨#[]⟩ : ByteArray), true⟩ : S80)] : List (S80)))⟩ : S67)] : List (S67)))).bind fun bt185 => ((batch_Read.f k (⟨#[77, 0, 0, 0, 0, 0, 0, 0, 9]⟩ : ByteArray)).bind fun bt189 => (if bt177.1.toList = ([66, 0, 0, 0, 0, 0, 0, 0, 5, 1, 0, 1, 97, 1, 120] : List UInt8) then (if bt177.2 = 0 then ((ambryref10_Same.f k bt185.1 (([(⟨(⟨#[97, 15, 255, 255, 255, 255, 255, 255, 251]⟩ : ByteArray), (⟨#[0]⟩ : ByteArray)⟩ : S69)] : List (S69)))).bind fun t199 => (if t199 = true then (if bt185.2 = 0 then (if bt189.2.2.1 = 9 then (if bt189.2.2.2 = 0 then (some true) else (some false)) else (some false)) else (some false)) else (some false))) else (some false)) else (some false))))) = some r := h
  clear h
  obtain ⟨y174, hy174⟩ : ∃ y_ : List (S52), y_ = (([(⟨(⟨#[97]⟩ : ByteArray), (⟨#[120]⟩ : ByteArray), false⟩ : S52)] : List (S52))) := ⟨_, rfl⟩
  replace H : ((batch_Bytes.f k 5 y174).bind fun bt177 => ((batch_Pairs.f k (([(⟨(⟨#[97]⟩ : ByteArray), (([(⟨5, (⟨#[]⟩ : ByteArray), true⟩ : S80)] : List (S80)))⟩ : S67)] : List (S67)))).bind fun bt185 => ((batch_Read.f k (⟨#[77, 0, 0, 0, 0, 0, 0, 0, 9]⟩ : ByteArray)).bind fun bt189 => (if bt177.1.toList = ([66, 0, 0, 0, 0, 0, 0, 0, 5, 1, 0, 1, 97, 1, 120] : List UInt8) then (if bt177.2 = 0 then ((ambryref10_Same.f k bt185.1 (([(⟨(⟨#[97, 15, 255, 255, 255, 255, 255, 255, 251]⟩ : ByteArray), (⟨#[0]⟩ : ByteArray)⟩ : S69)] : List (S69)))).bind fun t199 => (if t199 = true then (if bt185.2 = 0 then (if bt189.2.2.1 = 9 then (if bt189.2.2.2 = 0 then (some true) else (some false)) else (some false)) else (some false)) else (some false))) else (some false)) else (some false))))) = some r := by first | (rw [hy174]; with_reducible exact H) | (have H2_ := (Option.bind_some _ _).symm.trans H; rw [hy174]; with_reducible exact H2_) | (have H2_ := (Option.bind_some _ _).symm.trans H; with_reducible exact H2_) | with_reducible exact H | (rw [hy174]; exact H) | exact H
  have Ny174 := Aside0.mk hy174
  clear hy174
  replace H := Option.bind_eq_some_iff.mp H
  obtain ⟨⟨t177, t178⟩, A10, H⟩ := H
  replace H : ((batch_Pairs.f k (([(⟨(⟨#[97]⟩ : ByteArray), (([(⟨5, (⟨#[]⟩ : ByteArray), true⟩ : S80)] : List (S80)))⟩ : S67)] : List (S67)))).bind fun bt185 => ((batch_Read.f k (⟨#[77, 0, 0, 0, 0, 0, 0, 0, 9]⟩ : ByteArray)).bind fun bt189 => (if t177.toList = ([66, 0, 0, 0, 0, 0, 0, 0, 5, 1, 0, 1, 97, 1, 120] : List UInt8) then (if t178 = 0 then ((ambryref10_Same.f k bt185.1 (([(⟨(⟨#[97, 15, 255, 255, 255, 255, 255, 255, 251]⟩ : ByteArray), (⟨#[0]⟩ : ByteArray)⟩ : S69)] : List (S69)))).bind fun t199 => (if t199 = true then (if bt185.2 = 0 then (if bt189.2.2.1 = 9 then (if bt189.2.2.2 = 0 then (some true) else (some false)) else (some false)) else (some false)) else (some false))) else (some false)) else (some false)))) = some r := H
  have A1 := Aside0.mk A10
  clear A10
  obtain ⟨y179, hy179⟩ : ∃ y_ : List (S80), y_ = (([(⟨5, (⟨#[]⟩ : ByteArray), true⟩ : S80)] : List (S80))) := ⟨_, rfl⟩
  replace H : ((batch_Pairs.f k (([(⟨(⟨#[97]⟩ : ByteArray), y179⟩ : S67)] : List (S67)))).bind fun bt185 => ((batch_Read.f k (⟨#[77, 0, 0, 0, 0, 0, 0, 0, 9]⟩ : ByteArray)).bind fun bt189 => (if t177.toList = ([66, 0, 0, 0, 0, 0, 0, 0, 5, 1, 0, 1, 97, 1, 120] : List UInt8) then (if t178 = 0 then ((ambryref10_Same.f k bt185.1 (([(⟨(⟨#[97, 15, 255, 255, 255, 255, 255, 255, 251]⟩ : ByteArray), (⟨#[0]⟩ : ByteArray)⟩ : S69)] : List (S69)))).bind fun t199 => (if t199 = true then (if bt185.2 = 0 then (if bt189.2.2.1 = 9 then (if bt189.2.2.2 = 0 then (some true) else (some false)) else (some false)) else (some false)) else (some false))) else (some false)) else (some false)))) = some r := by first | (rw [hy179]; with_reducible exact H) | (have H2_ := (Option.bind_some _ _).symm.trans H; rw [hy179]; with_reducible exact H2_) | (have H2_ := (Option.bind_some _ _).symm.trans H; with_reducible exact H2_) | with_reducible exact H | (rw [hy179]; exact H) | exact H
  have Ny179 := Aside0.mk hy179
  clear hy179
  obtain ⟨y182, hy182⟩ : ∃ y_ : List (S67), y_ = (([(⟨(⟨#[97]⟩ : ByteArray), y179⟩ : S67)] : List (S67))) := ⟨_, rfl⟩
  replace H : ((batch_Pairs.f k y182).bind fun bt185 => ((batch_Read.f k (⟨#[77, 0, 0, 0, 0, 0, 0, 0, 9]⟩ : ByteArray)).bind fun bt189 => (if t177.toList = ([66, 0, 0, 0, 0, 0, 0, 0, 5, 1, 0, 1, 97, 1, 120] : List UInt8) then (if t178 = 0 then ((ambryref10_Same.f k bt185.1 (([(⟨(⟨#[97, 15, 255, 255, 255, 255, 255, 255, 251]⟩ : ByteArray), (⟨#[0]⟩ : ByteArray)⟩ : S69)] : List (S69)))).bind fun t199 => (if t199 = true then (if bt185.2 = 0 then (if bt189.2.2.1 = 9 then (if bt189.2.2.2 = 0 then (some true) else (some false)) else (some false)) else (some false)) else (some false))) else (some false)) else (some false)))) = some r := by first | (rw [hy182]; with_reducible exact H) | (have H2_ := (Option.bind_some _ _).symm.trans H; rw [hy182]; with_reducible exact H2_) | (have H2_ := (Option.bind_some _ _).symm.trans H; with_reducible exact H2_) | with_reducible exact H | (rw [hy182]; exact H) | exact H
  have Ny182 := Aside0.mk hy182
  clear hy182
  replace H := Option.bind_eq_some_iff.mp H
  obtain ⟨⟨t185, t186⟩, A20, H⟩ := H
  replace H : ((batch_Read.f k (⟨#[77, 0, 0, 0, 0, 0, 0, 0, 9]⟩ : ByteArray)).bind fun bt189 => (if t177.toList = ([66, 0, 0, 0, 0, 0, 0, 0, 5, 1, 0, 1, 97, 1, 120] : List UInt8) then (if t178 = 0 then ((ambryref10_Same.f k t185 (([(⟨(⟨#[97, 15, 255, 255, 255, 255, 255, 255, 251]⟩ : ByteArray), (⟨#[0]⟩ : ByteArray)⟩ : S69)] : List (S69)))).bind fun t199 => (if t199 = true then (if t186 = 0 then (if bt189.2.2.1 = 9 then (if bt189.2.2.2 = 0 then (some true) else (some false)) else (some false)) else (some false)) else (some false))) else (some false)) else (some false))) = some r := H
  have A2 := Aside0.mk A20
  clear A20
  replace H := Option.bind_eq_some_iff.mp H
  obtain ⟨⟨t189, t190, t193, t194⟩, A30, H⟩ := H
  replace H : (if t177.toList = ([66, 0, 0, 0, 0, 0, 0, 0, 5, 1, 0, 1, 97, 1, 120] : List UInt8) then (if t178 = 0 then ((ambryref10_Same.f k t185 (([(⟨(⟨#[97, 15, 255, 255, 255, 255, 255, 255, 251]⟩ : ByteArray), (⟨#[0]⟩ : ByteArray)⟩ : S69)] : List (S69)))).bind fun t199 => (if t199 = true then (if t186 = 0 then (if t193 = 9 then (if t194 = 0 then (some true) else (some false)) else (some false)) else (some false)) else (some false))) else (some false)) else (some false)) = some r := H
  have A3 := Aside0.mk A30
  clear A30
  by_cases c4 : t177.toList = ([66, 0, 0, 0, 0, 0, 0, 0, 5, 1, 0, 1, 97, 1, 120] : List UInt8)
  · rw [if_pos c4] at H
    have c4b0 : (t177.toList == ([66, 0, 0, 0, 0, 0, 0, 0, 5, 1, 0, 1, 97, 1, 120] : List UInt8)) = true := beq_iff_eq.mpr c4
    have c4b1 : (t177.toList != ([66, 0, 0, 0, 0, 0, 0, 0, 5, 1, 0, 1, 97, 1, 120] : List UInt8)) = false := bne_eq_false_iff_eq.mpr c4
    clear c4
    by_cases c5 : t178 = 0
    · rw [if_pos c5] at H
      have c5b0 : (t178 == 0) = true := beq_iff_eq.mpr c5
      have c5b1 : (t178 != 0) = false := bne_eq_false_iff_eq.mpr c5
      clear c5
      obtain ⟨y196, hy196⟩ : ∃ y_ : List (S69), y_ = (([(⟨(⟨#[97, 15, 255, 255, 255, 255, 255, 255, 251]⟩ : ByteArray), (⟨#[0]⟩ : ByteArray)⟩ : S69)] : List (S69))) := ⟨_, rfl⟩
      replace H : ((ambryref10_Same.f k t185 y196).bind fun t199 => (if t199 = true then (if t186 = 0 then (if t193 = 9 then (if t194 = 0 then (some true) else (some false)) else (some false)) else (some false)) else (some false))) = some r := by first | (rw [hy196]; with_reducible exact H) | (have H2_ := (Option.bind_some _ _).symm.trans H; rw [hy196]; with_reducible exact H2_) | (have H2_ := (Option.bind_some _ _).symm.trans H; with_reducible exact H2_) | with_reducible exact H | (rw [hy196]; exact H) | exact H
      have Ny196 := Aside0.mk hy196
      clear hy196
      replace H := Option.bind_eq_some_iff.mp H
      obtain ⟨t199, A60, H⟩ := H
      replace H : (if t199 = true then (if t186 = 0 then (if t193 = 9 then (if t194 = 0 then (some true) else (some false)) else (some false)) else (some false)) else (some false)) = some r := H
      have A6 := Aside0.mk A60
      clear A60
      by_cases c7 : t199 = true
      · subst c7
        have H1 : (if t186 = 0 then (if t193 = 9 then (if t194 = 0 then (some true) else (some false)) else (some false)) else (some false)) = some r := by rw [if_pos rfl] at H; exact H
        clear H
        have H := H1
        clear H1
        by_cases c8 : t186 = 0
        · rw [if_pos c8] at H
          have c8b0 : (t186 == 0) = true := beq_iff_eq.mpr c8
          have c8b1 : (t186 != 0) = false := bne_eq_false_iff_eq.mpr c8
          clear c8
          by_cases c9 : t193 = 9
          · rw [if_pos c9] at H
            have c9b0 : (t193 == 9) = true := beq_iff_eq.mpr c9
            have c9b1 : (t193 != 9) = false := bne_eq_false_iff_eq.mpr c9
            clear c9
            by_cases c10 : t194 = 0
            · rw [if_pos c10] at H
              have c10b0 : (t194 == 0) = true := beq_iff_eq.mpr c10
              have c10b1 : (t194 != 0) = false := bne_eq_false_iff_eq.mpr c10
              clear c10
              obtain rfl := Option.some.inj H
              go_enter Try.func13, Try.ntmps13
              go_wp2_with (first | ((with_reducible refine gate_dst (N := 10) rfl ?_); (try (refine gate_guard (by rfl) ?_; dsimp only)); refine Kd.R_lit k52 _ 52 ?hg (N := 10) ?hd (xs := ([(⟨(⟨#[97]⟩ : ByteArray), (⟨#[120]⟩ : ByteArray), false⟩ : S52)] : List (S52))) (inner := [.string (⟨#[97]⟩ : ByteArray), .string (⟨#[120]⟩ : ByteArray), .bool false]) (ok := fun _ => True) (okp := fun _ => True) ?hr ?hp (fun _ hk => hk) trivial (Below.refl _ _) (Nat.le_refl _) (by simp) ?_; (case hd => rfl); (case hg => rfl); (case hr => first | (go_simp; done) | (go_simp; rfl)); (case hp => exact (Reps.c3 (show Kd.M k52 _ _ _ (⟨(⟨#[97]⟩ : ByteArray), (⟨#[120]⟩ : ByteArray), false⟩ : S52) [.string (⟨#[97]⟩ : ByteArray), .string (⟨#[120]⟩ : ByteArray), .bool false] from (k52_mkM _ _ _ (⟨(⟨#[97]⟩ : ByteArray), (⟨#[120]⟩ : ByteArray), false⟩ : S52) )) (Reps.none _ _))); intro v175 w11 ho12 hb hg_ hnew_; clear hg_ hnew_; (first | rw [← Ny174.out] at ho12 | (simp only [Int.reduceToNat] at ho12; rw [← Ny174.out] at ho12)); have n0_ := Aside0.mk (Kd.R_lower ho12 (below_size (by repeat (first | (with_reducible first | exact HB.out | apply below_alloc | apply pw_below_drewN | apply below_drew1) | exact HB.out)))); have n1_ := Aside0.mk (below_step (by repeat (first | (with_reducible first | exact HB.out | apply below_alloc | apply pw_below_drewN | apply below_drew1) | exact HB.out)) hb); clear HB; have HO176 := n0_; have HB := n1_; clear n0_ n1_; clear hb ho12; obtain ⟨Ao13, co13, eo13⟩ := Kd.R_slice HO176.out; subst eo13) | ((with_reducible refine gate_callee (f := 14) rfl ?_); refine goesL_ (some 12) rfl rfl Try.func14 (by kernel_rfl) rfl #[.agg #[.int .i64 5, .slice Ao13 y174.length co13]] rfl (by (try simp only [List.map_toArray, List.map_cons, List.map_nil]); first | done | rfl | (simp only [List.length_drop, List.length_take]; rfl)) ?_; (with_reducible refine (batch_Bytes.calls k 5 _ _ y174 t177 t178 _ ?side1 ?side2 A1.out).mono ?_); (case side1 => repeat (first | exact (Kd.R_reads' HO176.out).2.2 | (with_reducible refine Kd.C_alloc ?_ _) | (with_reducible refine Kd.C_drewN ?_ _) | (with_reducible refine Kd.C_drew ?_))); (case side2 => exact (Kd.R_reads' HO176.out).2.1); rintro e w14 ⟨rfl, hb⟩; refine ⟨_, rfl, ?_⟩; have n0_ := Aside0.mk (Kd.R_below (by (with_reducible repeat (first | apply Kd.R_alloc | apply Kd.R_drewN | apply Kd.R_drew)); exact HO176.out) hb); have n1_ := Aside0.mk (below_step (by repeat (first | (with_reducible first | exact HB.out | apply below_alloc | apply pw_below_drewN | apply below_drew1) | exact HB.out)) hb); clear HO176; clear HB; have HO176 := n0_; have HB := n1_; clear n0_ n1_; (try clear hb); (try clear hb2); (try clear hk); (try clear hi)) | ((with_reducible refine gate_dst (N := 17) rfl ?_); (try (refine gate_guard (by rfl) ?_; dsimp only)); refine Kd.R_lit k80 _ 80 ?hg (N := 17) ?hd (xs := ([(⟨5, (⟨#[]⟩ : ByteArray), true⟩ : S80)] : List (S80))) (inner := [.int .i64 5, .string (⟨#[]⟩ : ByteArray), .bool true]) (ok := fun _ => True) (okp := fun _ => True) ?hr ?hp (fun _ hk => hk) trivial (Below.refl _ _) (Nat.le_refl _) (by simp) ?_; (case hd => rfl); (case hg => rfl); (case hr => first | (go_simp; done) | (go_simp; rfl)); (case hp => exact (Reps.c3 (show Kd.M k80 _ _ _ (⟨5, (⟨#[]⟩ : ByteArray), true⟩ : S80) [.int .i64 5, .string (⟨#[]⟩ : ByteArray), .bool true] from (k80_mkM _ _ _ (⟨5, (⟨#[]⟩ : ByteArray), true⟩ : S80) )) (Reps.none _ _))); intro v180 w15 ho16 hb hg_ hnew_; clear hg_ hnew_; (first | rw [← Ny179.out] at ho16 | (simp only [Int.reduceToNat] at ho16; rw [← Ny179.out] at ho16)); have n0_ := Aside0.mk (Kd.R_below (by (with_reducible repeat (first | apply Kd.R_alloc | apply Kd.R_drewN | apply Kd.R_drew)); exact HO176.out) hb); have n1_ := Aside0.mk (Kd.R_lower ho16 (below_size (by repeat (first | (with_reducible first | exact HB.out | apply below_alloc | apply pw_below_drewN | apply below_drew1) | exact HB.out)))); have n2_ := Aside0.mk (below_step (by repeat (first | (with_reducible first | exact HB.out | apply below_alloc | apply pw_below_drewN | apply below_drew1) | exact HB.out)) hb); clear HO176; clear HB; have HO176 := n0_; have HO181 := n1_; have HB := n2_; clear n0_ n1_ n2_; clear hb ho16; obtain ⟨Ao17, co17, eo17⟩ := Kd.R_slice HO181.out; subst eo17) | ((with_reducible refine gate_dst (N := 19) rfl ?_); (try (refine gate_guard (by rfl) ?_; dsimp only)); refine Kd.N_lit k67 _ 67 ?hg (N' := 19) ?hd (xs := ([(⟨(⟨#[97]⟩ : ByteArray), y179⟩ : S67)] : List (S67))) (inner := [.string (⟨#[97]⟩ : ByteArray), .slice Ao17 y179.length co17]) (ok := (fun k_ => some k_ ≠ (.slice Ao13 y174.length co13 : Value).ownBlock)) (okp := (fun k_ => some k_ ≠ (.slice Ao13 y174.length co13 : Value).ownBlock)) ?hr ?hp (fun _ hk => hk) ((show ∀ k_, w15.heap.size ≤ k_ → (fun k_ => some k_ ≠ (.slice Ao13 y174.length co13 : Value).ownBlock) k_ from fun k_ hk => Kd.fresh' (Kd.R_lt (by (with_reducible repeat (first | apply Kd.R_alloc | apply Kd.R_drewN | apply Kd.R_drew)); exact HO176.out)) k_ hk) _ (Nat.le_refl _)) (Below.refl _ _) (Nat.le_refl _) (by simp) ?_; (case hd => rfl); (case hg => rfl); (case hr => first | (go_simp; done) | (go_simp; rfl)); (case hp => exact (Reps.c2 (show Kd.FK k67 _ _ (⟨(⟨#[97]⟩ : ByteArray), y179⟩ : S67) [.string (⟨#[97]⟩ : ByteArray), .slice Ao17 y179.length co17] from (k67_mkF _ _ (⟨(⟨#[97]⟩ : ByteArray), y179⟩ : S67) (Kd.R_reads' (Kd.R_mono (ok' := (fun k_ => some k_ ≠ (.slice Ao13 y174.length co13 : Value).ownBlock)) (Kd.R_apart' (HO181.out) (Kd.R_typed HO176.out) (by decide)) (fun k_ hk => hk.2))).2.1 (Kd.R_F (Kd.R_mono (ok' := (fun k_ => some k_ ≠ (.slice Ao13 y174.length co13 : Value).ownBlock)) (Kd.R_apart' (HO181.out) (Kd.R_typed HO176.out) (by decide)) (fun k_ hk => hk.2))))) (Reps.none _ _))); intro v183 w18 ho19 hb hg_ hnew_; clear hg_ hnew_; (first | rw [← Ny182.out] at ho19 | (simp only [Int.reduceToNat] at ho19; rw [← Ny182.out] at ho19)); have n0_ := Aside0.mk (Kd.R_below (by (with_reducible repeat (first | apply Kd.R_alloc | apply Kd.R_drewN | apply Kd.R_drew)); exact HO176.out) hb); have n1_ := Aside0.mk (Kd.N_lower ho19 (below_size (by repeat (first | (with_reducible first | exact HB.out | apply below_alloc | apply pw_below_drewN | apply below_drew1) | exact HB.out)))); have n2_ := Aside0.mk (below_step (by repeat (first | (with_reducible first | exact HB.out | apply below_alloc | apply pw_below_drewN | apply below_drew1) | exact HB.out)) hb); clear HO176; clear HB; clear HO181; have HO176 := n0_; have HO184 := n1_; have HB := n2_; clear n0_ n1_ n2_; clear hb ho19; obtain ⟨Ao20, co20, eo20⟩ := Kd.N_slice HO184.out; subst eo20) | ((with_reducible refine gate_callee (f := 28) rfl ?_); refine goesL_ (some 20) rfl rfl Try.func28 (by kernel_rfl) rfl #[.slice Ao20 y182.length co20] rfl (by (try simp only [List.map_toArray, List.map_cons, List.map_nil]); first | done | rfl | (simp only [List.length_drop, List.length_take]; rfl)) ?_; (with_reducible refine (batch_Pairs.calls k _ _ y182 t185 t186 _ ?side1 ?side2 A2.out).mono ?_); (case side1 => repeat (first | exact (Kd.N_reads' HO184.out).2.2 | (with_reducible refine Kd.C_alloc ?_ _) | (with_reducible refine Kd.C_drewN ?_ _) | (with_reducible refine Kd.C_drew ?_))); (case side2 => exact (Kd.N_reads' HO184.out).2.1); rintro e w21 ⟨v187, rfl, ho0, hb⟩; refine ⟨_, rfl, ?_⟩; have n0_ := Aside0.mk (Kd.R_below (by (with_reducible repeat (first | apply Kd.R_alloc | apply Kd.R_drewN | apply Kd.R_drew)); exact HO176.out) hb); have n1_ := Aside0.mk (Kd.N_elder' (by (with_reducible repeat (first | apply Kd.N_alloc | apply Kd.N_drewN | apply Kd.N_drew)); exact HO184.out) (Kd.R_base ho0) hb); have n2_ := Aside0.mk (Kd.R_lower ho0 (below_size (by repeat (first | (with_reducible first | exact HB.out | apply below_alloc | apply pw_below_drewN | apply below_drew1) | exact HB.out)))); have n3_ := Aside0.mk (below_step (by repeat (first | (with_reducible first | exact HB.out | apply below_alloc | apply pw_below_drewN | apply below_drew1) | exact HB.out)) hb); clear HO176; clear HO184; clear HB; have HO176 := n0_; have HO184 := n1_; have HO188 := n2_; have HB := n3_; clear n0_ n1_ n2_ n3_; (try clear hb); (try clear hb2); (try clear hk); (try clear hi); (try clear ho0)) | ((with_reducible refine gate_callee (f := 10) rfl ?_); refine goesL_ (some 24) rfl rfl Try.func10 (by kernel_rfl) rfl #[.string (⟨#[77, 0, 0, 0, 0, 0, 0, 0, 9]⟩ : ByteArray)] rfl (by (try simp only [List.map_toArray, List.map_cons, List.map_nil]); first | done | rfl | (simp only [List.length_drop, List.length_take]; rfl)) ?_; (with_reducible refine (batch_Read.calls k (⟨#[77, 0, 0, 0, 0, 0, 0, 0, 9]⟩ : ByteArray) t189 t190 t193 t194 _ A3.out).mono ?_); rintro e w22 ⟨v191, rfl, ho0, hb⟩; refine ⟨_, rfl, ?_⟩; have n0_ := Aside0.mk (Kd.R_elder' (by (with_reducible repeat (first | apply Kd.R_alloc | apply Kd.R_drewN | apply Kd.R_drew)); exact HO176.out) (Kd.R_base ho0) hb); have n1_ := Aside0.mk (Kd.N_elder' (by (with_reducible repeat (first | apply Kd.N_alloc | apply Kd.N_drewN | apply Kd.N_drew)); exact HO184.out) (Kd.R_base ho0) hb); have n2_ := Aside0.mk (Kd.R_below (by (with_reducible repeat (first | apply Kd.R_alloc | apply Kd.R_drewN | apply Kd.R_drew)); exact HO188.out) hb); have n3_ := Aside0.mk (Kd.R_lower (Kd.R_new' ho0 (Kd.R_lt (by (with_reducible repeat (first | apply Kd.R_alloc | apply Kd.R_drewN | apply Kd.R_drew)); exact HO176.out))) (below_size (by repeat (first | (with_reducible first | exact HB.out | apply below_alloc | apply pw_below_drewN | apply below_drew1) | exact HB.out)))); have n4_ := Aside0.mk (below_step (by repeat (first | (with_reducible first | exact HB.out | apply below_alloc | apply pw_below_drewN | apply below_drew1) | exact HB.out)) hb); clear HO176; clear HO184; clear HO188; clear HB; have HO176 := n0_; have HO184 := n1_; have HO188 := n2_; have HO192 := n3_; have HB := n4_; clear n0_ n1_ n2_ n3_ n4_; (try clear hb); (try clear hb2); (try clear hk); (try clear hi); (try clear ho0)) | ((with_reducible refine gate_dst (N := 5) rfl ?_); (try (refine gate_guard (by rfl) ?_; dsimp only)); refine box_event ?hg (N := 5) ?hd (cs := #[.int .i64 0, .slice none 0 0]) (t := 24) ?hr ?_; (case hd => rfl); (case hg => rfl); (case hr => first | (go_simp; done) | (go_simp; rfl)); intro gb195 hg w23 hbox hb; have n0_ := Aside0.mk (Kd.R_below (by (with_reducible repeat (first | apply Kd.R_alloc | apply Kd.R_drewN | apply Kd.R_drew)); exact HO176.out) hb); have n1_ := Aside0.mk (Kd.N_below (Kd.N_elderB (by (with_reducible repeat (first | apply Kd.N_alloc | apply Kd.N_drewN | apply Kd.N_drew)); exact HO184.out) gb195 (Nat.le_of_eq hg.symm)) hb); have n2_ := Aside0.mk (Kd.R_below (by (with_reducible repeat (first | apply Kd.R_alloc | apply Kd.R_drewN | apply Kd.R_drew)); exact HO188.out) hb); have n3_ := Aside0.mk (Kd.R_below (by (with_reducible repeat (first | apply Kd.R_alloc | apply Kd.R_drewN | apply Kd.R_drew)); exact HO192.out) hb); have n4_ := Aside0.mk (below_step (by repeat (first | (with_reducible first | exact HB.out | apply below_alloc | apply pw_below_drewN | apply below_drew1) | exact HB.out)) hb); have n5_ := Aside0.mk (hbox); have n6_ := Aside0.mk ((by rw [hg]; exact (below_size (by repeat (first | (with_reducible first | exact HB.out | apply below_alloc | apply pw_below_drewN | apply below_drew1) | exact HB.out))) : w.heap.size ≤ gb195)); have n7_ := Aside0.mk ((by rw [hg]; exact (below_size (by repeat (first | (with_reducible first | exact HB.out | apply below_alloc | apply pw_below_drewN | apply below_drew1) | exact HB.out))) : w.heap.size ≤ gb195)); clear HO176; clear HO184; clear HO188; clear HO192; clear HB; have HO176 := n0_; have HO184 := n1_; have HO188 := n2_; have HO192 := n3_; have HB := n4_; have BK195 := n5_; have GW195 := n6_; have GE195 := n7_; clear n0_ n1_ n2_ n3_ n4_ n5_ n6_ n7_; clear hb hbox hg; have hcz24_0 : w23.cell? ⟨gb195, 0, none⟩ = some (.int .i64 0) := (blk_cell BK195.out 0).trans rfl; have hcz24_1 : w23.cell? ⟨gb195, 1, none⟩ = some (.slice none 0 0) := (blk_cell BK195.out 1).trans rfl; have hfz24_0 := blk_frozen BK195.out 0; have hfz24_1 := blk_frozen BK195.out 1; obtain ⟨Ao25, co25, eo25⟩ := Kd.R_slice HO192.out; subst eo25) | ((with_reducible refine gate_dst (N := 37) rfl ?_); (try (refine gate_guard (by rfl) ?_; dsimp only)); refine Kd.R_lit k69 _ 69 ?hg (N := 37) ?hd (xs := ([(⟨(⟨#[97, 15, 255, 255, 255, 255, 255, 255, 251]⟩ : ByteArray), (⟨#[0]⟩ : ByteArray)⟩ : S69)] : List (S69))) (inner := [.string (⟨#[97, 15, 255, 255, 255, 255, 255, 255, 251]⟩ : ByteArray), .string (⟨#[0]⟩ : ByteArray)]) (ok := fun _ => True) (okp := fun _ => True) ?hr ?hp (fun _ hk => hk) trivial (Below.refl _ _) (Nat.le_refl _) (by simp) ?_; (case hd => rfl); (case hg => rfl); (case hr => first | (go_simp; done) | (go_simp; rfl)); (case hp => exact (Reps.c2 (show Kd.M k69 _ _ _ (⟨(⟨#[97, 15, 255, 255, 255, 255, 255, 255, 251]⟩ : ByteArray), (⟨#[0]⟩ : ByteArray)⟩ : S69) [.string (⟨#[97, 15, 255, 255, 255, 255, 255, 255, 251]⟩ : ByteArray), .string (⟨#[0]⟩ : ByteArray)] from (k69_mkM _ _ _ (⟨(⟨#[97, 15, 255, 255, 255, 255, 255, 255, 251]⟩ : ByteArray), (⟨#[0]⟩ : ByteArray)⟩ : S69) )) (Reps.none _ _))); intro v197 w26 ho27 hb hg_ hnew_; clear hg_ hnew_; (first | rw [← Ny196.out] at ho27 | (simp only [Int.reduceToNat] at ho27; rw [← Ny196.out] at ho27)); have n0_ := Aside0.mk (Kd.R_below (by (with_reducible repeat (first | apply Kd.R_alloc | apply Kd.R_drewN | apply Kd.R_drew)); exact (Kd.R_mono (Kd.R_far (p := ⟨gb195, 1, none⟩) (Kd.R_far (p := ⟨gb195, 0, none⟩) (Kd.R_types HO176.out BK195.out (by decide)) (fun _ hk => hk.2) (.int .i64 t189)) (fun _ hk => hk.2) (.slice Ao25 t190.length co25)) (fun _ h_ => h_.1))) hb); have n1_ := Aside0.mk (Kd.N_elder' (by (with_reducible repeat (first | apply Kd.N_alloc | apply Kd.N_drewN | apply Kd.N_drew)); exact (Kd.N_mono (Kd.N_far (p := ⟨gb195, 1, none⟩) (Kd.N_far (p := ⟨gb195, 0, none⟩) (Kd.N_mono HO184.out (fun k_ hk => (⟨hk, hk.2⟩ : _ ∧ k_ ≠ gb195))) (fun _ hk => hk.2) (.int .i64 t189)) (fun _ hk => hk.2) (.slice Ao25 t190.length co25)) (fun _ h_ => h_.1))) (Kd.R_base ho27) hb); have n2_ := Aside0.mk (Kd.R_elder' (by (with_reducible repeat (first | apply Kd.R_alloc | apply Kd.R_drewN | apply Kd.R_drew)); exact (Kd.R_mono (Kd.R_far (p := ⟨gb195, 1, none⟩) (Kd.R_far (p := ⟨gb195, 0, none⟩) (Kd.R_types HO188.out BK195.out (by decide)) (fun _ hk => hk.2) (.int .i64 t189)) (fun _ hk => hk.2) (.slice Ao25 t190.length co25)) (fun _ h_ => h_.1))) (Kd.R_base ho27) hb); have n3_ := Aside0.mk (Kd.R_below (by (with_reducible repeat (first | apply Kd.R_alloc | apply Kd.R_drewN | apply Kd.R_drew)); exact (Kd.R_mono (Kd.R_far (p := ⟨gb195, 1, none⟩) (Kd.R_far (p := ⟨gb195, 0, none⟩) (Kd.R_types HO192.out BK195.out (by decide)) (fun _ hk => hk.2) (.int .i64 t189)) (fun _ hk => hk.2) (.slice Ao25 t190.length co25)) (fun _ h_ => h_.1))) hb); have n4_ := Aside0.mk (Kd.R_lower (Kd.R_new' ho27 (Kd.R_lt (by (with_reducible repeat (first | apply Kd.R_alloc | apply Kd.R_drewN | apply Kd.R_drew)); exact (Kd.R_mono (Kd.R_far (p := ⟨gb195, 1, none⟩) (Kd.R_far (p := ⟨gb195, 0, none⟩) (Kd.R_types HO188.out BK195.out (by decide)) (fun _ hk => hk.2) (.int .i64 t189)) (fun _ hk => hk.2) (.slice Ao25 t190.length co25)) (fun _ h_ => h_.1))))) (below_size (by repeat (first | (with_reducible first | exact HB.out | apply below_alloc | apply pw_below_drewN | apply below_drew1 | refine below_set ?_ GE195.out) | exact HB.out)))); have n5_ := Aside0.mk (blk_below (g := gb195) (o := .cells #[.int .i64 t189, .slice Ao25 t190.length co25] 24 (0, 0)) (by (with_reducible repeat (first | refine blk_drewN ?_ _ | refine blk_drew ?_ | refine blk_alloc ?_ _)); refine blk_put (cs := #[.int .i64 t189, .slice none 0 0]) ?_ 1 _ rfl; (with_reducible repeat (first | refine blk_drewN ?_ _ | refine blk_drew ?_ | refine blk_alloc ?_ _)); refine blk_put (cs := #[.int .i64 0, .slice none 0 0]) ?_ 0 _ rfl; (with_reducible repeat (first | refine blk_drewN ?_ _ | refine blk_drew ?_ | refine blk_alloc ?_ _)); exact BK195.out) hb); have n6_ := Aside0.mk (below_step (by repeat (first | (with_reducible first | exact HB.out | apply below_alloc | apply pw_below_drewN | apply below_drew1 | refine below_set ?_ GE195.out) | exact HB.out)) hb); clear HO176; clear HO184; clear HO188; clear HO192; clear BK195; clear HB; have HO176 := n0_; have HO184 := n1_; have HO188 := n2_; have HO192 := n3_; have HO198 := n4_; have BK195 := n5_; have HB := n6_; clear n0_ n1_ n2_ n3_ n4_ n5_ n6_; clear hb ho27; obtain ⟨Ao28, co28, eo28⟩ := Kd.R_slice HO188.out; subst eo28; obtain ⟨Ao29, co29, eo29⟩ := Kd.R_slice HO198.out; subst eo29) | (go_at_call 25; (with_reducible refine (ambryref10_Same.calls k _ _ t185 _ _ y196 true _ ?side1 ?side2 ?side3 ?side4 A6.out).mono ?_); (case side1 => repeat (first | exact (Kd.R_reads' HO188.out).2.2 | (with_reducible refine Kd.C_alloc ?_ _) | (with_reducible refine Kd.C_drewN ?_ _) | (with_reducible refine Kd.C_drew ?_))); (case side2 => exact (Kd.R_reads' HO188.out).2.1); (case side3 => repeat (first | exact (Kd.R_reads' HO198.out).2.2 | (with_reducible refine Kd.C_alloc ?_ _) | (with_reducible refine Kd.C_drewN ?_ _) | (with_reducible refine Kd.C_drew ?_))); (case side4 => exact (Kd.R_reads' HO198.out).2.1); rintro e w' ⟨rfl, ⟨nd, rfl⟩⟩))
              go_ret
              exact ⟨by first | rfl | (simp [errW_none, errW_some] <;> rfl) | (simp [*, errW_none, errW_some] <;> rfl), by repeat (first | (with_reducible first | exact HB.out | apply below_alloc | apply pw_below_drewN | apply below_drew1 | refine below_set ?_ GE195.out) | exact HB.out)⟩
            · rw [if_neg c10] at H
              have c10b0 : (t194 == 0) = false := beq_eq_false_iff_ne.mpr c10
              have c10b1 : (t194 != 0) = true := bne_iff_ne.mpr c10
              obtain rfl := Option.some.inj H
              go_enter Try.func13, Try.ntmps13
              go_wp2_with (first | ((with_reducible refine gate_dst (N := 10) rfl ?_); (try (refine gate_guard (by rfl) ?_; dsimp only)); refine Kd.R_lit k52 _ 52 ?hg (N := 10) ?hd (xs := ([(⟨(⟨#[97]⟩ : ByteArray), (⟨#[120]⟩ : ByteArray), false⟩ : S52)] : List (S52))) (inner := [.string (⟨#[97]⟩ : ByteArray), .string (⟨#[120]⟩ : ByteArray), .bool false]) (ok := fun _ => True) (okp := fun _ => True) ?hr ?hp (fun _ hk => hk) trivial (Below.refl _ _) (Nat.le_refl _) (by simp) ?_; (case hd => rfl); (case hg => rfl); (case hr => first | (go_simp; done) | (go_simp; rfl)); (case hp => exact (Reps.c3 (show Kd.M k52 _ _ _ (⟨(⟨#[97]⟩ : ByteArray), (⟨#[120]⟩ : ByteArray), false⟩ : S52) [.string (⟨#[97]⟩ : ByteArray), .string (⟨#[120]⟩ : ByteArray), .bool false] from (k52_mkM _ _ _ (⟨(⟨#[97]⟩ : ByteArray), (⟨#[120]⟩ : ByteArray), false⟩ : S52) )) (Reps.none _ _))); intro v175 w30 ho31 hb hg_ hnew_; clear hg_ hnew_; (first | rw [← Ny174.out] at ho31 | (simp only [Int.reduceToNat] at ho31; rw [← Ny174.out] at ho31)); have n0_ := Aside0.mk (Kd.R_lower ho31 (below_size (by repeat (first | (with_reducible first | exact HB.out | apply below_alloc | apply pw_below_drewN | apply below_drew1) | exact HB.out)))); have n1_ := Aside0.mk (below_step (by repeat (first | (with_reducible first | exact HB.out | apply below_alloc | apply pw_below_drewN | apply below_drew1) | exact HB.out)) hb); clear HB; have HO176 := n0_; have HB := n1_; clear n0_ n1_; clear hb ho31; obtain ⟨Ao32, co32, eo32⟩ := Kd.R_slice HO176.out; subst eo32) | ((with_reducible refine gate_callee (f := 14) rfl ?_); refine goesL_ (some 12) rfl rfl Try.func14 (by kernel_rfl) rfl #[.agg #[.int .i64 5, .slice Ao32 y174.length co32]] rfl (by (try simp only [List.map_toArray, List.map_cons, List.map_nil]); first | done | rfl | (simp only [List.length_drop, List.length_take]; rfl)) ?_; (with_reducible refine (batch_Bytes.calls k 5 _ _ y174 t177 t178 _ ?side1 ?side2 A1.out).mono ?_); (case side1 => repeat (first | exact (Kd.R_reads' HO176.out).2.2 | (with_reducible refine Kd.C_alloc ?_ _) | (with_reducible refine Kd.C_drewN ?_ _) | (with_reducible refine Kd.C_drew ?_))); (case side2 => exact (Kd.R_reads' HO176.out).2.1); rintro e w33 ⟨rfl, hb⟩; refine ⟨_, rfl, ?_⟩; have n0_ := Aside0.mk (Kd.R_below (by (with_reducible repeat (first | apply Kd.R_alloc | apply Kd.R_drewN | apply Kd.R_drew)); exact HO176.out) hb); have n1_ := Aside0.mk (below_step (by repeat (first | (with_reducible first | exact HB.out | apply below_alloc | apply pw_below_drewN | apply below_drew1) | exact HB.out)) hb); clear HO176; clear HB; have HO176 := n0_; have HB := n1_; clear n0_ n1_; (try clear hb); (try clear hb2); (try clear hk); (try clear hi)) | ((with_reducible refine gate_dst (N := 17) rfl ?_); (try (refine gate_guard (by rfl) ?_; dsimp only)); refine Kd.R_lit k80 _ 80 ?hg (N := 17) ?hd (xs := ([(⟨5, (⟨#[]⟩ : ByteArray), true⟩ : S80)] : List (S80))) (inner := [.int .i64 5, .string (⟨#[]⟩ : ByteArray), .bool true]) (ok := fun _ => True) (okp := fun _ => True) ?hr ?hp (fun _ hk => hk) trivial (Below.refl _ _) (Nat.le_refl _) (by simp) ?_; (case hd => rfl); (case hg => rfl); (case hr => first | (go_simp; done) | (go_simp; rfl)); (case hp => exact (Reps.c3 (show Kd.M k80 _ _ _ (⟨5, (⟨#[]⟩ : ByteArray), true⟩ : S80) [.int .i64 5, .string (⟨#[]⟩ : ByteArray), .bool true] from (k80_mkM _ _ _ (⟨5, (⟨#[]⟩ : ByteArray), true⟩ : S80) )) (Reps.none _ _))); intro v180 w34 ho35 hb hg_ hnew_; clear hg_ hnew_; (first | rw [← Ny179.out] at ho35 | (simp only [Int.reduceToNat] at ho35; rw [← Ny179.out] at ho35)); have n0_ := Aside0.mk (Kd.R_below (by (with_reducible repeat (first | apply Kd.R_alloc | apply Kd.R_drewN | apply Kd.R_drew)); exact HO176.out) hb); have n1_ := Aside0.mk (Kd.R_lower ho35 (below_size (by repeat (first | (with_reducible first | exact HB.out | apply below_alloc | apply pw_below_drewN | apply below_drew1) | exact HB.out)))); have n2_ := Aside0.mk (below_step (by repeat (first | (with_reducible first | exact HB.out | apply below_alloc | apply pw_below_drewN | apply below_drew1) | exact HB.out)) hb); clear HO176; clear HB; have HO176 := n0_; have HO181 := n1_; have HB := n2_; clear n0_ n1_ n2_; clear hb ho35; obtain ⟨Ao36, co36, eo36⟩ := Kd.R_slice HO181.out; subst eo36) | ((with_reducible refine gate_dst (N := 19) rfl ?_); (try (refine gate_guard (by rfl) ?_; dsimp only)); refine Kd.N_lit k67 _ 67 ?hg (N' := 19) ?hd (xs := ([(⟨(⟨#[97]⟩ : ByteArray), y179⟩ : S67)] : List (S67))) (inner := [.string (⟨#[97]⟩ : ByteArray), .slice Ao36 y179.length co36]) (ok := (fun k_ => some k_ ≠ (.slice Ao32 y174.length co32 : Value).ownBlock)) (okp := (fun k_ => some k_ ≠ (.slice Ao32 y174.length co32 : Value).ownBlock)) ?hr ?hp (fun _ hk => hk) ((show ∀ k_, w34.heap.size ≤ k_ → (fun k_ => some k_ ≠ (.slice Ao32 y174.length co32 : Value).ownBlock) k_ from fun k_ hk => Kd.fresh' (Kd.R_lt (by (with_reducible repeat (first | apply Kd.R_alloc | apply Kd.R_drewN | apply Kd.R_drew)); exact HO176.out)) k_ hk) _ (Nat.le_refl _)) (Below.refl _ _) (Nat.le_refl _) (by simp) ?_; (case hd => rfl); (case hg => rfl); (case hr => first | (go_simp; done) | (go_simp; rfl)); (case hp => exact (Reps.c2 (show Kd.FK k67 _ _ (⟨(⟨#[97]⟩ : ByteArray), y179⟩ : S67) [.string (⟨#[97]⟩ : ByteArray), .slice Ao36 y179.length co36] from (k67_mkF _ _ (⟨(⟨#[97]⟩ : ByteArray), y179⟩ : S67) (Kd.R_reads' (Kd.R_mono (ok' := (fun k_ => some k_ ≠ (.slice Ao32 y174.length co32 : Value).ownBlock)) (Kd.R_apart' (HO181.out) (Kd.R_typed HO176.out) (by decide)) (fun k_ hk => hk.2))).2.1 (Kd.R_F (Kd.R_mono (ok' := (fun k_ => some k_ ≠ (.slice Ao32 y174.length co32 : Value).ownBlock)) (Kd.R_apart' (HO181.out) (Kd.R_typed HO176.out) (by decide)) (fun k_ hk => hk.2))))) (Reps.none _ _))); intro v183 w37 ho38 hb hg_ hnew_; clear hg_ hnew_; (first | rw [← Ny182.out] at ho38 | (simp only [Int.reduceToNat] at ho38; rw [← Ny182.out] at ho38)); have n0_ := Aside0.mk (Kd.R_below (by (with_reducible repeat (first | apply Kd.R_alloc | apply Kd.R_drewN | apply Kd.R_drew)); exact HO176.out) hb); have n1_ := Aside0.mk (Kd.N_lower ho38 (below_size (by repeat (first | (with_reducible first | exact HB.out | apply below_alloc | apply pw_below_drewN | apply below_drew1) | exact HB.out)))); have n2_ := Aside0.mk (below_step (by repeat (first | (with_reducible first | exact HB.out | apply below_alloc | apply pw_below_drewN | apply below_drew1) | exact HB.out)) hb); clear HO176; clear HB; clear HO181; have HO176 := n0_; have HO184 := n1_; have HB := n2_; clear n0_ n1_ n2_; clear hb ho38; obtain ⟨Ao39, co39, eo39⟩ := Kd.N_slice HO184.out; subst eo39) | ((with_reducible refine gate_callee (f := 28) rfl ?_); refine goesL_ (some 20) rfl rfl Try.func28 (by kernel_rfl) rfl #[.slice Ao39 y182.length co39] rfl (by (try simp only [List.map_toArray, List.map_cons, List.map_nil]); first | done | rfl | (simp only [List.length_drop, List.length_take]; rfl)) ?_; (with_reducible refine (batch_Pairs.calls k _ _ y182 t185 t186 _ ?side1 ?side2 A2.out).mono ?_); (case side1 => repeat (first | exact (Kd.N_reads' HO184.out).2.2 | (with_reducible refine Kd.C_alloc ?_ _) | (with_reducible refine Kd.C_drewN ?_ _) | (with_reducible refine Kd.C_drew ?_))); (case side2 => exact (Kd.N_reads' HO184.out).2.1); rintro e w40 ⟨v187, rfl, ho0, hb⟩; refine ⟨_, rfl, ?_⟩; have n0_ := Aside0.mk (Kd.R_below (by (with_reducible repeat (first | apply Kd.R_alloc | apply Kd.R_drewN | apply Kd.R_drew)); exact HO176.out) hb); have n1_ := Aside0.mk (Kd.N_elder' (by (with_reducible repeat (first | apply Kd.N_alloc | apply Kd.N_drewN | apply Kd.N_drew)); exact HO184.out) (Kd.R_base ho0) hb); have n2_ := Aside0.mk (Kd.R_lower ho0 (below_size (by repeat (first | (with_reducible first | exact HB.out | apply below_alloc | apply pw_below_drewN | apply below_drew1) | exact HB.out)))); have n3_ := Aside0.mk (below_step (by repeat (first | (with_reducible first | exact HB.out | apply below_alloc | apply pw_below_drewN | apply below_drew1) | exact HB.out)) hb); clear HO176; clear HO184; clear HB; have HO176 := n0_; have HO184 := n1_; have HO188 := n2_; have HB := n3_; clear n0_ n1_ n2_ n3_; (try clear hb); (try clear hb2); (try clear hk); (try clear hi); (try clear ho0)) | ((with_reducible refine gate_callee (f := 10) rfl ?_); refine goesL_ (some 24) rfl rfl Try.func10 (by kernel_rfl) rfl #[.string (⟨#[77, 0, 0, 0, 0, 0, 0, 0, 9]⟩ : ByteArray)] rfl (by (try simp only [List.map_toArray, List.map_cons, List.map_nil]); first | done | rfl | (simp only [List.length_drop, List.length_take]; rfl)) ?_; (with_reducible refine (batch_Read.calls k (⟨#[77, 0, 0, 0, 0, 0, 0, 0, 9]⟩ : ByteArray) t189 t190 t193 t194 _ A3.out).mono ?_); rintro e w41 ⟨v191, rfl, ho0, hb⟩; refine ⟨_, rfl, ?_⟩; have n0_ := Aside0.mk (Kd.R_elder' (by (with_reducible repeat (first | apply Kd.R_alloc | apply Kd.R_drewN | apply Kd.R_drew)); exact HO176.out) (Kd.R_base ho0) hb); have n1_ := Aside0.mk (Kd.N_elder' (by (with_reducible repeat (first | apply Kd.N_alloc | apply Kd.N_drewN | apply Kd.N_drew)); exact HO184.out) (Kd.R_base ho0) hb); have n2_ := Aside0.mk (Kd.R_below (by (with_reducible repeat (first | apply Kd.R_alloc | apply Kd.R_drewN | apply Kd.R_drew)); exact HO188.out) hb); have n3_ := Aside0.mk (Kd.R_lower (Kd.R_new' ho0 (Kd.R_lt (by (with_reducible repeat (first | apply Kd.R_alloc | apply Kd.R_drewN | apply Kd.R_drew)); exact HO176.out))) (below_size (by repeat (first | (with_reducible first | exact HB.out | apply below_alloc | apply pw_below_drewN | apply below_drew1) | exact HB.out)))); have n4_ := Aside0.mk (below_step (by repeat (first | (with_reducible first | exact HB.out | apply below_alloc | apply pw_below_drewN | apply below_drew1) | exact HB.out)) hb); clear HO176; clear HO184; clear HO188; clear HB; have HO176 := n0_; have HO184 := n1_; have HO188 := n2_; have HO192 := n3_; have HB := n4_; clear n0_ n1_ n2_ n3_ n4_; (try clear hb); (try clear hb2); (try clear hk); (try clear hi); (try clear ho0)) | ((with_reducible refine gate_dst (N := 5) rfl ?_); (try (refine gate_guard (by rfl) ?_; dsimp only)); refine box_event ?hg (N := 5) ?hd (cs := #[.int .i64 0, .slice none 0 0]) (t := 24) ?hr ?_; (case hd => rfl); (case hg => rfl); (case hr => first | (go_simp; done) | (go_simp; rfl)); intro gb195 hg w42 hbox hb; have n0_ := Aside0.mk (Kd.R_below (by (with_reducible repeat (first | apply Kd.R_alloc | apply Kd.R_drewN | apply Kd.R_drew)); exact HO176.out) hb); have n1_ := Aside0.mk (Kd.N_below (Kd.N_elderB (by (with_reducible repeat (first | apply Kd.N_alloc | apply Kd.N_drewN | apply Kd.N_drew)); exact HO184.out) gb195 (Nat.le_of_eq hg.symm)) hb); have n2_ := Aside0.mk (Kd.R_below (by (with_reducible repeat (first | apply Kd.R_alloc | apply Kd.R_drewN | apply Kd.R_drew)); exact HO188.out) hb); have n3_ := Aside0.mk (Kd.R_below (by (with_reducible repeat (first | apply Kd.R_alloc | apply Kd.R_drewN | apply Kd.R_drew)); exact HO192.out) hb); have n4_ := Aside0.mk (below_step (by repeat (first | (with_reducible first | exact HB.out | apply below_alloc | apply pw_below_drewN | apply below_drew1) | exact HB.out)) hb); have n5_ := Aside0.mk (hbox); have n6_ := Aside0.mk ((by rw [hg]; exact (below_size (by repeat (first | (with_reducible first | exact HB.out | apply below_alloc | apply pw_below_drewN | apply below_drew1) | exact HB.out))) : w.heap.size ≤ gb195)); have n7_ := Aside0.mk ((by rw [hg]; exact (below_size (by repeat (first | (with_reducible first | exact HB.out | apply below_alloc | apply pw_below_drewN | apply below_drew1) | exact HB.out))) : w.heap.size ≤ gb195)); clear HO176; clear HO184; clear HO188; clear HO192; clear HB; have HO176 := n0_; have HO184 := n1_; have HO188 := n2_; have HO192 := n3_; have HB := n4_; have BK195 := n5_; have GW195 := n6_; have GE195 := n7_; clear n0_ n1_ n2_ n3_ n4_ n5_ n6_ n7_; clear hb hbox hg; have hcz43_0 : w42.cell? ⟨gb195, 0, none⟩ = some (.int .i64 0) := (blk_cell BK195.out 0).trans rfl; have hcz43_1 : w42.cell? ⟨gb195, 1, none⟩ = some (.slice none 0 0) := (blk_cell BK195.out 1).trans rfl; have hfz43_0 := blk_frozen BK195.out 0; have hfz43_1 := blk_frozen BK195.out 1; obtain ⟨Ao44, co44, eo44⟩ := Kd.R_slice HO192.out; subst eo44) | ((with_reducible refine gate_dst (N := 37) rfl ?_); (try (refine gate_guard (by rfl) ?_; dsimp only)); refine Kd.R_lit k69 _ 69 ?hg (N := 37) ?hd (xs := ([(⟨(⟨#[97, 15, 255, 255, 255, 255, 255, 255, 251]⟩ : ByteArray), (⟨#[0]⟩ : ByteArray)⟩ : S69)] : List (S69))) (inner := [.string (⟨#[97, 15, 255, 255, 255, 255, 255, 255, 251]⟩ : ByteArray), .string (⟨#[0]⟩ : ByteArray)]) (ok := fun _ => True) (okp := fun _ => True) ?hr ?hp (fun _ hk => hk) trivial (Below.refl _ _) (Nat.le_refl _) (by simp) ?_; (case hd => rfl); (case hg => rfl); (case hr => first | (go_simp; done) | (go_simp; rfl)); (case hp => exact (Reps.c2 (show Kd.M k69 _ _ _ (⟨(⟨#[97, 15, 255, 255, 255, 255, 255, 255, 251]⟩ : ByteArray), (⟨#[0]⟩ : ByteArray)⟩ : S69) [.string (⟨#[97, 15, 255, 255, 255, 255, 255, 255, 251]⟩ : ByteArray), .string (⟨#[0]⟩ : ByteArray)] from (k69_mkM _ _ _ (⟨(⟨#[97, 15, 255, 255, 255, 255, 255, 255, 251]⟩ : ByteArray), (⟨#[0]⟩ : ByteArray)⟩ : S69) )) (Reps.none _ _))); intro v197 w45 ho46 hb hg_ hnew_; clear hg_ hnew_; (first | rw [← Ny196.out] at ho46 | (simp only [Int.reduceToNat] at ho46; rw [← Ny196.out] at ho46)); have n0_ := Aside0.mk (Kd.R_below (by (with_reducible repeat (first | apply Kd.R_alloc | apply Kd.R_drewN | apply Kd.R_drew)); exact (Kd.R_mono (Kd.R_far (p := ⟨gb195, 1, none⟩) (Kd.R_far (p := ⟨gb195, 0, none⟩) (Kd.R_types HO176.out BK195.out (by decide)) (fun _ hk => hk.2) (.int .i64 t189)) (fun _ hk => hk.2) (.slice Ao44 t190.length co44)) (fun _ h_ => h_.1))) hb); have n1_ := Aside0.mk (Kd.N_elder' (by (with_reducible repeat (first | apply Kd.N_alloc | apply Kd.N_drewN | apply Kd.N_drew)); exact (Kd.N_mono (Kd.N_far (p := ⟨gb195, 1, none⟩) (Kd.N_far (p := ⟨gb195, 0, none⟩) (Kd.N_mono HO184.out (fun k_ hk => (⟨hk, hk.2⟩ : _ ∧ k_ ≠ gb195))) (fun _ hk => hk.2) (.int .i64 t189)) (fun _ hk => hk.2) (.slice Ao44 t190.length co44)) (fun _ h_ => h_.1))) (Kd.R_base ho46) hb); have n2_ := Aside0.mk (Kd.R_elder' (by (with_reducible repeat (first | apply Kd.R_alloc | apply Kd.R_drewN | apply Kd.R_drew)); exact (Kd.R_mono (Kd.R_far (p := ⟨gb195, 1, none⟩) (Kd.R_far (p := ⟨gb195, 0, none⟩) (Kd.R_types HO188.out BK195.out (by decide)) (fun _ hk => hk.2) (.int .i64 t189)) (fun _ hk => hk.2) (.slice Ao44 t190.length co44)) (fun _ h_ => h_.1))) (Kd.R_base ho46) hb); have n3_ := Aside0.mk (Kd.R_below (by (with_reducible repeat (first | apply Kd.R_alloc | apply Kd.R_drewN | apply Kd.R_drew)); exact (Kd.R_mono (Kd.R_far (p := ⟨gb195, 1, none⟩) (Kd.R_far (p := ⟨gb195, 0, none⟩) (Kd.R_types HO192.out BK195.out (by decide)) (fun _ hk => hk.2) (.int .i64 t189)) (fun _ hk => hk.2) (.slice Ao44 t190.length co44)) (fun _ h_ => h_.1))) hb); have n4_ := Aside0.mk (Kd.R_lower (Kd.R_new' ho46 (Kd.R_lt (by (with_reducible repeat (first | apply Kd.R_alloc | apply Kd.R_drewN | apply Kd.R_drew)); exact (Kd.R_mono (Kd.R_far (p := ⟨gb195, 1, none⟩) (Kd.R_far (p := ⟨gb195, 0, none⟩) (Kd.R_types HO188.out BK195.out (by decide)) (fun _ hk => hk.2) (.int .i64 t189)) (fun _ hk => hk.2) (.slice Ao44 t190.length co44)) (fun _ h_ => h_.1))))) (below_size (by repeat (first | (with_reducible first | exact HB.out | apply below_alloc | apply pw_below_drewN | apply below_drew1 | refine below_set ?_ GE195.out) | exact HB.out)))); have n5_ := Aside0.mk (blk_below (g := gb195) (o := .cells #[.int .i64 t189, .slice Ao44 t190.length co44] 24 (0, 0)) (by (with_reducible repeat (first | refine blk_drewN ?_ _ | refine blk_drew ?_ | refine blk_alloc ?_ _)); refine blk_put (cs := #[.int .i64 t189, .slice none 0 0]) ?_ 1 _ rfl; (with_reducible repeat (first | refine blk_drewN ?_ _ | refine blk_drew ?_ | refine blk_alloc ?_ _)); refine blk_put (cs := #[.int .i64 0, .slice none 0 0]) ?_ 0 _ rfl; (with_reducible repeat (first | refine blk_drewN ?_ _ | refine blk_drew ?_ | refine blk_alloc ?_ _)); exact BK195.out) hb); have n6_ := Aside0.mk (below_step (by repeat (first | (with_reducible first | exact HB.out | apply below_alloc | apply pw_below_drewN | apply below_drew1 | refine below_set ?_ GE195.out) | exact HB.out)) hb); clear HO176; clear HO184; clear HO188; clear HO192; clear BK195; clear HB; have HO176 := n0_; have HO184 := n1_; have HO188 := n2_; have HO192 := n3_; have HO198 := n4_; have BK195 := n5_; have HB := n6_; clear n0_ n1_ n2_ n3_ n4_ n5_ n6_; clear hb ho46; obtain ⟨Ao47, co47, eo47⟩ := Kd.R_slice HO188.out; subst eo47; obtain ⟨Ao48, co48, eo48⟩ := Kd.R_slice HO198.out; subst eo48) | (go_at_call 25; (with_reducible refine (ambryref10_Same.calls k _ _ t185 _ _ y196 true _ ?side1 ?side2 ?side3 ?side4 A6.out).mono ?_); (case side1 => repeat (first | exact (Kd.R_reads' HO188.out).2.2 | (with_reducible refine Kd.C_alloc ?_ _) | (with_reducible refine Kd.C_drewN ?_ _) | (with_reducible refine Kd.C_drew ?_))); (case side2 => exact (Kd.R_reads' HO188.out).2.1); (case side3 => repeat (first | exact (Kd.R_reads' HO198.out).2.2 | (with_reducible refine Kd.C_alloc ?_ _) | (with_reducible refine Kd.C_drewN ?_ _) | (with_reducible refine Kd.C_drew ?_))); (case side4 => exact (Kd.R_reads' HO198.out).2.1); rintro e w' ⟨rfl, ⟨nd, rfl⟩⟩))
              go_ret
              exact ⟨by first | rfl | (simp [errW_none, errW_some] <;> rfl) | (simp [*, errW_none, errW_some] <;> rfl), by repeat (first | (with_reducible first | exact HB.out | apply below_alloc | apply pw_below_drewN | apply below_drew1 | refine below_set ?_ GE195.out) | exact HB.out)⟩
          · rw [if_neg c9] at H
            have c9b0 : (t193 == 9) = false := beq_eq_false_iff_ne.mpr c9
            have c9b1 : (t193 != 9) = true := bne_iff_ne.mpr c9
            obtain rfl := Option.some.inj H
            go_enter Try.func13, Try.ntmps13
            go_wp2_with (first | ((with_reducible refine gate_dst (N := 10) rfl ?_); (try (refine gate_guard (by rfl) ?_; dsimp only)); refine Kd.R_lit k52 _ 52 ?hg (N := 10) ?hd (xs := ([(⟨(⟨#[97]⟩ : ByteArray), (⟨#[120]⟩ : ByteArray), false⟩ : S52)] : List (S52))) (inner := [.string (⟨#[97]⟩ : ByteArray), .string (⟨#[120]⟩ : ByteArray), .bool false]) (ok := fun _ => True) (okp := fun _ => True) ?hr ?hp (fun _ hk => hk) trivial (Below.refl _ _) (Nat.le_refl _) (by simp) ?_; (case hd => rfl); (case hg => rfl); (case hr => first | (go_simp; done) | (go_simp; rfl)); (case hp => exact (Reps.c3 (show Kd.M k52 _ _ _ (⟨(⟨#[97]⟩ : ByteArray), (⟨#[120]⟩ : ByteArray), false⟩ : S52) [.string (⟨#[97]⟩ : ByteArray), .string (⟨#[120]⟩ : ByteArray), .bool false] from (k52_mkM _ _ _ (⟨(⟨#[97]⟩ : ByteArray), (⟨#[120]⟩ : ByteArray), false⟩ : S52) )) (Reps.none _ _))); intro v175 w49 ho50 hb hg_ hnew_; clear hg_ hnew_; (first | rw [← Ny174.out] at ho50 | (simp only [Int.reduceToNat] at ho50; rw [← Ny174.out] at ho50)); have n0_ := Aside0.mk (Kd.R_lower ho50 (below_size (by repeat (first | (with_reducible first | exact HB.out | apply below_alloc | apply pw_below_drewN | apply below_drew1) | exact HB.out)))); have n1_ := Aside0.mk (below_step (by repeat (first | (with_reducible first | exact HB.out | apply below_alloc | apply pw_below_drewN | apply below_drew1) | exact HB.out)) hb); clear HB; have HO176 := n0_; have HB := n1_; clear n0_ n1_; clear hb ho50; obtain ⟨Ao51, co51, eo51⟩ := Kd.R_slice HO176.out; subst eo51) | ((with_reducible refine gate_callee (f := 14) rfl ?_); refine goesL_ (some 12) rfl rfl Try.func14 (by kernel_rfl) rfl #[.agg #[.int .i64 5, .slice Ao51 y174.length co51]] rfl (by (try simp only [List.map_toArray, List.map_cons, List.map_nil]); first | done | rfl | (simp only [List.length_drop, List.length_take]; rfl)) ?_; (with_reducible refine (batch_Bytes.calls k 5 _ _ y174 t177 t178 _ ?side1 ?side2 A1.out).mono ?_); (case side1 => repeat (first | exact (Kd.R_reads' HO176.out).2.2 | (with_reducible refine Kd.C_alloc ?_ _) | (with_reducible refine Kd.C_drewN ?_ _) | (with_reducible refine Kd.C_drew ?_))); (case side2 => exact (Kd.R_reads' HO176.out).2.1); rintro e w52 ⟨rfl, hb⟩; refine ⟨_, rfl, ?_⟩; have n0_ := Aside0.mk (Kd.R_below (by (with_reducible repeat (first | apply Kd.R_alloc | apply Kd.R_drewN | apply Kd.R_drew)); exact HO176.out) hb); have n1_ := Aside0.mk (below_step (by repeat (first | (with_reducible first | exact HB.out | apply below_alloc | apply pw_below_drewN | apply below_drew1) | exact HB.out)) hb); clear HO176; clear HB; have HO176 := n0_; have HB := n1_; clear n0_ n1_; (try clear hb); (try clear hb2); (try clear hk); (try clear hi)) | ((with_reducible refine gate_dst (N := 17) rfl ?_); (try (refine gate_guard (by rfl) ?_; dsimp only)); refine Kd.R_lit k80 _ 80 ?hg (N := 17) ?hd (xs := ([(⟨5, (⟨#[]⟩ : ByteArray), true⟩ : S80)] : List (S80))) (inner := [.int .i64 5, .string (⟨#[]⟩ : ByteArray), .bool true]) (ok := fun _ => True) (okp := fun _ => True) ?hr ?hp (fun _ hk => hk) trivial (Below.refl _ _) (Nat.le_refl _) (by simp) ?_; (case hd => rfl); (case hg => rfl); (case hr => first | (go_simp; done) | (go_simp; rfl)); (case hp => exact (Reps.c3 (show Kd.M k80 _ _ _ (⟨5, (⟨#[]⟩ : ByteArray), true⟩ : S80) [.int .i64 5, .string (⟨#[]⟩ : ByteArray), .bool true] from (k80_mkM _ _ _ (⟨5, (⟨#[]⟩ : ByteArray), true⟩ : S80) )) (Reps.none _ _))); intro v180 w53 ho54 hb hg_ hnew_; clear hg_ hnew_; (first | rw [← Ny179.out] at ho54 | (simp only [Int.reduceToNat] at ho54; rw [← Ny179.out] at ho54)); have n0_ := Aside0.mk (Kd.R_below (by (with_reducible repeat (first | apply Kd.R_alloc | apply Kd.R_drewN | apply Kd.R_drew)); exact HO176.out) hb); have n1_ := Aside0.mk (Kd.R_lower ho54 (below_size (by repeat (first | (with_reducible first | exact HB.out | apply below_alloc | apply pw_below_drewN | apply below_drew1) | exact HB.out)))); have n2_ := Aside0.mk (below_step (by repeat (first | (with_reducible first | exact HB.out | apply below_alloc | apply pw_below_drewN | apply below_drew1) | exact HB.out)) hb); clear HO176; clear HB; have HO176 := n0_; have HO181 := n1_; have HB := n2_; clear n0_ n1_ n2_; clear hb ho54; obtain ⟨Ao55, co55, eo55⟩ := Kd.R_slice HO181.out; subst eo55) | ((with_reducible refine gate_dst (N := 19) rfl ?_); (try (refine gate_guard (by rfl) ?_; dsimp only)); refine Kd.N_lit k67 _ 67 ?hg (N' := 19) ?hd (xs := ([(⟨(⟨#[97]⟩ : ByteArray), y179⟩ : S67)] : List (S67))) (inner := [.string (⟨#[97]⟩ : ByteArray), .slice Ao55 y179.length co55]) (ok := (fun k_ => some k_ ≠ (.slice Ao51 y174.length co51 : Value).ownBlock)) (okp := (fun k_ => some k_ ≠ (.slice Ao51 y174.length co51 : Value).ownBlock)) ?hr ?hp (fun _ hk => hk) ((show ∀ k_, w53.heap.size ≤ k_ → (fun k_ => some k_ ≠ (.slice Ao51 y174.length co51 : Value).ownBlock) k_ from fun k_ hk => Kd.fresh' (Kd.R_lt (by (with_reducible repeat (first | apply Kd.R_alloc | apply Kd.R_drewN | apply Kd.R_drew)); exact HO176.out)) k_ hk) _ (Nat.le_refl _)) (Below.refl _ _) (Nat.le_refl _) (by simp) ?_; (case hd => rfl); (case hg => rfl); (case hr => first | (go_simp; done) | (go_simp; rfl)); (case hp => exact (Reps.c2 (show Kd.FK k67 _ _ (⟨(⟨#[97]⟩ : ByteArray), y179⟩ : S67) [.string (⟨#[97]⟩ : ByteArray), .slice Ao55 y179.length co55] from (k67_mkF _ _ (⟨(⟨#[97]⟩ : ByteArray), y179⟩ : S67) (Kd.R_reads' (Kd.R_mono (ok' := (fun k_ => some k_ ≠ (.slice Ao51 y174.length co51 : Value).ownBlock)) (Kd.R_apart' (HO181.out) (Kd.R_typed HO176.out) (by decide)) (fun k_ hk => hk.2))).2.1 (Kd.R_F (Kd.R_mono (ok' := (fun k_ => some k_ ≠ (.slice Ao51 y174.length co51 : Value).ownBlock)) (Kd.R_apart' (HO181.out) (Kd.R_typed HO176.out) (by decide)) (fun k_ hk => hk.2))))) (Reps.none _ _))); intro v183 w56 ho57 hb hg_ hnew_; clear hg_ hnew_; (first | rw [← Ny182.out] at ho57 | (simp only [Int.reduceToNat] at ho57; rw [← Ny182.out] at ho57)); have n0_ := Aside0.mk (Kd.R_below (by (with_reducible repeat (first | apply Kd.R_alloc | apply Kd.R_drewN | apply Kd.R_drew)); exact HO176.out) hb); have n1_ := Aside0.mk (Kd.N_lower ho57 (below_size (by repeat (first | (with_reducible first | exact HB.out | apply below_alloc | apply pw_below_drewN | apply below_drew1) | exact HB.out)))); have n2_ := Aside0.mk (below_step (by repeat (first | (with_reducible first | exact HB.out | apply below_alloc | apply pw_below_drewN | apply below_drew1) | exact HB.out)) hb); clear HO176; clear HB; clear HO181; have HO176 := n0_; have HO184 := n1_; have HB := n2_; clear n0_ n1_ n2_; clear hb ho57; obtain ⟨Ao58, co58, eo58⟩ := Kd.N_slice HO184.out; subst eo58) | ((with_reducible refine gate_callee (f := 28) rfl ?_); refine goesL_ (some 20) rfl rfl Try.func28 (by kernel_rfl) rfl #[.slice Ao58 y182.length co58] rfl (by (try simp only [List.map_toArray, List.map_cons, List.map_nil]); first | done | rfl | (simp only [List.length_drop, List.length_take]; rfl)) ?_; (with_reducible refine (batch_Pairs.calls k _ _ y182 t185 t186 _ ?side1 ?side2 A2.out).mono ?_); (case side1 => repeat (first | exact (Kd.N_reads' HO184.out).2.2 | (with_reducible refine Kd.C_alloc ?_ _) | (with_reducible refine Kd.C_drewN ?_ _) | (with_reducible refine Kd.C_drew ?_))); (case side2 => exact (Kd.N_reads' HO184.out).2.1); rintro e w59 ⟨v187, rfl, ho0, hb⟩; refine ⟨_, rfl, ?_⟩; have n0_ := Aside0.mk (Kd.R_below (by (with_reducible repeat (first | apply Kd.R_alloc | apply Kd.R_drewN | apply Kd.R_drew)); exact HO176.out) hb); have n1_ := Aside0.mk (Kd.N_elder' (by (with_reducible repeat (first | apply Kd.N_alloc | apply Kd.N_drewN | apply Kd.N_drew)); exact HO184.out) (Kd.R_base ho0) hb); have n2_ := Aside0.mk (Kd.R_lower ho0 (below_size (by repeat (first | (with_reducible first | exact HB.out | apply below_alloc | apply pw_below_drewN | apply below_drew1) | exact HB.out)))); have n3_ := Aside0.mk (below_step (by repeat (first | (with_reducible first | exact HB.out | apply below_alloc | apply pw_below_drewN | apply below_drew1) | exact HB.out)) hb); clear HO176; clear HO184; clear HB; have HO176 := n0_; have HO184 := n1_; have HO188 := n2_; have HB := n3_; clear n0_ n1_ n2_ n3_; (try clear hb); (try clear hb2); (try clear hk); (try clear hi); (try clear ho0)) | ((with_reducible refine gate_callee (f := 10) rfl ?_); refine goesL_ (some 24) rfl rfl Try.func10 (by kernel_rfl) rfl #[.string (⟨#[77, 0, 0, 0, 0, 0, 0, 0, 9]⟩ : ByteArray)] rfl (by (try simp only [List.map_toArray, List.map_cons, List.map_nil]); first | done | rfl | (simp only [List.length_drop, List.length_take]; rfl)) ?_; (with_reducible refine (batch_Read.calls k (⟨#[77, 0, 0, 0, 0, 0, 0, 0, 9]⟩ : ByteArray) t189 t190 t193 t194 _ A3.out).mono ?_); rintro e w60 ⟨v191, rfl, ho0, hb⟩; refine ⟨_, rfl, ?_⟩; have n0_ := Aside0.mk (Kd.R_elder' (by (with_reducible repeat (first | apply Kd.R_alloc | apply Kd.R_drewN | apply Kd.R_drew)); exact HO176.out) (Kd.R_base ho0) hb); have n1_ := Aside0.mk (Kd.N_elder' (by (with_reducible repeat (first | apply Kd.N_alloc | apply Kd.N_drewN | apply Kd.N_drew)); exact HO184.out) (Kd.R_base ho0) hb); have n2_ := Aside0.mk (Kd.R_below (by (with_reducible repeat (first | apply Kd.R_alloc | apply Kd.R_drewN | apply Kd.R_drew)); exact HO188.out) hb); have n3_ := Aside0.mk (Kd.R_lower (Kd.R_new' ho0 (Kd.R_lt (by (with_reducible repeat (first | apply Kd.R_alloc | apply Kd.R_drewN | apply Kd.R_drew)); exact HO176.out))) (below_size (by repeat (first | (with_reducible first | exact HB.out | apply below_alloc | apply pw_below_drewN | apply below_drew1) | exact HB.out)))); have n4_ := Aside0.mk (below_step (by repeat (first | (with_reducible first | exact HB.out | apply below_alloc | apply pw_below_drewN | apply below_drew1) | exact HB.out)) hb); clear HO176; clear HO184; clear HO188; clear HB; have HO176 := n0_; have HO184 := n1_; have HO188 := n2_; have HO192 := n3_; have HB := n4_; clear n0_ n1_ n2_ n3_ n4_; (try clear hb); (try clear hb2); (try clear hk); (try clear hi); (try clear ho0)) | ((with_reducible refine gate_dst (N := 5) rfl ?_); (try (refine gate_guard (by rfl) ?_; dsimp only)); refine box_event ?hg (N := 5) ?hd (cs := #[.int .i64 0, .slice none 0 0]) (t := 24) ?hr ?_; (case hd => rfl); (case hg => rfl); (case hr => first | (go_simp; done) | (go_simp; rfl)); intro gb195 hg w61 hbox hb; have n0_ := Aside0.mk (Kd.R_below (by (with_reducible repeat (first | apply Kd.R_alloc | apply Kd.R_drewN | apply Kd.R_drew)); exact HO176.out) hb); have n1_ := Aside0.mk (Kd.N_below (Kd.N_elderB (by (with_reducible repeat (first | apply Kd.N_alloc | apply Kd.N_drewN | apply Kd.N_drew)); exact HO184.out) gb195 (Nat.le_of_eq hg.symm)) hb); have n2_ := Aside0.mk (Kd.R_below (by (with_reducible repeat (first | apply Kd.R_alloc | apply Kd.R_drewN | apply Kd.R_drew)); exact HO188.out) hb); have n3_ := Aside0.mk (Kd.R_below (by (with_reducible repeat (first | apply Kd.R_alloc | apply Kd.R_drewN | apply Kd.R_drew)); exact HO192.out) hb); have n4_ := Aside0.mk (below_step (by repeat (first | (with_reducible first | exact HB.out | apply below_alloc | apply pw_below_drewN | apply below_drew1) | exact HB.out)) hb); have n5_ := Aside0.mk (hbox); have n6_ := Aside0.mk ((by rw [hg]; exact (below_size (by repeat (first | (with_reducible first | exact HB.out | apply below_alloc | apply pw_below_drewN | apply below_drew1) | exact HB.out))) : w.heap.size ≤ gb195)); have n7_ := Aside0.mk ((by rw [hg]; exact (below_size (by repeat (first | (with_reducible first | exact HB.out | apply below_alloc | apply pw_below_drewN | apply below_drew1) | exact HB.out))) : w.heap.size ≤ gb195)); clear HO176; clear HO184; clear HO188; clear HO192; clear HB; have HO176 := n0_; have HO184 := n1_; have HO188 := n2_; have HO192 := n3_; have HB := n4_; have BK195 := n5_; have GW195 := n6_; have GE195 := n7_; clear n0_ n1_ n2_ n3_ n4_ n5_ n6_ n7_; clear hb hbox hg; have hcz62_0 : w61.cell? ⟨gb195, 0, none⟩ = some (.int .i64 0) := (blk_cell BK195.out 0).trans rfl; have hcz62_1 : w61.cell? ⟨gb195, 1, none⟩ = some (.slice none 0 0) := (blk_cell BK195.out 1).trans rfl; have hfz62_0 := blk_frozen BK195.out 0; have hfz62_1 := blk_frozen BK195.out 1; obtain ⟨Ao63, co63, eo63⟩ := Kd.R_slice HO192.out; subst eo63) | ((with_reducible refine gate_dst (N := 37) rfl ?_); (try (refine gate_guard (by rfl) ?_; dsimp only)); refine Kd.R_lit k69 _ 69 ?hg (N := 37) ?hd (xs := ([(⟨(⟨#[97, 15, 255, 255, 255, 255, 255, 255, 251]⟩ : ByteArray), (⟨#[0]⟩ : ByteArray)⟩ : S69)] : List (S69))) (inner := [.string (⟨#[97, 15, 255, 255, 255, 255, 255, 255, 251]⟩ : ByteArray), .string (⟨#[0]⟩ : ByteArray)]) (ok := fun _ => True) (okp := fun _ => True) ?hr ?hp (fun _ hk => hk) trivial (Below.refl _ _) (Nat.le_refl _) (by simp) ?_; (case hd => rfl); (case hg => rfl); (case hr => first | (go_simp; done) | (go_simp; rfl)); (case hp => exact (Reps.c2 (show Kd.M k69 _ _ _ (⟨(⟨#[97, 15, 255, 255, 255, 255, 255, 255, 251]⟩ : ByteArray), (⟨#[0]⟩ : ByteArray)⟩ : S69) [.string (⟨#[97, 15, 255, 255, 255, 255, 255, 255, 251]⟩ : ByteArray), .string (⟨#[0]⟩ : ByteArray)] from (k69_mkM _ _ _ (⟨(⟨#[97, 15, 255, 255, 255, 255, 255, 255, 251]⟩ : ByteArray), (⟨#[0]⟩ : ByteArray)⟩ : S69) )) (Reps.none _ _))); intro v197 w64 ho65 hb hg_ hnew_; clear hg_ hnew_; (first | rw [← Ny196.out] at ho65 | (simp only [Int.reduceToNat] at ho65; rw [← Ny196.out] at ho65)); have n0_ := Aside0.mk (Kd.R_below (by (with_reducible repeat (first | apply Kd.R_alloc | apply Kd.R_drewN | apply Kd.R_drew)); exact (Kd.R_mono (Kd.R_far (p := ⟨gb195, 1, none⟩) (Kd.R_far (p := ⟨gb195, 0, none⟩) (Kd.R_types HO176.out BK195.out (by decide)) (fun _ hk => hk.2) (.int .i64 t189)) (fun _ hk => hk.2) (.slice Ao63 t190.length co63)) (fun _ h_ => h_.1))) hb); have n1_ := Aside0.mk (Kd.N_elder' (by (with_reducible repeat (first | apply Kd.N_alloc | apply Kd.N_drewN | apply Kd.N_drew)); exact (Kd.N_mono (Kd.N_far (p := ⟨gb195, 1, none⟩) (Kd.N_far (p := ⟨gb195, 0, none⟩) (Kd.N_mono HO184.out (fun k_ hk => (⟨hk, hk.2⟩ : _ ∧ k_ ≠ gb195))) (fun _ hk => hk.2) (.int .i64 t189)) (fun _ hk => hk.2) (.slice Ao63 t190.length co63)) (fun _ h_ => h_.1))) (Kd.R_base ho65) hb); have n2_ := Aside0.mk (Kd.R_elder' (by (with_reducible repeat (first | apply Kd.R_alloc | apply Kd.R_drewN | apply Kd.R_drew)); exact (Kd.R_mono (Kd.R_far (p := ⟨gb195, 1, none⟩) (Kd.R_far (p := ⟨gb195, 0, none⟩) (Kd.R_types HO188.out BK195.out (by decide)) (fun _ hk => hk.2) (.int .i64 t189)) (fun _ hk => hk.2) (.slice Ao63 t190.length co63)) (fun _ h_ => h_.1))) (Kd.R_base ho65) hb); have n3_ := Aside0.mk (Kd.R_below (by (with_reducible repeat (first | apply Kd.R_alloc | apply Kd.R_drewN | apply Kd.R_drew)); exact (Kd.R_mono (Kd.R_far (p := ⟨gb195, 1, none⟩) (Kd.R_far (p := ⟨gb195, 0, none⟩) (Kd.R_types HO192.out BK195.out (by decide)) (fun _ hk => hk.2) (.int .i64 t189)) (fun _ hk => hk.2) (.slice Ao63 t190.length co63)) (fun _ h_ => h_.1))) hb); have n4_ := Aside0.mk (Kd.R_lower (Kd.R_new' ho65 (Kd.R_lt (by (with_reducible repeat (first | apply Kd.R_alloc | apply Kd.R_drewN | apply Kd.R_drew)); exact (Kd.R_mono (Kd.R_far (p := ⟨gb195, 1, none⟩) (Kd.R_far (p := ⟨gb195, 0, none⟩) (Kd.R_types HO188.out BK195.out (by decide)) (fun _ hk => hk.2) (.int .i64 t189)) (fun _ hk => hk.2) (.slice Ao63 t190.length co63)) (fun _ h_ => h_.1))))) (below_size (by repeat (first | (with_reducible first | exact HB.out | apply below_alloc | apply pw_below_drewN | apply below_drew1 | refine below_set ?_ GE195.out) | exact HB.out)))); have n5_ := Aside0.mk (blk_below (g := gb195) (o := .cells #[.int .i64 t189, .slice Ao63 t190.length co63] 24 (0, 0)) (by (with_reducible repeat (first | refine blk_drewN ?_ _ | refine blk_drew ?_ | refine blk_alloc ?_ _)); refine blk_put (cs := #[.int .i64 t189, .slice none 0 0]) ?_ 1 _ rfl; (with_reducible repeat (first | refine blk_drewN ?_ _ | refine blk_drew ?_ | refine blk_alloc ?_ _)); refine blk_put (cs := #[.int .i64 0, .slice none 0 0]) ?_ 0 _ rfl; (with_reducible repeat (first | refine blk_drewN ?_ _ | refine blk_drew ?_ | refine blk_alloc ?_ _)); exact BK195.out) hb); have n6_ := Aside0.mk (below_step (by repeat (first | (with_reducible first | exact HB.out | apply below_alloc | apply pw_below_drewN | apply below_drew1 | refine below_set ?_ GE195.out) | exact HB.out)) hb); clear HO176; clear HO184; clear HO188; clear HO192; clear BK195; clear HB; have HO176 := n0_; have HO184 := n1_; have HO188 := n2_; have HO192 := n3_; have HO198 := n4_; have BK195 := n5_; have HB := n6_; clear n0_ n1_ n2_ n3_ n4_ n5_ n6_; clear hb ho65; obtain ⟨Ao66, co66, eo66⟩ := Kd.R_slice HO188.out; subst eo66; obtain ⟨Ao67, co67, eo67⟩ := Kd.R_slice HO198.out; subst eo67) | (go_at_call 25; (with_reducible refine (ambryref10_Same.calls k _ _ t185 _ _ y196 true _ ?side1 ?side2 ?side3 ?side4 A6.out).mono ?_); (case side1 => repeat (first | exact (Kd.R_reads' HO188.out).2.2 | (with_reducible refine Kd.C_alloc ?_ _) | (with_reducible refine Kd.C_drewN ?_ _) | (with_reducible refine Kd.C_drew ?_))); (case side2 => exact (Kd.R_reads' HO188.out).2.1); (case side3 => repeat (first | exact (Kd.R_reads' HO198.out).2.2 | (with_reducible refine Kd.C_alloc ?_ _) | (with_reducible refine Kd.C_drewN ?_ _) | (with_reducible refine Kd.C_drew ?_))); (case side4 => exact (Kd.R_reads' HO198.out).2.1); rintro e w' ⟨rfl, ⟨nd, rfl⟩⟩))
            go_ret
            exact ⟨by first | rfl | (simp [errW_none, errW_some] <;> rfl) | (simp [*, errW_none, errW_some] <;> rfl), by repeat (first | (with_reducible first | exact HB.out | apply below_alloc | apply pw_below_drewN | apply below_drew1 | refine below_set ?_ GE195.out) | exact HB.out)⟩
        · rw [if_neg c8] at H
          have c8b0 : (t186 == 0) = false := beq_eq_false_iff_ne.mpr c8
          have c8b1 : (t186 != 0) = true := bne_iff_ne.mpr c8
          obtain rfl := Option.some.inj H
          go_enter Try.func13, Try.ntmps13
          go_wp2_with (first | ((with_reducible refine gate_dst (N := 10) rfl ?_); (try (refine gate_guard (by rfl) ?_; dsimp only)); refine Kd.R_lit k52 _ 52 ?hg (N := 10) ?hd (xs := ([(⟨(⟨#[97]⟩ : ByteArray), (⟨#[120]⟩ : ByteArray), false⟩ : S52)] : List (S52))) (inner := [.string (⟨#[97]⟩ : ByteArray), .string (⟨#[120]⟩ : ByteArray), .bool false]) (ok := fun _ => True) (okp := fun _ => True) ?hr ?hp (fun _ hk => hk) trivial (Below.refl _ _) (Nat.le_refl _) (by simp) ?_; (case hd => rfl); (case hg => rfl); (case hr => first | (go_simp; done) | (go_simp; rfl)); (case hp => exact (Reps.c3 (show Kd.M k52 _ _ _ (⟨(⟨#[97]⟩ : ByteArray), (⟨#[120]⟩ : ByteArray), false⟩ : S52) [.string (⟨#[97]⟩ : ByteArray), .string (⟨#[120]⟩ : ByteArray), .bool false] from (k52_mkM _ _ _ (⟨(⟨#[97]⟩ : ByteArray), (⟨#[120]⟩ : ByteArray), false⟩ : S52) )) (Reps.none _ _))); intro v175 w68 ho69 hb hg_ hnew_; clear hg_ hnew_; (first | rw [← Ny174.out] at ho69 | (simp only [Int.reduceToNat] at ho69; rw [← Ny174.out] at ho69)); have n0_ := Aside0.mk (Kd.R_lower ho69 (below_size (by repeat (first | (with_reducible first | exact HB.out | apply below_alloc | apply pw_below_drewN | apply below_drew1) | exact HB.out)))); have n1_ := Aside0.mk (below_step (by repeat (first | (with_reducible first | exact HB.out | apply below_alloc | apply pw_below_drewN | apply below_drew1) | exact HB.out)) hb); clear HB; have HO176 := n0_; have HB := n1_; clear n0_ n1_; clear hb ho69; obtain ⟨Ao70, co70, eo70⟩ := Kd.R_slice HO176.out; subst eo70) | ((with_reducible refine gate_callee (f := 14) rfl ?_); refine goesL_ (some 12) rfl rfl Try.func14 (by kernel_rfl) rfl #[.agg #[.int .i64 5, .slice Ao70 y174.length co70]] rfl (by (try simp only [List.map_toArray, List.map_cons, List.map_nil]); first | done | rfl | (simp only [List.length_drop, List.length_take]; rfl)) ?_; (with_reducible refine (batch_Bytes.calls k 5 _ _ y174 t177 t178 _ ?side1 ?side2 A1.out).mono ?_); (case side1 => repeat (first | exact (Kd.R_reads' HO176.out).2.2 | (with_reducible refine Kd.C_alloc ?_ _) | (with_reducible refine Kd.C_drewN ?_ _) | (with_reducible refine Kd.C_drew ?_))); (case side2 => exact (Kd.R_reads' HO176.out).2.1); rintro e w71 ⟨rfl, hb⟩; refine ⟨_, rfl, ?_⟩; have n0_ := Aside0.mk (Kd.R_below (by (with_reducible repeat (first | apply Kd.R_alloc | apply Kd.R_drewN | apply Kd.R_drew)); exact HO176.out) hb); have n1_ := Aside0.mk (below_step (by repeat (first | (with_reducible first | exact HB.out | apply below_alloc | apply pw_below_drewN | apply below_drew1) | exact HB.out)) hb); clear HO176; clear HB; have HO176 := n0_; have HB := n1_; clear n0_ n1_; (try clear hb); (try clear hb2); (try clear hk); (try clear hi)) | ((with_reducible refine gate_dst (N := 17) rfl ?_); (try (refine gate_guard (by rfl) ?_; dsimp only)); refine Kd.R_lit k80 _ 80 ?hg (N := 17) ?hd (xs := ([(⟨5, (⟨#[]⟩ : ByteArray), true⟩ : S80)] : List (S80))) (inner := [.int .i64 5, .string (⟨#[]⟩ : ByteArray), .bool true]) (ok := fun _ => True) (okp := fun _ => True) ?hr ?hp (fun _ hk => hk) trivial (Below.refl _ _) (Nat.le_refl _) (by simp) ?_; (case hd => rfl); (case hg => rfl); (case hr => first | (go_simp; done) | (go_simp; rfl)); (case hp => exact (Reps.c3 (show Kd.M k80 _ _ _ (⟨5, (⟨#[]⟩ : ByteArray), true⟩ : S80) [.int .i64 5, .string (⟨#[]⟩ : ByteArray), .bool true] from (k80_mkM _ _ _ (⟨5, (⟨#[]⟩ : ByteArray), true⟩ : S80) )) (Reps.none _ _))); intro v180 w72 ho73 hb hg_ hnew_; clear hg_ hnew_; (first | rw [← Ny179.out] at ho73 | (simp only [Int.reduceToNat] at ho73; rw [← Ny179.out] at ho73)); have n0_ := Aside0.mk (Kd.R_below (by (with_reducible repeat (first | apply Kd.R_alloc | apply Kd.R_drewN | apply Kd.R_drew)); exact HO176.out) hb); have n1_ := Aside0.mk (Kd.R_lower ho73 (below_size (by repeat (first | (with_reducible first | exact HB.out | apply below_alloc | apply pw_below_drewN | apply below_drew1) | exact HB.out)))); have n2_ := Aside0.mk (below_step (by repeat (first | (with_reducible first | exact HB.out | apply below_alloc | apply pw_below_drewN | apply below_drew1) | exact HB.out)) hb); clear HO176; clear HB; have HO176 := n0_; have HO181 := n1_; have HB := n2_; clear n0_ n1_ n2_; clear hb ho73; obtain ⟨Ao74, co74, eo74⟩ := Kd.R_slice HO181.out; subst eo74) | ((with_reducible refine gate_dst (N := 19) rfl ?_); (try (refine gate_guard (by rfl) ?_; dsimp only)); refine Kd.N_lit k67 _ 67 ?hg (N' := 19) ?hd (xs := ([(⟨(⟨#[97]⟩ : ByteArray), y179⟩ : S67)] : List (S67))) (inner := [.string (⟨#[97]⟩ : ByteArray), .slice Ao74 y179.length co74]) (ok := (fun k_ => some k_ ≠ (.slice Ao70 y174.length co70 : Value).ownBlock)) (okp := (fun k_ => some k_ ≠ (.slice Ao70 y174.length co70 : Value).ownBlock)) ?hr ?hp (fun _ hk => hk) ((show ∀ k_, w72.heap.size ≤ k_ → (fun k_ => some k_ ≠ (.slice Ao70 y174.length co70 : Value).ownBlock) k_ from fun k_ hk => Kd.fresh' (Kd.R_lt (by (with_reducible repeat (first | apply Kd.R_alloc | apply Kd.R_drewN | apply Kd.R_drew)); exact HO176.out)) k_ hk) _ (Nat.le_refl _)) (Below.refl _ _) (Nat.le_refl _) (by simp) ?_; (case hd => rfl); (case hg => rfl); (case hr => first | (go_simp; done) | (go_simp; rfl)); (case hp => exact (Reps.c2 (show Kd.FK k67 _ _ (⟨(⟨#[97]⟩ : ByteArray), y179⟩ : S67) [.string (⟨#[97]⟩ : ByteArray), .slice Ao74 y179.length co74] from (k67_mkF _ _ (⟨(⟨#[97]⟩ : ByteArray), y179⟩ : S67) (Kd.R_reads' (Kd.R_mono (ok' := (fun k_ => some k_ ≠ (.slice Ao70 y174.length co70 : Value).ownBlock)) (Kd.R_apart' (HO181.out) (Kd.R_typed HO176.out) (by decide)) (fun k_ hk => hk.2))).2.1 (Kd.R_F (Kd.R_mono (ok' := (fun k_ => some k_ ≠ (.slice Ao70 y174.length co70 : Value).ownBlock)) (Kd.R_apart' (HO181.out) (Kd.R_typed HO176.out) (by decide)) (fun k_ hk => hk.2))))) (Reps.none _ _))); intro v183 w75 ho76 hb hg_ hnew_; clear hg_ hnew_; (first | rw [← Ny182.out] at ho76 | (simp only [Int.reduceToNat] at ho76; rw [← Ny182.out] at ho76)); have n0_ := Aside0.mk (Kd.R_below (by (with_reducible repeat (first | apply Kd.R_alloc | apply Kd.R_drewN | apply Kd.R_drew)); exact HO176.out) hb); have n1_ := Aside0.mk (Kd.N_lower ho76 (below_size (by repeat (first | (with_reducible first | exact HB.out | apply below_alloc | apply pw_below_drewN | apply below_drew1) | exact HB.out)))); have n2_ := Aside0.mk (below_step (by repeat (first | (with_reducible first | exact HB.out | apply below_alloc | apply pw_below_drewN | apply below_drew1) | exact HB.out)) hb); clear HO176; clear HB; clear HO181; have HO176 := n0_; have HO184 := n1_; have HB := n2_; clear n0_ n1_ n2_; clear hb ho76; obtain ⟨Ao77, co77, eo77⟩ := Kd.N_slice HO184.out; subst eo77) | ((with_reducible refine gate_callee (f := 28) rfl ?_); refine goesL_ (some 20) rfl rfl Try.func28 (by kernel_rfl) rfl #[.slice Ao77 y182.length co77] rfl (by (try simp only [List.map_toArray, List.map_cons, List.map_nil]); first | done | rfl | (simp only [List.length_drop, List.length_take]; rfl)) ?_; (with_reducible refine (batch_Pairs.calls k _ _ y182 t185 t186 _ ?side1 ?side2 A2.out).mono ?_); (case side1 => repeat (first | exact (Kd.N_reads' HO184.out).2.2 | (with_reducible refine Kd.C_alloc ?_ _) | (with_reducible refine Kd.C_drewN ?_ _) | (with_reducible refine Kd.C_drew ?_))); (case side2 => exact (Kd.N_reads' HO184.out).2.1); rintro e w78 ⟨v187, rfl, ho0, hb⟩; refine ⟨_, rfl, ?_⟩; have n0_ := Aside0.mk (Kd.R_below (by (with_reducible repeat (first | apply Kd.R_alloc | apply Kd.R_drewN | apply Kd.R_drew)); exact HO176.out) hb); have n1_ := Aside0.mk (Kd.N_elder' (by (with_reducible repeat (first | apply Kd.N_alloc | apply Kd.N_drewN | apply Kd.N_drew)); exact HO184.out) (Kd.R_base ho0) hb); have n2_ := Aside0.mk (Kd.R_lower ho0 (below_size (by repeat (first | (with_reducible first | exact HB.out | apply below_alloc | apply pw_below_drewN | apply below_drew1) | exact HB.out)))); have n3_ := Aside0.mk (below_step (by repeat (first | (with_reducible first | exact HB.out | apply below_alloc | apply pw_below_drewN | apply below_drew1) | exact HB.out)) hb); clear HO176; clear HO184; clear HB; have HO176 := n0_; have HO184 := n1_; have HO188 := n2_; have HB := n3_; clear n0_ n1_ n2_ n3_; (try clear hb); (try clear hb2); (try clear hk); (try clear hi); (try clear ho0)) | ((with_reducible refine gate_callee (f := 10) rfl ?_); refine goesL_ (some 24) rfl rfl Try.func10 (by kernel_rfl) rfl #[.string (⟨#[77, 0, 0, 0, 0, 0, 0, 0, 9]⟩ : ByteArray)] rfl (by (try simp only [List.map_toArray, List.map_cons, List.map_nil]); first | done | rfl | (simp only [List.length_drop, List.length_take]; rfl)) ?_; (with_reducible refine (batch_Read.calls k (⟨#[77, 0, 0, 0, 0, 0, 0, 0, 9]⟩ : ByteArray) t189 t190 t193 t194 _ A3.out).mono ?_); rintro e w79 ⟨v191, rfl, ho0, hb⟩; refine ⟨_, rfl, ?_⟩; have n0_ := Aside0.mk (Kd.R_elder' (by (with_reducible repeat (first | apply Kd.R_alloc | apply Kd.R_drewN | apply Kd.R_drew)); exact HO176.out) (Kd.R_base ho0) hb); have n1_ := Aside0.mk (Kd.N_elder' (by (with_reducible repeat (first | apply Kd.N_alloc | apply Kd.N_drewN | apply Kd.N_drew)); exact HO184.out) (Kd.R_base ho0) hb); have n2_ := Aside0.mk (Kd.R_below (by (with_reducible repeat (first | apply Kd.R_alloc | apply Kd.R_drewN | apply Kd.R_drew)); exact HO188.out) hb); have n3_ := Aside0.mk (Kd.R_lower (Kd.R_new' ho0 (Kd.R_lt (by (with_reducible repeat (first | apply Kd.R_alloc | apply Kd.R_drewN | apply Kd.R_drew)); exact HO176.out))) (below_size (by repeat (first | (with_reducible first | exact HB.out | apply below_alloc | apply pw_below_drewN | apply below_drew1) | exact HB.out)))); have n4_ := Aside0.mk (below_step (by repeat (first | (with_reducible first | exact HB.out | apply below_alloc | apply pw_below_drewN | apply below_drew1) | exact HB.out)) hb); clear HO176; clear HO184; clear HO188; clear HB; have HO176 := n0_; have HO184 := n1_; have HO188 := n2_; have HO192 := n3_; have HB := n4_; clear n0_ n1_ n2_ n3_ n4_; (try clear hb); (try clear hb2); (try clear hk); (try clear hi); (try clear ho0)) | ((with_reducible refine gate_dst (N := 5) rfl ?_); (try (refine gate_guard (by rfl) ?_; dsimp only)); refine box_event ?hg (N := 5) ?hd (cs := #[.int .i64 0, .slice none 0 0]) (t := 24) ?hr ?_; (case hd => rfl); (case hg => rfl); (case hr => first | (go_simp; done) | (go_simp; rfl)); intro gb195 hg w80 hbox hb; have n0_ := Aside0.mk (Kd.R_below (by (with_reducible repeat (first | apply Kd.R_alloc | apply Kd.R_drewN | apply Kd.R_drew)); exact HO176.out) hb); have n1_ := Aside0.mk (Kd.N_below (Kd.N_elderB (by (with_reducible repeat (first | apply Kd.N_alloc | apply Kd.N_drewN | apply Kd.N_drew)); exact HO184.out) gb195 (Nat.le_of_eq hg.symm)) hb); have n2_ := Aside0.mk (Kd.R_below (by (with_reducible repeat (first | apply Kd.R_alloc | apply Kd.R_drewN | apply Kd.R_drew)); exact HO188.out) hb); have n3_ := Aside0.mk (Kd.R_below (by (with_reducible repeat (first | apply Kd.R_alloc | apply Kd.R_drewN | apply Kd.R_drew)); exact HO192.out) hb); have n4_ := Aside0.mk (below_step (by repeat (first | (with_reducible first | exact HB.out | apply below_alloc | apply pw_below_drewN | apply below_drew1) | exact HB.out)) hb); have n5_ := Aside0.mk (hbox); have n6_ := Aside0.mk ((by rw [hg]; exact (below_size (by repeat (first | (with_reducible first | exact HB.out | apply below_alloc | apply pw_below_drewN | apply below_drew1) | exact HB.out))) : w.heap.size ≤ gb195)); have n7_ := Aside0.mk ((by rw [hg]; exact (below_size (by repeat (first | (with_reducible first | exact HB.out | apply below_alloc | apply pw_below_drewN | apply below_drew1) | exact HB.out))) : w.heap.size ≤ gb195)); clear HO176; clear HO184; clear HO188; clear HO192; clear HB; have HO176 := n0_; have HO184 := n1_; have HO188 := n2_; have HO192 := n3_; have HB := n4_; have BK195 := n5_; have GW195 := n6_; have GE195 := n7_; clear n0_ n1_ n2_ n3_ n4_ n5_ n6_ n7_; clear hb hbox hg; have hcz81_0 : w80.cell? ⟨gb195, 0, none⟩ = some (.int .i64 0) := (blk_cell BK195.out 0).trans rfl; have hcz81_1 : w80.cell? ⟨gb195, 1, none⟩ = some (.slice none 0 0) := (blk_cell BK195.out 1).trans rfl; have hfz81_0 := blk_frozen BK195.out 0; have hfz81_1 := blk_frozen BK195.out 1; obtain ⟨Ao82, co82, eo82⟩ := Kd.R_slice HO192.out; subst eo82) | ((with_reducible refine gate_dst (N := 37) rfl ?_); (try (refine gate_guard (by rfl) ?_; dsimp only)); refine Kd.R_lit k69 _ 69 ?hg (N := 37) ?hd (xs := ([(⟨(⟨#[97, 15, 255, 255, 255, 255, 255, 255, 251]⟩ : ByteArray), (⟨#[0]⟩ : ByteArray)⟩ : S69)] : List (S69))) (inner := [.string (⟨#[97, 15, 255, 255, 255, 255, 255, 255, 251]⟩ : ByteArray), .string (⟨#[0]⟩ : ByteArray)]) (ok := fun _ => True) (okp := fun _ => True) ?hr ?hp (fun _ hk => hk) trivial (Below.refl _ _) (Nat.le_refl _) (by simp) ?_; (case hd => rfl); (case hg => rfl); (case hr => first | (go_simp; done) | (go_simp; rfl)); (case hp => exact (Reps.c2 (show Kd.M k69 _ _ _ (⟨(⟨#[97, 15, 255, 255, 255, 255, 255, 255, 251]⟩ : ByteArray), (⟨#[0]⟩ : ByteArray)⟩ : S69) [.string (⟨#[97, 15, 255, 255, 255, 255, 255, 255, 251]⟩ : ByteArray), .string (⟨#[0]⟩ : ByteArray)] from (k69_mkM _ _ _ (⟨(⟨#[97, 15, 255, 255, 255, 255, 255, 255, 251]⟩ : ByteArray), (⟨#[0]⟩ : ByteArray)⟩ : S69) )) (Reps.none _ _))); intro v197 w83 ho84 hb hg_ hnew_; clear hg_ hnew_; (first | rw [← Ny196.out] at ho84 | (simp only [Int.reduceToNat] at ho84; rw [← Ny196.out] at ho84)); have n0_ := Aside0.mk (Kd.R_below (by (with_reducible repeat (first | apply Kd.R_alloc | apply Kd.R_drewN | apply Kd.R_drew)); exact (Kd.R_mono (Kd.R_far (p := ⟨gb195, 1, none⟩) (Kd.R_far (p := ⟨gb195, 0, none⟩) (Kd.R_types HO176.out BK195.out (by decide)) (fun _ hk => hk.2) (.int .i64 t189)) (fun _ hk => hk.2) (.slice Ao82 t190.length co82)) (fun _ h_ => h_.1))) hb); have n1_ := Aside0.mk (Kd.N_elder' (by (with_reducible repeat (first | apply Kd.N_alloc | apply Kd.N_drewN | apply Kd.N_drew)); exact (Kd.N_mono (Kd.N_far (p := ⟨gb195, 1, none⟩) (Kd.N_far (p := ⟨gb195, 0, none⟩) (Kd.N_mono HO184.out (fun k_ hk => (⟨hk, hk.2⟩ : _ ∧ k_ ≠ gb195))) (fun _ hk => hk.2) (.int .i64 t189)) (fun _ hk => hk.2) (.slice Ao82 t190.length co82)) (fun _ h_ => h_.1))) (Kd.R_base ho84) hb); have n2_ := Aside0.mk (Kd.R_elder' (by (with_reducible repeat (first | apply Kd.R_alloc | apply Kd.R_drewN | apply Kd.R_drew)); exact (Kd.R_mono (Kd.R_far (p := ⟨gb195, 1, none⟩) (Kd.R_far (p := ⟨gb195, 0, none⟩) (Kd.R_types HO188.out BK195.out (by decide)) (fun _ hk => hk.2) (.int .i64 t189)) (fun _ hk => hk.2) (.slice Ao82 t190.length co82)) (fun _ h_ => h_.1))) (Kd.R_base ho84) hb); have n3_ := Aside0.mk (Kd.R_below (by (with_reducible repeat (first | apply Kd.R_alloc | apply Kd.R_drewN | apply Kd.R_drew)); exact (Kd.R_mono (Kd.R_far (p := ⟨gb195, 1, none⟩) (Kd.R_far (p := ⟨gb195, 0, none⟩) (Kd.R_types HO192.out BK195.out (by decide)) (fun _ hk => hk.2) (.int .i64 t189)) (fun _ hk => hk.2) (.slice Ao82 t190.length co82)) (fun _ h_ => h_.1))) hb); have n4_ := Aside0.mk (Kd.R_lower (Kd.R_new' ho84 (Kd.R_lt (by (with_reducible repeat (first | apply Kd.R_alloc | apply Kd.R_drewN | apply Kd.R_drew)); exact (Kd.R_mono (Kd.R_far (p := ⟨gb195, 1, none⟩) (Kd.R_far (p := ⟨gb195, 0, none⟩) (Kd.R_types HO188.out BK195.out (by decide)) (fun _ hk => hk.2) (.int .i64 t189)) (fun _ hk => hk.2) (.slice Ao82 t190.length co82)) (fun _ h_ => h_.1))))) (below_size (by repeat (first | (with_reducible first | exact HB.out | apply below_alloc | apply pw_below_drewN | apply below_drew1 | refine below_set ?_ GE195.out) | exact HB.out)))); have n5_ := Aside0.mk (blk_below (g := gb195) (o := .cells #[.int .i64 t189, .slice Ao82 t190.length co82] 24 (0, 0)) (by (with_reducible repeat (first | refine blk_drewN ?_ _ | refine blk_drew ?_ | refine blk_alloc ?_ _)); refine blk_put (cs := #[.int .i64 t189, .slice none 0 0]) ?_ 1 _ rfl; (with_reducible repeat (first | refine blk_drewN ?_ _ | refine blk_drew ?_ | refine blk_alloc ?_ _)); refine blk_put (cs := #[.int .i64 0, .slice none 0 0]) ?_ 0 _ rfl; (with_reducible repeat (first | refine blk_drewN ?_ _ | refine blk_drew ?_ | refine blk_alloc ?_ _)); exact BK195.out) hb); have n6_ := Aside0.mk (below_step (by repeat (first | (with_reducible first | exact HB.out | apply below_alloc | apply pw_below_drewN | apply below_drew1 | refine below_set ?_ GE195.out) | exact HB.out)) hb); clear HO176; clear HO184; clear HO188; clear HO192; clear BK195; clear HB; have HO176 := n0_; have HO184 := n1_; have HO188 := n2_; have HO192 := n3_; have HO198 := n4_; have BK195 := n5_; have HB := n6_; clear n0_ n1_ n2_ n3_ n4_ n5_ n6_; clear hb ho84; obtain ⟨Ao85, co85, eo85⟩ := Kd.R_slice HO188.out; subst eo85; obtain ⟨Ao86, co86, eo86⟩ := Kd.R_slice HO198.out; subst eo86) | (go_at_call 25; (with_reducible refine (ambryref10_Same.calls k _ _ t185 _ _ y196 true _ ?side1 ?side2 ?side3 ?side4 A6.out).mono ?_); (case side1 => repeat (first | exact (Kd.R_reads' HO188.out).2.2 | (with_reducible refine Kd.C_alloc ?_ _) | (with_reducible refine Kd.C_drewN ?_ _) | (with_reducible refine Kd.C_drew ?_))); (case side2 => exact (Kd.R_reads' HO188.out).2.1); (case side3 => repeat (first | exact (Kd.R_reads' HO198.out).2.2 | (with_reducible refine Kd.C_alloc ?_ _) | (with_reducible refine Kd.C_drewN ?_ _) | (with_reducible refine Kd.C_drew ?_))); (case side4 => exact (Kd.R_reads' HO198.out).2.1); rintro e w' ⟨rfl, ⟨nd, rfl⟩⟩))
          go_ret
          exact ⟨by first | rfl | (simp [errW_none, errW_some] <;> rfl) | (simp [*, errW_none, errW_some] <;> rfl), by repeat (first | (with_reducible first | exact HB.out | apply below_alloc | apply pw_below_drewN | apply below_drew1 | refine below_set ?_ GE195.out) | exact HB.out)⟩
      · replace c7 := Bool.eq_false_iff.mpr c7
        subst c7
        have H1 : (some false) = some r := by rw [if_neg (show ¬ (false = true) by decide)] at H; exact H
        clear H
        have H := H1
        clear H1
        obtain rfl := Option.some.inj H
        go_enter Try.func13, Try.ntmps13
        go_wp2_with (first | ((with_reducible refine gate_dst (N := 10) rfl ?_); (try (refine gate_guard (by rfl) ?_; dsimp only)); refine Kd.R_lit k52 _ 52 ?hg (N := 10) ?hd (xs := ([(⟨(⟨#[97]⟩ : ByteArray), (⟨#[120]⟩ : ByteArray), false⟩ : S52)] : List (S52))) (inner := [.string (⟨#[97]⟩ : ByteArray), .string (⟨#[120]⟩ : ByteArray), .bool false]) (ok := fun _ => True) (okp := fun _ => True) ?hr ?hp (fun _ hk => hk) trivial (Below.refl _ _) (Nat.le_refl _) (by simp) ?_; (case hd => rfl); (case hg => rfl); (case hr => first | (go_simp; done) | (go_simp; rfl)); (case hp => exact (Reps.c3 (show Kd.M k52 _ _ _ (⟨(⟨#[97]⟩ : ByteArray), (⟨#[120]⟩ : ByteArray), false⟩ : S52) [.string (⟨#[97]⟩ : ByteArray), .string (⟨#[120]⟩ : ByteArray), .bool false] from (k52_mkM _ _ _ (⟨(⟨#[97]⟩ : ByteArray), (⟨#[120]⟩ : ByteArray), false⟩ : S52) )) (Reps.none _ _))); intro v175 w87 ho88 hb hg_ hnew_; clear hg_ hnew_; (first | rw [← Ny174.out] at ho88 | (simp only [Int.reduceToNat] at ho88; rw [← Ny174.out] at ho88)); have n0_ := Aside0.mk (Kd.R_lower ho88 (below_size (by repeat (first | (with_reducible first | exact HB.out | apply below_alloc | apply pw_below_drewN | apply below_drew1) | exact HB.out)))); have n1_ := Aside0.mk (below_step (by repeat (first | (with_reducible first | exact HB.out | apply below_alloc | apply pw_below_drewN | apply below_drew1) | exact HB.out)) hb); clear HB; have HO176 := n0_; have HB := n1_; clear n0_ n1_; clear hb ho88; obtain ⟨Ao89, co89, eo89⟩ := Kd.R_slice HO176.out; subst eo89) | ((with_reducible refine gate_callee (f := 14) rfl ?_); refine goesL_ (some 12) rfl rfl Try.func14 (by kernel_rfl) rfl #[.agg #[.int .i64 5, .slice Ao89 y174.length co89]] rfl (by (try simp only [List.map_toArray, List.map_cons, List.map_nil]); first | done | rfl | (simp only [List.length_drop, List.length_take]; rfl)) ?_; (with_reducible refine (batch_Bytes.calls k 5 _ _ y174 t177 t178 _ ?side1 ?side2 A1.out).mono ?_); (case side1 => repeat (first | exact (Kd.R_reads' HO176.out).2.2 | (with_reducible refine Kd.C_alloc ?_ _) | (with_reducible refine Kd.C_drewN ?_ _) | (with_reducible refine Kd.C_drew ?_))); (case side2 => exact (Kd.R_reads' HO176.out).2.1); rintro e w90 ⟨rfl, hb⟩; refine ⟨_, rfl, ?_⟩; have n0_ := Aside0.mk (Kd.R_below (by (with_reducible repeat (first | apply Kd.R_alloc | apply Kd.R_drewN | apply Kd.R_drew)); exact HO176.out) hb); have n1_ := Aside0.mk (below_step (by repeat (first | (with_reducible first | exact HB.out | apply below_alloc | apply pw_below_drewN | apply below_drew1) | exact HB.out)) hb); clear HO176; clear HB; have HO176 := n0_; have HB := n1_; clear n0_ n1_; (try clear hb); (try clear hb2); (try clear hk); (try clear hi)) | ((with_reducible refine gate_dst (N := 17) rfl ?_); (try (refine gate_guard (by rfl) ?_; dsimp only)); refine Kd.R_lit k80 _ 80 ?hg (N := 17) ?hd (xs := ([(⟨5, (⟨#[]⟩ : ByteArray), true⟩ : S80)] : List (S80))) (inner := [.int .i64 5, .string (⟨#[]⟩ : ByteArray), .bool true]) (ok := fun _ => True) (okp := fun _ => True) ?hr ?hp (fun _ hk => hk) trivial (Below.refl _ _) (Nat.le_refl _) (by simp) ?_; (case hd => rfl); (case hg => rfl); (case hr => first | (go_simp; done) | (go_simp; rfl)); (case hp => exact (Reps.c3 (show Kd.M k80 _ _ _ (⟨5, (⟨#[]⟩ : ByteArray), true⟩ : S80) [.int .i64 5, .string (⟨#[]⟩ : ByteArray), .bool true] from (k80_mkM _ _ _ (⟨5, (⟨#[]⟩ : ByteArray), true⟩ : S80) )) (Reps.none _ _))); intro v180 w91 ho92 hb hg_ hnew_; clear hg_ hnew_; (first | rw [← Ny179.out] at ho92 | (simp only [Int.reduceToNat] at ho92; rw [← Ny179.out] at ho92)); have n0_ := Aside0.mk (Kd.R_below (by (with_reducible repeat (first | apply Kd.R_alloc | apply Kd.R_drewN | apply Kd.R_drew)); exact HO176.out) hb); have n1_ := Aside0.mk (Kd.R_lower ho92 (below_size (by repeat (first | (with_reducible first | exact HB.out | apply below_alloc | apply pw_below_drewN | apply below_drew1) | exact HB.out)))); have n2_ := Aside0.mk (below_step (by repeat (first | (with_reducible first | exact HB.out | apply below_alloc | apply pw_below_drewN | apply below_drew1) | exact HB.out)) hb); clear HO176; clear HB; have HO176 := n0_; have HO181 := n1_; have HB := n2_; clear n0_ n1_ n2_; clear hb ho92; obtain ⟨Ao93, co93, eo93⟩ := Kd.R_slice HO181.out; subst eo93) | ((with_reducible refine gate_dst (N := 19) rfl ?_); (try (refine gate_guard (by rfl) ?_; dsimp only)); refine Kd.N_lit k67 _ 67 ?hg (N' := 19) ?hd (xs := ([(⟨(⟨#[97]⟩ : ByteArray), y179⟩ : S67)] : List (S67))) (inner := [.string (⟨#[97]⟩ : ByteArray), .slice Ao93 y179.length co93]) (ok := (fun k_ => some k_ ≠ (.slice Ao89 y174.length co89 : Value).ownBlock)) (okp := (fun k_ => some k_ ≠ (.slice Ao89 y174.length co89 : Value).ownBlock)) ?hr ?hp (fun _ hk => hk) ((show ∀ k_, w91.heap.size ≤ k_ → (fun k_ => some k_ ≠ (.slice Ao89 y174.length co89 : Value).ownBlock) k_ from fun k_ hk => Kd.fresh' (Kd.R_lt (by (with_reducible repeat (first | apply Kd.R_alloc | apply Kd.R_drewN | apply Kd.R_drew)); exact HO176.out)) k_ hk) _ (Nat.le_refl _)) (Below.refl _ _) (Nat.le_refl _) (by simp) ?_; (case hd => rfl); (case hg => rfl); (case hr => first | (go_simp; done) | (go_simp; rfl)); (case hp => exact (Reps.c2 (show Kd.FK k67 _ _ (⟨(⟨#[97]⟩ : ByteArray), y179⟩ : S67) [.string (⟨#[97]⟩ : ByteArray), .slice Ao93 y179.length co93] from (k67_mkF _ _ (⟨(⟨#[97]⟩ : ByteArray), y179⟩ : S67) (Kd.R_reads' (Kd.R_mono (ok' := (fun k_ => some k_ ≠ (.slice Ao89 y174.length co89 : Value).ownBlock)) (Kd.R_apart' (HO181.out) (Kd.R_typed HO176.out) (by decide)) (fun k_ hk => hk.2))).2.1 (Kd.R_F (Kd.R_mono (ok' := (fun k_ => some k_ ≠ (.slice Ao89 y174.length co89 : Value).ownBlock)) (Kd.R_apart' (HO181.out) (Kd.R_typed HO176.out) (by decide)) (fun k_ hk => hk.2))))) (Reps.none _ _))); intro v183 w94 ho95 hb hg_ hnew_; clear hg_ hnew_; (first | rw [← Ny182.out] at ho95 | (simp only [Int.reduceToNat] at ho95; rw [← Ny182.out] at ho95)); have n0_ := Aside0.mk (Kd.R_below (by (with_reducible repeat (first | apply Kd.R_alloc | apply Kd.R_drewN | apply Kd.R_drew)); exact HO176.out) hb); have n1_ := Aside0.mk (Kd.N_lower ho95 (below_size (by repeat (first | (with_reducible first | exact HB.out | apply below_alloc | apply pw_below_drewN | apply below_drew1) | exact HB.out)))); have n2_ := Aside0.mk (below_step (by repeat (first | (with_reducible first | exact HB.out | apply below_alloc | apply pw_below_drewN | apply below_drew1) | exact HB.out)) hb); clear HO176; clear HB; clear HO181; have HO176 := n0_; have HO184 := n1_; have HB := n2_; clear n0_ n1_ n2_; clear hb ho95; obtain ⟨Ao96, co96, eo96⟩ := Kd.N_slice HO184.out; subst eo96) | ((with_reducible refine gate_callee (f := 28) rfl ?_); refine goesL_ (some 20) rfl rfl Try.func28 (by kernel_rfl) rfl #[.slice Ao96 y182.length co96] rfl (by (try simp only [List.map_toArray, List.map_cons, List.map_nil]); first | done | rfl | (simp only [List.length_drop, List.length_take]; rfl)) ?_; (with_reducible refine (batch_Pairs.calls k _ _ y182 t185 t186 _ ?side1 ?side2 A2.out).mono ?_); (case side1 => repeat (first | exact (Kd.N_reads' HO184.out).2.2 | (with_reducible refine Kd.C_alloc ?_ _) | (with_reducible refine Kd.C_drewN ?_ _) | (with_reducible refine Kd.C_drew ?_))); (case side2 => exact (Kd.N_reads' HO184.out).2.1); rintro e w97 ⟨v187, rfl, ho0, hb⟩; refine ⟨_, rfl, ?_⟩; have n0_ := Aside0.mk (Kd.R_below (by (with_reducible repeat (first | apply Kd.R_alloc | apply Kd.R_drewN | apply Kd.R_drew)); exact HO176.out) hb); have n1_ := Aside0.mk (Kd.N_elder' (by (with_reducible repeat (first | apply Kd.N_alloc | apply Kd.N_drewN | apply Kd.N_drew)); exact HO184.out) (Kd.R_base ho0) hb); have n2_ := Aside0.mk (Kd.R_lower ho0 (below_size (by repeat (first | (with_reducible first | exact HB.out | apply below_alloc | apply pw_below_drewN | apply below_drew1) | exact HB.out)))); have n3_ := Aside0.mk (below_step (by repeat (first | (with_reducible first | exact HB.out | apply below_alloc | apply pw_below_drewN | apply below_drew1) | exact HB.out)) hb); clear HO176; clear HO184; clear HB; have HO176 := n0_; have HO184 := n1_; have HO188 := n2_; have HB := n3_; clear n0_ n1_ n2_ n3_; (try clear hb); (try clear hb2); (try clear hk); (try clear hi); (try clear ho0)) | ((with_reducible refine gate_callee (f := 10) rfl ?_); refine goesL_ (some 24) rfl rfl Try.func10 (by kernel_rfl) rfl #[.string (⟨#[77, 0, 0, 0, 0, 0, 0, 0, 9]⟩ : ByteArray)] rfl (by (try simp only [List.map_toArray, List.map_cons, List.map_nil]); first | done | rfl | (simp only [List.length_drop, List.length_take]; rfl)) ?_; (with_reducible refine (batch_Read.calls k (⟨#[77, 0, 0, 0, 0, 0, 0, 0, 9]⟩ : ByteArray) t189 t190 t193 t194 _ A3.out).mono ?_); rintro e w98 ⟨v191, rfl, ho0, hb⟩; refine ⟨_, rfl, ?_⟩; have n0_ := Aside0.mk (Kd.R_elder' (by (with_reducible repeat (first | apply Kd.R_alloc | apply Kd.R_drewN | apply Kd.R_drew)); exact HO176.out) (Kd.R_base ho0) hb); have n1_ := Aside0.mk (Kd.N_elder' (by (with_reducible repeat (first | apply Kd.N_alloc | apply Kd.N_drewN | apply Kd.N_drew)); exact HO184.out) (Kd.R_base ho0) hb); have n2_ := Aside0.mk (Kd.R_below (by (with_reducible repeat (first | apply Kd.R_alloc | apply Kd.R_drewN | apply Kd.R_drew)); exact HO188.out) hb); have n3_ := Aside0.mk (Kd.R_lower (Kd.R_new' ho0 (Kd.R_lt (by (with_reducible repeat (first | apply Kd.R_alloc | apply Kd.R_drewN | apply Kd.R_drew)); exact HO176.out))) (below_size (by repeat (first | (with_reducible first | exact HB.out | apply below_alloc | apply pw_below_drewN | apply below_drew1) | exact HB.out)))); have n4_ := Aside0.mk (below_step (by repeat (first | (with_reducible first | exact HB.out | apply below_alloc | apply pw_below_drewN | apply below_drew1) | exact HB.out)) hb); clear HO176; clear HO184; clear HO188; clear HB; have HO176 := n0_; have HO184 := n1_; have HO188 := n2_; have HO192 := n3_; have HB := n4_; clear n0_ n1_ n2_ n3_ n4_; (try clear hb); (try clear hb2); (try clear hk); (try clear hi); (try clear ho0)) | ((with_reducible refine gate_dst (N := 5) rfl ?_); (try (refine gate_guard (by rfl) ?_; dsimp only)); refine box_event ?hg (N := 5) ?hd (cs := #[.int .i64 0, .slice none 0 0]) (t := 24) ?hr ?_; (case hd => rfl); (case hg => rfl); (case hr => first | (go_simp; done) | (go_simp; rfl)); intro gb195 hg w99 hbox hb; have n0_ := Aside0.mk (Kd.R_below (by (with_reducible repeat (first | apply Kd.R_alloc | apply Kd.R_drewN | apply Kd.R_drew)); exact HO176.out) hb); have n1_ := Aside0.mk (Kd.N_below (Kd.N_elderB (by (with_reducible repeat (first | apply Kd.N_alloc | apply Kd.N_drewN | apply Kd.N_drew)); exact HO184.out) gb195 (Nat.le_of_eq hg.symm)) hb); have n2_ := Aside0.mk (Kd.R_below (by (with_reducible repeat (first | apply Kd.R_alloc | apply Kd.R_drewN | apply Kd.R_drew)); exact HO188.out) hb); have n3_ := Aside0.mk (Kd.R_below (by (with_reducible repeat (first | apply Kd.R_alloc | apply Kd.R_drewN | apply Kd.R_drew)); exact HO192.out) hb); have n4_ := Aside0.mk (below_step (by repeat (first | (with_reducible first | exact HB.out | apply below_alloc | apply pw_below_drewN | apply below_drew1) | exact HB.out)) hb); have n5_ := Aside0.mk (hbox); have n6_ := Aside0.mk ((by rw [hg]; exact (below_size (by repeat (first | (with_reducible first | exact HB.out | apply below_alloc | apply pw_below_drewN | apply below_drew1) | exact HB.out))) : w.heap.size ≤ gb195)); have n7_ := Aside0.mk ((by rw [hg]; exact (below_size (by repeat (first | (with_reducible first | exact HB.out | apply below_alloc | apply pw_below_drewN | apply below_drew1) | exact HB.out))) : w.heap.size ≤ gb195)); clear HO176; clear HO184; clear HO188; clear HO192; clear HB; have HO176 := n0_; have HO184 := n1_; have HO188 := n2_; have HO192 := n3_; have HB := n4_; have BK195 := n5_; have GW195 := n6_; have GE195 := n7_; clear n0_ n1_ n2_ n3_ n4_ n5_ n6_ n7_; clear hb hbox hg; have hcz100_0 : w99.cell? ⟨gb195, 0, none⟩ = some (.int .i64 0) := (blk_cell BK195.out 0).trans rfl; have hcz100_1 : w99.cell? ⟨gb195, 1, none⟩ = some (.slice none 0 0) := (blk_cell BK195.out 1).trans rfl; have hfz100_0 := blk_frozen BK195.out 0; have hfz100_1 := blk_frozen BK195.out 1; obtain ⟨Ao101, co101, eo101⟩ := Kd.R_slice HO192.out; subst eo101) | ((with_reducible refine gate_dst (N := 37) rfl ?_); (try (refine gate_guard (by rfl) ?_; dsimp only)); refine Kd.R_lit k69 _ 69 ?hg (N := 37) ?hd (xs := ([(⟨(⟨#[97, 15, 255, 255, 255, 255, 255, 255, 251]⟩ : ByteArray), (⟨#[0]⟩ : ByteArray)⟩ : S69)] : List (S69))) (inner := [.string (⟨#[97, 15, 255, 255, 255, 255, 255, 255, 251]⟩ : ByteArray), .string (⟨#[0]⟩ : ByteArray)]) (ok := fun _ => True) (okp := fun _ => True) ?hr ?hp (fun _ hk => hk) trivial (Below.refl _ _) (Nat.le_refl _) (by simp) ?_; (case hd => rfl); (case hg => rfl); (case hr => first | (go_simp; done) | (go_simp; rfl)); (case hp => exact (Reps.c2 (show Kd.M k69 _ _ _ (⟨(⟨#[97, 15, 255, 255, 255, 255, 255, 255, 251]⟩ : ByteArray), (⟨#[0]⟩ : ByteArray)⟩ : S69) [.string (⟨#[97, 15, 255, 255, 255, 255, 255, 255, 251]⟩ : ByteArray), .string (⟨#[0]⟩ : ByteArray)] from (k69_mkM _ _ _ (⟨(⟨#[97, 15, 255, 255, 255, 255, 255, 255, 251]⟩ : ByteArray), (⟨#[0]⟩ : ByteArray)⟩ : S69) )) (Reps.none _ _))); intro v197 w102 ho103 hb hg_ hnew_; clear hg_ hnew_; (first | rw [← Ny196.out] at ho103 | (simp only [Int.reduceToNat] at ho103; rw [← Ny196.out] at ho103)); have n0_ := Aside0.mk (Kd.R_below (by (with_reducible repeat (first | apply Kd.R_alloc | apply Kd.R_drewN | apply Kd.R_drew)); exact (Kd.R_mono (Kd.R_far (p := ⟨gb195, 1, none⟩) (Kd.R_far (p := ⟨gb195, 0, none⟩) (Kd.R_types HO176.out BK195.out (by decide)) (fun _ hk => hk.2) (.int .i64 t189)) (fun _ hk => hk.2) (.slice Ao101 t190.length co101)) (fun _ h_ => h_.1))) hb); have n1_ := Aside0.mk (Kd.N_elder' (by (with_reducible repeat (first | apply Kd.N_alloc | apply Kd.N_drewN | apply Kd.N_drew)); exact (Kd.N_mono (Kd.N_far (p := ⟨gb195, 1, none⟩) (Kd.N_far (p := ⟨gb195, 0, none⟩) (Kd.N_mono HO184.out (fun k_ hk => (⟨hk, hk.2⟩ : _ ∧ k_ ≠ gb195))) (fun _ hk => hk.2) (.int .i64 t189)) (fun _ hk => hk.2) (.slice Ao101 t190.length co101)) (fun _ h_ => h_.1))) (Kd.R_base ho103) hb); have n2_ := Aside0.mk (Kd.R_elder' (by (with_reducible repeat (first | apply Kd.R_alloc | apply Kd.R_drewN | apply Kd.R_drew)); exact (Kd.R_mono (Kd.R_far (p := ⟨gb195, 1, none⟩) (Kd.R_far (p := ⟨gb195, 0, none⟩) (Kd.R_types HO188.out BK195.out (by decide)) (fun _ hk => hk.2) (.int .i64 t189)) (fun _ hk => hk.2) (.slice Ao101 t190.length co101)) (fun _ h_ => h_.1))) (Kd.R_base ho103) hb); have n3_ := Aside0.mk (Kd.R_below (by (with_reducible repeat (first | apply Kd.R_alloc | apply Kd.R_drewN | apply Kd.R_drew)); exact (Kd.R_mono (Kd.R_far (p := ⟨gb195, 1, none⟩) (Kd.R_far (p := ⟨gb195, 0, none⟩) (Kd.R_types HO192.out BK195.out (by decide)) (fun _ hk => hk.2) (.int .i64 t189)) (fun _ hk => hk.2) (.slice Ao101 t190.length co101)) (fun _ h_ => h_.1))) hb); have n4_ := Aside0.mk (Kd.R_lower (Kd.R_new' ho103 (Kd.R_lt (by (with_reducible repeat (first | apply Kd.R_alloc | apply Kd.R_drewN | apply Kd.R_drew)); exact (Kd.R_mono (Kd.R_far (p := ⟨gb195, 1, none⟩) (Kd.R_far (p := ⟨gb195, 0, none⟩) (Kd.R_types HO188.out BK195.out (by decide)) (fun _ hk => hk.2) (.int .i64 t189)) (fun _ hk => hk.2) (.slice Ao101 t190.length co101)) (fun _ h_ => h_.1))))) (below_size (by repeat (first | (with_reducible first | exact HB.out | apply below_alloc | apply pw_below_drewN | apply below_drew1 | refine below_set ?_ GE195.out) | exact HB.out)))); have n5_ := Aside0.mk (blk_below (g := gb195) (o := .cells #[.int .i64 t189, .slice Ao101 t190.length co101] 24 (0, 0)) (by (with_reducible repeat (first | refine blk_drewN ?_ _ | refine blk_drew ?_ | refine blk_alloc ?_ _)); refine blk_put (cs := #[.int .i64 t189, .slice none 0 0]) ?_ 1 _ rfl; (with_reducible repeat (first | refine blk_drewN ?_ _ | refine blk_drew ?_ | refine blk_alloc ?_ _)); refine blk_put (cs := #[.int .i64 0, .slice none 0 0]) ?_ 0 _ rfl; (with_reducible repeat (first | refine blk_drewN ?_ _ | refine blk_drew ?_ | refine blk_alloc ?_ _)); exact BK195.out) hb); have n6_ := Aside0.mk (below_step (by repeat (first | (with_reducible first | exact HB.out | apply below_alloc | apply pw_below_drewN | apply below_drew1 | refine below_set ?_ GE195.out) | exact HB.out)) hb); clear HO176; clear HO184; clear HO188; clear HO192; clear BK195; clear HB; have HO176 := n0_; have HO184 := n1_; have HO188 := n2_; have HO192 := n3_; have HO198 := n4_; have BK195 := n5_; have HB := n6_; clear n0_ n1_ n2_ n3_ n4_ n5_ n6_; clear hb ho103; obtain ⟨Ao104, co104, eo104⟩ := Kd.R_slice HO188.out; subst eo104; obtain ⟨Ao105, co105, eo105⟩ := Kd.R_slice HO198.out; subst eo105) | (go_at_call 25; (with_reducible refine (ambryref10_Same.calls k _ _ t185 _ _ y196 false _ ?side1 ?side2 ?side3 ?side4 A6.out).mono ?_); (case side1 => repeat (first | exact (Kd.R_reads' HO188.out).2.2 | (with_reducible refine Kd.C_alloc ?_ _) | (with_reducible refine Kd.C_drewN ?_ _) | (with_reducible refine Kd.C_drew ?_))); (case side2 => exact (Kd.R_reads' HO188.out).2.1); (case side3 => repeat (first | exact (Kd.R_reads' HO198.out).2.2 | (with_reducible refine Kd.C_alloc ?_ _) | (with_reducible refine Kd.C_drewN ?_ _) | (with_reducible refine Kd.C_drew ?_))); (case side4 => exact (Kd.R_reads' HO198.out).2.1); rintro e w' ⟨rfl, ⟨nd, rfl⟩⟩))
        go_ret
        exact ⟨by first | rfl | (simp [errW_none, errW_some] <;> rfl) | (simp [*, errW_none, errW_some] <;> rfl), by repeat (first | (with_reducible first | exact HB.out | apply below_alloc | apply pw_below_drewN | apply below_drew1 | refine below_set ?_ GE195.out) | exact HB.out)⟩
    · rw [if_neg c5] at H
      have c5b0 : (t178 == 0) = false := beq_eq_false_iff_ne.mpr c5
      have c5b1 : (t178 != 0) = true := bne_iff_ne.mpr c5
      obtain rfl := Option.some.inj H
      go_enter Try.func13, Try.ntmps13
      go_wp2_with (first | ((with_reducible refine gate_dst (N := 10) rfl ?_); (try (refine gate_guard (by rfl) ?_; dsimp only)); refine Kd.R_lit k52 _ 52 ?hg (N := 10) ?hd (xs := ([(⟨(⟨#[97]⟩ : ByteArray), (⟨#[120]⟩ : ByteArray), false⟩ : S52)] : List (S52))) (inner := [.string (⟨#[97]⟩ : ByteArray), .string (⟨#[120]⟩ : ByteArray), .bool false]) (ok := fun _ => True) (okp := fun _ => True) ?hr ?hp (fun _ hk => hk) trivial (Below.refl _ _) (Nat.le_refl _) (by simp) ?_; (case hd => rfl); (case hg => rfl); (case hr => first | (go_simp; done) | (go_simp; rfl)); (case hp => exact (Reps.c3 (show Kd.M k52 _ _ _ (⟨(⟨#[97]⟩ : ByteArray), (⟨#[120]⟩ : ByteArray), false⟩ : S52) [.string (⟨#[97]⟩ : ByteArray), .string (⟨#[120]⟩ : ByteArray), .bool false] from (k52_mkM _ _ _ (⟨(⟨#[97]⟩ : ByteArray), (⟨#[120]⟩ : ByteArray), false⟩ : S52) )) (Reps.none _ _))); intro v175 w106 ho107 hb hg_ hnew_; clear hg_ hnew_; (first | rw [← Ny174.out] at ho107 | (simp only [Int.reduceToNat] at ho107; rw [← Ny174.out] at ho107)); have n0_ := Aside0.mk (Kd.R_lower ho107 (below_size (by repeat (first | (with_reducible first | exact HB.out | apply below_alloc | apply pw_below_drewN | apply below_drew1) | exact HB.out)))); have n1_ := Aside0.mk (below_step (by repeat (first | (with_reducible first | exact HB.out | apply below_alloc | apply pw_below_drewN | apply below_drew1) | exact HB.out)) hb); clear HB; have HO176 := n0_; have HB := n1_; clear n0_ n1_; clear hb ho107; obtain ⟨Ao108, co108, eo108⟩ := Kd.R_slice HO176.out; subst eo108) | ((with_reducible refine gate_callee (f := 14) rfl ?_); refine goesL_ (some 12) rfl rfl Try.func14 (by kernel_rfl) rfl #[.agg #[.int .i64 5, .slice Ao108 y174.length co108]] rfl (by (try simp only [List.map_toArray, List.map_cons, List.map_nil]); first | done | rfl | (simp only [List.length_drop, List.length_take]; rfl)) ?_; (with_reducible refine (batch_Bytes.calls k 5 _ _ y174 t177 t178 _ ?side1 ?side2 A1.out).mono ?_); (case side1 => repeat (first | exact (Kd.R_reads' HO176.out).2.2 | (with_reducible refine Kd.C_alloc ?_ _) | (with_reducible refine Kd.C_drewN ?_ _) | (with_reducible refine Kd.C_drew ?_))); (case side2 => exact (Kd.R_reads' HO176.out).2.1); rintro e w109 ⟨rfl, hb⟩; refine ⟨_, rfl, ?_⟩; have n0_ := Aside0.mk (Kd.R_below (by (with_reducible repeat (first | apply Kd.R_alloc | apply Kd.R_drewN | apply Kd.R_drew)); exact HO176.out) hb); have n1_ := Aside0.mk (below_step (by repeat (first | (with_reducible first | exact HB.out | apply below_alloc | apply pw_below_drewN | apply below_drew1) | exact HB.out)) hb); clear HO176; clear HB; have HO176 := n0_; have HB := n1_; clear n0_ n1_; (try clear hb); (try clear hb2); (try clear hk); (try clear hi)) | ((with_reducible refine gate_dst (N := 17) rfl ?_); (try (refine gate_guard (by rfl) ?_; dsimp only)); refine Kd.R_lit k80 _ 80 ?hg (N := 17) ?hd (xs := ([(⟨5, (⟨#[]⟩ : ByteArray), true⟩ : S80)] : List (S80))) (inner := [.int .i64 5, .string (⟨#[]⟩ : ByteArray), .bool true]) (ok := fun _ => True) (okp := fun _ => True) ?hr ?hp (fun _ hk => hk) trivial (Below.refl _ _) (Nat.le_refl _) (by simp) ?_; (case hd => rfl); (case hg => rfl); (case hr => first | (go_simp; done) | (go_simp; rfl)); (case hp => exact (Reps.c3 (show Kd.M k80 _ _ _ (⟨5, (⟨#[]⟩ : ByteArray), true⟩ : S80) [.int .i64 5, .string (⟨#[]⟩ : ByteArray), .bool true] from (k80_mkM _ _ _ (⟨5, (⟨#[]⟩ : ByteArray), true⟩ : S80) )) (Reps.none _ _))); intro v180 w110 ho111 hb hg_ hnew_; clear hg_ hnew_; (first | rw [← Ny179.out] at ho111 | (simp only [Int.reduceToNat] at ho111; rw [← Ny179.out] at ho111)); have n0_ := Aside0.mk (Kd.R_below (by (with_reducible repeat (first | apply Kd.R_alloc | apply Kd.R_drewN | apply Kd.R_drew)); exact HO176.out) hb); have n1_ := Aside0.mk (Kd.R_lower ho111 (below_size (by repeat (first | (with_reducible first | exact HB.out | apply below_alloc | apply pw_below_drewN | apply below_drew1) | exact HB.out)))); have n2_ := Aside0.mk (below_step (by repeat (first | (with_reducible first | exact HB.out | apply below_alloc | apply pw_below_drewN | apply below_drew1) | exact HB.out)) hb); clear HO176; clear HB; have HO176 := n0_; have HO181 := n1_; have HB := n2_; clear n0_ n1_ n2_; clear hb ho111; obtain ⟨Ao112, co112, eo112⟩ := Kd.R_slice HO181.out; subst eo112) | ((with_reducible refine gate_dst (N := 19) rfl ?_); (try (refine gate_guard (by rfl) ?_; dsimp only)); refine Kd.N_lit k67 _ 67 ?hg (N' := 19) ?hd (xs := ([(⟨(⟨#[97]⟩ : ByteArray), y179⟩ : S67)] : List (S67))) (inner := [.string (⟨#[97]⟩ : ByteArray), .slice Ao112 y179.length co112]) (ok := (fun k_ => some k_ ≠ (.slice Ao108 y174.length co108 : Value).ownBlock)) (okp := (fun k_ => some k_ ≠ (.slice Ao108 y174.length co108 : Value).ownBlock)) ?hr ?hp (fun _ hk => hk) ((show ∀ k_, w110.heap.size ≤ k_ → (fun k_ => some k_ ≠ (.slice Ao108 y174.length co108 : Value).ownBlock) k_ from fun k_ hk => Kd.fresh' (Kd.R_lt (by (with_reducible repeat (first | apply Kd.R_alloc | apply Kd.R_drewN | apply Kd.R_drew)); exact HO176.out)) k_ hk) _ (Nat.le_refl _)) (Below.refl _ _) (Nat.le_refl _) (by simp) ?_; (case hd => rfl); (case hg => rfl); (case hr => first | (go_simp; done) | (go_simp; rfl)); (case hp => exact (Reps.c2 (show Kd.FK k67 _ _ (⟨(⟨#[97]⟩ : ByteArray), y179⟩ : S67) [.string (⟨#[97]⟩ : ByteArray), .slice Ao112 y179.length co112] from (k67_mkF _ _ (⟨(⟨#[97]⟩ : ByteArray), y179⟩ : S67) (Kd.R_reads' (Kd.R_mono (ok' := (fun k_ => some k_ ≠ (.slice Ao108 y174.length co108 : Value).ownBlock)) (Kd.R_apart' (HO181.out) (Kd.R_typed HO176.out) (by decide)) (fun k_ hk => hk.2))).2.1 (Kd.R_F (Kd.R_mono (ok' := (fun k_ => some k_ ≠ (.slice Ao108 y174.length co108 : Value).ownBlock)) (Kd.R_apart' (HO181.out) (Kd.R_typed HO176.out) (by decide)) (fun k_ hk => hk.2))))) (Reps.none _ _))); intro v183 w113 ho114 hb hg_ hnew_; clear hg_ hnew_; (first | rw [← Ny182.out] at ho114 | (simp only [Int.reduceToNat] at ho114; rw [← Ny182.out] at ho114)); have n0_ := Aside0.mk (Kd.R_below (by (with_reducible repeat (first | apply Kd.R_alloc | apply Kd.R_drewN | apply Kd.R_drew)); exact HO176.out) hb); have n1_ := Aside0.mk (Kd.N_lower ho114 (below_size (by repeat (first | (with_reducible first | exact HB.out | apply below_alloc | apply pw_below_drewN | apply below_drew1) | exact HB.out)))); have n2_ := Aside0.mk (below_step (by repeat (first | (with_reducible first | exact HB.out | apply below_alloc | apply pw_below_drewN | apply below_drew1) | exact HB.out)) hb); clear HO176; clear HB; clear HO181; have HO176 := n0_; have HO184 := n1_; have HB := n2_; clear n0_ n1_ n2_; clear hb ho114; obtain ⟨Ao115, co115, eo115⟩ := Kd.N_slice HO184.out; subst eo115) | ((with_reducible refine gate_callee (f := 28) rfl ?_); refine goesL_ (some 20) rfl rfl Try.func28 (by kernel_rfl) rfl #[.slice Ao115 y182.length co115] rfl (by (try simp only [List.map_toArray, List.map_cons, List.map_nil]); first | done | rfl | (simp only [List.length_drop, List.length_take]; rfl)) ?_; (with_reducible refine (batch_Pairs.calls k _ _ y182 t185 t186 _ ?side1 ?side2 A2.out).mono ?_); (case side1 => repeat (first | exact (Kd.N_reads' HO184.out).2.2 | (with_reducible refine Kd.C_alloc ?_ _) | (with_reducible refine Kd.C_drewN ?_ _) | (with_reducible refine Kd.C_drew ?_))); (case side2 => exact (Kd.N_reads' HO184.out).2.1); rintro e w116 ⟨v187, rfl, ho0, hb⟩; refine ⟨_, rfl, ?_⟩; have n0_ := Aside0.mk (Kd.R_below (by (with_reducible repeat (first | apply Kd.R_alloc | apply Kd.R_drewN | apply Kd.R_drew)); exact HO176.out) hb); have n1_ := Aside0.mk (Kd.N_elder' (by (with_reducible repeat (first | apply Kd.N_alloc | apply Kd.N_drewN | apply Kd.N_drew)); exact HO184.out) (Kd.R_base ho0) hb); have n2_ := Aside0.mk (Kd.R_lower ho0 (below_size (by repeat (first | (with_reducible first | exact HB.out | apply below_alloc | apply pw_below_drewN | apply below_drew1) | exact HB.out)))); have n3_ := Aside0.mk (below_step (by repeat (first | (with_reducible first | exact HB.out | apply below_alloc | apply pw_below_drewN | apply below_drew1) | exact HB.out)) hb); clear HO176; clear HO184; clear HB; have HO176 := n0_; have HO184 := n1_; have HO188 := n2_; have HB := n3_; clear n0_ n1_ n2_ n3_; (try clear hb); (try clear hb2); (try clear hk); (try clear hi); (try clear ho0)) | ((with_reducible refine gate_callee (f := 10) rfl ?_); refine goesL_ (some 24) rfl rfl Try.func10 (by kernel_rfl) rfl #[.string (⟨#[77, 0, 0, 0, 0, 0, 0, 0, 9]⟩ : ByteArray)] rfl (by (try simp only [List.map_toArray, List.map_cons, List.map_nil]); first | done | rfl | (simp only [List.length_drop, List.length_take]; rfl)) ?_; (with_reducible refine (batch_Read.calls k (⟨#[77, 0, 0, 0, 0, 0, 0, 0, 9]⟩ : ByteArray) t189 t190 t193 t194 _ A3.out).mono ?_); rintro e w117 ⟨v191, rfl, ho0, hb⟩; refine ⟨_, rfl, ?_⟩; have n0_ := Aside0.mk (Kd.R_elder' (by (with_reducible repeat (first | apply Kd.R_alloc | apply Kd.R_drewN | apply Kd.R_drew)); exact HO176.out) (Kd.R_base ho0) hb); have n1_ := Aside0.mk (Kd.N_elder' (by (with_reducible repeat (first | apply Kd.N_alloc | apply Kd.N_drewN | apply Kd.N_drew)); exact HO184.out) (Kd.R_base ho0) hb); have n2_ := Aside0.mk (Kd.R_below (by (with_reducible repeat (first | apply Kd.R_alloc | apply Kd.R_drewN | apply Kd.R_drew)); exact HO188.out) hb); have n3_ := Aside0.mk (Kd.R_lower (Kd.R_new' ho0 (Kd.R_lt (by (with_reducible repeat (first | apply Kd.R_alloc | apply Kd.R_drewN | apply Kd.R_drew)); exact HO176.out))) (below_size (by repeat (first | (with_reducible first | exact HB.out | apply below_alloc | apply pw_below_drewN | apply below_drew1) | exact HB.out)))); have n4_ := Aside0.mk (below_step (by repeat (first | (with_reducible first | exact HB.out | apply below_alloc | apply pw_below_drewN | apply below_drew1) | exact HB.out)) hb); clear HO176; clear HO184; clear HO188; clear HB; have HO176 := n0_; have HO184 := n1_; have HO188 := n2_; have HO192 := n3_; have HB := n4_; clear n0_ n1_ n2_ n3_ n4_; (try clear hb); (try clear hb2); (try clear hk); (try clear hi); (try clear ho0)) | ((with_reducible refine gate_dst (N := 5) rfl ?_); (try (refine gate_guard (by rfl) ?_; dsimp only)); refine box_event ?hg (N := 5) ?hd (cs := #[.int .i64 0, .slice none 0 0]) (t := 24) ?hr ?_; (case hd => rfl); (case hg => rfl); (case hr => first | (go_simp; done) | (go_simp; rfl)); intro gb195 hg w118 hbox hb; have n0_ := Aside0.mk (Kd.R_below (by (with_reducible repeat (first | apply Kd.R_alloc | apply Kd.R_drewN | apply Kd.R_drew)); exact HO176.out) hb); have n1_ := Aside0.mk (Kd.N_below (Kd.N_elderB (by (with_reducible repeat (first | apply Kd.N_alloc | apply Kd.N_drewN | apply Kd.N_drew)); exact HO184.out) gb195 (Nat.le_of_eq hg.symm)) hb); have n2_ := Aside0.mk (Kd.R_below (by (with_reducible repeat (first | apply Kd.R_alloc | apply Kd.R_drewN | apply Kd.R_drew)); exact HO188.out) hb); have n3_ := Aside0.mk (Kd.R_below (by (with_reducible repeat (first | apply Kd.R_alloc | apply Kd.R_drewN | apply Kd.R_drew)); exact HO192.out) hb); have n4_ := Aside0.mk (below_step (by repeat (first | (with_reducible first | exact HB.out | apply below_alloc | apply pw_below_drewN | apply below_drew1) | exact HB.out)) hb); have n5_ := Aside0.mk (hbox); have n6_ := Aside0.mk ((by rw [hg]; exact (below_size (by repeat (first | (with_reducible first | exact HB.out | apply below_alloc | apply pw_below_drewN | apply below_drew1) | exact HB.out))) : w.heap.size ≤ gb195)); have n7_ := Aside0.mk ((by rw [hg]; exact (below_size (by repeat (first | (with_reducible first | exact HB.out | apply below_alloc | apply pw_below_drewN | apply below_drew1) | exact HB.out))) : w.heap.size ≤ gb195)); clear HO176; clear HO184; clear HO188; clear HO192; clear HB; have HO176 := n0_; have HO184 := n1_; have HO188 := n2_; have HO192 := n3_; have HB := n4_; have BK195 := n5_; have GW195 := n6_; have GE195 := n7_; clear n0_ n1_ n2_ n3_ n4_ n5_ n6_ n7_; clear hb hbox hg; have hcz119_0 : w118.cell? ⟨gb195, 0, none⟩ = some (.int .i64 0) := (blk_cell BK195.out 0).trans rfl; have hcz119_1 : w118.cell? ⟨gb195, 1, none⟩ = some (.slice none 0 0) := (blk_cell BK195.out 1).trans rfl; have hfz119_0 := blk_frozen BK195.out 0; have hfz119_1 := blk_frozen BK195.out 1; obtain ⟨Ao120, co120, eo120⟩ := Kd.R_slice HO192.out; subst eo120))
      go_ret
      exact ⟨by first | rfl | (simp [errW_none, errW_some] <;> rfl) | (simp [*, errW_none, errW_some] <;> rfl), by repeat (first | (with_reducible first | exact HB.out | apply below_alloc | apply pw_below_drewN | apply below_drew1 | refine below_set ?_ GE195.out) | exact HB.out)⟩
  · rw [if_neg c4] at H
    have c4b0 : (t177.toList == ([66, 0, 0, 0, 0, 0, 0, 0, 5, 1, 0, 1, 97, 1, 120] : List UInt8)) = false := beq_eq_false_iff_ne.mpr c4
    have c4b1 : (t177.toList != ([66, 0, 0, 0, 0, 0, 0, 0, 5, 1, 0, 1, 97, 1, 120] : List UInt8)) = true := bne_iff_ne.mpr c4
    obtain rfl := Option.some.inj H
    go_enter Try.func13, Try.ntmps13
    go_wp2_with (first | ((with_reducible refine gate_dst (N := 10) rfl ?_); (try (refine gate_guard (by rfl) ?_; dsimp only)); refine Kd.R_lit k52 _ 52 ?hg (N := 10) ?hd (xs := ([(⟨(⟨#[97]⟩ : ByteArray), (⟨#[120]⟩ : ByteArray), false⟩ : S52)] : List (S52))) (inner := [.string (⟨#[97]⟩ : ByteArray), .string (⟨#[120]⟩ : ByteArray), .bool false]) (ok := fun _ => True) (okp := fun _ => True) ?hr ?hp (fun _ hk => hk) trivial (Below.refl _ _) (Nat.le_refl _) (by simp) ?_; (case hd => rfl); (case hg => rfl); (case hr => first | (go_simp; done) | (go_simp; rfl)); (case hp => exact (Reps.c3 (show Kd.M k52 _ _ _ (⟨(⟨#[97]⟩ : ByteArray), (⟨#[120]⟩ : ByteArray), false⟩ : S52) [.string (⟨#[97]⟩ : ByteArray), .string (⟨#[120]⟩ : ByteArray), .bool false] from (k52_mkM _ _ _ (⟨(⟨#[97]⟩ : ByteArray), (⟨#[120]⟩ : ByteArray), false⟩ : S52) )) (Reps.none _ _))); intro v175 w121 ho122 hb hg_ hnew_; clear hg_ hnew_; (first | rw [← Ny174.out] at ho122 | (simp only [Int.reduceToNat] at ho122; rw [← Ny174.out] at ho122)); have n0_ := Aside0.mk (Kd.R_lower ho122 (below_size (by repeat (first | (with_reducible first | exact HB.out | apply below_alloc | apply pw_below_drewN | apply below_drew1) | exact HB.out)))); have n1_ := Aside0.mk (below_step (by repeat (first | (with_reducible first | exact HB.out | apply below_alloc | apply pw_below_drewN | apply below_drew1) | exact HB.out)) hb); clear HB; have HO176 := n0_; have HB := n1_; clear n0_ n1_; clear hb ho122; obtain ⟨Ao123, co123, eo123⟩ := Kd.R_slice HO176.out; subst eo123) | ((with_reducible refine gate_callee (f := 14) rfl ?_); refine goesL_ (some 12) rfl rfl Try.func14 (by kernel_rfl) rfl #[.agg #[.int .i64 5, .slice Ao123 y174.length co123]] rfl (by (try simp only [List.map_toArray, List.map_cons, List.map_nil]); first | done | rfl | (simp only [List.length_drop, List.length_take]; rfl)) ?_; (with_reducible refine (batch_Bytes.calls k 5 _ _ y174 t177 t178 _ ?side1 ?side2 A1.out).mono ?_); (case side1 => repeat (first | exact (Kd.R_reads' HO176.out).2.2 | (with_reducible refine Kd.C_alloc ?_ _) | (with_reducible refine Kd.C_drewN ?_ _) | (with_reducible refine Kd.C_drew ?_))); (case side2 => exact (Kd.R_reads' HO176.out).2.1); rintro e w124 ⟨rfl, hb⟩; refine ⟨_, rfl, ?_⟩; have n0_ := Aside0.mk (Kd.R_below (by (with_reducible repeat (first | apply Kd.R_alloc | apply Kd.R_drewN | apply Kd.R_drew)); exact HO176.out) hb); have n1_ := Aside0.mk (below_step (by repeat (first | (with_reducible first | exact HB.out | apply below_alloc | apply pw_below_drewN | apply below_drew1) | exact HB.out)) hb); clear HO176; clear HB; have HO176 := n0_; have HB := n1_; clear n0_ n1_; (try clear hb); (try clear hb2); (try clear hk); (try clear hi)) | ((with_reducible refine gate_dst (N := 17) rfl ?_); (try (refine gate_guard (by rfl) ?_; dsimp only)); refine Kd.R_lit k80 _ 80 ?hg (N := 17) ?hd (xs := ([(⟨5, (⟨#[]⟩ : ByteArray), true⟩ : S80)] : List (S80))) (inner := [.int .i64 5, .string (⟨#[]⟩ : ByteArray), .bool true]) (ok := fun _ => True) (okp := fun _ => True) ?hr ?hp (fun _ hk => hk) trivial (Below.refl _ _) (Nat.le_refl _) (by simp) ?_; (case hd => rfl); (case hg => rfl); (case hr => first | (go_simp; done) | (go_simp; rfl)); (case hp => exact (Reps.c3 (show Kd.M k80 _ _ _ (⟨5, (⟨#[]⟩ : ByteArray), true⟩ : S80) [.int .i64 5, .string (⟨#[]⟩ : ByteArray), .bool true] from (k80_mkM _ _ _ (⟨5, (⟨#[]⟩ : ByteArray), true⟩ : S80) )) (Reps.none _ _))); intro v180 w125 ho126 hb hg_ hnew_; clear hg_ hnew_; (first | rw [← Ny179.out] at ho126 | (simp only [Int.reduceToNat] at ho126; rw [← Ny179.out] at ho126)); have n0_ := Aside0.mk (Kd.R_below (by (with_reducible repeat (first | apply Kd.R_alloc | apply Kd.R_drewN | apply Kd.R_drew)); exact HO176.out) hb); have n1_ := Aside0.mk (Kd.R_lower ho126 (below_size (by repeat (first | (with_reducible first | exact HB.out | apply below_alloc | apply pw_below_drewN | apply below_drew1) | exact HB.out)))); have n2_ := Aside0.mk (below_step (by repeat (first | (with_reducible first | exact HB.out | apply below_alloc | apply pw_below_drewN | apply below_drew1) | exact HB.out)) hb); clear HO176; clear HB; have HO176 := n0_; have HO181 := n1_; have HB := n2_; clear n0_ n1_ n2_; clear hb ho126; obtain ⟨Ao127, co127, eo127⟩ := Kd.R_slice HO181.out; subst eo127) | ((with_reducible refine gate_dst (N := 19) rfl ?_); (try (refine gate_guard (by rfl) ?_; dsimp only)); refine Kd.N_lit k67 _ 67 ?hg (N' := 19) ?hd (xs := ([(⟨(⟨#[97]⟩ : ByteArray), y179⟩ : S67)] : List (S67))) (inner := [.string (⟨#[97]⟩ : ByteArray), .slice Ao127 y179.length co127]) (ok := (fun k_ => some k_ ≠ (.slice Ao123 y174.length co123 : Value).ownBlock)) (okp := (fun k_ => some k_ ≠ (.slice Ao123 y174.length co123 : Value).ownBlock)) ?hr ?hp (fun _ hk => hk) ((show ∀ k_, w125.heap.size ≤ k_ → (fun k_ => some k_ ≠ (.slice Ao123 y174.length co123 : Value).ownBlock) k_ from fun k_ hk => Kd.fresh' (Kd.R_lt (by (with_reducible repeat (first | apply Kd.R_alloc | apply Kd.R_drewN | apply Kd.R_drew)); exact HO176.out)) k_ hk) _ (Nat.le_refl _)) (Below.refl _ _) (Nat.le_refl _) (by simp) ?_; (case hd => rfl); (case hg => rfl); (case hr => first | (go_simp; done) | (go_simp; rfl)); (case hp => exact (Reps.c2 (show Kd.FK k67 _ _ (⟨(⟨#[97]⟩ : ByteArray), y179⟩ : S67) [.string (⟨#[97]⟩ : ByteArray), .slice Ao127 y179.length co127] from (k67_mkF _ _ (⟨(⟨#[97]⟩ : ByteArray), y179⟩ : S67) (Kd.R_reads' (Kd.R_mono (ok' := (fun k_ => some k_ ≠ (.slice Ao123 y174.length co123 : Value).ownBlock)) (Kd.R_apart' (HO181.out) (Kd.R_typed HO176.out) (by decide)) (fun k_ hk => hk.2))).2.1 (Kd.R_F (Kd.R_mono (ok' := (fun k_ => some k_ ≠ (.slice Ao123 y174.length co123 : Value).ownBlock)) (Kd.R_apart' (HO181.out) (Kd.R_typed HO176.out) (by decide)) (fun k_ hk => hk.2))))) (Reps.none _ _))); intro v183 w128 ho129 hb hg_ hnew_; clear hg_ hnew_; (first | rw [← Ny182.out] at ho129 | (simp only [Int.reduceToNat] at ho129; rw [← Ny182.out] at ho129)); have n0_ := Aside0.mk (Kd.R_below (by (with_reducible repeat (first | apply Kd.R_alloc | apply Kd.R_drewN | apply Kd.R_drew)); exact HO176.out) hb); have n1_ := Aside0.mk (Kd.N_lower ho129 (below_size (by repeat (first | (with_reducible first | exact HB.out | apply below_alloc | apply pw_below_drewN | apply below_drew1) | exact HB.out)))); have n2_ := Aside0.mk (below_step (by repeat (first | (with_reducible first | exact HB.out | apply below_alloc | apply pw_below_drewN | apply below_drew1) | exact HB.out)) hb); clear HO176; clear HB; clear HO181; have HO176 := n0_; have HO184 := n1_; have HB := n2_; clear n0_ n1_ n2_; clear hb ho129; obtain ⟨Ao130, co130, eo130⟩ := Kd.N_slice HO184.out; subst eo130) | ((with_reducible refine gate_callee (f := 28) rfl ?_); refine goesL_ (some 20) rfl rfl Try.func28 (by kernel_rfl) rfl #[.slice Ao130 y182.length co130] rfl (by (try simp only [List.map_toArray, List.map_cons, List.map_nil]); first | done | rfl | (simp only [List.length_drop, List.length_take]; rfl)) ?_; (with_reducible refine (batch_Pairs.calls k _ _ y182 t185 t186 _ ?side1 ?side2 A2.out).mono ?_); (case side1 => repeat (first | exact (Kd.N_reads' HO184.out).2.2 | (with_reducible refine Kd.C_alloc ?_ _) | (with_reducible refine Kd.C_drewN ?_ _) | (with_reducible refine Kd.C_drew ?_))); (case side2 => exact (Kd.N_reads' HO184.out).2.1); rintro e w131 ⟨v187, rfl, ho0, hb⟩; refine ⟨_, rfl, ?_⟩; have n0_ := Aside0.mk (Kd.R_below (by (with_reducible repeat (first | apply Kd.R_alloc | apply Kd.R_drewN | apply Kd.R_drew)); exact HO176.out) hb); have n1_ := Aside0.mk (Kd.N_elder' (by (with_reducible repeat (first | apply Kd.N_alloc | apply Kd.N_drewN | apply Kd.N_drew)); exact HO184.out) (Kd.R_base ho0) hb); have n2_ := Aside0.mk (Kd.R_lower ho0 (below_size (by repeat (first | (with_reducible first | exact HB.out | apply below_alloc | apply pw_below_drewN | apply below_drew1) | exact HB.out)))); have n3_ := Aside0.mk (below_step (by repeat (first | (with_reducible first | exact HB.out | apply below_alloc | apply pw_below_drewN | apply below_drew1) | exact HB.out)) hb); clear HO176; clear HO184; clear HB; have HO176 := n0_; have HO184 := n1_; have HO188 := n2_; have HB := n3_; clear n0_ n1_ n2_ n3_; (try clear hb); (try clear hb2); (try clear hk); (try clear hi); (try clear ho0)) | ((with_reducible refine gate_callee (f := 10) rfl ?_); refine goesL_ (some 24) rfl rfl Try.func10 (by kernel_rfl) rfl #[.string (⟨#[77, 0, 0, 0, 0, 0, 0, 0, 9]⟩ : ByteArray)] rfl (by (try simp only [List.map_toArray, List.map_cons, List.map_nil]); first | done | rfl | (simp only [List.length_drop, List.length_take]; rfl)) ?_; (with_reducible refine (batch_Read.calls k (⟨#[77, 0, 0, 0, 0, 0, 0, 0, 9]⟩ : ByteArray) t189 t190 t193 t194 _ A3.out).mono ?_); rintro e w132 ⟨v191, rfl, ho0, hb⟩; refine ⟨_, rfl, ?_⟩; have n0_ := Aside0.mk (Kd.R_elder' (by (with_reducible repeat (first | apply Kd.R_alloc | apply Kd.R_drewN | apply Kd.R_drew)); exact HO176.out) (Kd.R_base ho0) hb); have n1_ := Aside0.mk (Kd.N_elder' (by (with_reducible repeat (first | apply Kd.N_alloc | apply Kd.N_drewN | apply Kd.N_drew)); exact HO184.out) (Kd.R_base ho0) hb); have n2_ := Aside0.mk (Kd.R_below (by (with_reducible repeat (first | apply Kd.R_alloc | apply Kd.R_drewN | apply Kd.R_drew)); exact HO188.out) hb); have n3_ := Aside0.mk (Kd.R_lower (Kd.R_new' ho0 (Kd.R_lt (by (with_reducible repeat (first | apply Kd.R_alloc | apply Kd.R_drewN | apply Kd.R_drew)); exact HO176.out))) (below_size (by repeat (first | (with_reducible first | exact HB.out | apply below_alloc | apply pw_below_drewN | apply below_drew1) | exact HB.out)))); have n4_ := Aside0.mk (below_step (by repeat (first | (with_reducible first | exact HB.out | apply below_alloc | apply pw_below_drewN | apply below_drew1) | exact HB.out)) hb); clear HO176; clear HO184; clear HO188; clear HB; have HO176 := n0_; have HO184 := n1_; have HO188 := n2_; have HO192 := n3_; have HB := n4_; clear n0_ n1_ n2_ n3_ n4_; (try clear hb); (try clear hb2); (try clear hk); (try clear hi); (try clear ho0)) | ((with_reducible refine gate_dst (N := 5) rfl ?_); (try (refine gate_guard (by rfl) ?_; dsimp only)); refine box_event ?hg (N := 5) ?hd (cs := #[.int .i64 0, .slice none 0 0]) (t := 24) ?hr ?_; (case hd => rfl); (case hg => rfl); (case hr => first | (go_simp; done) | (go_simp; rfl)); intro gb195 hg w133 hbox hb; have n0_ := Aside0.mk (Kd.R_below (by (with_reducible repeat (first | apply Kd.R_alloc | apply Kd.R_drewN | apply Kd.R_drew)); exact HO176.out) hb); have n1_ := Aside0.mk (Kd.N_below (Kd.N_elderB (by (with_reducible repeat (first | apply Kd.N_alloc | apply Kd.N_drewN | apply Kd.N_drew)); exact HO184.out) gb195 (Nat.le_of_eq hg.symm)) hb); have n2_ := Aside0.mk (Kd.R_below (by (with_reducible repeat (first | apply Kd.R_alloc | apply Kd.R_drewN | apply Kd.R_drew)); exact HO188.out) hb); have n3_ := Aside0.mk (Kd.R_below (by (with_reducible repeat (first | apply Kd.R_alloc | apply Kd.R_drewN | apply Kd.R_drew)); exact HO192.out) hb); have n4_ := Aside0.mk (below_step (by repeat (first | (with_reducible first | exact HB.out | apply below_alloc | apply pw_below_drewN | apply below_drew1) | exact HB.out)) hb); have n5_ := Aside0.mk (hbox); have n6_ := Aside0.mk ((by rw [hg]; exact (below_size (by repeat (first | (with_reducible first | exact HB.out | apply below_alloc | apply pw_below_drewN | apply below_drew1) | exact HB.out))) : w.heap.size ≤ gb195)); have n7_ := Aside0.mk ((by rw [hg]; exact (below_size (by repeat (first | (with_reducible first | exact HB.out | apply below_alloc | apply pw_below_drewN | apply below_drew1) | exact HB.out))) : w.heap.size ≤ gb195)); clear HO176; clear HO184; clear HO188; clear HO192; clear HB; have HO176 := n0_; have HO184 := n1_; have HO188 := n2_; have HO192 := n3_; have HB := n4_; have BK195 := n5_; have GW195 := n6_; have GE195 := n7_; clear n0_ n1_ n2_ n3_ n4_ n5_ n6_ n7_; clear hb hbox hg; have hcz134_0 : w133.cell? ⟨gb195, 0, none⟩ = some (.int .i64 0) := (blk_cell BK195.out 0).trans rfl; have hcz134_1 : w133.cell? ⟨gb195, 1, none⟩ = some (.slice none 0 0) := (blk_cell BK195.out 1).trans rfl; have hfz134_0 := blk_frozen BK195.out 0; have hfz134_1 := blk_frozen BK195.out 1; obtain ⟨Ao135, co135, eo135⟩ := Kd.R_slice HO192.out; subst eo135))
    go_ret
    exact ⟨by first | rfl | (simp [errW_none, errW_some] <;> rfl) | (simp [*, errW_none, errW_some] <;> rfl), by repeat (first | (with_reducible first | exact HB.out | apply below_alloc | apply pw_below_drewN | apply below_drew1 | refine below_set ?_ GE195.out) | exact HB.out)⟩
end Go.Proofs.Ytehcmedeeaoebaa.PB
end
section
namespace Go.Proofs.Ytehcmedeeaoebaa.PB
open Go.RowKit Go.Proofs.YtehcmedeeaoebaaW.PrintWords Go.Proofs.YtehcmedeeaoebaaW.PrintLast Go.Proofs.YtehcmedeeaoebaaW.PrintMore
theorem lives_bytes : batch_Bytes.f 40 5 [⟨⟨#[97]⟩, ⟨#[120]⟩, false⟩] = some (⟨#[66, 0, 0, 0, 0, 0, 0, 0, 5, 1, 0, 1, 97, 1, 120]⟩, 0) := by kernel_rfl
theorem lives_read : batch_Read.f 40 ⟨#[77, 0, 0, 0, 0, 0, 0, 0, 9]⟩ = some (0, [], 9, 0) := by kernel_rfl
theorem lives_may : batch_may.f 40 ⟨#[97]⟩ [⟨5, ⟨#[]⟩, true⟩] = some true := by kernel_rfl
theorem lives_key : pairKey ⟨#[97]⟩ 5 = ⟨#[97, 15, 255, 255, 255, 255, 255, 255, 251]⟩ := by kernel_rfl
theorem lives_val : pairVal ⟨5, ⟨#[]⟩, true⟩ = ⟨#[0]⟩ := by kernel_rfl
theorem sortP_one (x : S69) : sortP [x] = [x] := List.perm_singleton.1 (sortP_spec [x]).1
theorem lives_pairs : batch_Pairs.f 40 [⟨⟨#[97]⟩, [⟨5, ⟨#[]⟩, true⟩]⟩] = some ([⟨⟨#[97, 15, 255, 255, 255, 255, 255, 255, 251]⟩, ⟨#[0]⟩⟩], 0) := by
  have e : itemAt [⟨⟨#[97]⟩, [⟨5, ⟨#[]⟩, true⟩]⟩] 0 = ⟨⟨#[97]⟩, [⟨5, ⟨#[]⟩, true⟩]⟩ := rfl
  unfold batch_Pairs.f
  simp only [List.length_singleton]
  rw [pairsL, e]
  simp only [lives_may, Option.bind_some, if_true]
  rw [if_neg (fun h => absurd h.1 (Nat.lt_irrefl 0)), if_pos (by decide), pairsL]
  simp only [List.nil_append, pairsRow, List.map_cons, List.map_nil, lives_key, lives_val, sortP_one]
theorem lives_same : ambryref10_Same.f 40 [⟨⟨#[97, 15, 255, 255, 255, 255, 255, 255, 251]⟩, ⟨#[0]⟩⟩] [⟨⟨#[97, 15, 255, 255, 255, 255, 255, 255, 251]⟩, ⟨#[0]⟩⟩] = some true := by kernel_rfl
theorem lives_40 : ambrylaw15_lives.f 40 = some true := by
  unfold ambrylaw15_lives.f
  rw [lives_bytes, lives_pairs, lives_read]
  simp only [Option.bind_some]
  rw [lives_same]
  simp only [Option.bind_some, if_true]
  rw [if_pos (by rw [Lib.toList_data])]
theorem lives_ge : ∀ k, 40 ≤ k → ambrylaw15_lives.f k = some true := by
  intro k hk
  obtain ⟨m, rfl⟩ : ∃ m, k = 40 + m := ⟨k - 40, by omega⟩
  clear hk
  induction m with
  | zero => exact lives_40
  | succ m ih => exact ambrylaw15_lives.mono _ _ ih
end Go.Proofs.Ytehcmedeeaoebaa.PB
end
section
namespace Go.Proofs.Ytehcmedeeaoebaa.PB
open Go.RowKit Go.Proofs.YtehcmedeeaoebaaW.PrintWords Go.Proofs.YtehcmedeeaoebaaW.PrintLast Go.Proofs.YtehcmedeeaoebaaW.PrintMore
attribute [local go_sem] max2_int min2_int max_two min_two max_three min_three max_four min_four
set_option linter.unusedVariables false
set_option linter.unusedSimpArgs false
theorem eqA80 (d : Nat) (w : World) (x0 y0 : Int) (x1 y1 : ByteArray) (x2 y2 : Bool) :
    (Op.equalIn (d + 2) 80 (.agg #[.int .i64 x0, .string x1, .bool x2]) (.agg #[.int .i64 y0, .string y1, .bool y2])).run Try.prog w = .ok (x0 == y0 && (x1.toList == y1.toList && (x2 == y2))) w := by
  refine eqA_of Try.underlying80 (by kernel_rfl) ?_
  refine eqf_cons (by rfl) (by go_simp; rfl) (by go_simp; rfl) (by go_simp) ?_
  refine eqf_cons (by rfl) (by go_simp; rfl) (by go_simp; rfl) (by go_simp) ?_
  exact eqf_last (by rfl) (by go_simp; rfl) (by go_simp; rfl) (by go_simp)
end Go.Proofs.Ytehcmedeeaoebaa.PB
end
section
namespace Go.Proofs.Ytehcmedeeaoebaa.PB
open Go.RowKit Go.Proofs.YtehcmedeeaoebaaW.PrintWords Go.Proofs.YtehcmedeeaoebaaW.PrintLast Go.Proofs.YtehcmedeeaoebaaW.PrintMore
attribute [local go_sem] max2_int min2_int max_two min_two max_three min_three max_four min_four
set_option linter.unusedVariables false
set_option linter.unusedSimpArgs false
attribute [local go_sem high] eqA80
def ambryref13_Same.l0 : Nat → List (S80) → List (S80) → Int → Option (Bool)
  | 0, _, _, _ => none
  | k + 1, x0, x1, x5 => if x5 < (x0.length : Int) then (if 0 ≤ x5 then (if x5 < (x1.length : Int) then (if (!(((rd_T80 x0 x5).f0) == ((rd_T80 x1 x5).f0)) || (!((((rd_T80 x0 x5).f1).toList) == (((rd_T80 x1 x5).f1).toList)) || (!(((rd_T80 x0 x5).f2) == ((rd_T80 x1 x5).f2))))) = true then (some false) else (ambryref13_Same.l0 k x0 x1 (wrap64 (x5 + 1)))) else (none)) else (none)) else (some true)
def ambryref13_Same.f (k : Nat) (l0 : List (S80)) (l1 : List (S80)) : Option (Bool) := if (l0.length : Int) = (l1.length : Int) then (ambryref13_Same.l0 k l0 l1 0) else (some false)
theorem ambryref13_Same.mono_l : ∀ k, (∀ y0 y1 y2, LeO (ambryref13_Same.l0 k y0 y1 y2) (ambryref13_Same.l0 (k + 1) y0 y1 y2))
  | 0 => fun _ _ _ r h => by simp [ambryref13_Same.l0] at h
  | k + 1 => by
    have ih0 := ambryref13_Same.mono_l k
    · intro y0 y1 y2
      unfold ambryref13_Same.l0
      repeat' first
      | (with_reducible exact ih0 _ _ _)
      | (with_reducible exact LeO.refl _)
      | (with_reducible exact LeO.none _)
      | (with_reducible refine LeO.ite ?_ ?_)
      | (with_reducible refine LeO.bind ?_ (fun _ => ?_))
      | exact ih0 _ _ _
      | exact LeO.none _
      | refine LeO.ite ?_ ?_
      | refine LeO.bind ?_ (fun _ => ?_)
theorem ambryref13_Same.mono : ∀ a0 a1 k, LeO (ambryref13_Same.f k a0 a1) (ambryref13_Same.f (k + 1) a0 a1) := by
  intro a0 a1 k
  have ih0 := ambryref13_Same.mono_l k
  unfold ambryref13_Same.f
  repeat' first
      | (with_reducible exact ih0 _ _ _)
      | (with_reducible exact LeO.refl _)
      | (with_reducible exact LeO.none _)
      | (with_reducible refine LeO.ite ?_ ?_)
      | (with_reducible refine LeO.bind ?_ (fun _ => ?_))
      | exact ih0 _ _ _
      | exact LeO.none _
      | refine LeO.ite ?_ ?_
      | refine LeO.bind ?_ (fun _ => ?_)
set_option maxHeartbeats 8000000 in
set_option maxRecDepth 100000 in
theorem ambryref13_Same.calls (k : Nat) (A0 : Option Addr) (c0 : Nat) (l0 : List (S80)) (A1 : Option Addr) (c1 : Nat) (l1 : List (S80)) (r : Bool) (w : World) (hr0 : Kd.C k80 w A0 l0.length l0) (hc0 : l0.length ≤ c0) (hr1 : Kd.C k80 w A1 l1.length l1) (hc1 : l1.length ≤ c1) (h : ambryref13_Same.f k l0 l1 = some r) :
    Calls Try.prog 62 #[.slice A0 l0.length c0, .slice A1 l1.length c1] w fun e w' => e = .returned (.bool r) ∧ Drawn0 w w' := by
  have hu80 := Try.underlying80
  have HR0 := Aside0.mk hr0
  have HC0 := Aside0.mk hc0
  clear hr0 hc0
  have HR1 := Aside0.mk hr1
  have HC1 := Aside0.mk hc1
  clear hr1 hc1
  have H : (if (l0.length : Int) = (l1.length : Int) then (ambryref13_Same.l0 k l0 l1 0) else (some false)) = some r := h
  clear h
  by_cases c3 : (l0.length : Int) = (l1.length : Int)
  · rw [if_pos c3] at H
    have c3b0 : ((l0.length : Int) == (l1.length : Int)) = true := beq_iff_eq.mpr c3
    have c3b1 : ((l0.length : Int) != (l1.length : Int)) = false := bne_eq_false_iff_eq.mpr c3
    have c3b2 : (l0.length == l1.length) = true := by first | simpa using c3 | (simp at c3 ⊢; omega)
    clear c3
    have H' := Aside0.mk H
    clear H
    go_enter Try.func62, Try.ntmps62
    go_wp2
    repeat (go_quiet (fail); try go_wp2)
    go_loopg [5] k (fun kq v5 w' => ∃ (x5_1 : Int), v5 = .int .i64 x5_1 ∧ Aside0 (ambryref13_Same.l0 kq l0 l1 x5_1 = some r) ∧ Aside0 (kq ≤ k) ∧ Drawn0 w w')
    case atStart => exact ⟨(0), (by first | rfl | (simp; done) | (simp [*]; done)), H', ⟨Nat.le_refl _⟩, by repeat (first | exact Drawn0.refl _ | apply Drawn0.step)⟩
    case round =>
      clear H'
      try clear c1
      try clear p2
      try clear c3
      try clear c3b0
      try clear c3b1
      try clear c3b2
      obtain ⟨x5_1, rfl, HA, HK1, ⟨m1, rfl⟩⟩ := hrel
      cases gk with
      | zero => exact absurd HA.out (by simp [ambryref13_Same.l0])
      | succ k1 =>
        have H := HA.out
        clear HA
        simp only [ambryref13_Same.l0] at H
        by_cases c4 : x5_1 < (l0.length : Int)
        · rw [if_pos c4] at H
          have c4b0 : decide (x5_1 < (l0.length : Int)) = true := decide_eq_true c4
          clear c4
          by_cases c5 : 0 ≤ x5_1
          · rw [if_pos c5] at H
            have c5b0 : decide (0 ≤ x5_1) = true := decide_eq_true c5
            clear c5
            by_cases c6 : x5_1 < (l1.length : Int)
            · rw [if_pos c6] at H
              have c6b0 : decide (x5_1 < (l1.length : Int)) = true := decide_eq_true c6
              clear c6
              by_cases c7 : (!(((rd_T80 l0 x5_1).f0) == ((rd_T80 l1 x5_1).f0)) || (!((((rd_T80 l0 x5_1).f1).toList) == (((rd_T80 l1 x5_1).f1).toList)) || (!(((rd_T80 l0 x5_1).f2) == ((rd_T80 l1 x5_1).f2))))) = true
              · rw [if_pos c7] at H
                have c7b0 : (!(((rd_T80 l0 x5_1).f0) == ((rd_T80 l1 x5_1).f0)) || (!((((rd_T80 l0 x5_1).f1).toList) == (((rd_T80 l1 x5_1).f1).toList)) || (!(((rd_T80 l0 x5_1).f2) == ((rd_T80 l1 x5_1).f2))))) = true := c7
                clear c7
                obtain rfl := Option.some.inj H
                have p559 : 0 ≤ (x5_1 : Int) := of_decide_eq_true (by first | (with_reducible assumption) | assumption)
                have q559 : x5_1 < (l0.length : Int) := of_decide_eq_true (by first | (with_reducible assumption) | assumption)
                obtain ⟨ad559, e559, hx559_0, hx559_1, hx559_2⟩ := at_T80 HR0.out x5_1 p559 q559
                cases e559
                replace p559 := eq_true p559
                replace q559 := eq_true q559
                have p560 : 0 ≤ (x5_1 : Int) := of_decide_eq_true (by first | (with_reducible assumption) | assumption)
                have q560 : x5_1 < (l1.length : Int) := of_decide_eq_true (by first | (with_reducible assumption) | assumption)
                obtain ⟨ad560, e560, hx560_0, hx560_1, hx560_2⟩ := at_T80 HR1.out x5_1 p560 q560
                cases e560
                replace p560 := eq_true p560
                replace q560 := eq_true q560
                go_wp2
                repeat (go_quiet (fail); try go_wp2)
                go_ret
                exact ⟨by first | rfl | (simp; done) | (simp [*]; done), by repeat (first | exact Drawn0.refl _ | apply Drawn0.step)⟩
              · rw [if_neg c7] at H
                have c7b0 : (!(((rd_T80 l0 x5_1).f0) == ((rd_T80 l1 x5_1).f0)) || (!((((rd_T80 l0 x5_1).f1).toList) == (((rd_T80 l1 x5_1).f1).toList)) || (!(((rd_T80 l0 x5_1).f2) == ((rd_T80 l1 x5_1).f2))))) = false := by simpa using c7
                clear c7
                have H' := Aside0.mk H
                clear H
                have p559 : 0 ≤ (x5_1 : Int) := of_decide_eq_true (by first | (with_reducible assumption) | assumption)
                have q559 : x5_1 < (l0.length : Int) := of_decide_eq_true (by first | (with_reducible assumption) | assumption)
                obtain ⟨ad559, e559, hx559_0, hx559_1, hx559_2⟩ := at_T80 HR0.out x5_1 p559 q559
                cases e559
                replace p559 := eq_true p559
                replace q559 := eq_true q559
                have p560 : 0 ≤ (x5_1 : Int) := of_decide_eq_true (by first | (with_reducible assumption) | assumption)
                have q560 : x5_1 < (l1.length : Int) := of_decide_eq_true (by first | (with_reducible assumption) | assumption)
                obtain ⟨ad560, e560, hx560_0, hx560_1, hx560_2⟩ := at_T80 HR1.out x5_1 p560 q560
                cases e560
                replace p560 := eq_true p560
                replace q560 := eq_true q560
                go_wp2
                repeat (go_quiet (fail); try go_wp2)
                go_roundg k1
                case measure => have := HK1.out; omega
                case rel => exact ⟨(wrap64 (x5_1 + 1)), (by first | rfl | (simp; done) | (simp [*]; done)), H', ⟨by have := HK1.out; omega⟩, by repeat (first | exact Drawn0.refl _ | apply Drawn0.step)⟩
            · rw [if_neg c6] at H
              exact absurd H (by simp)
          · rw [if_neg c5] at H
            exact absurd H (by simp)
        · rw [if_neg c4] at H
          have c4b0 : decide (x5_1 < (l0.length : Int)) = false := decide_eq_false c4
          clear c4
          obtain rfl := Option.some.inj H
          go_wp2
          repeat (go_quiet (fail); try go_wp2)
          go_ret
          exact ⟨by first | rfl | (simp; done) | (simp [*]; done), by repeat (first | exact Drawn0.refl _ | apply Drawn0.step)⟩
  · rw [if_neg c3] at H
    have c3b0 : ((l0.length : Int) == (l1.length : Int)) = false := beq_eq_false_iff_ne.mpr c3
    have c3b1 : ((l0.length : Int) != (l1.length : Int)) = true := bne_iff_ne.mpr c3
    have c3b2 : (l0.length == l1.length) = false := by first | simpa using c3 | (simp at c3 ⊢; omega)
    obtain rfl := Option.some.inj H
    go_enter Try.func62, Try.ntmps62
    go_wp2
    repeat (go_quiet (fail); try go_wp2)
    go_ret
    exact ⟨by first | rfl | (simp; done) | (simp [*]; done), by repeat (first | exact Drawn0.refl _ | apply Drawn0.step)⟩
end Go.Proofs.Ytehcmedeeaoebaa.PB
end
section
namespace Go.Proofs.Ytehcmedeeaoebaa.PB
open Go.RowKit Go.Proofs.YtehcmedeeaoebaaW.PrintWords Go.Proofs.YtehcmedeeaoebaaW.PrintLast Go.Proofs.YtehcmedeeaoebaaW.PrintMore
attribute [local go_sem] max2_int min2_int max_two min_two max_three min_three max_four min_four
set_option linter.unusedVariables false
set_option linter.unusedSimpArgs false
def ambryref14_Same.l0 : Nat → List (S67) → List (S67) → Int → Option (Bool)
  | 0, _, _, _ => none
  | k + 1, x0, x1, x5 => if x5 < (x0.length : Int) then (if 0 ≤ x5 then (if x5 < (x1.length : Int) then (if ((rd_T67 x0 x5).f0).toList = ((rd_T67 x1 x5).f0).toList then ((ambryref13_Same.f k ((rd_T67 x0 x5).f1) ((rd_T67 x1 x5).f1)).bind fun t565 => (if t565 = true then (ambryref14_Same.l0 k x0 x1 (wrap64 (x5 + 1))) else (some false))) else (some false)) else (none)) else (none)) else (some true)
def ambryref14_Same.f (k : Nat) (l0 : List (S67)) (l1 : List (S67)) : Option (Bool) := if (l0.length : Int) = (l1.length : Int) then (ambryref14_Same.l0 k l0 l1 0) else (some false)
theorem ambryref14_Same.mono_l : ∀ k, (∀ y0 y1 y2, LeO (ambryref14_Same.l0 k y0 y1 y2) (ambryref14_Same.l0 (k + 1) y0 y1 y2))
  | 0 => fun _ _ _ r h => by simp [ambryref14_Same.l0] at h
  | k + 1 => by
    have ih0 := ambryref14_Same.mono_l k
    · intro y0 y1 y2
      unfold ambryref14_Same.l0
      repeat' first
      | (with_reducible exact ih0 _ _ _)
      | (with_reducible exact ambryref13_Same.mono _ _ _)
      | (with_reducible exact LeO.refl _)
      | (with_reducible exact LeO.none _)
      | (with_reducible refine LeO.ite ?_ ?_)
      | (with_reducible refine LeO.bind ?_ (fun _ => ?_))
      | exact ih0 _ _ _
      | exact ambryref13_Same.mono _ _ _
      | exact LeO.none _
      | refine LeO.ite ?_ ?_
      | refine LeO.bind ?_ (fun _ => ?_)
theorem ambryref14_Same.mono : ∀ a0 a1 k, LeO (ambryref14_Same.f k a0 a1) (ambryref14_Same.f (k + 1) a0 a1) := by
  intro a0 a1 k
  have ih0 := ambryref14_Same.mono_l k
  unfold ambryref14_Same.f
  repeat' first
      | (with_reducible exact ih0 _ _ _)
      | (with_reducible exact ambryref13_Same.mono _ _ _)
      | (with_reducible exact LeO.refl _)
      | (with_reducible exact LeO.none _)
      | (with_reducible refine LeO.ite ?_ ?_)
      | (with_reducible refine LeO.bind ?_ (fun _ => ?_))
      | exact ih0 _ _ _
      | exact ambryref13_Same.mono _ _ _
      | exact LeO.none _
      | refine LeO.ite ?_ ?_
      | refine LeO.bind ?_ (fun _ => ?_)
set_option maxHeartbeats 8000000 in
set_option maxRecDepth 100000 in
theorem ambryref14_Same.calls (k : Nat) (A0 : Option Addr) (c0 : Nat) (l0 : List (S67)) (A1 : Option Addr) (c1 : Nat) (l1 : List (S67)) (r : Bool) (w : World) (hr0 : Kd.C k67 w A0 l0.length l0) (hc0 : l0.length ≤ c0) (hr1 : Kd.C k67 w A1 l1.length l1) (hc1 : l1.length ≤ c1) (h : ambryref14_Same.f k l0 l1 = some r) :
    Calls Try.prog 32 #[.slice A0 l0.length c0, .slice A1 l1.length c1] w fun e w' => e = .returned (.bool r) ∧ Drawn0 w w' := by
  have HR0 := Aside0.mk hr0
  have HC0 := Aside0.mk hc0
  clear hr0 hc0
  have HR1 := Aside0.mk hr1
  have HC1 := Aside0.mk hc1
  clear hr1 hc1
  have H : (if (l0.length : Int) = (l1.length : Int) then (ambryref14_Same.l0 k l0 l1 0) else (some false)) = some r := h
  clear h
  by_cases c3 : (l0.length : Int) = (l1.length : Int)
  · rw [if_pos c3] at H
    have c3b0 : ((l0.length : Int) == (l1.length : Int)) = true := beq_iff_eq.mpr c3
    have c3b1 : ((l0.length : Int) != (l1.length : Int)) = false := bne_eq_false_iff_eq.mpr c3
    have c3b2 : (l0.length == l1.length) = true := by first | simpa using c3 | (simp at c3 ⊢; omega)
    clear c3
    have H' := Aside0.mk H
    clear H
    go_enter Try.func32, Try.ntmps32
    go_wp2
    repeat (go_quiet (fail); try go_wp2)
    go_loopg [5] k (fun kq v5 w' => ∃ (x5_1 : Int), v5 = .int .i64 x5_1 ∧ Aside0 (ambryref14_Same.l0 kq l0 l1 x5_1 = some r) ∧ Aside0 (kq ≤ k) ∧ Drawn0 w w')
    case atStart => exact ⟨(0), (by first | rfl | (simp; done) | (simp [*]; done)), H', ⟨Nat.le_refl _⟩, by repeat (first | exact Drawn0.refl _ | apply Drawn0.step)⟩
    case round =>
      clear H'
      try clear c1
      try clear p2
      try clear c3
      try clear c3b0
      try clear c3b1
      try clear c3b2
      obtain ⟨x5_1, rfl, HA, HK1, ⟨m1, rfl⟩⟩ := hrel
      cases gk with
      | zero => exact absurd HA.out (by simp [ambryref14_Same.l0])
      | succ k1 =>
        have H := HA.out
        clear HA
        simp only [ambryref14_Same.l0] at H
        by_cases c4 : x5_1 < (l0.length : Int)
        · rw [if_pos c4] at H
          have c4b0 : decide (x5_1 < (l0.length : Int)) = true := decide_eq_true c4
          clear c4
          by_cases c5 : 0 ≤ x5_1
          · rw [if_pos c5] at H
            have c5b0 : decide (0 ≤ x5_1) = true := decide_eq_true c5
            clear c5
            by_cases c6 : x5_1 < (l1.length : Int)
            · rw [if_pos c6] at H
              have c6b0 : decide (x5_1 < (l1.length : Int)) = true := decide_eq_true c6
              clear c6
              by_cases c7 : ((rd_T67 l0 x5_1).f0).toList = ((rd_T67 l1 x5_1).f0).toList
              · rw [if_pos c7] at H
                have c7b0 : (((rd_T67 l0 x5_1).f0).toList == ((rd_T67 l1 x5_1).f0).toList) = true := beq_iff_eq.mpr c7
                have c7b1 : (((rd_T67 l0 x5_1).f0).toList != ((rd_T67 l1 x5_1).f0).toList) = false := bne_eq_false_iff_eq.mpr c7
                clear c7
                replace H := Option.bind_eq_some_iff.mp H
                obtain ⟨t565, A80, H⟩ := H
                replace H : (if t565 = true then (ambryref14_Same.l0 k1 l0 l1 (wrap64 (x5_1 + 1))) else (some false)) = some r := H
                have A8 := Aside0.mk A80
                clear A80
                by_cases c9 : t565 = true
                · subst c9
                  have H1 : (ambryref14_Same.l0 k1 l0 l1 (wrap64 (x5_1 + 1))) = some r := by rw [if_pos rfl] at H; exact H
                  clear H
                  have H := H1
                  clear H1
                  have H' := Aside0.mk H
                  clear H
                  have p561 : 0 ≤ (x5_1 : Int) := of_decide_eq_true (by first | (with_reducible assumption) | assumption)
                  have q561 : x5_1 < (l0.length : Int) := of_decide_eq_true (by first | (with_reducible assumption) | assumption)
                  obtain ⟨ad561, A561_1, c561_1, e561, hx561_0, hx561_1, hl561_1, hi561_1⟩ := at_T67 HR0.out x5_1 p561 q561
                  cases e561
                  have HR561_1 := Aside0.mk hi561_1
                  have HC561_1 := Aside0.mk hl561_1
                  clear hi561_1 hl561_1
                  replace p561 := eq_true p561
                  replace q561 := eq_true q561
                  have p562 : 0 ≤ (x5_1 : Int) := of_decide_eq_true (by first | (with_reducible assumption) | assumption)
                  have q562 : x5_1 < (l1.length : Int) := of_decide_eq_true (by first | (with_reducible assumption) | assumption)
                  obtain ⟨ad562, A562_1, c562_1, e562, hx562_0, hx562_1, hl562_1, hi562_1⟩ := at_T67 HR1.out x5_1 p562 q562
                  cases e562
                  have HR562_1 := Aside0.mk hi562_1
                  have HC562_1 := Aside0.mk hl562_1
                  clear hi562_1 hl562_1
                  replace p562 := eq_true p562
                  replace q562 := eq_true q562
                  have p563 : 0 ≤ (x5_1 : Int) := of_decide_eq_true (by first | (with_reducible assumption) | assumption)
                  have q563 : x5_1 < (l0.length : Int) := of_decide_eq_true (by first | (with_reducible assumption) | assumption)
                  obtain ⟨ad563, A563_1, c563_1, e563, hx563_0, hx563_1, hl563_1, hi563_1⟩ := at_T67 HR0.out x5_1 p563 q563
                  obtain rfl : ad561 = ad563 := (by injection e563)
                  have HR563_1 := Aside0.mk hi563_1
                  have HC563_1 := Aside0.mk hl563_1
                  clear hi563_1 hl563_1
                  replace p563 := eq_true p563
                  replace q563 := eq_true q563
                  have ea_ := Option.some.inj (hx561_1.symm.trans hx563_1)
                  injection ea_ with ea_ en_ ec_
                  subst ea_
                  subst ec_
                  clear en_
                  have p564 : 0 ≤ (x5_1 : Int) := of_decide_eq_true (by first | (with_reducible assumption) | assumption)
                  have q564 : x5_1 < (l1.length : Int) := of_decide_eq_true (by first | (with_reducible assumption) | assumption)
                  obtain ⟨ad564, A564_1, c564_1, e564, hx564_0, hx564_1, hl564_1, hi564_1⟩ := at_T67 HR1.out x5_1 p564 q564
                  obtain rfl : ad562 = ad564 := (by injection e564)
                  have HR564_1 := Aside0.mk hi564_1
                  have HC564_1 := Aside0.mk hl564_1
                  clear hi564_1 hl564_1
                  replace p564 := eq_true p564
                  replace q564 := eq_true q564
                  have ea_ := Option.some.inj (hx562_1.symm.trans hx564_1)
                  injection ea_ with ea_ en_ ec_
                  subst ea_
                  subst ec_
                  clear en_
                  go_wp2_with (first | (go_at_call 62; (with_reducible refine (ambryref13_Same.calls k1 _ _ ((rd_T67 l0 x5_1).f1) _ _ ((rd_T67 l1 x5_1).f1) true _ ?side1 ?side2 ?side3 ?side4 A8.out).mono ?_); (case side1 => repeat (first | exact HR563_1.out | (with_reducible refine Kd.C_alloc ?_ _) | (with_reducible refine Kd.C_drewN ?_ _) | (with_reducible refine Kd.C_drew ?_))); (case side2 => exact HC563_1.out); (case side3 => repeat (first | exact HR564_1.out | (with_reducible refine Kd.C_alloc ?_ _) | (with_reducible refine Kd.C_drewN ?_ _) | (with_reducible refine Kd.C_drew ?_))); (case side4 => exact HC564_1.out); rintro e w' ⟨rfl, ⟨nd, rfl⟩⟩; (try first | exact ⟨rfl, _, World.drewN_drewN _ _ _⟩ | exact ⟨rfl, _, Eq.trans (World.drewN_drewN _ _ _) (congrArg (World.drewN _) (Nat.add_assoc _ _ _))⟩)))
                  repeat (go_quiet (first | (go_at_call 62; (with_reducible refine (ambryref13_Same.calls k1 _ _ ((rd_T67 l0 x5_1).f1) _ _ ((rd_T67 l1 x5_1).f1) true _ ?side1 ?side2 ?side3 ?side4 A8.out).mono ?_); (case side1 => repeat (first | exact HR563_1.out | (with_reducible refine Kd.C_alloc ?_ _) | (with_reducible refine Kd.C_drewN ?_ _) | (with_reducible refine Kd.C_drew ?_))); (case side2 => exact HC563_1.out); (case side3 => repeat (first | exact HR564_1.out | (with_reducible refine Kd.C_alloc ?_ _) | (with_reducible refine Kd.C_drewN ?_ _) | (with_reducible refine Kd.C_drew ?_))); (case side4 => exact HC564_1.out); rintro e w' ⟨rfl, ⟨nd, rfl⟩⟩; (try first | exact ⟨rfl, _, World.drewN_drewN _ _ _⟩ | exact ⟨rfl, _, Eq.trans (World.drewN_drewN _ _ _) (congrArg (World.drewN _) (Nat.add_assoc _ _ _))⟩))); try go_wp2_with (first | (go_at_call 62; (with_reducible refine (ambryref13_Same.calls k1 _ _ ((rd_T67 l0 x5_1).f1) _ _ ((rd_T67 l1 x5_1).f1) true _ ?side1 ?side2 ?side3 ?side4 A8.out).mono ?_); (case side1 => repeat (first | exact HR563_1.out | (with_reducible refine Kd.C_alloc ?_ _) | (with_reducible refine Kd.C_drewN ?_ _) | (with_reducible refine Kd.C_drew ?_))); (case side2 => exact HC563_1.out); (case side3 => repeat (first | exact HR564_1.out | (with_reducible refine Kd.C_alloc ?_ _) | (with_reducible refine Kd.C_drewN ?_ _) | (with_reducible refine Kd.C_drew ?_))); (case side4 => exact HC564_1.out); rintro e w' ⟨rfl, ⟨nd, rfl⟩⟩; (try first | exact ⟨rfl, _, World.drewN_drewN _ _ _⟩ | exact ⟨rfl, _, Eq.trans (World.drewN_drewN _ _ _) (congrArg (World.drewN _) (Nat.add_assoc _ _ _))⟩))))
                  go_roundg k1
                  case measure => have := HK1.out; omega
                  case rel => exact ⟨(wrap64 (x5_1 + 1)), (by first | rfl | (simp; done) | (simp [*]; done)), H', ⟨by have := HK1.out; omega⟩, by repeat (first | exact Drawn0.refl _ | apply Drawn0.step)⟩
                · replace c9 := Bool.eq_false_iff.mpr c9
                  subst c9
                  have H1 : (some false) = some r := by rw [if_neg (show ¬ (false = true) by decide)] at H; exact H
                  clear H
                  have H := H1
                  clear H1
                  obtain rfl := Option.some.inj H
                  have p561 : 0 ≤ (x5_1 : Int) := of_decide_eq_true (by first | (with_reducible assumption) | assumption)
                  have q561 : x5_1 < (l0.length : Int) := of_decide_eq_true (by first | (with_reducible assumption) | assumption)
                  obtain ⟨ad561, A561_1, c561_1, e561, hx561_0, hx561_1, hl561_1, hi561_1⟩ := at_T67 HR0.out x5_1 p561 q561
                  cases e561
                  have HR561_1 := Aside0.mk hi561_1
                  have HC561_1 := Aside0.mk hl561_1
                  clear hi561_1 hl561_1
                  replace p561 := eq_true p561
                  replace q561 := eq_true q561
                  have p562 : 0 ≤ (x5_1 : Int) := of_decide_eq_true (by first | (with_reducible assumption) | assumption)
                  have q562 : x5_1 < (l1.length : Int) := of_decide_eq_true (by first | (with_reducible assumption) | assumption)
                  obtain ⟨ad562, A562_1, c562_1, e562, hx562_0, hx562_1, hl562_1, hi562_1⟩ := at_T67 HR1.out x5_1 p562 q562
                  cases e562
                  have HR562_1 := Aside0.mk hi562_1
                  have HC562_1 := Aside0.mk hl562_1
                  clear hi562_1 hl562_1
                  replace p562 := eq_true p562
                  replace q562 := eq_true q562
                  have p563 : 0 ≤ (x5_1 : Int) := of_decide_eq_true (by first | (with_reducible assumption) | assumption)
                  have q563 : x5_1 < (l0.length : Int) := of_decide_eq_true (by first | (with_reducible assumption) | assumption)
                  obtain ⟨ad563, A563_1, c563_1, e563, hx563_0, hx563_1, hl563_1, hi563_1⟩ := at_T67 HR0.out x5_1 p563 q563
                  obtain rfl : ad561 = ad563 := (by injection e563)
                  have HR563_1 := Aside0.mk hi563_1
                  have HC563_1 := Aside0.mk hl563_1
                  clear hi563_1 hl563_1
                  replace p563 := eq_true p563
                  replace q563 := eq_true q563
                  have ea_ := Option.some.inj (hx561_1.symm.trans hx563_1)
                  injection ea_ with ea_ en_ ec_
                  subst ea_
                  subst ec_
                  clear en_
                  have p564 : 0 ≤ (x5_1 : Int) := of_decide_eq_true (by first | (with_reducible assumption) | assumption)
                  have q564 : x5_1 < (l1.length : Int) := of_decide_eq_true (by first | (with_reducible assumption) | assumption)
                  obtain ⟨ad564, A564_1, c564_1, e564, hx564_0, hx564_1, hl564_1, hi564_1⟩ := at_T67 HR1.out x5_1 p564 q564
                  obtain rfl : ad562 = ad564 := (by injection e564)
                  have HR564_1 := Aside0.mk hi564_1
                  have HC564_1 := Aside0.mk hl564_1
                  clear hi564_1 hl564_1
                  replace p564 := eq_true p564
                  replace q564 := eq_true q564
                  have ea_ := Option.some.inj (hx562_1.symm.trans hx564_1)
                  injection ea_ with ea_ en_ ec_
                  subst ea_
                  subst ec_
                  clear en_
                  go_wp2_with (first | (go_at_call 62; (with_reducible refine (ambryref13_Same.calls k1 _ _ ((rd_T67 l0 x5_1).f1) _ _ ((rd_T67 l1 x5_1).f1) false _ ?side1 ?side2 ?side3 ?side4 A8.out).mono ?_); (case side1 => repeat (first | exact HR563_1.out | (with_reducible refine Kd.C_alloc ?_ _) | (with_reducible refine Kd.C_drewN ?_ _) | (with_reducible refine Kd.C_drew ?_))); (case side2 => exact HC563_1.out); (case side3 => repeat (first | exact HR564_1.out | (with_reducible refine Kd.C_alloc ?_ _) | (with_reducible refine Kd.C_drewN ?_ _) | (with_reducible refine Kd.C_drew ?_))); (case side4 => exact HC564_1.out); rintro e w' ⟨rfl, ⟨nd, rfl⟩⟩; (try first | exact ⟨rfl, _, World.drewN_drewN _ _ _⟩ | exact ⟨rfl, _, Eq.trans (World.drewN_drewN _ _ _) (congrArg (World.drewN _) (Nat.add_assoc _ _ _))⟩)))
                  repeat (go_quiet (first | (go_at_call 62; (with_reducible refine (ambryref13_Same.calls k1 _ _ ((rd_T67 l0 x5_1).f1) _ _ ((rd_T67 l1 x5_1).f1) false _ ?side1 ?side2 ?side3 ?side4 A8.out).mono ?_); (case side1 => repeat (first | exact HR563_1.out | (with_reducible refine Kd.C_alloc ?_ _) | (with_reducible refine Kd.C_drewN ?_ _) | (with_reducible refine Kd.C_drew ?_))); (case side2 => exact HC563_1.out); (case side3 => repeat (first | exact HR564_1.out | (with_reducible refine Kd.C_alloc ?_ _) | (with_reducible refine Kd.C_drewN ?_ _) | (with_reducible refine Kd.C_drew ?_))); (case side4 => exact HC564_1.out); rintro e w' ⟨rfl, ⟨nd, rfl⟩⟩; (try first | exact ⟨rfl, _, World.drewN_drewN _ _ _⟩ | exact ⟨rfl, _, Eq.trans (World.drewN_drewN _ _ _) (congrArg (World.drewN _) (Nat.add_assoc _ _ _))⟩))); try go_wp2_with (first | (go_at_call 62; (with_reducible refine (ambryref13_Same.calls k1 _ _ ((rd_T67 l0 x5_1).f1) _ _ ((rd_T67 l1 x5_1).f1) false _ ?side1 ?side2 ?side3 ?side4 A8.out).mono ?_); (case side1 => repeat (first | exact HR563_1.out | (with_reducible refine Kd.C_alloc ?_ _) | (with_reducible refine Kd.C_drewN ?_ _) | (with_reducible refine Kd.C_drew ?_))); (case side2 => exact HC563_1.out); (case side3 => repeat (first | exact HR564_1.out | (with_reducible refine Kd.C_alloc ?_ _) | (with_reducible refine Kd.C_drewN ?_ _) | (with_reducible refine Kd.C_drew ?_))); (case side4 => exact HC564_1.out); rintro e w' ⟨rfl, ⟨nd, rfl⟩⟩; (try first | exact ⟨rfl, _, World.drewN_drewN _ _ _⟩ | exact ⟨rfl, _, Eq.trans (World.drewN_drewN _ _ _) (congrArg (World.drewN _) (Nat.add_assoc _ _ _))⟩))))
                  go_ret
                  exact ⟨by first | rfl | (simp; done) | (simp [*]; done), by repeat (first | exact Drawn0.refl _ | apply Drawn0.step)⟩
              · rw [if_neg c7] at H
                have c7b0 : (((rd_T67 l0 x5_1).f0).toList == ((rd_T67 l1 x5_1).f0).toList) = false := beq_eq_false_iff_ne.mpr c7
                have c7b1 : (((rd_T67 l0 x5_1).f0).toList != ((rd_T67 l1 x5_1).f0).toList) = true := bne_iff_ne.mpr c7
                obtain rfl := Option.some.inj H
                have p561 : 0 ≤ (x5_1 : Int) := of_decide_eq_true (by first | (with_reducible assumption) | assumption)
                have q561 : x5_1 < (l0.length : Int) := of_decide_eq_true (by first | (with_reducible assumption) | assumption)
                obtain ⟨ad561, A561_1, c561_1, e561, hx561_0, hx561_1, hl561_1, hi561_1⟩ := at_T67 HR0.out x5_1 p561 q561
                cases e561
                have HR561_1 := Aside0.mk hi561_1
                have HC561_1 := Aside0.mk hl561_1
                clear hi561_1 hl561_1
                replace p561 := eq_true p561
                replace q561 := eq_true q561
                have p562 : 0 ≤ (x5_1 : Int) := of_decide_eq_true (by first | (with_reducible assumption) | assumption)
                have q562 : x5_1 < (l1.length : Int) := of_decide_eq_true (by first | (with_reducible assumption) | assumption)
                obtain ⟨ad562, A562_1, c562_1, e562, hx562_0, hx562_1, hl562_1, hi562_1⟩ := at_T67 HR1.out x5_1 p562 q562
                cases e562
                have HR562_1 := Aside0.mk hi562_1
                have HC562_1 := Aside0.mk hl562_1
                clear hi562_1 hl562_1
                replace p562 := eq_true p562
                replace q562 := eq_true q562
                go_wp2
                repeat (go_quiet (fail); try go_wp2)
                go_ret
                exact ⟨by first | rfl | (simp; done) | (simp [*]; done), by repeat (first | exact Drawn0.refl _ | apply Drawn0.step)⟩
            · rw [if_neg c6] at H
              exact absurd H (by simp)
          · rw [if_neg c5] at H
            exact absurd H (by simp)
        · rw [if_neg c4] at H
          have c4b0 : decide (x5_1 < (l0.length : Int)) = false := decide_eq_false c4
          clear c4
          obtain rfl := Option.some.inj H
          go_wp2
          repeat (go_quiet (fail); try go_wp2)
          go_ret
          exact ⟨by first | rfl | (simp; done) | (simp [*]; done), by repeat (first | exact Drawn0.refl _ | apply Drawn0.step)⟩
  · rw [if_neg c3] at H
    have c3b0 : ((l0.length : Int) == (l1.length : Int)) = false := beq_eq_false_iff_ne.mpr c3
    have c3b1 : ((l0.length : Int) != (l1.length : Int)) = true := bne_iff_ne.mpr c3
    have c3b2 : (l0.length == l1.length) = false := by first | simpa using c3 | (simp at c3 ⊢; omega)
    obtain rfl := Option.some.inj H
    go_enter Try.func32, Try.ntmps32
    go_wp2
    repeat (go_quiet (fail); try go_wp2)
    go_ret
    exact ⟨by first | rfl | (simp; done) | (simp [*]; done), by repeat (first | exact Drawn0.refl _ | apply Drawn0.step)⟩
end Go.Proofs.Ytehcmedeeaoebaa.PB
end
section
namespace Go.Proofs.Ytehcmedeeaoebaa.PB
open Go.RowKit Go.Proofs.YtehcmedeeaoebaaW.PrintWords Go.Proofs.YtehcmedeeaoebaaW.PrintLast Go.Proofs.YtehcmedeeaoebaaW.PrintMore
set_option linter.unusedVariables false
set_option linter.unusedSimpArgs false
theorem Lives9.calls (w : World) : Calls Try.prog 13 #[] w fun e w' => e = .returned (.bool true) ∧ Below w.heap.size w w' := ambrylaw15_lives.calls 40 true w lives_40
theorem Few9.calls (l : List S67) (b : Bool) (h : ∃ q, ambrylaw15_few.f q l = some b) (A : Option Addr) (c : Nat) (w : World) (hC : Kd.C k67 w A l.length l) (hc : l.length ≤ c) :
    Calls Try.prog 27 #[.slice A l.length c] w fun e w' => e = .returned (.bool b) ∧ Below w.heap.size w w' := by
  obtain ⟨q, hq⟩ := h
  exact (ambrylaw15_few.calls q A c l b w hC hc hq).mono fun e w' ⟨he, n, hn⟩ => ⟨he, by subst hn; exact pw_below_drewN (Below.refl _ _) n⟩
theorem Same9.calls (l m : List S67) (h : ∃ q, ambryref14_Same.f q m l = some true) (A : Option Addr) (c : Nat) (A' : Option Addr) (c' : Nat) (w : World) (hC : Kd.C k67 w A m.length m) (hc : m.length ≤ c) (hC' : Kd.C k67 w A' l.length l) (hc' : l.length ≤ c') :
    Calls Try.prog 32 #[.slice A m.length c, .slice A' l.length c'] w fun e w' => e = .returned (.bool true) ∧ Below w.heap.size w w' := by
  obtain ⟨q, hq⟩ := h
  exact (ambryref14_Same.calls q A c m A' c' l true w hC hc hC' hc' hq).mono fun e w' ⟨he, n, hn⟩ => ⟨he, by subst hn; exact pw_below_drewN (Below.refl _ _) n⟩
def cntV (l : List S67) : Nat := (l.map fun x => x.f1.length).sum
def Owes9 (P : List S69) : Prop := ∀ i, (hi : i < P.length) → 8 ≤ P[i].f0.size ∧ P[i].f0.size ≤ 128 ∧ 1 ≤ P[i].f1.size ∧ P[i].f1.size ≤ 200 ∧ ((h0 : 0 < i) → ltS (P[i - 1]'(by omega)).f0 P[i].f0 = true)
set_option maxHeartbeats 16000000 in
set_option maxRecDepth 100000 in
theorem Items.walk (l : List S67) (b : Bool) (hfew : ∃ q, ambrylaw15_few.f q l = some b) (hall : b = true → ∃ qp P e, batch_Pairs.f qp l = some (P, e) ∧ ((e = 2 ∧ P = []) ∨ (e = 0 ∧ Owes9 P ∧ cntV l = P.length ∧ P.length < 300 ∧ l.length < 300 ∧ (∃ qi, batch_Items.f qi P = some (l, 0)) ∧ ∃ q, ambryref14_Same.f q l l = some true)))
    (A : Option Addr) (c : Nat) (w : World) (hC : Kd.C k67 w A l.length l) (hc : l.length ≤ c) :
    Calls Try.prog 9 #[.slice A l.length c] w fun e w' => e = .returned (.bool true) ∧ Below w.heap.size w w' := by
  have HB := Aside0.mk (Below.refl w.heap.size w)
  have HL := Aside0.mk hC
  have HLC := Aside0.mk hc
  have HFEW := Aside0.mk hfew
  clear hC hc hfew
  cases b with
  | false =>
    clear hall
    go_enter Try.func9, Try.ntmps9
    go_wp2_with (first | (go_at_call 27; (with_reducible refine (Few9.calls l false HFEW.out A c _ HL.out HLC.out).mono ?_); rintro e w1 ⟨rfl, hb⟩; have k0_ := Aside0.mk (Kd.C_below HL.out hb); clear HL; have HL := k0_; clear k0_; have d_ := Aside0.mk (below_then HB.out HB.out.size hb); clear HB; have HB := d_; clear d_; clear hb) | (go_at_call 13; (with_reducible refine (Lives9.calls _).mono ?_); rintro e w9 ⟨rfl, hb⟩; have d_ := Aside0.mk (below_then HB.out HB.out.size hb); clear HB; have HB := d_; clear d_; clear hb))
    go_ret
    exact ⟨rfl, HB.out⟩
  | true =>
    obtain ⟨qp, P, e0, hpf, hcase⟩ := hall rfl
    have HPF := Aside0.mk hpf
    clear hall hpf
    rcases hcase with ⟨rfl, rfl⟩ | ⟨rfl, how, hcnt, hps, hls, ⟨qi, hif⟩, hsf⟩
    · go_enter Try.func9, Try.ntmps9
      go_wp2_with (first | (go_at_call 27; (with_reducible refine (Few9.calls l true HFEW.out A c _ HL.out HLC.out).mono ?_); rintro e w1 ⟨rfl, hb⟩; have k0_ := Aside0.mk (Kd.C_below HL.out hb); clear HL; have HL := k0_; clear k0_; have d_ := Aside0.mk (below_then HB.out HB.out.size hb); clear HB; have HB := d_; clear d_; clear hb) | (go_at_call 28; (with_reducible refine (batch_Pairs.calls qp A c l [] 2 _ HL.out HLC.out HPF.out).mono ?_); rintro e w2 ⟨v2, rfl, hr, hb⟩; have k0_ := Aside0.mk (Kd.C_below HL.out hb); clear HL; have HL := k0_; clear k0_; have d_ := Aside0.mk (below_then HB.out HB.out.size hb); clear HB; have HB := d_; clear d_; obtain ⟨Ap, cp, rfl, hcp, hCp⟩ := Kd.R_reads hr; have HPC := Aside0.mk hcp; have HP := Aside0.mk hCp; clear hcp hCp hr; clear hb) | ((with_reducible refine gate_callee (f := 13) rfl ?_); refine goesL_ (some 29) rfl rfl Try.func13 (by kernel_rfl) rfl #[] rfl (by (try simp only [List.map_toArray, List.map_cons, List.map_nil]); first | done | rfl) ?_; (with_reducible refine (Lives9.calls _).mono ?_); rintro e w9 ⟨rfl, hb⟩; have d_ := Aside0.mk (below_then HB.out HB.out.size hb); clear HB; have HB := d_; clear d_; clear hb; refine ⟨_, rfl, ?_⟩) | (go_at_call 13; (with_reducible refine (Lives9.calls _).mono ?_); rintro e w9 ⟨rfl, hb⟩; have d_ := Aside0.mk (below_then HB.out HB.out.size hb); clear HB; have HB := d_; clear d_; clear hb))
      go_ret
      exact ⟨rfl, HB.out⟩
    have HOW := Aside0.mk how
    have HCNT := Aside0.mk hcnt
    have HIF := Aside0.mk hif
    have HSF := Aside0.mk hsf
    have HPS := Aside0.mk hps
    have HLS := Aside0.mk hls
    have hlz : (l.length : Int) < 300 := by omega
    have hpz : (P.length : Int) < 300 := by omega
    clear how hcnt hif hsf hps hls
    go_enter Try.func9, Try.ntmps9
    go_wp2_with (first | (go_at_call 27; (with_reducible refine (Few9.calls l true HFEW.out A c _ HL.out HLC.out).mono ?_); rintro e w1 ⟨rfl, hb⟩; have k0_ := Aside0.mk (Kd.C_below HL.out hb); clear HL; have HL := k0_; clear k0_; have d_ := Aside0.mk (below_then HB.out HB.out.size hb); clear HB; have HB := d_; clear d_; clear hb) | (go_at_call 28; (with_reducible refine (batch_Pairs.calls qp A c l P 0 _ HL.out HLC.out HPF.out).mono ?_); rintro e w2 ⟨v2, rfl, hr, hb⟩; have k0_ := Aside0.mk (Kd.C_below HL.out hb); clear HL; have HL := k0_; clear k0_; have d_ := Aside0.mk (below_then HB.out HB.out.size hb); clear HB; have HB := d_; clear d_; obtain ⟨Ap, cp, rfl, hcp, hCp⟩ := Kd.R_reads hr; have HPC := Aside0.mk hcp; have HP := Aside0.mk hCp; clear hcp hCp hr; clear hb))
    go_loopg [5, 6] l.length (fun gg s5 s6 wr => ∃ (i : Nat), i ≤ l.length ∧ l.length - i ≤ gg ∧ s6 = .int .i64 i ∧ s5 = .int .i64 (cntV (l.take i) : Nat) ∧ Aside0 (Below w.heap.size w wr) ∧ Aside0 (Kd.C k67 wr A l.length l) ∧ Aside0 (Kd.C k69 wr Ap P.length P))
    case atStart => exact ⟨0, Nat.zero_le _, by omega, rfl, rfl, HB, HL, HP⟩
    case round =>
      clear HB HL HP
      obtain ⟨i, hi, hgg, rfl, rfl, HB, HL, HP⟩ := hrel
      have hct : cntV (l.take i) ≤ cntV l := by
        have e : cntV l = cntV (l.take i) + cntV (l.drop i) := by unfold cntV; rw [← List.sum_append, ← List.map_append, List.take_append_drop]
        omega
      have hcz : (cntV (l.take i) : Int) < 300 := by have := HCNT.out; have := HPS.out; omega
      by_cases hil : i < l.length
      · have hiz : (i : Int) < (l.length : Int) := by omega
        obtain ⟨ad, A1, c1, e, h0, h1, h2, h3⟩ := at_T67 HL.out (i : Int) (by omega) hiz
        cases e
        rw [rdT67_get] at h0 h1
        have hit : itemAt l i = l[i] := by simp [itemAt, List.getD_eq_getElem?_getD, hil]
        rw [hit] at h0 h1
        simp only [Int.toNat_natCast] at h0 h1
        have hst : cntV (l.take (i + 1)) = cntV (l.take i) + l[i].f1.length := by
          unfold cntV; rw [List.take_succ_eq_append_getElem hil, List.map_append, List.sum_append]; simp
        have hct2 : cntV (l.take (i + 1)) ≤ cntV l := by
          have e : cntV l = cntV (l.take (i + 1)) + cntV (l.drop (i + 1)) := by unfold cntV; rw [← List.sum_append, ← List.map_append, List.take_append_drop]
          omega
        obtain ⟨m, hm⟩ : ∃ m, l[i].f1.length = m := ⟨_, rfl⟩
        rw [hm] at h1 hst
        have hmz : (m : Int) < 300 := by have := HCNT.out; have := HPS.out; omega
        have HST := Aside0.mk hst
        have hsz : (cntV (l.take i) : Int) + (m : Int) < 300 := by have := HCNT.out; have := HPS.out; omega
        obtain ⟨ct, hctt⟩ : ∃ ct, cntV (l.take i) = ct := ⟨_, rfl⟩
        rw [hctt] at hcz hsz HST ⊢
        clear hm hst hct hct2 hctt h0 h2 h3 hit
        go_wp2
        go_roundg (l.length - (i + 1))
        case measure => omega
        case rel => exact ⟨i + 1, by omega, by omega, by go_num, by rw [HST.out]; go_num, HB, HL, HP⟩
      · have hiz : ¬ (i : Int) < (l.length : Int) := by omega
        have hall : cntV (l.take i) = P.length := by rw [List.take_of_length_le (by omega)]; exact HCNT.out
        rw [hall]
        clear hct hcz hall
        go_wp2
        go_loopg [7] P.length (fun gg s7 wr => ∃ (i : Nat), i ≤ P.length ∧ P.length - i ≤ gg ∧ s7 = .int .i64 i ∧ Aside0 (Below w.heap.size w wr) ∧ Aside0 (Kd.C k67 wr A l.length l) ∧ Aside0 (Kd.C k69 wr Ap P.length P))
        case atStart => exact ⟨0, Nat.zero_le _, by omega, rfl, HB, HL, HP⟩
        case round =>
          clear HB HL HP
          obtain ⟨i, hi, hgg, rfl, HB, HL, HP⟩ := hrel
          by_cases hil : i < P.length
          · have hiz : (i : Int) < (P.length : Int) := by omega
            have hiw : (i : Int) < 300 := by omega
            obtain ⟨ad, e, h0, h1⟩ := at_T69 HP.out (i : Int) (by omega) hiz
            cases e
            have hr : rd_T69 P (i : Int) = P[i] := by simp [rd_T69, List.getD_eq_getElem?_getD, hil]
            rw [hr] at h0 h1
            simp only [Int.toNat_natCast] at h0 h1
            obtain ⟨o1, o2, o3, o4, o5⟩ := HOW.out i hil
            obtain ⟨xk, xv, hx⟩ : ∃ xk xv, P[i] = ⟨xk, xv⟩ := ⟨_, _, rfl⟩
            rw [hx] at h0 h1 o1 o2 o3 o4 o5
            simp only at h0 h1 o1 o2 o3 o4 o5
            have d1 : decide ((xk.size : Int) < 8) = false := decide_eq_false (by omega)
            have d2 : decide ((128 : Int) < (xk.size : Int)) = false := decide_eq_false (by omega)
            have d3 : decide ((xv.size : Int) < 1) = false := decide_eq_false (by omega)
            have d4 : decide ((200 : Int) < (xv.size : Int)) = false := decide_eq_false (by omega)
            have d1' : ¬ ((xk.size : Int) < 8) := by omega
            have d2' : ¬ ((128 : Int) < (xk.size : Int)) := by omega
            have d3' : ¬ ((xv.size : Int) < 1) := by omega
            have d4' : ¬ ((200 : Int) < (xv.size : Int)) := by omega
            clear hr hx o1 o2 o3 o4
            by_cases hi0 : ¬ 0 < i
            · have p2 : ¬ (0 : Int) < (i : Int) := by omega
              have p3 : decide ((0 : Int) < (i : Int)) = false := decide_eq_false p2
              clear o5
              go_wp2
              go_quiet (fail)
              try go_frame
              have d1_ := Aside0.mk (pw_below_drewN HB.out nq)
              have k1_ := Aside0.mk (Kd.C_drewN HL.out nq)
              have k2_ := Aside0.mk (Kd.C_drewN HP.out nq)
              go_wp2
              go_roundg (P.length - (i + 1))
              case measure => omega
              case rel => exact ⟨i + 1, by omega, by omega, by go_num, d1_, k1_, k2_⟩
            · obtain ⟨m, rfl⟩ : ∃ m, i = m + 1 := ⟨i - 1, by omega⟩
              obtain ⟨ad', e', k0, k1⟩ := at_T69 HP.out (m : Int) (by omega) (by omega)
              cases e'
              have hr : rd_T69 P (m : Int) = P[m]'(by omega) := by have : m < P.length := by omega
                                                                   simp [rd_T69, List.getD_eq_getElem?_getD, this]
              rw [hr] at k0
              simp only [Int.toNat_natCast] at k0
              have hlt := o5 (by omega)
              replace hlt : ltS (P[m]'(by omega)).f0 xk = true := hlt
              obtain ⟨pk, hpk⟩ : ∃ q, (P[m]'(by omega)).f0 = q := ⟨_, rfl⟩
              rw [hpk] at hlt k0
              unfold ltS at hlt
              clear k1 hpk hi0 hr o5
              have p0 : (0 : Int) ≤ (m : Int) := by omega
              have p1 : (m : Int) < (P.length : Int) := by omega
              simp only [Int.natCast_add, Int.cast_ofNat_Int] at hiz hiw ⊢
              have p2 : (0 : Int) < (m : Int) + 1 := by omega
              have p4 : IntKind.i64.wrap (m : Int) = (m : Int) := by simp [IntKind.wrap, IntKind.bits, IntKind.signed]; omega
              have p3 : decide ((0 : Int) < (m : Int) + 1) = true := decide_eq_true p2
              go_wp2
              go_quiet (fail)
              try go_frame
              have d1_ := Aside0.mk (pw_below_drewN HB.out nq)
              have k1_ := Aside0.mk (Kd.C_drewN HL.out nq)
              have k2_ := Aside0.mk (Kd.C_drewN HP.out nq)
              go_wp2
              go_roundg (P.length - ((m + 1) + 1))
              case measure => omega
              case rel => exact ⟨(m + 1) + 1, by omega, by omega, by go_num, d1_, k1_, k2_⟩
          · have hiz : ¬ (i : Int) < (P.length : Int) := by omega
            go_wp2_with (first | (go_at_call 30; (with_reducible refine (batch_Items.calls qi Ap cp P l 0 _ HP.out HPC.out HIF.out).mono ?_); rintro e w3 ⟨v3, rfl, hr, hb⟩; have k0_ := Aside0.mk (Kd.C_below HL.out hb); have k1_ := Aside0.mk (Kd.C_below HP.out hb); clear HL HP; have HL := k0_; have HP := k1_; clear k0_ k1_; have d_ := Aside0.mk (below_then HB.out HB.out.size hb); clear HB; have HB := d_; clear d_; obtain ⟨Ai, ci, rfl, hci, hCi⟩ := Kd.R_reads hr; have HIC := Aside0.mk hci; have HI := Aside0.mk hCi; clear hci hCi hr; clear hb) | ((with_reducible refine gate_callee (f := 32) rfl ?_); refine goesL_ (some 115) rfl rfl Try.func32 (by kernel_rfl) rfl #[.slice Ai l.length ci, .slice A l.length c] rfl (by (try simp only [List.map_toArray, List.map_cons, List.map_nil]); first | done | rfl) ?_; (with_reducible refine (Same9.calls l l HSF.out Ai ci A c _ HI.out HIC.out HL.out HLC.out).mono ?_); rintro e w4 ⟨rfl, hb⟩; have k0_ := Aside0.mk (Kd.C_below HL.out hb); have k1_ := Aside0.mk (Kd.C_below HP.out hb); have k2_ := Aside0.mk (Kd.C_below HI.out hb); clear HL HP HI; have HL := k0_; have HP := k1_; have HI := k2_; clear k0_ k1_ k2_; have d_ := Aside0.mk (below_then HB.out HB.out.size hb); clear HB; have HB := d_; clear d_; clear hb; refine ⟨_, rfl, ?_⟩) | (go_at_call 32; (with_reducible refine (Same9.calls l l HSF.out Ai ci A c _ HI.out HIC.out HL.out HLC.out).mono ?_); rintro e w4 ⟨rfl, hb⟩; have k0_ := Aside0.mk (Kd.C_below HL.out hb); have k1_ := Aside0.mk (Kd.C_below HP.out hb); have k2_ := Aside0.mk (Kd.C_below HI.out hb); clear HL HP HI; have HL := k0_; have HP := k1_; have HI := k2_; clear k0_ k1_ k2_; have d_ := Aside0.mk (below_then HB.out HB.out.size hb); clear HB; have HB := d_; clear d_; clear hb) | ((with_reducible refine gate_callee (f := 13) rfl ?_); refine goesL_ (some 122) rfl rfl Try.func13 (by kernel_rfl) rfl #[] rfl (by (try simp only [List.map_toArray, List.map_cons, List.map_nil]); first | done | rfl) ?_; (with_reducible refine (Lives9.calls _).mono ?_); rintro e w9 ⟨rfl, hb⟩; have d_ := Aside0.mk (below_then HB.out HB.out.size hb); clear HB; have HB := d_; clear d_; clear hb; refine ⟨_, rfl, ?_⟩) | (go_at_call 13; (with_reducible refine (Lives9.calls _).mono ?_); rintro e w9 ⟨rfl, hb⟩; have d_ := Aside0.mk (below_then HB.out HB.out.size hb); clear HB; have HB := d_; clear d_; clear hb))
            go_ret
            exact ⟨rfl, HB.out⟩
end Go.Proofs.Ytehcmedeeaoebaa.PB
end
section
namespace Go.Proofs.Ytehcmedeeaoebaa.PB
open Go.RowKit Go.Proofs.YtehcmedeeaoebaaW.PrintWords Go.Proofs.YtehcmedeeaoebaaW.PrintLast Go.Proofs.YtehcmedeeaoebaaW.PrintMore
set_option linter.unusedVariables false
theorem same13_loop (l : List S80) (hl : l.length ≤ 140737488351232) : ∀ n i, i + n = l.length → Ev (fun k => ambryref13_Same.l0 k l l (i : Int)) true := by
  intro n
  induction n with
  | zero => exact fun i hi => Ev.step (Ev.const _) fun k => by simp only [ambryref13_Same.l0]; rw [if_neg (by omega)]
  | succ n ih =>
    intro i hi
    exact Ev.step (ih (i + 1) (by omega)) fun k => by
      simp only [ambryref13_Same.l0]; rw [if_pos (by omega), if_pos (by omega), if_pos (by omega), if_neg (by simp), w64 (by omega) (by omega)]; rfl
theorem same13_ev (l : List S80) (hl : l.length ≤ 140737488351232) : Ev (fun k => ambryref13_Same.f k l l) true := by
  unfold ambryref13_Same.f
  simp only [if_true]
  exact same13_loop l hl l.length 0 (by omega)
theorem same14_loop (l : List S67) (hl : l.length ≤ 140737488351232) (hv : ∀ x ∈ l, x.f1.length ≤ 140737488351232) : ∀ n i, i + n = l.length → Ev (fun k => ambryref14_Same.l0 k l l (i : Int)) true := by
  intro n
  induction n with
  | zero => exact fun i hi => Ev.step (Ev.const _) fun k => by simp only [ambryref14_Same.l0]; rw [if_neg (by omega)]
  | succ n ih =>
    intro i hi
    have hil : i < l.length := by omega
    refine Ev.step (g := fun k => (ambryref13_Same.f k l[i].f1 l[i].f1).bind fun t => if t = true then ambryref14_Same.l0 k l l ((i + 1 : Nat) : Int) else some false) ?_ fun k => ?_
    · refine Ev.bind (same13_ev _ (hv _ (List.getElem_mem hil))) ?_
      simp only [if_true]
      exact ih (i + 1) (by omega)
    · simp only [ambryref14_Same.l0]
      rw [if_pos (by omega), if_pos (by omega), if_pos (by omega), if_pos (by trivial), rd67 l i hil, w64 (by omega) (by omega)]
      rfl
theorem same14_ev (l : List S67) (hl : l.length ≤ 140737488351232) (hv : ∀ x ∈ l, x.f1.length ≤ 140737488351232) : Ev (fun k => ambryref14_Same.f k l l) true := by
  unfold ambryref14_Same.f
  simp only [if_true]
  exact same14_loop l hl hv l.length 0 (by omega)
theorem itemsL_ev (A : List S67) : ∀ (r out : List S67), (∀ x ∈ r, rowP A x.f0 = x.f1 ∧ mayB x.f0 x.f1 = true ∧ x.f1.length ≤ 140737488351232) → Ev (fun k => itemsL k A (r.map (·.f0)) out) (out ++ r, 0)
  | [], out, _ => by simp only [List.map_nil, itemsL, List.append_nil]; exact Ev.const _
  | x :: r, out, h => by
    obtain ⟨h1, h2, h3⟩ := h x List.mem_cons_self
    simp only [List.map_cons, itemsL, h1]
    have hm := may_ev x.f0 x.f1 h3
    rw [h2] at hm
    refine Ev.bind hm ?_
    simp only [if_true]
    have := itemsL_ev A r (out ++ [x]) fun y hy => h y (List.mem_cons_of_mem _ hy)
    rw [List.append_assoc, List.singleton_append] at this
    exact this
theorem rowsOf_length (l : List S67) : (rowsOf l).length = totV l := by
  unfold rowsOf totV pairsRow
  rw [List.length_flatMap]
  congr 1
  refine List.map_congr_left fun x _ => ?_
  rw [List.length_map]
theorem Good.owes {l : List S67} (h : Good l) : Owes9 (sortP (rowsOf l)) ∧ fit47 (sortP (rowsOf l)) ∨ 1000000000 < totV l := by
  by_cases hc : 1000000000 < totV l
  · exact Or.inr hc
  left
  obtain ⟨hperm, hmap, hs⟩ := h.sorted
  have hlen : (sortP (rowsOf l)).length = totV l := by rw [(sortP_spec _).1.length_eq, rowsOf_length]
  have hel : ∀ p ∈ sortP (rowsOf l), 8 ≤ p.f0.size ∧ p.f0.size ≤ 128 ∧ 1 ≤ p.f1.size ∧ p.f1.size ≤ 200 := by
    intro p hp
    rw [hmap] at hp
    obtain ⟨q, hq, rfl⟩ := List.mem_map.1 hp
    have hqk := hperm.mem_iff.1 hq
    obtain ⟨x, hx, e1, e2⟩ := kvs_mem.1 hqk
    have hok := h.ok x hx _ e2
    have hk := h.key x hx
    have hs1 : (ofKV q).f0.size = q.1.size + 8 := pk_size q.1 q.2.f0 (by have := hok.1; omega) hok.2.1
    have hs2 : (ofKV q).f1.size = if q.2.f2 = true then 1 else 1 + q.2.f1.size := pairVal_size q.2
    have := hok.2.2.1
    rw [hs1, hs2, e1]
    refine ⟨by omega, by omega, by split <;> omega, by split <;> omega⟩
  refine ⟨fun i hi => ?_, ⟨by omega, fun p hp => by have := hel p hp; omega⟩⟩
  have := hel _ (List.getElem_mem hi)
  refine ⟨this.1, this.2.1, this.2.2.1, this.2.2.2, fun h0 => ?_⟩
  have hs2 : (sortP (rowsOf l)).Pairwise fun a b => ltS a.f0 b.f0 = true := by rw [hmap, List.pairwise_map]; exact hs
  exact List.pairwise_iff_getElem.1 hs2 (i - 1) i (by omega) hi (by omega)
theorem Items_back (l : List S67) (h : itemsOk none l = true) (hv : ∀ x ∈ l, x.f1.length ≤ 140737488351232) (hf : fit47 (sortP (rowsOf l))) : Ev (fun k => batch_Items.f k (sortP (rowsOf l))) (l, 0) := by
  have hg := good_of h
  obtain ⟨hperm, hmap, hs⟩ := hg.sorted
  have hm := (itemsOk_facts h).1
  unfold batch_Items.f
  simp only [if_pos hf]
  have hgat : gatherL (sortP (rowsOf l)) (sortP (rowsOf l)).length 0 [] = some (groupKV (sortedKV l) []) := by
    rw [hmap]
    have := gather_kv (sortedKV l) (fun q hq => versionP_pair q.1 q.2 (hg.okq (hperm.mem_iff.1 hq))) hs (sortedKV l).length 0 [] (by omega)
    rw [List.drop_zero] at this
    rw [List.length_map]
    exact this
  rw [hgat]
  simp only
  rw [hg.keys]
  have := itemsL_ev (groupKV (sortedKV l) []) l [] fun x hx => ⟨hg.row hx, (hm x hx).1, hv x hx⟩
  rw [List.nil_append] at this
  exact this
def ambrylaw15_BatchItems.f (k : Nat) (l : List S67) : Option Bool := if l.length ≤ 140737488351232 ∧ ∀ x ∈ l, x.f1.length ≤ 140737488351232 then some true else none
theorem ambrylaw15_BatchItems.calls (k : Nat) (A0 : Option Addr) (c0 : Nat) (l : List S67) (r : Bool) (w : World) (hr0 : Kd.C k67 w A0 l.length l) (hc0 : l.length ≤ c0) (h : ambrylaw15_BatchItems.f k l = some r) :
    Calls Try.prog 9 #[.slice A0 l.length c0] w fun e w' => e = .returned (.bool r) ∧ Below w.heap.size w w' := by
  unfold ambrylaw15_BatchItems.f at h
  by_cases hb : l.length ≤ 140737488351232 ∧ ∀ x ∈ l, x.f1.length ≤ 140737488351232
  case neg => rw [if_neg hb] at h; cases h
  rw [if_pos hb] at h
  obtain rfl : true = r := Option.some.inj h
  obtain ⟨hn, hv⟩ := hb
  refine Items.walk l _ (few_ev l hn hv).get (fun hfew => ?_) A0 c0 w hr0 hc0
  have hsm : l.length + totV l < 300 := of_decide_eq_true hfew
  obtain ⟨qp, hp⟩ := (Pairs_ev l (by omega) hv).get
  by_cases hok : itemsOk none l = true
  · rw [if_pos hok] at hp
    rcases (good_of hok).owes with ⟨how, hfit⟩ | hbig
    · exact ⟨qp, _, _, hp, Or.inr ⟨rfl, how, by rw [(sortP_spec _).1.length_eq, rowsOf_length]; rfl, by rw [(sortP_spec _).1.length_eq, rowsOf_length]; omega, by omega, (Items_back l hok hv hfit).get, (same14_ev l hn hv).get⟩⟩
    · omega
  · rw [if_neg hok] at hp
    exact ⟨qp, _, _, hp, Or.inl ⟨rfl, rfl⟩⟩
theorem items_law (l : List S67) (hP : ∀ x ∈ l, w67 x) (hn : l.length ≤ 140737488351232) : Ev (fun k => ambrylaw15_BatchItems.f k l) true :=
  ⟨0, fun k _ => by show ambrylaw15_BatchItems.f k l = _; unfold ambrylaw15_BatchItems.f; rw [if_pos ⟨hn, fun x hx => (hP x hx).2.1⟩]⟩
end Go.Proofs.Ytehcmedeeaoebaa.PB
end
