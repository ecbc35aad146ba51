import Derived.Test.YtehcmedeeaoebaaM7
import Derived.Test.YtehcmedeeaoebaaM1
import Derived.Test.YtehcmedeeaoebaaM4
import Derived.Test.YtehcmedeeaoebaaM5
section
namespace Go.Proofs.Ytehcmedeeaoebaa.PB
open Go.RowKit Go.Proofs.YtehcmedeeaoebaaW.PrintWords Go.Proofs.YtehcmedeeaoebaaW.PrintLast Go.Proofs.YtehcmedeeaoebaaW.PrintMore
theorem lives_bytes : batch_Bytes.f 40 5 [⟨⟨#[97]⟩, ⟨#[120]⟩, false⟩] = some (⟨#[66, 0, 0, 0, 0, 0, 0, 0, 5, 1, 0, 1, 97, 1, 120]⟩, 0) := by kernel_rfl
theorem lives_read : batch_Read.f 40 ⟨#[77, 0, 0, 0, 0, 0, 0, 0, 9]⟩ = some (0, [], 9, 0) := by kernel_rfl
theorem lives_may : batch_may.f 40 ⟨#[97]⟩ [⟨5, ⟨#[]⟩, true⟩] = some true := by kernel_rfl
theorem lives_key : pairKey ⟨#[97]⟩ 5 = ⟨#[97, 15, 255, 255, 255, 255, 255, 255, 251]⟩ := by kernel_rfl
theorem lives_val : pairVal ⟨5, ⟨#[]⟩, true⟩ = ⟨#[0]⟩ := by kernel_rfl
theorem sortP_one (x : S69) : sortP [x] = [x] := List.perm_singleton.1 (sortP_spec [x]).1
theorem lives_pairs : batch_Pairs.f 40 [⟨⟨#[97]⟩, [⟨5, ⟨#[]⟩, true⟩]⟩] = some ([⟨⟨#[97, 15, 255, 255, 255, 255, 255, 255, 251]⟩, ⟨#[0]⟩⟩], 0) := by
  have e : itemAt [⟨⟨#[97]⟩, [⟨5, ⟨#[]⟩, true⟩]⟩] 0 = ⟨⟨#[97]⟩, [⟨5, ⟨#[]⟩, true⟩]⟩ := rfl
  unfold batch_Pairs.f
  simp only [List.length_singleton]
  rw [pairsL, e]
  simp only [lives_may, Option.bind_some, if_true]
  rw [if_neg (fun h => absurd h.1 (Nat.lt_irrefl 0)), if_pos (by decide), pairsL]
  simp only [List.nil_append, pairsRow, List.map_cons, List.map_nil, lives_key, lives_val, sortP_one]
theorem lives_same : ambryref10_Same.f 40 [⟨⟨#[97, 15, 255, 255, 255, 255, 255, 255, 251]⟩, ⟨#[0]⟩⟩] [⟨⟨#[97, 15, 255, 255, 255, 255, 255, 255, 251]⟩, ⟨#[0]⟩⟩] = some true := by kernel_rfl
theorem lives_40 : ambrylaw15_lives.f 40 = some true := by
  unfold ambrylaw15_lives.f
  rw [lives_bytes, lives_pairs, lives_read]
  simp only [Option.bind_some]
  rw [lives_same]
  simp only [Option.bind_some, if_true]
  rw [if_pos (by rw [Lib.toList_data])]
end Go.Proofs.Ytehcmedeeaoebaa.PB
end
section
namespace Go.Proofs.Ytehcmedeeaoebaa.PB
open Go.RowKit Go.Proofs.YtehcmedeeaoebaaW.PrintWords Go.Proofs.YtehcmedeeaoebaaW.PrintLast Go.Proofs.YtehcmedeeaoebaaW.PrintMore
attribute [local go_sem] max2_int min2_int max_two min_two max_three min_three max_four min_four
set_option linter.unusedVariables false
set_option linter.unusedSimpArgs false
set_option maxHeartbeats 8000000 in
set_option maxRecDepth 100000 in
theorem lives13.calls (k : Nat) (w : World) (h : ambrylaw15_lives.f k = some true) :
    Calls Try.prog 13 #[] w fun e w' => e = .returned (.bool true) ∧ Below w.heap.size w w' := by
  have hu52 := Try.underlying52
  have hu24 := Try.underlying24
  have hu80 := Try.underlying80
  have hu67 := Try.underlying67
  have hu69 := Try.underlying69
  have HB := Aside0.mk (Below.refl w.heap.size w)
  have H : ((batch_Bytes.f k 5 (([(⟨(⟨#[97]⟩ : ByteArray), (⟨#[120]⟩ : ByteArray), false⟩ : S52)] : List (S52)))).bind fun bt177 => ((batch_Pairs.f k (([(⟨(⟨#[97]⟩ : ByteArray), (([(⟨5, (⟨#[]⟩ : ByteArray), true⟩ : S80)] : List (S80)))⟩ : S67)] : List (S67)))).bind fun bt185 => ((batch_Read.f k (⟨#[77, 0, 0, 0, 0, 0, 0, 0, 9]⟩ : ByteArray)).bind fun bt189 => (if bt177.1.toList = ([66, 0, 0, 0, 0, 0, 0, 0, 5, 1, 0, 1, 97, 1, 120] : List UInt8) then (if bt177.2 = 0 then ((ambryref10_Same.f k bt185.1 (([(⟨(⟨#[97, 15, 255, 255, 255, 255, 255, 255, 251]⟩ : ByteArray), (⟨#[0]⟩ : ByteArray)⟩ : S69)] : List (S69)))).bind fun t199 => (if t199 = true then (if bt185.2 = 0 then (if bt189.2.2.1 = 9 then (if bt189.2.2.2 = 0 then (some true) else (some false)) else (some false)) else (some false)) else (some false))) else (some false)) else (some false))))) = some true := h
  clear h
  obtain ⟨y174, hy174⟩ : ∃ y_ : List (S52), y_ = (([(⟨(⟨#[97]⟩ : ByteArray), (⟨#[120]⟩ : ByteArray), false⟩ : S52)] : List (S52))) := ⟨_, rfl⟩
  replace H : ((batch_Bytes.f k 5 y174).bind fun bt177 => ((batch_Pairs.f k (([(⟨(⟨#[97]⟩ : ByteArray), (([(⟨5, (⟨#[]⟩ : ByteArray), true⟩ : S80)] : List (S80)))⟩ : S67)] : List (S67)))).bind fun bt185 => ((batch_Read.f k (⟨#[77, 0, 0, 0, 0, 0, 0, 0, 9]⟩ : ByteArray)).bind fun bt189 => (if bt177.1.toList = ([66, 0, 0, 0, 0, 0, 0, 0, 5, 1, 0, 1, 97, 1, 120] : List UInt8) then (if bt177.2 = 0 then ((ambryref10_Same.f k bt185.1 (([(⟨(⟨#[97, 15, 255, 255, 255, 255, 255, 255, 251]⟩ : ByteArray), (⟨#[0]⟩ : ByteArray)⟩ : S69)] : List (S69)))).bind fun t199 => (if t199 = true then (if bt185.2 = 0 then (if bt189.2.2.1 = 9 then (if bt189.2.2.2 = 0 then (some true) else (some false)) else (some false)) else (some false)) else (some false))) else (some false)) else (some false))))) = some true := by first | (rw [hy174]; with_reducible exact H) | (have H2_ := (Option.bind_some _ _).symm.trans H; rw [hy174]; with_reducible exact H2_) | (have H2_ := (Option.bind_some _ _).symm.trans H; with_reducible exact H2_) | with_reducible exact H | (rw [hy174]; exact H) | exact H
  have Ny174 := Aside0.mk hy174
  clear hy174
  replace H := Option.bind_eq_some_iff.mp H
  obtain ⟨⟨t177, t178⟩, A10, H⟩ := H
  replace H : ((batch_Pairs.f k (([(⟨(⟨#[97]⟩ : ByteArray), (([(⟨5, (⟨#[]⟩ : ByteArray), true⟩ : S80)] : List (S80)))⟩ : S67)] : List (S67)))).bind fun bt185 => ((batch_Read.f k (⟨#[77, 0, 0, 0, 0, 0, 0, 0, 9]⟩ : ByteArray)).bind fun bt189 => (if t177.toList = ([66, 0, 0, 0, 0, 0, 0, 0, 5, 1, 0, 1, 97, 1, 120] : List UInt8) then (if t178 = 0 then ((ambryref10_Same.f k bt185.1 (([(⟨(⟨#[97, 15, 255, 255, 255, 255, 255, 255, 251]⟩ : ByteArray), (⟨#[0]⟩ : ByteArray)⟩ : S69)] : List (S69)))).bind fun t199 => (if t199 = true then (if bt185.2 = 0 then (if bt189.2.2.1 = 9 then (if bt189.2.2.2 = 0 then (some true) else (some false)) else (some false)) else (some false)) else (some false))) else (some false)) else (some false)))) = some true := H
  have A1 := Aside0.mk A10
  clear A10
  obtain ⟨y179, hy179⟩ : ∃ y_ : List (S80), y_ = (([(⟨5, (⟨#[]⟩ : ByteArray), true⟩ : S80)] : List (S80))) := ⟨_, rfl⟩
  replace H : ((batch_Pairs.f k (([(⟨(⟨#[97]⟩ : ByteArray), y179⟩ : S67)] : List (S67)))).bind fun bt185 => ((batch_Read.f k (⟨#[77, 0, 0, 0, 0, 0, 0, 0, 9]⟩ : ByteArray)).bind fun bt189 => (if t177.toList = ([66, 0, 0, 0, 0, 0, 0, 0, 5, 1, 0, 1, 97, 1, 120] : List UInt8) then (if t178 = 0 then ((ambryref10_Same.f k bt185.1 (([(⟨(⟨#[97, 15, 255, 255, 255, 255, 255, 255, 251]⟩ : ByteArray), (⟨#[0]⟩ : ByteArray)⟩ : S69)] : List (S69)))).bind fun t199 => (if t199 = true then (if bt185.2 = 0 then (if bt189.2.2.1 = 9 then (if bt189.2.2.2 = 0 then (some true) else (some false)) else (some false)) else (some false)) else (some false))) else (some false)) else (some false)))) = some true := by first | (rw [hy179]; with_reducible exact H) | (have H2_ := (Option.bind_some _ _).symm.trans H; rw [hy179]; with_reducible exact H2_) | (have H2_ := (Option.bind_some _ _).symm.trans H; with_reducible exact H2_) | with_reducible exact H | (rw [hy179]; exact H) | exact H
  have Ny179 := Aside0.mk hy179
  clear hy179
  obtain ⟨y182, hy182⟩ : ∃ y_ : List (S67), y_ = (([(⟨(⟨#[97]⟩ : ByteArray), y179⟩ : S67)] : List (S67))) := ⟨_, rfl⟩
  replace H : ((batch_Pairs.f k y182).bind fun bt185 => ((batch_Read.f k (⟨#[77, 0, 0, 0, 0, 0, 0, 0, 9]⟩ : ByteArray)).bind fun bt189 => (if t177.toList = ([66, 0, 0, 0, 0, 0, 0, 0, 5, 1, 0, 1, 97, 1, 120] : List UInt8) then (if t178 = 0 then ((ambryref10_Same.f k bt185.1 (([(⟨(⟨#[97, 15, 255, 255, 255, 255, 255, 255, 251]⟩ : ByteArray), (⟨#[0]⟩ : ByteArray)⟩ : S69)] : List (S69)))).bind fun t199 => (if t199 = true then (if bt185.2 = 0 then (if bt189.2.2.1 = 9 then (if bt189.2.2.2 = 0 then (some true) else (some false)) else (some false)) else (some false)) else (some false))) else (some false)) else (some false)))) = some true := by first | (rw [hy182]; with_reducible exact H) | (have H2_ := (Option.bind_some _ _).symm.trans H; rw [hy182]; with_reducible exact H2_) | (have H2_ := (Option.bind_some _ _).symm.trans H; with_reducible exact H2_) | with_reducible exact H | (rw [hy182]; exact H) | exact H
  have Ny182 := Aside0.mk hy182
  clear hy182
  replace H := Option.bind_eq_some_iff.mp H
  obtain ⟨⟨t185, t186⟩, A20, H⟩ := H
  replace H : ((batch_Read.f k (⟨#[77, 0, 0, 0, 0, 0, 0, 0, 9]⟩ : ByteArray)).bind fun bt189 => (if t177.toList = ([66, 0, 0, 0, 0, 0, 0, 0, 5, 1, 0, 1, 97, 1, 120] : List UInt8) then (if t178 = 0 then ((ambryref10_Same.f k t185 (([(⟨(⟨#[97, 15, 255, 255, 255, 255, 255, 255, 251]⟩ : ByteArray), (⟨#[0]⟩ : ByteArray)⟩ : S69)] : List (S69)))).bind fun t199 => (if t199 = true then (if t186 = 0 then (if bt189.2.2.1 = 9 then (if bt189.2.2.2 = 0 then (some true) else (some false)) else (some false)) else (some false)) else (some false))) else (some false)) else (some false))) = some true := H
  have A2 := Aside0.mk A20
  clear A20
  replace H := Option.bind_eq_some_iff.mp H
  obtain ⟨⟨t189, t190, t193, t194⟩, A30, H⟩ := H
  replace H : (if t177.toList = ([66, 0, 0, 0, 0, 0, 0, 0, 5, 1, 0, 1, 97, 1, 120] : List UInt8) then (if t178 = 0 then ((ambryref10_Same.f k t185 (([(⟨(⟨#[97, 15, 255, 255, 255, 255, 255, 255, 251]⟩ : ByteArray), (⟨#[0]⟩ : ByteArray)⟩ : S69)] : List (S69)))).bind fun t199 => (if t199 = true then (if t186 = 0 then (if t193 = 9 then (if t194 = 0 then (some true) else (some false)) else (some false)) else (some false)) else (some false))) else (some false)) else (some false)) = some true := H
  have A3 := Aside0.mk A30
  clear A30
  by_cases c4 : t177.toList = ([66, 0, 0, 0, 0, 0, 0, 0, 5, 1, 0, 1, 97, 1, 120] : List UInt8)
  · rw [if_pos c4] at H
    have c4b0 : (t177.toList == ([66, 0, 0, 0, 0, 0, 0, 0, 5, 1, 0, 1, 97, 1, 120] : List UInt8)) = true := beq_iff_eq.mpr c4
    have c4b1 : (t177.toList != ([66, 0, 0, 0, 0, 0, 0, 0, 5, 1, 0, 1, 97, 1, 120] : List UInt8)) = false := bne_eq_false_iff_eq.mpr c4
    clear c4
    by_cases c5 : t178 = 0
    · rw [if_pos c5] at H
      have c5b0 : (t178 == 0) = true := beq_iff_eq.mpr c5
      have c5b1 : (t178 != 0) = false := bne_eq_false_iff_eq.mpr c5
      clear c5
      obtain ⟨y196, hy196⟩ : ∃ y_ : List (S69), y_ = (([(⟨(⟨#[97, 15, 255, 255, 255, 255, 255, 255, 251]⟩ : ByteArray), (⟨#[0]⟩ : ByteArray)⟩ : S69)] : List (S69))) := ⟨_, rfl⟩
      replace H : ((ambryref10_Same.f k t185 y196).bind fun t199 => (if t199 = true then (if t186 = 0 then (if t193 = 9 then (if t194 = 0 then (some true) else (some false)) else (some false)) else (some false)) else (some false))) = some true := by first | (rw [hy196]; with_reducible exact H) | (have H2_ := (Option.bind_some _ _).symm.trans H; rw [hy196]; with_reducible exact H2_) | (have H2_ := (Option.bind_some _ _).symm.trans H; with_reducible exact H2_) | with_reducible exact H | (rw [hy196]; exact H) | exact H
      have Ny196 := Aside0.mk hy196
      clear hy196
      replace H := Option.bind_eq_some_iff.mp H
      obtain ⟨t199, A60, H⟩ := H
      replace H : (if t199 = true then (if t186 = 0 then (if t193 = 9 then (if t194 = 0 then (some true) else (some false)) else (some false)) else (some false)) else (some false)) = some true := H
      have A6 := Aside0.mk A60
      clear A60
      by_cases c7 : t199 = true
      · subst c7
        have H1 : (if t186 = 0 then (if t193 = 9 then (if t194 = 0 then (some true) else (some false)) else (some false)) else (some false)) = some true := by rw [if_pos rfl] at H; exact H
        clear H
        have H := H1
        clear H1
        by_cases c8 : t186 = 0
        · rw [if_pos c8] at H
          have c8b0 : (t186 == 0) = true := beq_iff_eq.mpr c8
          have c8b1 : (t186 != 0) = false := bne_eq_false_iff_eq.mpr c8
          clear c8
          by_cases c9 : t193 = 9
          · rw [if_pos c9] at H
            have c9b0 : (t193 == 9) = true := beq_iff_eq.mpr c9
            have c9b1 : (t193 != 9) = false := bne_eq_false_iff_eq.mpr c9
            clear c9
            by_cases c10 : t194 = 0
            · rw [if_pos c10] at H
              have c10b0 : (t194 == 0) = true := beq_iff_eq.mpr c10
              have c10b1 : (t194 != 0) = false := bne_eq_false_iff_eq.mpr c10
              clear c10
              clear H
              go_enter Try.func13, Try.ntmps13
              go_wp2_with (first | ((with_reducible refine gate_dst (N := 10) rfl ?_); (try (refine gate_guard (by rfl) ?_; dsimp only)); refine Kd.R_lit k52 _ 52 ?hg (N := 10) ?hd (xs := ([(⟨(⟨#[97]⟩ : ByteArray), (⟨#[120]⟩ : ByteArray), false⟩ : S52)] : List (S52))) (inner := [.string (⟨#[97]⟩ : ByteArray), .string (⟨#[120]⟩ : ByteArray), .bool false]) (ok := fun _ => True) (okp := fun _ => True) ?hr ?hp (fun _ hk => hk) trivial (Below.refl _ _) (Nat.le_refl _) (by simp) ?_; (case hd => rfl); (case hg => rfl); (case hr => first | (go_simp; done) | (go_simp; rfl)); (case hp => exact (Reps.c3 (show Kd.M k52 _ _ _ (⟨(⟨#[97]⟩ : ByteArray), (⟨#[120]⟩ : ByteArray), false⟩ : S52) [.string (⟨#[97]⟩ : ByteArray), .string (⟨#[120]⟩ : ByteArray), .bool false] from (k52_mkM _ _ _ (⟨(⟨#[97]⟩ : ByteArray), (⟨#[120]⟩ : ByteArray), false⟩ : S52) )) (Reps.none _ _))); intro v175 w11 ho12 hb hg_ hnew_; clear hg_ hnew_; (first | rw [← Ny174.out] at ho12 | (simp only [Int.reduceToNat] at ho12; rw [← Ny174.out] at ho12)); have n0_ := Aside0.mk (Kd.R_lower ho12 (below_size (by repeat (first | (with_reducible first | exact HB.out | apply below_alloc | apply pw_below_drewN | apply below_drew1) | exact HB.out)))); have n1_ := Aside0.mk (below_step (by repeat (first | (with_reducible first | exact HB.out | apply below_alloc | apply pw_below_drewN | apply below_drew1) | exact HB.out)) hb); clear HB; have HO176 := n0_; have HB := n1_; clear n0_ n1_; clear hb ho12; obtain ⟨Ao13, co13, eo13⟩ := Kd.R_slice HO176.out; subst eo13) | ((with_reducible refine gate_callee (f := 14) rfl ?_); refine goesL_ (some 12) rfl rfl Try.func14 (by kernel_rfl) rfl #[.agg #[.int .i64 5, .slice Ao13 y174.length co13]] rfl (by (try simp only [List.map_toArray, List.map_cons, List.map_nil]); first | done | rfl | (simp only [List.length_drop, List.length_take]; rfl)) ?_; (with_reducible refine (batch_Bytes.calls k 5 _ _ y174 t177 t178 _ ?side1 ?side2 A1.out).mono ?_); (case side1 => repeat (first | exact (Kd.R_reads' HO176.out).2.2 | (with_reducible refine Kd.C_alloc ?_ _) | (with_reducible refine Kd.C_drewN ?_ _) | (with_reducible refine Kd.C_drew ?_))); (case side2 => exact (Kd.R_reads' HO176.out).2.1); rintro e w14 ⟨rfl, hb⟩; refine ⟨_, rfl, ?_⟩; have n0_ := Aside0.mk (Kd.R_below (by (with_reducible repeat (first | apply Kd.R_alloc | apply Kd.R_drewN | apply Kd.R_drew)); exact HO176.out) hb); have n1_ := Aside0.mk (below_step (by repeat (first | (with_reducible first | exact HB.out | apply below_alloc | apply pw_below_drewN | apply below_drew1) | exact HB.out)) hb); clear HO176; clear HB; have HO176 := n0_; have HB := n1_; clear n0_ n1_; (try clear hb); (try clear hb2); (try clear hk); (try clear hi)) | ((with_reducible refine gate_dst (N := 17) rfl ?_); (try (refine gate_guard (by rfl) ?_; dsimp only)); refine Kd.R_lit k80 _ 80 ?hg (N := 17) ?hd (xs := ([(⟨5, (⟨#[]⟩ : ByteArray), true⟩ : S80)] : List (S80))) (inner := [.int .i64 5, .string (⟨#[]⟩ : ByteArray), .bool true]) (ok := fun _ => True) (okp := fun _ => True) ?hr ?hp (fun _ hk => hk) trivial (Below.refl _ _) (Nat.le_refl _) (by simp) ?_; (case hd => rfl); (case hg => rfl); (case hr => first | (go_simp; done) | (go_simp; rfl)); (case hp => exact (Reps.c3 (show Kd.M k80 _ _ _ (⟨5, (⟨#[]⟩ : ByteArray), true⟩ : S80) [.int .i64 5, .string (⟨#[]⟩ : ByteArray), .bool true] from (k80_mkM _ _ _ (⟨5, (⟨#[]⟩ : ByteArray), true⟩ : S80) )) (Reps.none _ _))); intro v180 w15 ho16 hb hg_ hnew_; clear hg_ hnew_; (first | rw [← Ny179.out] at ho16 | (simp only [Int.reduceToNat] at ho16; rw [← Ny179.out] at ho16)); have n0_ := Aside0.mk (Kd.R_below (by (with_reducible repeat (first | apply Kd.R_alloc | apply Kd.R_drewN | apply Kd.R_drew)); exact HO176.out) hb); have n1_ := Aside0.mk (Kd.R_lower ho16 (below_size (by repeat (first | (with_reducible first | exact HB.out | apply below_alloc | apply pw_below_drewN | apply below_drew1) | exact HB.out)))); have n2_ := Aside0.mk (below_step (by repeat (first | (with_reducible first | exact HB.out | apply below_alloc | apply pw_below_drewN | apply below_drew1) | exact HB.out)) hb); clear HO176; clear HB; have HO176 := n0_; have HO181 := n1_; have HB := n2_; clear n0_ n1_ n2_; clear hb ho16; obtain ⟨Ao17, co17, eo17⟩ := Kd.R_slice HO181.out; subst eo17) | ((with_reducible refine gate_dst (N := 19) rfl ?_); (try (refine gate_guard (by rfl) ?_; dsimp only)); refine Kd.N_lit k67 _ 67 ?hg (N' := 19) ?hd (xs := ([(⟨(⟨#[97]⟩ : ByteArray), y179⟩ : S67)] : List (S67))) (inner := [.string (⟨#[97]⟩ : ByteArray), .slice Ao17 y179.length co17]) (ok := (fun k_ => some k_ ≠ (.slice Ao13 y174.length co13 : Value).ownBlock)) (okp := (fun k_ => some k_ ≠ (.slice Ao13 y174.length co13 : Value).ownBlock)) ?hr ?hp (fun _ hk => hk) ((show ∀ k_, w15.heap.size ≤ k_ → (fun k_ => some k_ ≠ (.slice Ao13 y174.length co13 : Value).ownBlock) k_ from fun k_ hk => Kd.fresh' (Kd.R_lt (by (with_reducible repeat (first | apply Kd.R_alloc | apply Kd.R_drewN | apply Kd.R_drew)); exact HO176.out)) k_ hk) _ (Nat.le_refl _)) (Below.refl _ _) (Nat.le_refl _) (by simp) ?_; (case hd => rfl); (case hg => rfl); (case hr => first | (go_simp; done) | (go_simp; rfl)); (case hp => exact (Reps.c2 (show Kd.FK k67 _ _ (⟨(⟨#[97]⟩ : ByteArray), y179⟩ : S67) [.string (⟨#[97]⟩ : ByteArray), .slice Ao17 y179.length co17] from (k67_mkF _ _ (⟨(⟨#[97]⟩ : ByteArray), y179⟩ : S67) (Kd.R_reads' (Kd.R_mono (ok' := (fun k_ => some k_ ≠ (.slice Ao13 y174.length co13 : Value).ownBlock)) (Kd.R_apart' (HO181.out) (Kd.R_typed HO176.out) (by decide)) (fun k_ hk => hk.2))).2.1 (Kd.R_F (Kd.R_mono (ok' := (fun k_ => some k_ ≠ (.slice Ao13 y174.length co13 : Value).ownBlock)) (Kd.R_apart' (HO181.out) (Kd.R_typed HO176.out) (by decide)) (fun k_ hk => hk.2))))) (Reps.none _ _))); intro v183 w18 ho19 hb hg_ hnew_; clear hg_ hnew_; (first | rw [← Ny182.out] at ho19 | (simp only [Int.reduceToNat] at ho19; rw [← Ny182.out] at ho19)); have n0_ := Aside0.mk (Kd.R_below (by (with_reducible repeat (first | apply Kd.R_alloc | apply Kd.R_drewN | apply Kd.R_drew)); exact HO176.out) hb); have n1_ := Aside0.mk (Kd.N_lower ho19 (below_size (by repeat (first | (with_reducible first | exact HB.out | apply below_alloc | apply pw_below_drewN | apply below_drew1) | exact HB.out)))); have n2_ := Aside0.mk (below_step (by repeat (first | (with_reducible first | exact HB.out | apply below_alloc | apply pw_below_drewN | apply below_drew1) | exact HB.out)) hb); clear HO176; clear HB; clear HO181; have HO176 := n0_; have HO184 := n1_; have HB := n2_; clear n0_ n1_ n2_; clear hb ho19; obtain ⟨Ao20, co20, eo20⟩ := Kd.N_slice HO184.out; subst eo20) | ((with_reducible refine gate_callee (f := 28) rfl ?_); refine goesL_ (some 20) rfl rfl Try.func28 (by kernel_rfl) rfl #[.slice Ao20 y182.length co20] rfl (by (try simp only [List.map_toArray, List.map_cons, List.map_nil]); first | done | rfl | (simp only [List.length_drop, List.length_take]; rfl)) ?_; (with_reducible refine (batch_Pairs.calls k _ _ y182 t185 t186 _ ?side1 ?side2 A2.out).mono ?_); (case side1 => repeat (first | exact (Kd.N_reads' HO184.out).2.2 | (with_reducible refine Kd.C_alloc ?_ _) | (with_reducible refine Kd.C_drewN ?_ _) | (with_reducible refine Kd.C_drew ?_))); (case side2 => exact (Kd.N_reads' HO184.out).2.1); rintro e w21 ⟨v187, rfl, ho0, hb⟩; refine ⟨_, rfl, ?_⟩; have n0_ := Aside0.mk (Kd.R_below (by (with_reducible repeat (first | apply Kd.R_alloc | apply Kd.R_drewN | apply Kd.R_drew)); exact HO176.out) hb); have n1_ := Aside0.mk (Kd.N_elder' (by (with_reducible repeat (first | apply Kd.N_alloc | apply Kd.N_drewN | apply Kd.N_drew)); exact HO184.out) (Kd.R_base ho0) hb); have n2_ := Aside0.mk (Kd.R_lower ho0 (below_size (by repeat (first | (with_reducible first | exact HB.out | apply below_alloc | apply pw_below_drewN | apply below_drew1) | exact HB.out)))); have n3_ := Aside0.mk (below_step (by repeat (first | (with_reducible first | exact HB.out | apply below_alloc | apply pw_below_drewN | apply below_drew1) | exact HB.out)) hb); clear HO176; clear HO184; clear HB; have HO176 := n0_; have HO184 := n1_; have HO188 := n2_; have HB := n3_; clear n0_ n1_ n2_ n3_; (try clear hb); (try clear hb2); (try clear hk); (try clear hi); (try clear ho0)) | ((with_reducible refine gate_callee (f := 10) rfl ?_); refine goesL_ (some 24) rfl rfl Try.func10 (by kernel_rfl) rfl #[.string (⟨#[77, 0, 0, 0, 0, 0, 0, 0, 9]⟩ : ByteArray)] rfl (by (try simp only [List.map_toArray, List.map_cons, List.map_nil]); first | done | rfl | (simp only [List.length_drop, List.length_take]; rfl)) ?_; (with_reducible refine (batch_Read.calls k (⟨#[77, 0, 0, 0, 0, 0, 0, 0, 9]⟩ : ByteArray) t189 t190 t193 t194 _ A3.out).mono ?_); rintro e w22 ⟨v191, rfl, ho0, hb⟩; refine ⟨_, rfl, ?_⟩; have n0_ := Aside0.mk (Kd.R_elder' (by (with_reducible repeat (first | apply Kd.R_alloc | apply Kd.R_drewN | apply Kd.R_drew)); exact HO176.out) (Kd.R_base ho0) hb); have n1_ := Aside0.mk (Kd.N_elder' (by (with_reducible repeat (first | apply Kd.N_alloc | apply Kd.N_drewN | apply Kd.N_drew)); exact HO184.out) (Kd.R_base ho0) hb); have n2_ := Aside0.mk (Kd.R_below (by (with_reducible repeat (first | apply Kd.R_alloc | apply Kd.R_drewN | apply Kd.R_drew)); exact HO188.out) hb); have n3_ := Aside0.mk (Kd.R_lower (Kd.R_new' ho0 (Kd.R_lt (by (with_reducible repeat (first | apply Kd.R_alloc | apply Kd.R_drewN | apply Kd.R_drew)); exact HO176.out))) (below_size (by repeat (first | (with_reducible first | exact HB.out | apply below_alloc | apply pw_below_drewN | apply below_drew1) | exact HB.out)))); have n4_ := Aside0.mk (below_step (by repeat (first | (with_reducible first | exact HB.out | apply below_alloc | apply pw_below_drewN | apply below_drew1) | exact HB.out)) hb); clear HO176; clear HO184; clear HO188; clear HB; have HO176 := n0_; have HO184 := n1_; have HO188 := n2_; have HO192 := n3_; have HB := n4_; clear n0_ n1_ n2_ n3_ n4_; (try clear hb); (try clear hb2); (try clear hk); (try clear hi); (try clear ho0)) | ((with_reducible refine gate_dst (N := 5) rfl ?_); (try (refine gate_guard (by rfl) ?_; dsimp only)); refine box_event ?hg (N := 5) ?hd (cs := #[.int .i64 0, .slice none 0 0]) (t := 24) ?hr ?_; (case hd => rfl); (case hg => rfl); (case hr => first | (go_simp; done) | (go_simp; rfl)); intro gb195 hg w23 hbox hb; have n0_ := Aside0.mk (Kd.R_below (by (with_reducible repeat (first | apply Kd.R_alloc | apply Kd.R_drewN | apply Kd.R_drew)); exact HO176.out) hb); have n1_ := Aside0.mk (Kd.N_below (Kd.N_elderB (by (with_reducible repeat (first | apply Kd.N_alloc | apply Kd.N_drewN | apply Kd.N_drew)); exact HO184.out) gb195 (Nat.le_of_eq hg.symm)) hb); have n2_ := Aside0.mk (Kd.R_below (by (with_reducible repeat (first | apply Kd.R_alloc | apply Kd.R_drewN | apply Kd.R_drew)); exact HO188.out) hb); have n3_ := Aside0.mk (Kd.R_below (by (with_reducible repeat (first | apply Kd.R_alloc | apply Kd.R_drewN | apply Kd.R_drew)); exact HO192.out) hb); have n4_ := Aside0.mk (below_step (by repeat (first | (with_reducible first | exact HB.out | apply below_alloc | apply pw_below_drewN | apply below_drew1) | exact HB.out)) hb); have n5_ := Aside0.mk (hbox); have n6_ := Aside0.mk ((by rw [hg]; exact (below_size (by repeat (first | (with_reducible first | exact HB.out | apply below_alloc | apply pw_below_drewN | apply below_drew1) | exact HB.out))) : w.heap.size ≤ gb195)); have n7_ := Aside0.mk ((by rw [hg]; exact (below_size (by repeat (first | (with_reducible first | exact HB.out | apply below_alloc | apply pw_below_drewN | apply below_drew1) | exact HB.out))) : w.heap.size ≤ gb195)); clear HO176; clear HO184; clear HO188; clear HO192; clear HB; have HO176 := n0_; have HO184 := n1_; have HO188 := n2_; have HO192 := n3_; have HB := n4_; have BK195 := n5_; have GW195 := n6_; have GE195 := n7_; clear n0_ n1_ n2_ n3_ n4_ n5_ n6_ n7_; clear hb hbox hg; have hcz24_0 : w23.cell? ⟨gb195, 0, none⟩ = some (.int .i64 0) := (blk_cell BK195.out 0).trans rfl; have hcz24_1 : w23.cell? ⟨gb195, 1, none⟩ = some (.slice none 0 0) := (blk_cell BK195.out 1).trans rfl; have hfz24_0 := blk_frozen BK195.out 0; have hfz24_1 := blk_frozen BK195.out 1; obtain ⟨Ao25, co25, eo25⟩ := Kd.R_slice HO192.out; subst eo25) | ((with_reducible refine gate_dst (N := 37) rfl ?_); (try (refine gate_guard (by rfl) ?_; dsimp only)); refine Kd.R_lit k69 _ 69 ?hg (N := 37) ?hd (xs := ([(⟨(⟨#[97, 15, 255, 255, 255, 255, 255, 255, 251]⟩ : ByteArray), (⟨#[0]⟩ : ByteArray)⟩ : S69)] : List (S69))) (inner := [.string (⟨#[97, 15, 255, 255, 255, 255, 255, 255, 251]⟩ : ByteArray), .string (⟨#[0]⟩ : ByteArray)]) (ok := fun _ => True) (okp := fun _ => True) ?hr ?hp (fun _ hk => hk) trivial (Below.refl _ _) (Nat.le_refl _) (by simp) ?_; (case hd => rfl); (case hg => rfl); (case hr => first | (go_simp; done) | (go_simp; rfl)); (case hp => exact (Reps.c2 (show Kd.M k69 _ _ _ (⟨(⟨#[97, 15, 255, 255, 255, 255, 255, 255, 251]⟩ : ByteArray), (⟨#[0]⟩ : ByteArray)⟩ : S69) [.string (⟨#[97, 15, 255, 255, 255, 255, 255, 255, 251]⟩ : ByteArray), .string (⟨#[0]⟩ : ByteArray)] from (k69_mkM _ _ _ (⟨(⟨#[97, 15, 255, 255, 255, 255, 255, 255, 251]⟩ : ByteArray), (⟨#[0]⟩ : ByteArray)⟩ : S69) )) (Reps.none _ _))); intro v197 w26 ho27 hb hg_ hnew_; clear hg_ hnew_; (first | rw [← Ny196.out] at ho27 | (simp only [Int.reduceToNat] at ho27; rw [← Ny196.out] at ho27)); have n0_ := Aside0.mk (Kd.R_below (by (with_reducible repeat (first | apply Kd.R_alloc | apply Kd.R_drewN | apply Kd.R_drew)); exact (Kd.R_mono (Kd.R_far (p := ⟨gb195, 1, none⟩) (Kd.R_far (p := ⟨gb195, 0, none⟩) (Kd.R_types HO176.out BK195.out (by decide)) (fun _ hk => hk.2) (.int .i64 t189)) (fun _ hk => hk.2) (.slice Ao25 t190.length co25)) (fun _ h_ => h_.1))) hb); have n1_ := Aside0.mk (Kd.N_elder' (by (with_reducible repeat (first | apply Kd.N_alloc | apply Kd.N_drewN | apply Kd.N_drew)); exact (Kd.N_mono (Kd.N_far (p := ⟨gb195, 1, none⟩) (Kd.N_far (p := ⟨gb195, 0, none⟩) (Kd.N_mono HO184.out (fun k_ hk => (⟨hk, hk.2⟩ : _ ∧ k_ ≠ gb195))) (fun _ hk => hk.2) (.int .i64 t189)) (fun _ hk => hk.2) (.slice Ao25 t190.length co25)) (fun _ h_ => h_.1))) (Kd.R_base ho27) hb); have n2_ := Aside0.mk (Kd.R_elder' (by (with_reducible repeat (first | apply Kd.R_alloc | apply Kd.R_drewN | apply Kd.R_drew)); exact (Kd.R_mono (Kd.R_far (p := ⟨gb195, 1, none⟩) (Kd.R_far (p := ⟨gb195, 0, none⟩) (Kd.R_types HO188.out BK195.out (by decide)) (fun _ hk => hk.2) (.int .i64 t189)) (fun _ hk => hk.2) (.slice Ao25 t190.length co25)) (fun _ h_ => h_.1))) (Kd.R_base ho27) hb); have n3_ := Aside0.mk (Kd.R_below (by (with_reducible repeat (first | apply Kd.R_alloc | apply Kd.R_drewN | apply Kd.R_drew)); exact (Kd.R_mono (Kd.R_far (p := ⟨gb195, 1, none⟩) (Kd.R_far (p := ⟨gb195, 0, none⟩) (Kd.R_types HO192.out BK195.out (by decide)) (fun _ hk => hk.2) (.int .i64 t189)) (fun _ hk => hk.2) (.slice Ao25 t190.length co25)) (fun _ h_ => h_.1))) hb); have n4_ := Aside0.mk (Kd.R_lower (Kd.R_new' ho27 (Kd.R_lt (by (with_reducible repeat (first | apply Kd.R_alloc | apply Kd.R_drewN | apply Kd.R_drew)); exact (Kd.R_mono (Kd.R_far (p := ⟨gb195, 1, none⟩) (Kd.R_far (p := ⟨gb195, 0, none⟩) (Kd.R_types HO188.out BK195.out (by decide)) (fun _ hk => hk.2) (.int .i64 t189)) (fun _ hk => hk.2) (.slice Ao25 t190.length co25)) (fun _ h_ => h_.1))))) (below_size (by repeat (first | (with_reducible first | exact HB.out | apply below_alloc | apply pw_below_drewN | apply below_drew1 | refine below_set ?_ GE195.out) | exact HB.out)))); have n5_ := Aside0.mk (blk_below (g := gb195) (o := .cells #[.int .i64 t189, .slice Ao25 t190.length co25] 24 (0, 0)) (by (with_reducible repeat (first | refine blk_drewN ?_ _ | refine blk_drew ?_ | refine blk_alloc ?_ _)); refine blk_put (cs := #[.int .i64 t189, .slice none 0 0]) ?_ 1 _ rfl; (with_reducible repeat (first | refine blk_drewN ?_ _ | refine blk_drew ?_ | refine blk_alloc ?_ _)); refine blk_put (cs := #[.int .i64 0, .slice none 0 0]) ?_ 0 _ rfl; (with_reducible repeat (first | refine blk_drewN ?_ _ | refine blk_drew ?_ | refine blk_alloc ?_ _)); exact BK195.out) hb); have n6_ := Aside0.mk (below_step (by repeat (first | (with_reducible first | exact HB.out | apply below_alloc | apply pw_below_drewN | apply below_drew1 | refine below_set ?_ GE195.out) | exact HB.out)) hb); clear HO176; clear HO184; clear HO188; clear HO192; clear BK195; clear HB; have HO176 := n0_; have HO184 := n1_; have HO188 := n2_; have HO192 := n3_; have HO198 := n4_; have BK195 := n5_; have HB := n6_; clear n0_ n1_ n2_ n3_ n4_ n5_ n6_; clear hb ho27; obtain ⟨Ao28, co28, eo28⟩ := Kd.R_slice HO188.out; subst eo28; obtain ⟨Ao29, co29, eo29⟩ := Kd.R_slice HO198.out; subst eo29) | (go_at_call 25; (with_reducible refine (ambryref10_Same.calls k _ _ t185 _ _ y196 true _ ?side1 ?side2 ?side3 ?side4 A6.out).mono ?_); (case side1 => repeat (first | exact (Kd.R_reads' HO188.out).2.2 | (with_reducible refine Kd.C_alloc ?_ _) | (with_reducible refine Kd.C_drewN ?_ _) | (with_reducible refine Kd.C_drew ?_))); (case side2 => exact (Kd.R_reads' HO188.out).2.1); (case side3 => repeat (first | exact (Kd.R_reads' HO198.out).2.2 | (with_reducible refine Kd.C_alloc ?_ _) | (with_reducible refine Kd.C_drewN ?_ _) | (with_reducible refine Kd.C_drew ?_))); (case side4 => exact (Kd.R_reads' HO198.out).2.1); rintro e w' ⟨rfl, ⟨nd, rfl⟩⟩))
              go_ret
              exact ⟨by first | rfl | (simp [errW_none, errW_some] <;> rfl) | (simp [*, errW_none, errW_some] <;> rfl), by repeat (first | (with_reducible first | exact HB.out | apply below_alloc | apply pw_below_drewN | apply below_drew1 | refine below_set ?_ GE195.out) | exact HB.out)⟩
            · rw [if_neg c10] at H
              cases H
          · rw [if_neg c9] at H
            cases H
        · rw [if_neg c8] at H
          cases H
      · replace c7 := Bool.eq_false_iff.mpr c7
        subst c7
        have H1 : (some false) = some true := by rw [if_neg (show ¬ (false = true) by decide)] at H; exact H
        cases H1
    · rw [if_neg c5] at H
      cases H
  · rw [if_neg c4] at H
    cases H
end Go.Proofs.Ytehcmedeeaoebaa.PB
end
section
namespace Go.Proofs.Ytehcmedeeaoebaa.PB
open Go.RowKit Go.Proofs.YtehcmedeeaoebaaW.PrintWords Go.Proofs.YtehcmedeeaoebaaW.PrintLast Go.Proofs.YtehcmedeeaoebaaW.PrintMore
attribute [local go_sem] max2_int min2_int max_two min_two max_three min_three max_four min_four
set_option linter.unusedVariables false
set_option linter.unusedSimpArgs false
theorem eqA80 (d : Nat) (w : World) (x0 y0 : Int) (x1 y1 : ByteArray) (x2 y2 : Bool) :
    (Op.equalIn (d + 2) 80 (.agg #[.int .i64 x0, .string x1, .bool x2]) (.agg #[.int .i64 y0, .string y1, .bool y2])).run Try.prog w = .ok (x0 == y0 && (x1.toList == y1.toList && (x2 == y2))) w := by
  refine eqA_of Try.underlying80 (by kernel_rfl) ?_
  refine eqf_cons (by rfl) (by go_simp; rfl) (by go_simp; rfl) (by go_simp) ?_
  refine eqf_cons (by rfl) (by go_simp; rfl) (by go_simp; rfl) (by go_simp) ?_
  exact eqf_last (by rfl) (by go_simp; rfl) (by go_simp; rfl) (by go_simp)
end Go.Proofs.Ytehcmedeeaoebaa.PB
end
section
namespace Go.Proofs.Ytehcmedeeaoebaa.PB
open Go.RowKit Go.Proofs.YtehcmedeeaoebaaW.PrintWords Go.Proofs.YtehcmedeeaoebaaW.PrintLast Go.Proofs.YtehcmedeeaoebaaW.PrintMore
attribute [local go_sem] max2_int min2_int max_two min_two max_three min_three max_four min_four
set_option linter.unusedVariables false
set_option linter.unusedSimpArgs false
attribute [local go_sem high] eqA80
def ambryref13_Same.l0 : Nat → List (S80) → List (S80) → Int → Option (Bool)
  | 0, _, _, _ => none
  | k + 1, x0, x1, x5 => if x5 < (x0.length : Int) then (if 0 ≤ x5 then (if x5 < (x1.length : Int) then (if (!(((rd_T80 x0 x5).f0) == ((rd_T80 x1 x5).f0)) || (!((((rd_T80 x0 x5).f1).toList) == (((rd_T80 x1 x5).f1).toList)) || (!(((rd_T80 x0 x5).f2) == ((rd_T80 x1 x5).f2))))) = true then (some false) else (ambryref13_Same.l0 k x0 x1 (wrap64 (x5 + 1)))) else (none)) else (none)) else (some true)
def ambryref13_Same.f (k : Nat) (l0 : List (S80)) (l1 : List (S80)) : Option (Bool) := if (l0.length : Int) = (l1.length : Int) then (ambryref13_Same.l0 k l0 l1 0) else (some false)
set_option maxHeartbeats 8000000 in
set_option maxRecDepth 100000 in
theorem ambryref13_Same.calls (k : Nat) (A0 : Option Addr) (c0 : Nat) (l0 : List (S80)) (A1 : Option Addr) (c1 : Nat) (l1 : List (S80)) (r : Bool) (w : World) (hr0 : Kd.C k80 w A0 l0.length l0) (hc0 : l0.length ≤ c0) (hr1 : Kd.C k80 w A1 l1.length l1) (hc1 : l1.length ≤ c1) (h : ambryref13_Same.f k l0 l1 = some r) :
    Calls Try.prog 62 #[.slice A0 l0.length c0, .slice A1 l1.length c1] w fun e w' => e = .returned (.bool r) ∧ Drawn0 w w' := by
  have hu80 := Try.underlying80
  have HR0 := Aside0.mk hr0
  have HC0 := Aside0.mk hc0
  clear hr0 hc0
  have HR1 := Aside0.mk hr1
  have HC1 := Aside0.mk hc1
  clear hr1 hc1
  have H : (if (l0.length : Int) = (l1.length : Int) then (ambryref13_Same.l0 k l0 l1 0) else (some false)) = some r := h
  clear h
  by_cases c3 : (l0.length : Int) = (l1.length : Int)
  · rw [if_pos c3] at H
    have c3b0 : ((l0.length : Int) == (l1.length : Int)) = true := beq_iff_eq.mpr c3
    have c3b1 : ((l0.length : Int) != (l1.length : Int)) = false := bne_eq_false_iff_eq.mpr c3
    have c3b2 : (l0.length == l1.length) = true := by first | simpa using c3 | (simp at c3 ⊢; omega)
    clear c3
    have H' := Aside0.mk H
    clear H
    go_enter Try.func62, Try.ntmps62
    go_wp2
    repeat (go_quiet (fail); try go_wp2)
    go_loopg [5] k (fun kq v5 w' => ∃ (x5_1 : Int), v5 = .int .i64 x5_1 ∧ Aside0 (ambryref13_Same.l0 kq l0 l1 x5_1 = some r) ∧ Aside0 (kq ≤ k) ∧ Drawn0 w w')
    case atStart => exact ⟨(0), (by first | rfl | (simp; done) | (simp [*]; done)), H', ⟨Nat.le_refl _⟩, by repeat (first | exact Drawn0.refl _ | apply Drawn0.step)⟩
    case round =>
      clear H'
      try clear c1
      try clear p2
      try clear c3
      try clear c3b0
      try clear c3b1
      try clear c3b2
      obtain ⟨x5_1, rfl, HA, HK1, ⟨m1, rfl⟩⟩ := hrel
      cases gk with
      | zero => exact absurd HA.out (by simp [ambryref13_Same.l0])
      | succ k1 =>
        have H := HA.out
        clear HA
        simp only [ambryref13_Same.l0] at H
        by_cases c4 : x5_1 < (l0.length : Int)
        · rw [if_pos c4] at H
          have c4b0 : decide (x5_1 < (l0.length : Int)) = true := decide_eq_true c4
          clear c4
          by_cases c5 : 0 ≤ x5_1
          · rw [if_pos c5] at H
            have c5b0 : decide (0 ≤ x5_1) = true := decide_eq_true c5
            clear c5
            by_cases c6 : x5_1 < (l1.length : Int)
            · rw [if_pos c6] at H
              have c6b0 : decide (x5_1 < (l1.length : Int)) = true := decide_eq_true c6
              clear c6
              by_cases c7 : (!(((rd_T80 l0 x5_1).f0) == ((rd_T80 l1 x5_1).f0)) || (!((((rd_T80 l0 x5_1).f1).toList) == (((rd_T80 l1 x5_1).f1).toList)) || (!(((rd_T80 l0 x5_1).f2) == ((rd_T80 l1 x5_1).f2))))) = true
              · rw [if_pos c7] at H
                have c7b0 : (!(((rd_T80 l0 x5_1).f0) == ((rd_T80 l1 x5_1).f0)) || (!((((rd_T80 l0 x5_1).f1).toList) == (((rd_T80 l1 x5_1).f1).toList)) || (!(((rd_T80 l0 x5_1).f2) == ((rd_T80 l1 x5_1).f2))))) = true := c7
                clear c7
                obtain rfl := Option.some.inj H
                have p559 : 0 ≤ (x5_1 : Int) := of_decide_eq_true (by first | (with_reducible assumption) | assumption)
                have q559 : x5_1 < (l0.length : Int) := of_decide_eq_true (by first | (with_reducible assumption) | assumption)
                obtain ⟨ad559, e559, hx559_0, hx559_1, hx559_2⟩ := at_T80 HR0.out x5_1 p559 q559
                cases e559
                replace p559 := eq_true p559
                replace q559 := eq_true q559
                have p560 : 0 ≤ (x5_1 : Int) := of_decide_eq_true (by first | (with_reducible assumption) | assumption)
                have q560 : x5_1 < (l1.length : Int) := of_decide_eq_true (by first | (with_reducible assumption) | assumption)
                obtain ⟨ad560, e560, hx560_0, hx560_1, hx560_2⟩ := at_T80 HR1.out x5_1 p560 q560
                cases e560
                replace p560 := eq_true p560
                replace q560 := eq_true q560
                go_wp2
                repeat (go_quiet (fail); try go_wp2)
                go_ret
                exact ⟨by first | rfl | (simp; done) | (simp [*]; done), by repeat (first | exact Drawn0.refl _ | apply Drawn0.step)⟩
              · rw [if_neg c7] at H
                have c7b0 : (!(((rd_T80 l0 x5_1).f0) == ((rd_T80 l1 x5_1).f0)) || (!((((rd_T80 l0 x5_1).f1).toList) == (((rd_T80 l1 x5_1).f1).toList)) || (!(((rd_T80 l0 x5_1).f2) == ((rd_T80 l1 x5_1).f2))))) = false := by simpa using c7
                clear c7
                have H' := Aside0.mk H
                clear H
                have p559 : 0 ≤ (x5_1 : Int) := of_decide_eq_true (by first | (with_reducible assumption) | assumption)
                have q559 : x5_1 < (l0.length : Int) := of_decide_eq_true (by first | (with_reducible assumption) | assumption)
                obtain ⟨ad559, e559, hx559_0, hx559_1, hx559_2⟩ := at_T80 HR0.out x5_1 p559 q559
                cases e559
                replace p559 := eq_true p559
                replace q559 := eq_true q559
                have p560 : 0 ≤ (x5_1 : Int) := of_decide_eq_true (by first | (with_reducible assumption) | assumption)
                have q560 : x5_1 < (l1.length : Int) := of_decide_eq_true (by first | (with_reducible assumption) | assumption)
                obtain ⟨ad560, e560, hx560_0, hx560_1, hx560_2⟩ := at_T80 HR1.out x5_1 p560 q560
                cases e560
                replace p560 := eq_true p560
                replace q560 := eq_true q560
                go_wp2
                repeat (go_quiet (fail); try go_wp2)
                go_roundg k1
                case measure => have := HK1.out; omega
                case rel => exact ⟨(wrap64 (x5_1 + 1)), (by first | rfl | (simp; done) | (simp [*]; done)), H', ⟨by have := HK1.out; omega⟩, by repeat (first | exact Drawn0.refl _ | apply Drawn0.step)⟩
            · rw [if_neg c6] at H
              exact absurd H (by simp)
          · rw [if_neg c5] at H
            exact absurd H (by simp)
        · rw [if_neg c4] at H
          have c4b0 : decide (x5_1 < (l0.length : Int)) = false := decide_eq_false c4
          clear c4
          obtain rfl := Option.some.inj H
          go_wp2
          repeat (go_quiet (fail); try go_wp2)
          go_ret
          exact ⟨by first | rfl | (simp; done) | (simp [*]; done), by repeat (first | exact Drawn0.refl _ | apply Drawn0.step)⟩
  · rw [if_neg c3] at H
    have c3b0 : ((l0.length : Int) == (l1.length : Int)) = false := beq_eq_false_iff_ne.mpr c3
    have c3b1 : ((l0.length : Int) != (l1.length : Int)) = true := bne_iff_ne.mpr c3
    have c3b2 : (l0.length == l1.length) = false := by first | simpa using c3 | (simp at c3 ⊢; omega)
    obtain rfl := Option.some.inj H
    go_enter Try.func62, Try.ntmps62
    go_wp2
    repeat (go_quiet (fail); try go_wp2)
    go_ret
    exact ⟨by first | rfl | (simp; done) | (simp [*]; done), by repeat (first | exact Drawn0.refl _ | apply Drawn0.step)⟩
end Go.Proofs.Ytehcmedeeaoebaa.PB
end
section
namespace Go.Proofs.Ytehcmedeeaoebaa.PB
open Go.RowKit Go.Proofs.YtehcmedeeaoebaaW.PrintWords Go.Proofs.YtehcmedeeaoebaaW.PrintLast Go.Proofs.YtehcmedeeaoebaaW.PrintMore
attribute [local go_sem] max2_int min2_int max_two min_two max_three min_three max_four min_four
set_option linter.unusedVariables false
set_option linter.unusedSimpArgs false
def ambryref14_Same.l0 : Nat → List (S67) → List (S67) → Int → Option (Bool)
  | 0, _, _, _ => none
  | k + 1, x0, x1, x5 => if x5 < (x0.length : Int) then (if 0 ≤ x5 then (if x5 < (x1.length : Int) then (if ((rd_T67 x0 x5).f0).toList = ((rd_T67 x1 x5).f0).toList then ((ambryref13_Same.f k ((rd_T67 x0 x5).f1) ((rd_T67 x1 x5).f1)).bind fun t565 => (if t565 = true then (ambryref14_Same.l0 k x0 x1 (wrap64 (x5 + 1))) else (some false))) else (some false)) else (none)) else (none)) else (some true)
def ambryref14_Same.f (k : Nat) (l0 : List (S67)) (l1 : List (S67)) : Option (Bool) := if (l0.length : Int) = (l1.length : Int) then (ambryref14_Same.l0 k l0 l1 0) else (some false)
set_option maxHeartbeats 8000000 in
set_option maxRecDepth 100000 in
theorem ambryref14_Same.calls (k : Nat) (A0 : Option Addr) (c0 : Nat) (l0 : List (S67)) (A1 : Option Addr) (c1 : Nat) (l1 : List (S67)) (r : Bool) (w : World) (hr0 : Kd.C k67 w A0 l0.length l0) (hc0 : l0.length ≤ c0) (hr1 : Kd.C k67 w A1 l1.length l1) (hc1 : l1.length ≤ c1) (h : ambryref14_Same.f k l0 l1 = some r) :
    Calls Try.prog 32 #[.slice A0 l0.length c0, .slice A1 l1.length c1] w fun e w' => e = .returned (.bool r) ∧ Drawn0 w w' := by
  have HR0 := Aside0.mk hr0
  have HC0 := Aside0.mk hc0
  clear hr0 hc0
  have HR1 := Aside0.mk hr1
  have HC1 := Aside0.mk hc1
  clear hr1 hc1
  have H : (if (l0.length : Int) = (l1.length : Int) then (ambryref14_Same.l0 k l0 l1 0) else (some false)) = some r := h
  clear h
  by_cases c3 : (l0.length : Int) = (l1.length : Int)
  · rw [if_pos c3] at H
    have c3b0 : ((l0.length : Int) == (l1.length : Int)) = true := beq_iff_eq.mpr c3
    have c3b1 : ((l0.length : Int) != (l1.length : Int)) = false := bne_eq_false_iff_eq.mpr c3
    have c3b2 : (l0.length == l1.length) = true := by first | simpa using c3 | (simp at c3 ⊢; omega)
    clear c3
    have H' := Aside0.mk H
    clear H
    go_enter Try.func32, Try.ntmps32
    go_wp2
    repeat (go_quiet (fail); try go_wp2)
    go_loopg [5] k (fun kq v5 w' => ∃ (x5_1 : Int), v5 = .int .i64 x5_1 ∧ Aside0 (ambryref14_Same.l0 kq l0 l1 x5_1 = some r) ∧ Aside0 (kq ≤ k) ∧ Drawn0 w w')
    case atStart => exact ⟨(0), (by first | rfl | (simp; done) | (simp [*]; done)), H', ⟨Nat.le_refl _⟩, by repeat (first | exact Drawn0.refl _ | apply Drawn0.step)⟩
    case round =>
      clear H'
      try clear c1
      try clear p2
      try clear c3
      try clear c3b0
      try clear c3b1
      try clear c3b2
      obtain ⟨x5_1, rfl, HA, HK1, ⟨m1, rfl⟩⟩ := hrel
      cases gk with
      | zero => exact absurd HA.out (by simp [ambryref14_Same.l0])
      | succ k1 =>
        have H := HA.out
        clear HA
        simp only [ambryref14_Same.l0] at H
        by_cases c4 : x5_1 < (l0.length : Int)
        · rw [if_pos c4] at H
          have c4b0 : decide (x5_1 < (l0.length : Int)) = true := decide_eq_true c4
          clear c4
          by_cases c5 : 0 ≤ x5_1
          · rw [if_pos c5] at H
            have c5b0 : decide (0 ≤ x5_1) = true := decide_eq_true c5
            clear c5
            by_cases c6 : x5_1 < (l1.length : Int)
            · rw [if_pos c6] at H
              have c6b0 : decide (x5_1 < (l1.length : Int)) = true := decide_eq_true c6
              clear c6
              by_cases c7 : ((rd_T67 l0 x5_1).f0).toList = ((rd_T67 l1 x5_1).f0).toList
              · rw [if_pos c7] at H
                have c7b0 : (((rd_T67 l0 x5_1).f0).toList == ((rd_T67 l1 x5_1).f0).toList) = true := beq_iff_eq.mpr c7
                have c7b1 : (((rd_T67 l0 x5_1).f0).toList != ((rd_T67 l1 x5_1).f0).toList) = false := bne_eq_false_iff_eq.mpr c7
                clear c7
                replace H := Option.bind_eq_some_iff.mp H
                obtain ⟨t565, A80, H⟩ := H
                replace H : (if t565 = true then (ambryref14_Same.l0 k1 l0 l1 (wrap64 (x5_1 + 1))) else (some false)) = some r := H
                have A8 := Aside0.mk A80
                clear A80
                by_cases c9 : t565 = true
                · subst c9
                  have H1 : (ambryref14_Same.l0 k1 l0 l1 (wrap64 (x5_1 + 1))) = some r := by rw [if_pos rfl] at H; exact H
                  clear H
                  have H := H1
                  clear H1
                  have H' := Aside0.mk H
                  clear H
                  have p561 : 0 ≤ (x5_1 : Int) := of_decide_eq_true (by first | (with_reducible assumption) | assumption)
                  have q561 : x5_1 < (l0.length : Int) := of_decide_eq_true (by first | (with_reducible assumption) | assumption)
                  obtain ⟨ad561, A561_1, c561_1, e561, hx561_0, hx561_1, hl561_1, hi561_1⟩ := at_T67 HR0.out x5_1 p561 q561
                  cases e561
                  have HR561_1 := Aside0.mk hi561_1
                  have HC561_1 := Aside0.mk hl561_1
                  clear hi561_1 hl561_1
                  replace p561 := eq_true p561
                  replace q561 := eq_true q561
                  have p562 : 0 ≤ (x5_1 : Int) := of_decide_eq_true (by first | (with_reducible assumption) | assumption)
                  have q562 : x5_1 < (l1.length : Int) := of_decide_eq_true (by first | (with_reducible assumption) | assumption)
                  obtain ⟨ad562, A562_1, c562_1, e562, hx562_0, hx562_1, hl562_1, hi562_1⟩ := at_T67 HR1.out x5_1 p562 q562
                  cases e562
                  have HR562_1 := Aside0.mk hi562_1
                  have HC562_1 := Aside0.mk hl562_1
                  clear hi562_1 hl562_1
                  replace p562 := eq_true p562
                  replace q562 := eq_true q562
                  have p563 : 0 ≤ (x5_1 : Int) := of_decide_eq_true (by first | (with_reducible assumption) | assumption)
                  have q563 : x5_1 < (l0.length : Int) := of_decide_eq_true (by first | (with_reducible assumption) | assumption)
                  obtain ⟨ad563, A563_1, c563_1, e563, hx563_0, hx563_1, hl563_1, hi563_1⟩ := at_T67 HR0.out x5_1 p563 q563
                  obtain rfl : ad561 = ad563 := (by injection e563)
                  have HR563_1 := Aside0.mk hi563_1
                  have HC563_1 := Aside0.mk hl563_1
                  clear hi563_1 hl563_1
                  replace p563 := eq_true p563
                  replace q563 := eq_true q563
                  have ea_ := Option.some.inj (hx561_1.symm.trans hx563_1)
                  injection ea_ with ea_ en_ ec_
                  subst ea_
                  subst ec_
                  clear en_
                  have p564 : 0 ≤ (x5_1 : Int) := of_decide_eq_true (by first | (with_reducible assumption) | assumption)
                  have q564 : x5_1 < (l1.length : Int) := of_decide_eq_true (by first | (with_reducible assumption) | assumption)
                  obtain ⟨ad564, A564_1, c564_1, e564, hx564_0, hx564_1, hl564_1, hi564_1⟩ := at_T67 HR1.out x5_1 p564 q564
                  obtain rfl : ad562 = ad564 := (by injection e564)
                  have HR564_1 := Aside0.mk hi564_1
                  have HC564_1 := Aside0.mk hl564_1
                  clear hi564_1 hl564_1
                  replace p564 := eq_true p564
                  replace q564 := eq_true q564
                  have ea_ := Option.some.inj (hx562_1.symm.trans hx564_1)
                  injection ea_ with ea_ en_ ec_
                  subst ea_
                  subst ec_
                  clear en_
                  go_wp2_with (first | (go_at_call 62; (with_reducible refine (ambryref13_Same.calls k1 _ _ ((rd_T67 l0 x5_1).f1) _ _ ((rd_T67 l1 x5_1).f1) true _ ?side1 ?side2 ?side3 ?side4 A8.out).mono ?_); (case side1 => repeat (first | exact HR563_1.out | (with_reducible refine Kd.C_alloc ?_ _) | (with_reducible refine Kd.C_drewN ?_ _) | (with_reducible refine Kd.C_drew ?_))); (case side2 => exact HC563_1.out); (case side3 => repeat (first | exact HR564_1.out | (with_reducible refine Kd.C_alloc ?_ _) | (with_reducible refine Kd.C_drewN ?_ _) | (with_reducible refine Kd.C_drew ?_))); (case side4 => exact HC564_1.out); rintro e w' ⟨rfl, ⟨nd, rfl⟩⟩; (try first | exact ⟨rfl, _, World.drewN_drewN _ _ _⟩ | exact ⟨rfl, _, Eq.trans (World.drewN_drewN _ _ _) (congrArg (World.drewN _) (Nat.add_assoc _ _ _))⟩)))
                  repeat (go_quiet (first | (go_at_call 62; (with_reducible refine (ambryref13_Same.calls k1 _ _ ((rd_T67 l0 x5_1).f1) _ _ ((rd_T67 l1 x5_1).f1) true _ ?side1 ?side2 ?side3 ?side4 A8.out).mono ?_); (case side1 => repeat (first | exact HR563_1.out | (with_reducible refine Kd.C_alloc ?_ _) | (with_reducible refine Kd.C_drewN ?_ _) | (with_reducible refine Kd.C_drew ?_))); (case side2 => exact HC563_1.out); (case side3 => repeat (first | exact HR564_1.out | (with_reducible refine Kd.C_alloc ?_ _) | (with_reducible refine Kd.C_drewN ?_ _) | (with_reducible refine Kd.C_drew ?_))); (case side4 => exact HC564_1.out); rintro e w' ⟨rfl, ⟨nd, rfl⟩⟩; (try first | exact ⟨rfl, _, World.drewN_drewN _ _ _⟩ | exact ⟨rfl, _, Eq.trans (World.drewN_drewN _ _ _) (congrArg (World.drewN _) (Nat.add_assoc _ _ _))⟩))); try go_wp2_with (first | (go_at_call 62; (with_reducible refine (ambryref13_Same.calls k1 _ _ ((rd_T67 l0 x5_1).f1) _ _ ((rd_T67 l1 x5_1).f1) true _ ?side1 ?side2 ?side3 ?side4 A8.out).mono ?_); (case side1 => repeat (first | exact HR563_1.out | (with_reducible refine Kd.C_alloc ?_ _) | (with_reducible refine Kd.C_drewN ?_ _) | (with_reducible refine Kd.C_drew ?_))); (case side2 => exact HC563_1.out); (case side3 => repeat (first | exact HR564_1.out | (with_reducible refine Kd.C_alloc ?_ _) | (with_reducible refine Kd.C_drewN ?_ _) | (with_reducible refine Kd.C_drew ?_))); (case side4 => exact HC564_1.out); rintro e w' ⟨rfl, ⟨nd, rfl⟩⟩; (try first | exact ⟨rfl, _, World.drewN_drewN _ _ _⟩ | exact ⟨rfl, _, Eq.trans (World.drewN_drewN _ _ _) (congrArg (World.drewN _) (Nat.add_assoc _ _ _))⟩))))
                  go_roundg k1
                  case measure => have := HK1.out; omega
                  case rel => exact ⟨(wrap64 (x5_1 + 1)), (by first | rfl | (simp; done) | (simp [*]; done)), H', ⟨by have := HK1.out; omega⟩, by repeat (first | exact Drawn0.refl _ | apply Drawn0.step)⟩
                · replace c9 := Bool.eq_false_iff.mpr c9
                  subst c9
                  have H1 : (some false) = some r := by rw [if_neg (show ¬ (false = true) by decide)] at H; exact H
                  clear H
                  have H := H1
                  clear H1
                  obtain rfl := Option.some.inj H
                  have p561 : 0 ≤ (x5_1 : Int) := of_decide_eq_true (by first | (with_reducible assumption) | assumption)
                  have q561 : x5_1 < (l0.length : Int) := of_decide_eq_true (by first | (with_reducible assumption) | assumption)
                  obtain ⟨ad561, A561_1, c561_1, e561, hx561_0, hx561_1, hl561_1, hi561_1⟩ := at_T67 HR0.out x5_1 p561 q561
                  cases e561
                  have HR561_1 := Aside0.mk hi561_1
                  have HC561_1 := Aside0.mk hl561_1
                  clear hi561_1 hl561_1
                  replace p561 := eq_true p561
                  replace q561 := eq_true q561
                  have p562 : 0 ≤ (x5_1 : Int) := of_decide_eq_true (by first | (with_reducible assumption) | assumption)
                  have q562 : x5_1 < (l1.length : Int) := of_decide_eq_true (by first | (with_reducible assumption) | assumption)
                  obtain ⟨ad562, A562_1, c562_1, e562, hx562_0, hx562_1, hl562_1, hi562_1⟩ := at_T67 HR1.out x5_1 p562 q562
                  cases e562
                  have HR562_1 := Aside0.mk hi562_1
                  have HC562_1 := Aside0.mk hl562_1
                  clear hi562_1 hl562_1
                  replace p562 := eq_true p562
                  replace q562 := eq_true q562
                  have p563 : 0 ≤ (x5_1 : Int) := of_decide_eq_true (by first | (with_reducible assumption) | assumption)
                  have q563 : x5_1 < (l0.length : Int) := of_decide_eq_true (by first | (with_reducible assumption) | assumption)
                  obtain ⟨ad563, A563_1, c563_1, e563, hx563_0, hx563_1, hl563_1, hi563_1⟩ := at_T67 HR0.out x5_1 p563 q563
                  obtain rfl : ad561 = ad563 := (by injection e563)
                  have HR563_1 := Aside0.mk hi563_1
                  have HC563_1 := Aside0.mk hl563_1
                  clear hi563_1 hl563_1
                  replace p563 := eq_true p563
                  replace q563 := eq_true q563
                  have ea_ := Option.some.inj (hx561_1.symm.trans hx563_1)
                  injection ea_ with ea_ en_ ec_
                  subst ea_
                  subst ec_
                  clear en_
                  have p564 : 0 ≤ (x5_1 : Int) := of_decide_eq_true (by first | (with_reducible assumption) | assumption)
                  have q564 : x5_1 < (l1.length : Int) := of_decide_eq_true (by first | (with_reducible assumption) | assumption)
                  obtain ⟨ad564, A564_1, c564_1, e564, hx564_0, hx564_1, hl564_1, hi564_1⟩ := at_T67 HR1.out x5_1 p564 q564
                  obtain rfl : ad562 = ad564 := (by injection e564)
                  have HR564_1 := Aside0.mk hi564_1
                  have HC564_1 := Aside0.mk hl564_1
                  clear hi564_1 hl564_1
                  replace p564 := eq_true p564
                  replace q564 := eq_true q564
                  have ea_ := Option.some.inj (hx562_1.symm.trans hx564_1)
                  injection ea_ with ea_ en_ ec_
                  subst ea_
                  subst ec_
                  clear en_
                  go_wp2_with (first | (go_at_call 62; (with_reducible refine (ambryref13_Same.calls k1 _ _ ((rd_T67 l0 x5_1).f1) _ _ ((rd_T67 l1 x5_1).f1) false _ ?side1 ?side2 ?side3 ?side4 A8.out).mono ?_); (case side1 => repeat (first | exact HR563_1.out | (with_reducible refine Kd.C_alloc ?_ _) | (with_reducible refine Kd.C_drewN ?_ _) | (with_reducible refine Kd.C_drew ?_))); (case side2 => exact HC563_1.out); (case side3 => repeat (first | exact HR564_1.out | (with_reducible refine Kd.C_alloc ?_ _) | (with_reducible refine Kd.C_drewN ?_ _) | (with_reducible refine Kd.C_drew ?_))); (case side4 => exact HC564_1.out); rintro e w' ⟨rfl, ⟨nd, rfl⟩⟩; (try first | exact ⟨rfl, _, World.drewN_drewN _ _ _⟩ | exact ⟨rfl, _, Eq.trans (World.drewN_drewN _ _ _) (congrArg (World.drewN _) (Nat.add_assoc _ _ _))⟩)))
                  repeat (go_quiet (first | (go_at_call 62; (with_reducible refine (ambryref13_Same.calls k1 _ _ ((rd_T67 l0 x5_1).f1) _ _ ((rd_T67 l1 x5_1).f1) false _ ?side1 ?side2 ?side3 ?side4 A8.out).mono ?_); (case side1 => repeat (first | exact HR563_1.out | (with_reducible refine Kd.C_alloc ?_ _) | (with_reducible refine Kd.C_drewN ?_ _) | (with_reducible refine Kd.C_drew ?_))); (case side2 => exact HC563_1.out); (case side3 => repeat (first | exact HR564_1.out | (with_reducible refine Kd.C_alloc ?_ _) | (with_reducible refine Kd.C_drewN ?_ _) | (with_reducible refine Kd.C_drew ?_))); (case side4 => exact HC564_1.out); rintro e w' ⟨rfl, ⟨nd, rfl⟩⟩; (try first | exact ⟨rfl, _, World.drewN_drewN _ _ _⟩ | exact ⟨rfl, _, Eq.trans (World.drewN_drewN _ _ _) (congrArg (World.drewN _) (Nat.add_assoc _ _ _))⟩))); try go_wp2_with (first | (go_at_call 62; (with_reducible refine (ambryref13_Same.calls k1 _ _ ((rd_T67 l0 x5_1).f1) _ _ ((rd_T67 l1 x5_1).f1) false _ ?side1 ?side2 ?side3 ?side4 A8.out).mono ?_); (case side1 => repeat (first | exact HR563_1.out | (with_reducible refine Kd.C_alloc ?_ _) | (with_reducible refine Kd.C_drewN ?_ _) | (with_reducible refine Kd.C_drew ?_))); (case side2 => exact HC563_1.out); (case side3 => repeat (first | exact HR564_1.out | (with_reducible refine Kd.C_alloc ?_ _) | (with_reducible refine Kd.C_drewN ?_ _) | (with_reducible refine Kd.C_drew ?_))); (case side4 => exact HC564_1.out); rintro e w' ⟨rfl, ⟨nd, rfl⟩⟩; (try first | exact ⟨rfl, _, World.drewN_drewN _ _ _⟩ | exact ⟨rfl, _, Eq.trans (World.drewN_drewN _ _ _) (congrArg (World.drewN _) (Nat.add_assoc _ _ _))⟩))))
                  go_ret
                  exact ⟨by first | rfl | (simp; done) | (simp [*]; done), by repeat (first | exact Drawn0.refl _ | apply Drawn0.step)⟩
              · rw [if_neg c7] at H
                have c7b0 : (((rd_T67 l0 x5_1).f0).toList == ((rd_T67 l1 x5_1).f0).toList) = false := beq_eq_false_iff_ne.mpr c7
                have c7b1 : (((rd_T67 l0 x5_1).f0).toList != ((rd_T67 l1 x5_1).f0).toList) = true := bne_iff_ne.mpr c7
                obtain rfl := Option.some.inj H
                have p561 : 0 ≤ (x5_1 : Int) := of_decide_eq_true (by first | (with_reducible assumption) | assumption)
                have q561 : x5_1 < (l0.length : Int) := of_decide_eq_true (by first | (with_reducible assumption) | assumption)
                obtain ⟨ad561, A561_1, c561_1, e561, hx561_0, hx561_1, hl561_1, hi561_1⟩ := at_T67 HR0.out x5_1 p561 q561
                cases e561
                have HR561_1 := Aside0.mk hi561_1
                have HC561_1 := Aside0.mk hl561_1
                clear hi561_1 hl561_1
                replace p561 := eq_true p561
                replace q561 := eq_true q561
                have p562 : 0 ≤ (x5_1 : Int) := of_decide_eq_true (by first | (with_reducible assumption) | assumption)
                have q562 : x5_1 < (l1.length : Int) := of_decide_eq_true (by first | (with_reducible assumption) | assumption)
                obtain ⟨ad562, A562_1, c562_1, e562, hx562_0, hx562_1, hl562_1, hi562_1⟩ := at_T67 HR1.out x5_1 p562 q562
                cases e562
                have HR562_1 := Aside0.mk hi562_1
                have HC562_1 := Aside0.mk hl562_1
                clear hi562_1 hl562_1
                replace p562 := eq_true p562
                replace q562 := eq_true q562
                go_wp2
                repeat (go_quiet (fail); try go_wp2)
                go_ret
                exact ⟨by first | rfl | (simp; done) | (simp [*]; done), by repeat (first | exact Drawn0.refl _ | apply Drawn0.step)⟩
            · rw [if_neg c6] at H
              exact absurd H (by simp)
          · rw [if_neg c5] at H
            exact absurd H (by simp)
        · rw [if_neg c4] at H
          have c4b0 : decide (x5_1 < (l0.length : Int)) = false := decide_eq_false c4
          clear c4
          obtain rfl := Option.some.inj H
          go_wp2
          repeat (go_quiet (fail); try go_wp2)
          go_ret
          exact ⟨by first | rfl | (simp; done) | (simp [*]; done), by repeat (first | exact Drawn0.refl _ | apply Drawn0.step)⟩
  · rw [if_neg c3] at H
    have c3b0 : ((l0.length : Int) == (l1.length : Int)) = false := beq_eq_false_iff_ne.mpr c3
    have c3b1 : ((l0.length : Int) != (l1.length : Int)) = true := bne_iff_ne.mpr c3
    have c3b2 : (l0.length == l1.length) = false := by first | simpa using c3 | (simp at c3 ⊢; omega)
    obtain rfl := Option.some.inj H
    go_enter Try.func32, Try.ntmps32
    go_wp2
    repeat (go_quiet (fail); try go_wp2)
    go_ret
    exact ⟨by first | rfl | (simp; done) | (simp [*]; done), by repeat (first | exact Drawn0.refl _ | apply Drawn0.step)⟩
end Go.Proofs.Ytehcmedeeaoebaa.PB
end
section
namespace Go.Proofs.Ytehcmedeeaoebaa.PB
open Go.RowKit Go.Proofs.YtehcmedeeaoebaaW.PrintWords Go.Proofs.YtehcmedeeaoebaaW.PrintLast Go.Proofs.YtehcmedeeaoebaaW.PrintMore
set_option linter.unusedVariables false
set_option linter.unusedSimpArgs false
theorem Lives9.calls (w : World) : Calls Try.prog 13 #[] w fun e w' => e = .returned (.bool true) ∧ Below w.heap.size w w' := lives13.calls 40 w lives_40
theorem Few9.calls (l : List S67) (b : Bool) (h : ∃ q, ambrylaw15_few.f q l = some b) (A : Option Addr) (c : Nat) (w : World) (hC : Kd.C k67 w A l.length l) (hc : l.length ≤ c) :
    Calls Try.prog 27 #[.slice A l.length c] w fun e w' => e = .returned (.bool b) ∧ Below w.heap.size w w' := by
  obtain ⟨q, hq⟩ := h
  exact (ambrylaw15_few.calls q A c l b w hC hc hq).mono fun e w' ⟨he, n, hn⟩ => ⟨he, by subst hn; exact pw_below_drewN (Below.refl _ _) n⟩
theorem Same9.calls (l m : List S67) (h : ∃ q, ambryref14_Same.f q m l = some true) (A : Option Addr) (c : Nat) (A' : Option Addr) (c' : Nat) (w : World) (hC : Kd.C k67 w A m.length m) (hc : m.length ≤ c) (hC' : Kd.C k67 w A' l.length l) (hc' : l.length ≤ c') :
    Calls Try.prog 32 #[.slice A m.length c, .slice A' l.length c'] w fun e w' => e = .returned (.bool true) ∧ Below w.heap.size w w' := by
  obtain ⟨q, hq⟩ := h
  exact (ambryref14_Same.calls q A c m A' c' l true w hC hc hC' hc' hq).mono fun e w' ⟨he, n, hn⟩ => ⟨he, by subst hn; exact pw_below_drewN (Below.refl _ _) n⟩
end Go.Proofs.Ytehcmedeeaoebaa.PB
end
section
namespace Go.Proofs.Ytehcmedeeaoebaa.PB
open Go.RowKit Go.Proofs.YtehcmedeeaoebaaW.PrintWords Go.Proofs.YtehcmedeeaoebaaW.PrintLast Go.Proofs.YtehcmedeeaoebaaW.PrintMore
set_option linter.unusedVariables false
theorem same13_loop (l : List S80) (hl : l.length ≤ 140737488351232) : ∀ n i, i + n = l.length → Ev (fun k => ambryref13_Same.l0 k l l (i : Int)) true := by
  intro n
  induction n with
  | zero => exact fun i hi => Ev.step (Ev.const _) fun k => by simp only [ambryref13_Same.l0]; rw [if_neg (by omega)]
  | succ n ih =>
    intro i hi
    exact Ev.step (ih (i + 1) (by omega)) fun k => by
      simp only [ambryref13_Same.l0]; rw [if_pos (by omega), if_pos (by omega), if_pos (by omega), if_neg (by simp), w64 (by omega) (by omega)]; rfl
theorem same13_ev (l : List S80) (hl : l.length ≤ 140737488351232) : Ev (fun k => ambryref13_Same.f k l l) true := by
  unfold ambryref13_Same.f
  simp only [if_true]
  exact same13_loop l hl l.length 0 (by omega)
theorem same14_loop (l : List S67) (hl : l.length ≤ 140737488351232) (hv : ∀ x ∈ l, x.f1.length ≤ 140737488351232) : ∀ n i, i + n = l.length → Ev (fun k => ambryref14_Same.l0 k l l (i : Int)) true := by
  intro n
  induction n with
  | zero => exact fun i hi => Ev.step (Ev.const _) fun k => by simp only [ambryref14_Same.l0]; rw [if_neg (by omega)]
  | succ n ih =>
    intro i hi
    have hil : i < l.length := by omega
    refine Ev.step (g := fun k => (ambryref13_Same.f k l[i].f1 l[i].f1).bind fun t => if t = true then ambryref14_Same.l0 k l l ((i + 1 : Nat) : Int) else some false) ?_ fun k => ?_
    · refine Ev.bind (same13_ev _ (hv _ (List.getElem_mem hil))) ?_
      simp only [if_true]
      exact ih (i + 1) (by omega)
    · simp only [ambryref14_Same.l0]
      rw [if_pos (by omega), if_pos (by omega), if_pos (by omega), if_pos (by trivial), rd67 l i hil, w64 (by omega) (by omega)]
      rfl
theorem same14_ev (l : List S67) (hl : l.length ≤ 140737488351232) (hv : ∀ x ∈ l, x.f1.length ≤ 140737488351232) : Ev (fun k => ambryref14_Same.f k l l) true := by
  unfold ambryref14_Same.f
  simp only [if_true]
  exact same14_loop l hl hv l.length 0 (by omega)
theorem itemsL_ev (A : List S67) : ∀ (r out : List S67), (∀ x ∈ r, rowP A x.f0 = x.f1 ∧ mayB x.f0 x.f1 = true ∧ x.f1.length ≤ 140737488351232) → Ev (fun k => itemsL k A (r.map (·.f0)) out) (out ++ r, 0)
  | [], out, _ => by simp only [List.map_nil, itemsL, List.append_nil]; exact Ev.const _
  | x :: r, out, h => by
    obtain ⟨h1, h2, h3⟩ := h x List.mem_cons_self
    simp only [List.map_cons, itemsL, h1]
    have hm := may_ev x.f0 x.f1 h3
    rw [h2] at hm
    refine Ev.bind hm ?_
    simp only [if_true]
    have := itemsL_ev A r (out ++ [x]) fun y hy => h y (List.mem_cons_of_mem _ hy)
    rw [List.append_assoc, List.singleton_append] at this
    exact this
theorem rowsOf_length (l : List S67) : (rowsOf l).length = totV l := by
  unfold rowsOf totV pairsRow
  rw [List.length_flatMap]
  congr 1
  refine List.map_congr_left fun x _ => ?_
  rw [List.length_map]
theorem Items_back (l : List S67) (h : itemsOk none l = true) (hv : ∀ x ∈ l, x.f1.length ≤ 140737488351232) (hf : fit47 (sortP (rowsOf l))) : Ev (fun k => batch_Items.f k (sortP (rowsOf l))) (l, 0) := by
  have hg := good_of h
  obtain ⟨hperm, hmap, hs⟩ := hg.sorted
  have hm := (itemsOk_facts h).1
  unfold batch_Items.f
  simp only [if_pos hf]
  have hgat : gatherL (sortP (rowsOf l)) (sortP (rowsOf l)).length 0 [] = some (groupKV (sortedKV l) []) := by
    rw [hmap]
    have := gather_kv (sortedKV l) (fun q hq => versionP_pair q.1 q.2 (hg.okq (hperm.mem_iff.1 hq))) hs (sortedKV l).length 0 [] (by omega)
    rw [List.drop_zero] at this
    rw [List.length_map]
    exact this
  rw [hgat]
  simp only
  rw [hg.keys]
  have := itemsL_ev (groupKV (sortedKV l) []) l [] fun x hx => ⟨hg.row hx, (hm x hx).1, hv x hx⟩
  rw [List.nil_append] at this
  exact this
end Go.Proofs.Ytehcmedeeaoebaa.PB
end
section
namespace Go.Proofs.Ytehcmedeeaoebaa.PB
open Go.RowKit Go.Proofs.YtehcmedeeaoebaaW.PrintWords Go.Proofs.YtehcmedeeaoebaaW.PrintLast Go.Proofs.YtehcmedeeaoebaaW.PrintMore
set_option linter.unusedVariables false
theorem Ev.uniq {α : Type} {f : Nat → Option α} {a b : α} (h : Ev f a) (h2 : Ev f b) : a = b := by
  obtain ⟨K, h⟩ := h
  obtain ⟨L, h2⟩ := h2
  have e1 := h (K + L) (by omega)
  have e2 := h2 (K + L) (by omega)
  rw [e1] at e2
  exact Option.some.inj e2
theorem ba_ext {a b : ByteArray} (h : a.data.toList = b.data.toList) : a = b := ByteArray.ext (Array.toList_inj.1 h)
theorem ex_list (s : ByteArray) (i j : Nat) : (s.extract i j).data.toList = (s.data.toList.drop i).take (j - i) := by rw [ByteArray.data_extract, Array.toList_extract, List.extract_eq_take_drop]
theorem tail8 (x : ByteArray) (hx : x.size = 8) : bytesU (wrap64 (be (bytesOf x))) = x.data.toList := by
  have hlen : (bytesOf x).length = 8 := by rw [bytesOf_length]; exact hx
  have hb : ∀ b ∈ bytesOf x, 0 ≤ b ∧ b < 256 := by
    intro b hb
    unfold bytesOf at hb
    obtain ⟨u, _, rfl⟩ := List.mem_map.1 hb
    have := UInt8.toNat_lt u
    omega
  obtain ⟨h1, h2, h3⟩ := bytes8_be _ hlen hb
  have ew : wrap64 (be (bytesOf x)) % 18446744073709551616 = be (bytesOf x) := by unfold wrap64; omega
  unfold bytesU
  rw [ew, h1]
  unfold bytesOf
  rw [List.map_map]
  refine (List.map_congr_left fun b _ => ?_).trans (List.map_id _)
  show UInt8.ofNat ((b.toNat : Int)).toNat = b
  rw [Int.toNat_natCast, UInt8.ofNat_toNat]
theorem verR_of {p : S69} {q : KV} (h : versionP p = some q) : verR p = some q := by
  unfold versionP at h
  have e : ((p.f0.size : Int) - 8).toNat = p.f0.size - 8 := by omega
  rw [e] at h
  unfold verR
  split at h
  · cases h
  · next c1 =>
    split at h
    · cases h
    · next c2 =>
      split at h
      · cases h
      · next c3 =>
        rw [if_neg (by omega), if_neg (by omega), if_neg c2, if_neg (by omega), if_neg (by omega)]
        exact h
theorem foldR_map : ∀ (Q : List KV) (A : List S67), (∀ q ∈ Q, verR (ofKV q) = some q) → foldR (Q.map ofKV) A = some (withAll Q A)
  | [], A, _ => rfl
  | q :: Q, A, h => by
    rw [List.map_cons, foldR, h q List.mem_cons_self]
    exact foldR_map Q _ fun x hx => h x (List.mem_cons_of_mem _ hx)
theorem pair_back {p : S69} {q : KV} (h : versionP p = some q) (hok : okV q.2) : ofKV q = p := by
  unfold versionP at h
  have e : ((p.f0.size : Int) - 8).toNat = p.f0.size - 8 := by omega
  rw [e] at h
  split at h
  · cases h
  next c1 =>
  split at h
  · cases h
  next c2 =>
  split at h
  · cases h
  next c3 =>
  obtain ⟨t, ht⟩ : ∃ t, wrap64 (be (bytesOf (p.f0.extract (p.f0.size - 8) p.f0.size))) = t := ⟨_, rfl⟩
  have h8 := tail8 (p.f0.extract (p.f0.size - 8) p.f0.size) (by rw [ByteArray.size_extract]; omega)
  rw [ht] at h h8 c3
  have hq := Option.some.inj h
  subst hq
  have hl : p.f0.data.toList.length = p.f0.size := by simp
  have hl1 : p.f1.data.toList.length = p.f1.size := by simp
  refine s69_ext ?_ ?_
  · show pairKey (p.f0.extract 0 (p.f0.size - 8)) (1152921504606846976 - t) = p.f0
    apply ba_ext
    rw [pk_list _ _ (by omega) (by omega), show (1152921504606846976 : Int) - (1152921504606846976 - t) = t by omega, h8, ex_list, ex_list, List.drop_zero, Nat.sub_zero, List.take_of_length_le (l := List.drop (p.f0.size - 8) p.f0.data.toList) (by rw [List.length_drop]; omega), List.take_append_drop]
  · obtain ⟨b, r, hb⟩ : ∃ b r, p.f1.data.toList = b :: r := by
      cases hc : p.f1.data.toList with
      | nil => rw [hc] at hl1; simp at hl1; omega
      | cons b r => exact ⟨b, r, rfl⟩
    have hb0 : bt p.f1 0 = (b.toNat : Int) := (frm_cons (s := p.f1) (p := 0) (b := b) (rest := r) (by unfold frm; rw [List.drop_zero]; exact hb)).2.1
    have hx : (p.f1.extract 1 p.f1.size).data.toList = r := by
      rw [ex_list, hb, List.drop_one, List.tail_cons, List.take_of_length_le]
      have := congrArg List.length hb
      simp only [List.length_cons] at this
      omega
    show pairVal ⟨1152921504606846976 - t, p.f1.extract 1 p.f1.size, bt p.f1 0 == 0⟩ = p.f1
    apply ba_ext
    have hlt := UInt8.toNat_lt b
    by_cases c : bt p.f1 0 = 0
    · have hd : (bt p.f1 0 == 0) = true := beq_iff_eq.2 c
      have hemp := hok.2.2.2 hd
      have hr : r = [] := by
        have e1 : p.f1.extract 1 p.f1.size = ⟨#[]⟩ := hemp
        rw [← hx, e1]
      have h0 : b = 0 := by apply UInt8.toNat_inj.1; show b.toNat = 0; omega
      unfold pairVal
      rw [hd, hb, hr, h0]
      rfl
    · have hd : (bt p.f1 0 == 0) = false := by simpa using c
      have h0 : b = 1 := by apply UInt8.toNat_inj.1; show b.toNat = 1; omega
      unfold pairVal
      rw [hd]
      simp only [Bool.false_eq_true, if_false, ByteArray.data_append, Array.toList_append]
      rw [hx, hb, h0]
      rfl
theorem pairAt_get (l : List S69) {i : Nat} (h : i < l.length) : pairAt l i = l[i] := by simp [pairAt, List.getD_eq_getElem?_getD, h]
theorem gather_some (l : List S69) : ∀ n i A A', i + n = l.length → gatherL l n i A = some A' → ∃ Q : List KV, (l.drop i).map versionP = Q.map some ∧ A' = groupKV Q A ∧ ∀ j, i ≤ j → (h0 : 0 < j) → (h : j < l.length) → ltS (l[j - 1]'(by omega)).f0 l[j].f0 = true := by
  intro n
  induction n with
  | zero =>
    intro i A A' hi h
    rw [gatherL] at h
    exact ⟨[], by rw [List.drop_of_length_le (by omega)]; rfl, (Option.some.inj h).symm, fun j h1 h2 h3 => by omega⟩
  | succ n ih =>
    intro i A A' hi h
    have hil : i < l.length := by omega
    rw [gatherL, pairAt_get l hil] at h
    cases hv : versionP l[i] with
    | none => rw [hv] at h; cases h
    | some q =>
      obtain ⟨key, v⟩ := q
      rw [hv] at h
      simp only at h
      split at h
      · cases h
      next hc =>
      obtain ⟨Q, h1, h2, h3⟩ := ih (i + 1) _ _ (by omega) h
      refine ⟨(key, v) :: Q, ?_, h2, fun j hj h0 hjl => ?_⟩
      · rw [List.drop_eq_getElem_cons hil, List.map_cons, List.map_cons, h1, hv]
      · by_cases e : j = i
        · subst e
          cases hb : ltS (l[j - 1]'(by omega)).f0 l[j].f0 with
          | true => rfl
          | false => exact absurd ⟨h0, by rw [pairAt_get l (show j - 1 < l.length by omega)]; exact hb⟩ hc
        · exact h3 j (by omega) h0 hjl
theorem itemsL_cases (A : List S67) (hA : ∀ k, (rowP A k).length ≤ 140737488351232) : ∀ (ks : List ByteArray) (out : List S67), (Ev (fun k => itemsL k A ks out) (out ++ ks.map (fun k => ⟨k, rowP A k⟩), 0) ∧ ∀ k ∈ ks, mayB k (rowP A k) = true) ∨ Ev (fun k => itemsL k A ks out) ([], 4)
  | [], out => Or.inl ⟨by simp only [List.map_nil, itemsL, List.append_nil]; exact Ev.const _, fun k hk => by cases hk⟩
  | key :: r, out => by
    have hm := may_ev key (rowP A key) (hA key)
    simp only [itemsL]
    cases hb : mayB key (rowP A key) with
    | true =>
      rw [hb] at hm
      rcases itemsL_cases A hA r (out ++ [⟨key, rowP A key⟩]) with ⟨h1, h2⟩ | h1
      · left
        refine ⟨Ev.bind hm ?_, fun k hk => ?_⟩
        · simp only [if_true]
          rw [List.append_assoc, List.singleton_append] at h1
          exact h1
        · rcases List.mem_cons.1 hk with rfl | hk
          · exact hb
          · exact h2 k hk
      · right
        refine Ev.bind hm ?_
        simp only [if_true]
        exact h1
    | false =>
      rw [hb] at hm
      right
      refine Ev.bind hm ?_
      simp only [Bool.false_eq_true, if_false]
      exact Ev.const _
theorem itemsOk_of : ∀ {l : List S67} {p : Option ByteArray}, (∀ x ∈ l, mayB x.f0 x.f1 = true) → (∀ x ∈ l, over p x.f0 = true) → (l.Pairwise fun x y => ltS x.f0 y.f0 = true) → itemsOk p l = true
  | [], p, _, _, _ => rfl
  | x :: r, p, h1, h2, h3 => by
    obtain ⟨a, b⟩ := List.pairwise_cons.1 h3
    rw [itemsOk_cons, h1 x List.mem_cons_self, h2 x List.mem_cons_self, itemsOk_of (p := some x.f0) (fun y hy => h1 y (List.mem_cons_of_mem _ hy)) (fun y hy => a y hy) b]
    rfl
theorem totV_cons (x : S67) (r : List S67) : totV (x :: r) = x.f1.length + totV r := rfl
theorem totV_withGo (key : ByteArray) (v : S80) : ∀ (l : List S67) (b : Bool), totV (withGo key v l b) = totV l + (if b = true then 0 else 1)
  | l, true => by rw [withGo_true, if_pos rfl]; rfl
  | [], false => by
    rw [withGo, if_neg (by simp), if_neg (by simp)]; rfl
  | x :: r, false => by
    rw [if_neg (by simp), withGo_cons]
    have ih := totV_withGo key v r false
    rw [if_neg (by simp)] at ih
    split
    · split
      · rw [withGo_true, totV_cons, totV_cons]
        have := (placedP_perm v x.f1).length_eq
        simp only [List.length_cons] at this
        simp only
        omega
      · rw [withGo_true, totV_cons, totV_cons]
        simp
        omega
    · rw [totV_cons, totV_cons, ih]; omega
theorem foldR_facts : ∀ (p : List S69) (A out : List S67), foldR p A = some out → totV out = totV A + p.length ∧ out.length ≤ A.length + p.length
  | [], A, out, h => by rw [foldR] at h; cases h; simp
  | x :: r, A, out, h => by
    rw [foldR] at h
    split at h
    · cases h
    · next key v hv =>
      obtain ⟨h1, h2⟩ := foldR_facts r _ _ h
      have t := totV_withGo key v A false
      rw [if_neg (by simp)] at t
      have t2 : totV (withP A key v) = totV A + 1 := t
      have l2 := withP_length A key v
      simp only [List.length_cons]
      exact ⟨by omega, by omega⟩
theorem vers_le : ∀ {l : List S67} {x : S67}, x ∈ l → x.f1.length ≤ totV l
  | y :: r, x, h => by
    rw [totV_cons]
    rcases List.mem_cons.1 h with rfl | h
    · omega
    · have := vers_le h; omega
theorem fit_of {l : List S67} (h : itemsOk none l = true) (hn : l.length ≤ 1000000) (ht : totV l ≤ 1000000) : fitP l := by
  have hg := good_of h
  refine ⟨by omega, by omega, fun x hx => ⟨by have := hg.key x hx; omega, by have := vers_le hx; omega, fun v hv => ?_⟩⟩
  obtain ⟨k1, k2, k3, _⟩ := hg.ok x hx v hv
  exact ⟨by omega, k2, by omega⟩
theorem again_fail {p : List S69} (hp : p.length ≤ 1000) (h : ∀ out, foldR p [] = some out → itemsOk none out = true → pairsGo [] out = p → False) : AgainOf p (foldR p []) [] 4 := by
  cases hX : foldR p [] with
  | none => exact ⟨rfl, rfl⟩
  | some out =>
    obtain ⟨f1, f2⟩ := foldR_facts p [] out hX
    have e0 : totV [] = 0 := rfl
    rw [e0] at f1
    simp only [List.length_nil] at f2
    have hm := may15_ev out (by omega) (fun x hx => by have := vers_le hx; omega)
    cases hok : itemsOk none out with
    | false => rw [hok] at hm; exact Or.inl ⟨hm.get, rfl, rfl⟩
    | true =>
      rw [hok] at hm
      have hlen : (pairsGo [] out).length ≤ 1000000 := by
        rw [(good_of hok).put, (sortP_spec _).1.length_eq, rowsOf_length]; omega
      obtain ⟨sb, hs, hsb⟩ := Same10_ev (pairsGo [] out) p (by omega)
      refine Or.inr ⟨hm.get, fit_of hok (by omega) (by omega), sb, hs.get, fun e => ?_, fun _ => ⟨rfl, rfl⟩⟩
      exact (h out hX hok (hsb.1 e)).elim
theorem items_any (p : List S69) (hfit : fit47 p) (hp : p.length ≤ 1000) : ∃ r e0, Ev (fun k => batch_Items.f k p) (r, e0) ∧ AgainOf p (foldR p []) r e0 ∧ r.length ≤ 1000 ∧ ∀ x ∈ r, x.f1.length ≤ 1000 := by
  have back : ∀ out, itemsOk none out = true → totV out ≤ 1000 → pairsGo [] out = p → Ev (fun k => batch_Items.f k p) (out, 0) := by
    intro out hok ht e
    have hg := (good_of hok).put
    rw [e] at hg
    have := Items_back out hok (fun x hx => by have := vers_le hx; omega) (by rw [← hg]; exact hfit)
    rw [← hg] at this
    exact this
  have fails : Ev (fun k => batch_Items.f k p) ([], 4) → ∃ r e0, Ev (fun k => batch_Items.f k p) (r, e0) ∧ AgainOf p (foldR p []) r e0 ∧ r.length ≤ 1000 ∧ ∀ x ∈ r, x.f1.length ≤ 1000 := by
    intro hev
    refine ⟨[], 4, hev, again_fail hp fun out hX hok e => ?_, by simp, fun x hx => by cases hx⟩
    obtain ⟨f1, f2⟩ := foldR_facts p [] out hX
    have e0 : totV [] = 0 := rfl
    have := Ev.uniq (back out hok (by omega) e) hev
    have := (Prod.mk.inj this).2
    omega
  cases hG : gatherL p p.length 0 [] with
  | none =>
    refine fails ?_
    unfold batch_Items.f
    simp only [if_pos hfit, hG]
    exact Ev.const _
  | some A =>
    obtain ⟨Q, hQ, hAQ, hup⟩ := gather_some p p.length 0 [] A (by omega) hG
    rw [List.drop_zero] at hQ
    have hQl : Q.length = p.length := by have := congrArg List.length hQ; simpa using this.symm
    have hrow : ∀ k, rowP A k = (Q.filter fun q => q.1.toList == k.toList).map (·.2) := fun k => by rw [hAQ, rowP_group]; rfl
    have hrl : ∀ k, (rowP A k).length ≤ 1000 := fun k => by
      rw [hrow, List.length_map]
      have := List.length_filter_le (fun q : KV => q.1.toList == k.toList) Q
      omega
    have hev : Ev (fun k => batch_Items.f k p) = Ev (fun k => itemsL k A (sortS (A.map (·.f0))) []) := by
      unfold batch_Items.f
      simp only [if_pos hfit, hG]
    rcases itemsL_cases A (fun k => by have := hrl k; omega) (sortS (A.map (·.f0))) [] with ⟨h1, h2⟩ | h1
    case inr => exact fails (by rw [hev]; exact h1)
    rw [List.nil_append] at h1
    obtain ⟨r, hr⟩ : ∃ r, (sortS (A.map (·.f0))).map (fun k => (⟨k, rowP A k⟩ : S67)) = r := ⟨_, rfl⟩
    rw [hr] at h1
    obtain ⟨k1, k2⟩ := keys_group Q [] List.nodup_nil
    rw [← hAQ] at k1 k2
    have hks : (sortS (A.map (·.f0))).Pairwise fun a b => ltS a b = true := by
      have hn : (sortS (A.map (·.f0))).Nodup := (sortS_perm _).nodup_iff.2 k1
      refine (List.Pairwise.and hn (sortS_sorted _)).imp ?_
      rintro a b ⟨h1, h2⟩
      rcases ltS_tri2 a b with h3 | h3 | h3
      · exact h3
      · exact absurd h3 h1
      · rw [h3] at h2; cases h2
    have hmem : ∀ x, x ∈ r ↔ x.f0 ∈ A.map (·.f0) ∧ x.f1 = rowP A x.f0 := by
      intro x
      rw [← hr, List.mem_map]
      constructor
      · rintro ⟨k, hk, rfl⟩
        exact ⟨(sortS_perm _).mem_iff.1 hk, rfl⟩
      · rintro ⟨hk, e⟩
        exact ⟨x.f0, (sortS_perm _).mem_iff.2 hk, s67_ext rfl e.symm⟩
    have hok : itemsOk none r = true := by
      refine itemsOk_of (fun x hx => ?_) (fun x _ => rfl) ?_
      · obtain ⟨a, b⟩ := (hmem x).1 hx
        rw [b]
        exact h2 _ ((sortS_perm _).mem_iff.2 a)
      · rw [← hr, List.pairwise_map]
        exact hks
    have hg := good_of hok
    have hin : ∀ q, q ∈ kvs r ↔ q ∈ Q := by
      intro q
      rw [kvs_mem]
      constructor
      · rintro ⟨x, hx, e1, e2⟩
        obtain ⟨a, b⟩ := (hmem x).1 hx
        rw [b, hrow] at e2
        obtain ⟨q', hq', e3⟩ := List.mem_map.1 e2
        obtain ⟨m1, m2⟩ := List.mem_filter.1 hq'
        have e4 : q'.1 = x.f0 := toList_inj.1 (eq_of_beq m2)
        have : q' = q := Prod.ext (e4.trans e1.symm) e3
        rw [← this]; exact m1
      · intro hq
        refine ⟨⟨q.1, rowP A q.1⟩, (hmem _).2 ⟨(k2 q.1).2 (Or.inr (List.mem_map.2 ⟨q, hq, rfl⟩)), rfl⟩, rfl, ?_⟩
        show q.2 ∈ rowP A q.1
        rw [hrow]
        exact List.mem_map.2 ⟨q, List.mem_filter.2 ⟨hq, beq_self_eq_true _⟩, rfl⟩
    have hokQ : ∀ q ∈ Q, okV q.2 := fun q hq => hg.okq ((hin q).2 hq)
    have hpQ : p = Q.map ofKV := by
      have gen : ∀ (p : List S69) (Q : List KV), p.map versionP = Q.map some → (∀ q ∈ Q, okV q.2) → p = Q.map ofKV := by
        intro p
        induction p with
        | nil => intro Q h _; cases Q with | nil => rfl | cons q Q => simp at h
        | cons x p ih =>
          intro Q h hq
          cases Q with
          | nil => simp at h
          | cons q Q =>
            rw [List.map_cons, List.map_cons, List.cons.injEq] at h
            rw [List.map_cons, pair_back h.1 (hq q List.mem_cons_self), ← ih Q h.2 fun x hx => hq x (List.mem_cons_of_mem _ hx)]
      exact gen p Q hQ hokQ
    have hUp : Up p := rises_up ((risesP_iff p).2 fun j h => hup (j + 1) (by omega) (by omega) h)
    have hQs : Q.Pairwise fun a b => ltS (ofKV a).f0 (ofKV b).f0 = true := by
      have := hUp
      unfold Up at this
      rw [hpQ, List.pairwise_map] at this
      exact this
    have n1 : Q.Nodup := List.Pairwise.imp (fun {a b : KV} (h : ltS (ofKV a).f0 (ofKV b).f0 = true) (e : a = b) => ltS_ne' h (by rw [e])) hQs
    have n2 : (kvs r).Nodup := List.Pairwise.imp (fun {a b : KV} (h : (ofKV a).f0 ≠ (ofKV b).f0) (e : a = b) => h (by rw [e])) hg.apart
    have hperm : Q.Perm (kvs r) := (List.perm_ext_iff_of_nodup n1 n2).2 fun q => (hin q).symm
    have hput : pairsGo [] r = p := by
      rw [hg.put]
      refine perm_sorted (r := fun a b : S69 => ltS a.f0 b.f0 = true) (fun a b h1 h2 => by rw [ltS_asymm h1] at h2; cases h2) ?_ ?_ hUp
      · refine (sortP_spec _).1.trans ?_
        rw [rowsOf_kvs, hpQ]
        exact (hperm.map ofKV).symm
      · obtain ⟨_, hmap, hs⟩ := hg.sorted
        rw [hmap, List.pairwise_map]; exact hs
    have hX : foldR p [] = some r := by
      rw [hpQ, foldR_map Q [] fun q hq => verR_of (versionP_pair q.1 q.2 (hokQ q hq)), hg.withAll hperm]
    obtain ⟨f1, f2⟩ := foldR_facts p [] r hX
    have e0 : totV [] = 0 := rfl
    rw [e0] at f1
    simp only [List.length_nil] at f2
    have hm := may15_ev r (by omega) (fun x hx => by have := vers_le hx; omega)
    rw [hok] at hm
    obtain ⟨sb, hs, hsb⟩ := Same10_ev (pairsGo [] r) p (by rw [hput]; omega)
    have hsbt : sb = true := hsb.2 hput
    subst hsbt
    refine ⟨r, 0, by rw [hev]; exact h1, ?_, by omega, fun x hx => by have := vers_le hx; omega⟩
    rw [hX]
    exact Or.inr ⟨hm.get, fit_of hok (by omega) (by omega), true, hs.get, fun _ => ⟨rfl, rfl⟩, fun h => by cases h⟩
end Go.Proofs.Ytehcmedeeaoebaa.PB
end
section
namespace Go.Proofs.Ytehcmedeeaoebaa.PB
open Go.RowKit Go.Proofs.YtehcmedeeaoebaaW.PrintWords Go.Proofs.YtehcmedeeaoebaaW.PrintLast Go.Proofs.YtehcmedeeaoebaaW.PrintMore
set_option linter.unusedVariables false
set_option linter.unusedSimpArgs false
def RefPairs (l : List S67) (P : List S69) (e : Int) : Prop := ((∃ q, ambryref15_may.f q l = some false) ∧ P = [] ∧ e = 2) ∨ ((∃ q, ambryref15_may.f q l = some true) ∧ fitP l ∧ pairsGo [] l = P ∧ e = 0)
theorem Pairs29any.calls (l : List S67) (P : List S69) (e0 : Int) (h : RefPairs l P e0) (A : Option Addr) (c : Nat) (w : World) (hC : Kd.C k67 w A l.length l) (hc : l.length ≤ c) :
    Calls Try.prog 29 #[.slice A l.length c] w fun e w' => ∃ v0, e = .returned (.tuple #[v0, .int .i64 e0]) ∧ Rd k69 w' v0 P ∧ Below w.heap.size w w' := by
  rcases h with ⟨hm, rfl, rfl⟩ | ⟨hm, hf, rfl, rfl⟩
  · exact (Pairs29n.calls l hm A c w hC hc).mono fun e w' ⟨he, hb⟩ => ⟨_, he, Rd.nil _ _, hb⟩
  · exact Pairs29.calls l _ rfl hm hf A c w hC hc
set_option maxHeartbeats 16000000 in
set_option maxRecDepth 100000 in
theorem PairsLaw.walk (l : List S67) (p : List S69) (b : Bool) (hfew : ∃ q, ambrylaw15_few.f q l = some b)
    (hall : b = true → p.length ≤ 300 → ∃ P e1 r e2, (∃ qp, batch_Pairs.f qp l = some (P, e1)) ∧ RefPairs l P e1 ∧ (∃ q, ambryref10_Same.f q P P = some true) ∧ (∃ qi, batch_Items.f qi p = some (r, e2)) ∧ AgainOf p (foldR p []) r e2 ∧ ∃ q, ambryref14_Same.f q r r = some true)
    (hs : ∀ x ∈ p, x.f0.size ≤ 140737488351232 ∧ x.f1.size ≤ 140737488351232)
    (A : Option Addr) (c : Nat) (A1 : Option Addr) (c1 : Nat) (w : World) (hC : Kd.C k67 w A l.length l) (hc : l.length ≤ c) (hC1 : Kd.C k69 w A1 p.length p) (hc1 : p.length ≤ c1) :
    Calls Try.prog 8 #[.slice A l.length c, .slice A1 p.length c1] w fun e w' => e = .returned (.bool true) ∧ Below w.heap.size w w' := by
  have HB := Aside0.mk (Below.refl w.heap.size w)
  have HL := Aside0.mk hC
  have HLC := Aside0.mk hc
  have HP := Aside0.mk hC1
  have HPC := Aside0.mk hc1
  have HFEW := Aside0.mk hfew
  clear hC hc hC1 hc1 hfew
  cases b with
  | false =>
    clear hall hs
    go_enter Try.func8, Try.ntmps8
    go_wp2_with (first | ((with_reducible refine gate_callee (f := 27) rfl ?_); refine goesL_ (some 14) rfl rfl Try.func27 (by kernel_rfl) rfl #[.slice A l.length c] rfl (by (try simp only [List.map_toArray, List.map_cons, List.map_nil]); first | done | rfl) ?_; (with_reducible refine (Few9.calls l false HFEW.out A c _ HL.out HLC.out).mono ?_); rintro e w1 ⟨rfl, hb⟩; have k0_ := Aside0.mk (Kd.C_below HL.out hb); have k1_ := Aside0.mk (Kd.C_below HP.out hb); clear HL HP; have HL := k0_; have HP := k1_; clear k0_ k1_; have d_ := Aside0.mk (below_then HB.out HB.out.size hb); clear HB; have HB := d_; clear d_; clear hb; refine ⟨_, rfl, ?_⟩) | (go_at_call 13; (with_reducible refine (Lives9.calls _).mono ?_); rintro e w9 ⟨rfl, hb⟩; have k0_ := Aside0.mk (Kd.C_below HL.out hb); have k1_ := Aside0.mk (Kd.C_below HP.out hb); clear HL HP; have HL := k0_; have HP := k1_; clear k0_ k1_; have d_ := Aside0.mk (below_then HB.out HB.out.size hb); clear HB; have HB := d_; clear d_; clear hb))
    go_ret
    exact ⟨rfl, HB.out⟩
  | true =>
    by_cases h3 : p.length ≤ 300
    · obtain ⟨P, e1, r, e2, ⟨qp, hpf⟩, hrp, hsp, ⟨qi, hif⟩, hag, hsr⟩ := hall rfl h3
      have HPF := Aside0.mk hpf
      have HRP := Aside0.mk hrp
      have HSP := Aside0.mk hsp
      have HIF := Aside0.mk hif
      have HAG := Aside0.mk hag
      have HSR := Aside0.mk hsr
      have HPS := Aside0.mk hs
      have HPL : Aside0 (p.length ≤ 100000) := ⟨by omega⟩
      have d3 : decide ((300 : Int) < (p.length : Int)) = false := decide_eq_false (by omega)
      have d3' : ¬ (300 : Int) < (p.length : Int) := by omega
      clear hall hpf hrp hsp hif hag hsr hs h3
      go_enter Try.func8, Try.ntmps8
      go_wp2_with (first | ((with_reducible refine gate_callee (f := 27) rfl ?_); refine goesL_ (some 14) rfl rfl Try.func27 (by kernel_rfl) rfl #[.slice A l.length c] rfl (by (try simp only [List.map_toArray, List.map_cons, List.map_nil]); first | done | rfl) ?_; (with_reducible refine (Few9.calls l true HFEW.out A c _ HL.out HLC.out).mono ?_); rintro e w1 ⟨rfl, hb⟩; have k0_ := Aside0.mk (Kd.C_below HL.out hb); have k1_ := Aside0.mk (Kd.C_below HP.out hb); clear HL HP; have HL := k0_; have HP := k1_; clear k0_ k1_; have d_ := Aside0.mk (below_then HB.out HB.out.size hb); clear HB; have HB := d_; clear d_; clear hb; refine ⟨_, rfl, ?_⟩) | (go_at_call 28; (with_reducible refine (batch_Pairs.calls qp A c l P e1 _ HL.out HLC.out HPF.out).mono ?_); rintro e w2 ⟨v_, rfl, hr, hb⟩; obtain ⟨Ax, cx, rfl, hc_, hC_⟩ := Kd.R_reads hr; have HXC := Aside0.mk hc_; have HX := Aside0.mk hC_; have k0_ := Aside0.mk (Kd.C_below HL.out hb); have k1_ := Aside0.mk (Kd.C_below HP.out hb); clear HL HP; have HL := k0_; have HP := k1_; clear k0_ k1_; have d_ := Aside0.mk (below_then HB.out HB.out.size hb); clear HB; have HB := d_; clear d_; clear hb hc_ hC_ hr) | (go_at_call 29; (with_reducible refine (Pairs29any.calls l P e1 HRP.out A c _ HL.out HLC.out).mono ?_); rintro e w3 ⟨v_, rfl, hr, hb⟩; obtain ⟨Ay, cy, rfl, hc_, hC_⟩ := hr; have HYC := Aside0.mk hc_; have HY := Aside0.mk hC_; have k0_ := Aside0.mk (Kd.C_below HL.out hb); have k1_ := Aside0.mk (Kd.C_below HP.out hb); have k2_ := Aside0.mk (Kd.C_below HX.out hb); clear HL HP HX; have HL := k0_; have HP := k1_; have HX := k2_; clear k0_ k1_ k2_; have d_ := Aside0.mk (below_then HB.out HB.out.size hb); clear HB; have HB := d_; clear d_; clear hb hc_ hC_) | (go_at_call 30; (with_reducible refine (batch_Items.calls qi A1 c1 p r e2 _ HP.out HPC.out HIF.out).mono ?_); rintro e w4 ⟨v_, rfl, hr, hb⟩; obtain ⟨Au, cu, rfl, hc_, hC_⟩ := Kd.R_reads hr; have HUC := Aside0.mk hc_; have HU := Aside0.mk hC_; have k0_ := Aside0.mk (Kd.C_below HL.out hb); have k1_ := Aside0.mk (Kd.C_below HP.out hb); have k2_ := Aside0.mk (Kd.C_below HX.out hb); have k3_ := Aside0.mk (Kd.C_below HY.out hb); clear HL HP HX HY; have HL := k0_; have HP := k1_; have HX := k2_; have HY := k3_; clear k0_ k1_ k2_ k3_; have d_ := Aside0.mk (below_then HB.out HB.out.size hb); clear HB; have HB := d_; clear d_; clear hb hc_ hC_ hr) | (go_at_call 31; (with_reducible refine (RefItems.calls p _ rfl r e2 HAG.out A1 c1 _ HPL.out HPS.out HP.out HPC.out).mono ?_); rintro e w5 ⟨v_, rfl, hr, hb⟩; obtain ⟨Av, cv, rfl, hc_, hC_⟩ := hr; have HVC := Aside0.mk hc_; have HV := Aside0.mk hC_; have k0_ := Aside0.mk (Kd.C_below HL.out hb); have k1_ := Aside0.mk (Kd.C_below HP.out hb); have k2_ := Aside0.mk (Kd.C_below HX.out hb); have k3_ := Aside0.mk (Kd.C_below HY.out hb); have k4_ := Aside0.mk (Kd.C_below HU.out hb); clear HL HP HX HY HU; have HL := k0_; have HP := k1_; have HX := k2_; have HY := k3_; have HU := k4_; clear k0_ k1_ k2_ k3_ k4_; have d_ := Aside0.mk (below_then HB.out HB.out.size hb); clear HB; have HB := d_; clear d_; clear hb hc_ hC_) | ((with_reducible refine gate_callee (f := 25) rfl ?_); refine goesL_ (some 44) rfl rfl Try.func25 (by kernel_rfl) rfl #[.slice Ax P.length cx, .slice Ay P.length cy] rfl (by (try simp only [List.map_toArray, List.map_cons, List.map_nil]); first | done | rfl) ?_; (with_reducible refine (Same25.calls P P true HSP.out Ax cx Ay cy _ HX.out HXC.out HY.out HYC.out).mono ?_); rintro e w6 ⟨rfl, hb⟩; have k0_ := Aside0.mk (Kd.C_below HL.out hb); have k1_ := Aside0.mk (Kd.C_below HP.out hb); have k2_ := Aside0.mk (Kd.C_below HX.out hb); have k3_ := Aside0.mk (Kd.C_below HY.out hb); have k4_ := Aside0.mk (Kd.C_below HU.out hb); have k5_ := Aside0.mk (Kd.C_below HV.out hb); clear HL HP HX HY HU HV; have HL := k0_; have HP := k1_; have HX := k2_; have HY := k3_; have HU := k4_; have HV := k5_; clear k0_ k1_ k2_ k3_ k4_ k5_; have d_ := Aside0.mk (below_then HB.out HB.out.size hb); clear HB; have HB := d_; clear d_; clear hb; refine ⟨_, rfl, ?_⟩) | (go_at_call 32; (with_reducible refine (Same9.calls r r HSR.out Au cu Av cv _ HU.out HUC.out HV.out HVC.out).mono ?_); rintro e w7 ⟨rfl, hb⟩; have k0_ := Aside0.mk (Kd.C_below HL.out hb); have k1_ := Aside0.mk (Kd.C_below HP.out hb); have k2_ := Aside0.mk (Kd.C_below HX.out hb); have k3_ := Aside0.mk (Kd.C_below HY.out hb); have k4_ := Aside0.mk (Kd.C_below HU.out hb); have k5_ := Aside0.mk (Kd.C_below HV.out hb); clear HL HP HX HY HU HV; have HL := k0_; have HP := k1_; have HX := k2_; have HY := k3_; have HU := k4_; have HV := k5_; clear k0_ k1_ k2_ k3_ k4_ k5_; have d_ := Aside0.mk (below_then HB.out HB.out.size hb); clear HB; have HB := d_; clear d_; clear hb) | (go_at_call 13; (with_reducible refine (Lives9.calls _).mono ?_); rintro e w9 ⟨rfl, hb⟩; have k0_ := Aside0.mk (Kd.C_below HL.out hb); have k1_ := Aside0.mk (Kd.C_below HP.out hb); have k2_ := Aside0.mk (Kd.C_below HX.out hb); have k3_ := Aside0.mk (Kd.C_below HY.out hb); have k4_ := Aside0.mk (Kd.C_below HU.out hb); have k5_ := Aside0.mk (Kd.C_below HV.out hb); clear HL HP HX HY HU HV; have HL := k0_; have HP := k1_; have HX := k2_; have HY := k3_; have HU := k4_; have HV := k5_; clear k0_ k1_ k2_ k3_ k4_ k5_; have d_ := Aside0.mk (below_then HB.out HB.out.size hb); clear HB; have HB := d_; clear d_; clear hb))
      go_ret
      exact ⟨rfl, HB.out⟩
    · have d3 : decide ((300 : Int) < (p.length : Int)) = true := decide_eq_true (by omega)
      have d3' : (300 : Int) < (p.length : Int) := by omega
      clear hall hs h3
      go_enter Try.func8, Try.ntmps8
      go_wp2_with (first | ((with_reducible refine gate_callee (f := 27) rfl ?_); refine goesL_ (some 14) rfl rfl Try.func27 (by kernel_rfl) rfl #[.slice A l.length c] rfl (by (try simp only [List.map_toArray, List.map_cons, List.map_nil]); first | done | rfl) ?_; (with_reducible refine (Few9.calls l true HFEW.out A c _ HL.out HLC.out).mono ?_); rintro e w1 ⟨rfl, hb⟩; have k0_ := Aside0.mk (Kd.C_below HL.out hb); have k1_ := Aside0.mk (Kd.C_below HP.out hb); clear HL HP; have HL := k0_; have HP := k1_; clear k0_ k1_; have d_ := Aside0.mk (below_then HB.out HB.out.size hb); clear HB; have HB := d_; clear d_; clear hb; refine ⟨_, rfl, ?_⟩) | (go_at_call 13; (with_reducible refine (Lives9.calls _).mono ?_); rintro e w9 ⟨rfl, hb⟩; have k0_ := Aside0.mk (Kd.C_below HL.out hb); have k1_ := Aside0.mk (Kd.C_below HP.out hb); clear HL HP; have HL := k0_; have HP := k1_; clear k0_ k1_; have d_ := Aside0.mk (below_then HB.out HB.out.size hb); clear HB; have HB := d_; clear d_; clear hb))
      go_ret
      exact ⟨rfl, HB.out⟩
end Go.Proofs.Ytehcmedeeaoebaa.PB
end
section
namespace Go.Proofs.Ytehcmedeeaoebaa.PB
open Go.RowKit Go.Proofs.YtehcmedeeaoebaaW.PrintWords Go.Proofs.YtehcmedeeaoebaaW.PrintLast Go.Proofs.YtehcmedeeaoebaaW.PrintMore
set_option linter.unusedVariables false
theorem same10_self (P : List S69) (h : P.length ≤ 1000000000) : ∃ q, ambryref10_Same.f q P P = some true := by
  obtain ⟨sb, h1, h2⟩ := Same10_ev P P h
  have : sb = true := h2.2 rfl
  subst this
  exact h1.get
theorem pairs_any (l : List S67) (hn : l.length ≤ 1000) (ht : totV l ≤ 1000) : ∃ P e1, (∃ qp, batch_Pairs.f qp l = some (P, e1)) ∧ RefPairs l P e1 ∧ ∃ q, ambryref10_Same.f q P P = some true := by
  have hp := Pairs_ev l ht (fun x hx => by have := vers_le hx; omega)
  have hm := may15_ev l (by omega) (fun x hx => by have := vers_le hx; omega)
  cases hok : itemsOk none l with
  | true =>
    rw [hok, if_pos rfl] at hp
    rw [hok] at hm
    exact ⟨_, 0, hp.get, Or.inr ⟨hm.get, fit_of hok (by omega) (by omega), (good_of hok).put, rfl⟩, same10_self _ (by rw [(sortP_spec _).1.length_eq, rowsOf_length]; omega)⟩
  | false =>
    rw [hok, if_neg (by simp)] at hp
    rw [hok] at hm
    exact ⟨[], 2, hp.get, Or.inl ⟨hm.get, rfl, rfl⟩, same10_self _ (by simp)⟩
def fitL (l : List S67) (p : List S69) : Prop := (l.length ≤ 140737488351232 ∧ ∀ x ∈ l, x.f1.length ≤ 140737488351232) ∧ ∀ x ∈ p, x.f0.size ≤ 140737488351232 ∧ x.f1.size ≤ 140737488351232
instance (l : List S67) (p : List S69) : Decidable (fitL l p) := by unfold fitL; infer_instance
def ambrylaw15_BatchPairs.f (k : Nat) (l : List S67) (p : List S69) : Option Bool := if fitL l p then some true else none
theorem ambrylaw15_BatchPairs.calls (k : Nat) (A0 : Option Addr) (c0 : Nat) (l : List S67) (A1 : Option Addr) (c1 : Nat) (p : List S69) (r : Bool) (w : World) (hr0 : Kd.C k67 w A0 l.length l) (hc0 : l.length ≤ c0) (hr1 : Kd.C k69 w A1 p.length p) (hc1 : p.length ≤ c1) (h : ambrylaw15_BatchPairs.f k l p = some r) :
    Calls Try.prog 8 #[.slice A0 l.length c0, .slice A1 p.length c1] w fun e w' => e = .returned (.bool r) ∧ Below w.heap.size w w' := by
  unfold ambrylaw15_BatchPairs.f at h
  by_cases hb : fitL l p
  case neg => rw [if_neg hb] at h; cases h
  rw [if_pos hb] at h
  obtain rfl : true = r := Option.some.inj h
  obtain ⟨⟨hn, hv⟩, hs⟩ := hb
  refine PairsLaw.walk l p _ (few_ev l hn hv).get (fun hfew hp3 => ?_) hs A0 c0 A1 c1 w hr0 hc0 hr1 hc1
  have hsm : l.length + totV l < 300 := of_decide_eq_true hfew
  obtain ⟨P, e1, h1, h2, h3⟩ := pairs_any l (by omega) (by omega)
  obtain ⟨r, e2, i1, i2, i3, i4⟩ := items_any p ⟨by omega, hs⟩ (by omega)
  exact ⟨P, e1, r, e2, h1, h2, h3, i1.get, i2, (same14_ev r (by omega) (fun x hx => by have := i4 x hx; omega)).get⟩
theorem pairs_law (l : List S67) (p : List S69) (hP0 : ∀ x ∈ l, w67 x) (hn0 : l.length ≤ 140737488351232) (hP1 : ∀ x ∈ p, w69 x) (hn1 : p.length ≤ 140737488351232) : Ev (fun k => ambrylaw15_BatchPairs.f k l p) true :=
  ⟨0, fun k _ => by show ambrylaw15_BatchPairs.f k l p = _; unfold ambrylaw15_BatchPairs.f; rw [if_pos ⟨⟨hn0, fun x hx => (hP0 x hx).2.1⟩, fun x hx => hP1 x hx⟩]⟩
end Go.Proofs.Ytehcmedeeaoebaa.PB
end
