import Derived.Test.YtehcmedeeaoebaaBread
import Derived.Test.YtehcmedeeaoebaaBput
import Derived.Test.YtehcmedeeaoebaaPBambryref01Number
import Derived.Test.YtehcmedeeaoebaaPBambryref15piece
import Derived.Test.YtehcmedeeaoebaaPBambryref15Check
namespace Go.Proofs.Ytehcmedeeaoebaa.PB
open Go.RowKit Go.Proofs.YtehcmedeeaoebaaW.PrintWords Go.Proofs.YtehcmedeeaoebaaW.PrintLast Go.Proofs.YtehcmedeeaoebaaW.PrintMore
set_option linter.unusedVariables false
set_option linter.unusedSimpArgs false
def pieceP (s : ByteArray) (at_ : Int) : ByteArray × Int :=
  if at_ < 0 then (⟨#[]⟩, -1) else if (s.size : Int) ≤ at_ then (⟨#[]⟩, -1) else if bt s at_ > (s.size : Int) - at_ - 1 then (⟨#[]⟩, -1)
  else (s.extract (at_ + 1).toNat (at_ + 1 + bt s at_).toNat, at_ + 1 + bt s at_)
theorem piece_f (s : ByteArray) (hs : s.size ≤ 140737488351232) (at_ : Int) : ambryref15_piece.f s at_ = some (pieceP s at_) := by
  unfold ambryref15_piece.f pieceP
  by_cases c1 : at_ < 0
  · rw [if_pos c1, if_pos c1]
  rw [if_neg c1, if_neg c1]
  by_cases c2 : (s.size : Int) ≤ at_
  · rw [if_pos (by omega), if_pos c2]
  rw [if_neg (by omega), if_neg c2, if_pos (by omega), if_pos (by omega)]
  have hr := bt_range s at_
  have w1 : wrap64 (bt s at_) = bt s at_ := by unfold wrap64; omega
  have w2 : wrap64 ((s.size : Int) - at_) = (s.size : Int) - at_ := by unfold wrap64; omega
  have w3 : wrap64 ((s.size : Int) - at_ - 1) = (s.size : Int) - at_ - 1 := by unfold wrap64; omega
  have w4 : wrap64 (at_ + 1) = at_ + 1 := by unfold wrap64; omega
  have w5 : wrap64 (at_ + 1 + bt s at_) = at_ + 1 + bt s at_ := by unfold wrap64; omega
  rw [w1, w2, w3, w4, w5]
  by_cases c3 : bt s at_ > (s.size : Int) - at_ - 1
  · rw [if_pos c3, if_pos c3]
  rw [if_neg c3, if_neg c3, if_pos (by omega), if_pos (by omega), if_pos (by omega)]
theorem tail_rd (s : ByteArray) (hs : 9 ≤ s.size) (j : Nat) (hj : j < 8) : rd (bytesOf (s.extract 1 9)) (j : Int) = bt s (1 + j) := by
  have h1 : 1 + j < s.size := by omega
  have hb := bt_at s (1 + (j : Int)) (by omega)
  have h2 : j < (s.extract 1 9).size := by rw [ByteArray.size_extract]; omega
  have h3 : j < (bytesOf (s.extract 1 9)).length := by rw [bytesOf_length]; exact h2
  have : rd (bytesOf (s.extract 1 9)) (j : Int) = (bytesOf (s.extract 1 9))[j] := by simp [rd, List.getD_eq_getElem?_getD, h3]
  rw [this, ← hb]
  simp only [bytesOf, List.getElem_map]
  have e1 : (1 + (j : Int)).toNat = 1 + j := by omega
  simp only [e1]
  have : (s.extract 1 9).data.toList[j]'(by have h4 := h2; rw [ByteArray.size_extract] at h4; simp; omega) = s[1 + j]'h1 := by
    rw [Array.getElem_toList]
    show (s.extract 1 9)[j]'h2 = _
    rw [ByteArray.getElem_extract]
  rw [this]
theorem Number_loop (s : ByteArray) (hs : 9 ≤ s.size) : ∀ n j k, j + n = 8 → n < k → ambryref01_Number.l0 k s 1 8 (be ((bytesOf (s.extract 1 9)).take j)) (j : Int) = some (wrap64 (be (bytesOf (s.extract 1 9)))) := by
  have hlen : (bytesOf (s.extract 1 9)).length = 8 := by rw [bytesOf_length, ByteArray.size_extract]; omega
  intro n
  induction n with
  | zero =>
    intro j k hj hk
    obtain ⟨k, rfl⟩ : ∃ q, k = q + 1 := ⟨k - 1, by omega⟩
    simp only [ambryref01_Number.l0]
    rw [if_neg (by omega), List.take_of_length_le (by omega)]
  | succ n ih =>
    intro j k hj hk
    obtain ⟨k, rfl⟩ : ∃ q, k = q + 1 := ⟨k - 1, by omega⟩
    simp only [ambryref01_Number.l0]
    have w1 : wrap64 (1 + (j : Int)) = 1 + j := by unfold wrap64; omega
    have w2 : wrap64 ((j : Int) + 1) = ((j + 1 : Nat) : Int) := by unfold wrap64; omega
    rw [if_pos (by omega), w1, w2, if_pos (by omega), if_pos (by omega)]
    have := ih (j + 1) k (by omega) (by omega)
    rw [beStep_snoc _ j (by omega), tail_rd s hs j (by omega)] at this
    exact this
theorem Number_f (s : ByteArray) (hs : 9 ≤ s.size) : ambryref01_Number.f 9 s 1 8 = some (wrap64 (be (bytesOf (s.extract 1 9)))) := by
  have := Number_loop s hs 8 0 9 (by omega) (by omega)
  rw [List.take_zero] at this
  exact this
def refEnd (k : Nat) (s : ByteArray) (t at_ : Int) (acc : List S52) : RdR :=
  if at_ < 0 then rdBad else (ambryref15_Check.f k t acc).bind fun e => if e = 0 then (ambryref15_put.f k t acc).bind fun p => if p.toList = s.toList then some (t, acc, 0, 0) else rdBad else rdBad
def refLoop (k : Nat) (s : ByteArray) (t : Int) : Nat → Int → List S52 → RdR
  | 0, at_, acc => refEnd k s t at_ acc
  | n + 1, at_, acc => if 0 ≤ at_ ∧ at_ < s.size then refLoop k s t n (pieceP s (pieceP s (at_ + 1)).2).2 (acc ++ [⟨(pieceP s (at_ + 1)).1, (pieceP s (pieceP s (at_ + 1)).2).1, bt s at_ == 1⟩]) else refEnd k s t at_ acc
def ambryref15_Read.f (k : Nat) (s : ByteArray) : RdR :=
  if 140737488351232 < s.size then none else if s.size < 9 then rdBad else
    let t := wrap64 (be (bytesOf (s.extract 1 9)))
    if s.size = 9 then if bt s 0 = 77 ∧ 0 ≤ t ∧ t ≤ 1152921504606846976 then some (0, [], t, 0) else rdBad
    else if bt s 0 ≠ 66 then rdBad else refLoop k s t (bt s 9).toNat 10 []
theorem refEnd_mono (k : Nat) (s : ByteArray) (t at_ : Int) (acc : List S52) : LeO (refEnd k s t at_ acc) (refEnd (k + 1) s t at_ acc) := by
  unfold refEnd
  exact LeO.ite (LeO.refl _) (LeO.bind (ambryref15_Check.mono _ _ _) fun _ => LeO.ite (LeO.bind (ambryref15_put.mono _ _ _) fun _ => LeO.refl _) (LeO.refl _))
theorem refLoop_mono (k : Nat) (s : ByteArray) (t : Int) : ∀ n at_ acc, LeO (refLoop k s t n at_ acc) (refLoop (k + 1) s t n at_ acc)
  | 0, _, _ => refEnd_mono _ _ _ _ _
  | n + 1, at_, acc => by
    rw [refLoop, refLoop]
    exact LeO.ite (refLoop_mono k s t n _ _) (refEnd_mono _ _ _ _ _)
theorem ambryref15_Read.mono : ∀ a0 k, LeO (ambryref15_Read.f k a0) (ambryref15_Read.f (k + 1) a0) := by
  intro a0 k
  unfold ambryref15_Read.f
  exact LeO.ite (LeO.refl _) (LeO.ite (LeO.refl _) (LeO.ite (LeO.refl _) (LeO.ite (LeO.refl _) (refLoop_mono _ _ _ _ _ _))))
theorem pieceP_range (s : ByteArray) (at_ : Int) : -1 ≤ (pieceP s at_).2 ∧ (pieceP s at_).2 ≤ s.size ∨ (pieceP s at_).2 = -1 := by
  unfold pieceP
  by_cases c1 : at_ < 0
  · rw [if_pos c1]; right; rfl
  rw [if_neg c1]
  by_cases c2 : (s.size : Int) ≤ at_
  · rw [if_pos c2]; right; rfl
  rw [if_neg c2]
  by_cases c3 : bt s at_ > (s.size : Int) - at_ - 1
  · rw [if_pos c3]; right; rfl
  rw [if_neg c3]
  left
  have := bt_range s at_
  show -1 ≤ at_ + 1 + bt s at_ ∧ at_ + 1 + bt s at_ ≤ s.size
  omega
set_option maxHeartbeats 8000000 in
set_option maxRecDepth 100000 in
theorem ambryref15_Read.calls (k : Nat) (a0 : ByteArray) (r1 : Int) (r2 : List (S52)) (r3 : Int) (r4 : Int) (w : World) (h : ambryref15_Read.f k a0 = some (r1, r2, r3, r4)) :
    Calls Try.prog 11 #[.string a0] w fun e w' => ∃ v1_ : Value, e = .returned (.tuple #[.agg #[.int .i64 r1, v1_], .int .i64 r3, .int .i64 r4]) ∧ Kd.R k52 52 w' w.heap.size (fun _ => True) v1_ r2 ∧ Below w.heap.size w w' := by
  unfold ambryref15_Read.f at h
  by_cases hsz : 140737488351232 < a0.size
  · rw [if_pos hsz] at h; cases h
  rw [if_neg hsz] at h
  have hsz2 : (a0.size : Int) ≤ 140737488351232 := by omega
  have hsz3 : a0.size ≤ 140737488351232 := by omega
  clear hsz
  have HF := Aside0.mk h
  clear h
  have HB := Aside0.mk (Below.refl w.heap.size w)
  by_cases c1 : a0.size < 9
  · have hF := HF.out
    rw [if_pos c1] at hF
    simp only [rdBad, Option.some.injEq, Prod.mk.injEq] at hF
    obtain ⟨rfl, rfl, rfl, rfl⟩ := hF
    clear HF
    have d1 : ((a0.size : Int) == 9) = false := beq_eq_false_iff_ne.2 (by omega)
    have d2 : decide ((a0.size : Int) < 10) = true := decide_eq_true (by omega)
    go_enter Try.func11, Try.ntmps11
    go_wp2_with (first | ((with_reducible refine gate_dst (N := 2) rfl ?_); refine box_event ?hg (N := 2) ?hd (cs := #[.int .i64 0, .slice none 0 0]) (t := 24) ?hr ?_; (case hd => rfl); (case hg => rfl); (case hr => first | (go_simp; done) | (go_simp; rfl)); intro g2 hg w1 hbox hb; have G2 := Aside0.mk (show w.heap.size ≤ g2 from (by rw [hg]; exact HB.out.size)); have B2 := Aside0.mk hbox; clear hbox hg; have n0_ := Aside0.mk (below_then HB.out HB.out.size hb); clear HB; have HB := n0_; clear n0_; clear hb) | (go_at_call 36; go_must (refine (ambryref01_Number.calls 9 a0 1 8 _ _ HNF.out).mono ?_); rintro e w2 ⟨rfl, hd⟩; have hb := hd.below; have n0_ := Aside0.mk (below_then HB.out HB.out.size hb); have n1_ := Aside0.mk ((hb.block _ (blk_lt B2.out)).trans B2.out); clear HB B2; have HB := n0_; have B2 := n1_; clear n0_ n1_; clear hb hd) | ((with_reducible refine gate_store (t := 24) (p := 2) (v := .tmp 36) rfl ?_); go_must (refine sagg_event rfl 24 (.tmp 2) (.tmp 36) rfl rfl g2 #[.int .i64 0, .slice none 0 0] _ _ rfl rfl B2.out (by kernel_rfl) rfl rfl ?_); intro w9 hbk hu; have n0_ := Aside0.mk (hu.below HB.out G2.out); clear HB; have HB := n0_; clear n0_; clear B2; have B2 := Aside0.mk hbk; have c90 := (blk_cell B2.out 0).trans rfl; have c91 := (blk_cell B2.out 1).trans rfl; clear hbk hu))
    refine bodyPost_ret (v := .tuple #[.agg #[.int .i64 0, .slice none 0 0], .int .i64 0, .int .i64 4]) ?_ rfl ?_
    · simp [results, Try.results11, go_sem, c90, c91]
    · exact ⟨_, rfl, Kd.R_nil _ _ _ _ _, HB.out⟩
  have hnf := Number_f a0 (by omega)
  obtain ⟨t, ht⟩ : ∃ t, wrap64 (be (bytesOf (a0.extract 1 9))) = t := ⟨_, rfl⟩
  have hF := HF.out
  rw [if_neg c1, ht] at hF
  rw [ht] at hnf
  have HNF := Aside0.mk hnf
  simp only at hF
  clear HF hnf ht
  have h0s : 0 < a0.size := by omega
  have hbt : ((a0[0]'h0s).toNat : Int) = bt a0 0 := bt_at a0 0 h0s
  by_cases h9 : a0.size = 9
  · rw [if_pos h9] at hF
    have d1 : ((a0.size : Int) == 9) = true := beq_iff_eq.2 (by omega)
    have d2 : decide ((a0.size : Int) < 10) = true := decide_eq_true (by omega)
    by_cases h77 : bt a0 0 = 77
    · have e77 : (bt a0 0 == 77) = true := beq_iff_eq.2 h77
      by_cases ht0 : 0 ≤ t
      · have et0 : decide (0 ≤ t) = true := decide_eq_true ht0
        by_cases ht1 : t ≤ 1152921504606846976
        · have et1 : decide (t ≤ 1152921504606846976) = true := decide_eq_true ht1
          rw [if_pos ⟨h77, ht0, ht1⟩] at hF
          simp only [Option.some.injEq, Prod.mk.injEq] at hF
          obtain ⟨rfl, rfl, rfl, rfl⟩ := hF
          go_enter Try.func11, Try.ntmps11
          go_wp2_with (first | ((with_reducible refine gate_dst (N := 2) rfl ?_); refine box_event ?hg (N := 2) ?hd (cs := #[.int .i64 0, .slice none 0 0]) (t := 24) ?hr ?_; (case hd => rfl); (case hg => rfl); (case hr => first | (go_simp; done) | (go_simp; rfl)); intro g2 hg w1 hbox hb; have G2 := Aside0.mk (show w.heap.size ≤ g2 from (by rw [hg]; exact HB.out.size)); have B2 := Aside0.mk hbox; clear hbox hg; have n0_ := Aside0.mk (below_then HB.out HB.out.size hb); clear HB; have HB := n0_; clear n0_; clear hb) | (go_at_call 36; go_must (refine (ambryref01_Number.calls 9 a0 1 8 _ _ HNF.out).mono ?_); rintro e w2 ⟨rfl, hd⟩; have hb := hd.below; have n0_ := Aside0.mk (below_then HB.out HB.out.size hb); have n1_ := Aside0.mk ((hb.block _ (blk_lt B2.out)).trans B2.out); clear HB B2; have HB := n0_; have B2 := n1_; clear n0_ n1_; clear hb hd) | ((with_reducible refine gate_store (t := 24) (p := 2) (v := .tmp 26) rfl ?_); go_must (refine sagg_event rfl 24 (.tmp 2) (.tmp 26) rfl rfl g2 #[.int .i64 0, .slice none 0 0] _ _ rfl rfl B2.out (by kernel_rfl) rfl rfl ?_); intro w9 hbk hu; have n0_ := Aside0.mk (hu.below HB.out G2.out); clear HB; have HB := n0_; clear n0_; clear B2; have B2 := Aside0.mk hbk; have c90 := (blk_cell B2.out 0).trans rfl; have c91 := (blk_cell B2.out 1).trans rfl; clear hbk hu))
          refine bodyPost_ret (v := .tuple #[.agg #[.int .i64 0, .slice none 0 0], .int .i64 t, .int .i64 0]) ?_ rfl ?_
          · simp [results, Try.results11, go_sem, c90, c91]
          · exact ⟨_, rfl, Kd.R_nil _ _ _ _ _, HB.out⟩
        · have et1 : decide (t ≤ 1152921504606846976) = false := decide_eq_false ht1
          rw [if_neg (fun h => ht1 h.2.2)] at hF
          simp only [rdBad, Option.some.injEq, Prod.mk.injEq] at hF
          obtain ⟨rfl, rfl, rfl, rfl⟩ := hF
          go_enter Try.func11, Try.ntmps11
          go_wp2_with (first | ((with_reducible refine gate_dst (N := 2) rfl ?_); refine box_event ?hg (N := 2) ?hd (cs := #[.int .i64 0, .slice none 0 0]) (t := 24) ?hr ?_; (case hd => rfl); (case hg => rfl); (case hr => first | (go_simp; done) | (go_simp; rfl)); intro g2 hg w1 hbox hb; have G2 := Aside0.mk (show w.heap.size ≤ g2 from (by rw [hg]; exact HB.out.size)); have B2 := Aside0.mk hbox; clear hbox hg; have n0_ := Aside0.mk (below_then HB.out HB.out.size hb); clear HB; have HB := n0_; clear n0_; clear hb) | (go_at_call 36; go_must (refine (ambryref01_Number.calls 9 a0 1 8 _ _ HNF.out).mono ?_); rintro e w2 ⟨rfl, hd⟩; have hb := hd.below; have n0_ := Aside0.mk (below_then HB.out HB.out.size hb); have n1_ := Aside0.mk ((hb.block _ (blk_lt B2.out)).trans B2.out); clear HB B2; have HB := n0_; have B2 := n1_; clear n0_ n1_; clear hb hd) | ((with_reducible refine gate_store (t := 24) (p := 2) (v := .tmp 36) rfl ?_); go_must (refine sagg_event rfl 24 (.tmp 2) (.tmp 36) rfl rfl g2 #[.int .i64 0, .slice none 0 0] _ _ rfl rfl B2.out (by kernel_rfl) rfl rfl ?_); intro w9 hbk hu; have n0_ := Aside0.mk (hu.below HB.out G2.out); clear HB; have HB := n0_; clear n0_; clear B2; have B2 := Aside0.mk hbk; have c90 := (blk_cell B2.out 0).trans rfl; have c91 := (blk_cell B2.out 1).trans rfl; clear hbk hu))
          refine bodyPost_ret (v := .tuple #[.agg #[.int .i64 0, .slice none 0 0], .int .i64 0, .int .i64 4]) ?_ rfl ?_
          · simp [results, Try.results11, go_sem, c90, c91]
          · exact ⟨_, rfl, Kd.R_nil _ _ _ _ _, HB.out⟩
      · have et0 : decide (0 ≤ t) = false := decide_eq_false ht0
        rw [if_neg (fun h => ht0 h.2.1)] at hF
        simp only [rdBad, Option.some.injEq, Prod.mk.injEq] at hF
        obtain ⟨rfl, rfl, rfl, rfl⟩ := hF
        go_enter Try.func11, Try.ntmps11
        go_wp2_with (first | ((with_reducible refine gate_dst (N := 2) rfl ?_); refine box_event ?hg (N := 2) ?hd (cs := #[.int .i64 0, .slice none 0 0]) (t := 24) ?hr ?_; (case hd => rfl); (case hg => rfl); (case hr => first | (go_simp; done) | (go_simp; rfl)); intro g2 hg w1 hbox hb; have G2 := Aside0.mk (show w.heap.size ≤ g2 from (by rw [hg]; exact HB.out.size)); have B2 := Aside0.mk hbox; clear hbox hg; have n0_ := Aside0.mk (below_then HB.out HB.out.size hb); clear HB; have HB := n0_; clear n0_; clear hb) | (go_at_call 36; go_must (refine (ambryref01_Number.calls 9 a0 1 8 _ _ HNF.out).mono ?_); rintro e w2 ⟨rfl, hd⟩; have hb := hd.below; have n0_ := Aside0.mk (below_then HB.out HB.out.size hb); have n1_ := Aside0.mk ((hb.block _ (blk_lt B2.out)).trans B2.out); clear HB B2; have HB := n0_; have B2 := n1_; clear n0_ n1_; clear hb hd) | ((with_reducible refine gate_store (t := 24) (p := 2) (v := .tmp 36) rfl ?_); go_must (refine sagg_event rfl 24 (.tmp 2) (.tmp 36) rfl rfl g2 #[.int .i64 0, .slice none 0 0] _ _ rfl rfl B2.out (by kernel_rfl) rfl rfl ?_); intro w9 hbk hu; have n0_ := Aside0.mk (hu.below HB.out G2.out); clear HB; have HB := n0_; clear n0_; clear B2; have B2 := Aside0.mk hbk; have c90 := (blk_cell B2.out 0).trans rfl; have c91 := (blk_cell B2.out 1).trans rfl; clear hbk hu))
        refine bodyPost_ret (v := .tuple #[.agg #[.int .i64 0, .slice none 0 0], .int .i64 0, .int .i64 4]) ?_ rfl ?_
        · simp [results, Try.results11, go_sem, c90, c91]
        · exact ⟨_, rfl, Kd.R_nil _ _ _ _ _, HB.out⟩
    · have e77 : (bt a0 0 == 77) = false := beq_eq_false_iff_ne.2 h77
      rw [if_neg (fun h => h77 h.1)] at hF
      simp only [rdBad, Option.some.injEq, Prod.mk.injEq] at hF
      obtain ⟨rfl, rfl, rfl, rfl⟩ := hF
      go_enter Try.func11, Try.ntmps11
      go_wp2_with (first | ((with_reducible refine gate_dst (N := 2) rfl ?_); refine box_event ?hg (N := 2) ?hd (cs := #[.int .i64 0, .slice none 0 0]) (t := 24) ?hr ?_; (case hd => rfl); (case hg => rfl); (case hr => first | (go_simp; done) | (go_simp; rfl)); intro g2 hg w1 hbox hb; have G2 := Aside0.mk (show w.heap.size ≤ g2 from (by rw [hg]; exact HB.out.size)); have B2 := Aside0.mk hbox; clear hbox hg; have n0_ := Aside0.mk (below_then HB.out HB.out.size hb); clear HB; have HB := n0_; clear n0_; clear hb) | (go_at_call 36; go_must (refine (ambryref01_Number.calls 9 a0 1 8 _ _ HNF.out).mono ?_); rintro e w2 ⟨rfl, hd⟩; have hb := hd.below; have n0_ := Aside0.mk (below_then HB.out HB.out.size hb); have n1_ := Aside0.mk ((hb.block _ (blk_lt B2.out)).trans B2.out); clear HB B2; have HB := n0_; have B2 := n1_; clear n0_ n1_; clear hb hd) | ((with_reducible refine gate_store (t := 24) (p := 2) (v := .tmp 36) rfl ?_); go_must (refine sagg_event rfl 24 (.tmp 2) (.tmp 36) rfl rfl g2 #[.int .i64 0, .slice none 0 0] _ _ rfl rfl B2.out (by kernel_rfl) rfl rfl ?_); intro w9 hbk hu; have n0_ := Aside0.mk (hu.below HB.out G2.out); clear HB; have HB := n0_; clear n0_; clear B2; have B2 := Aside0.mk hbk; have c90 := (blk_cell B2.out 0).trans rfl; have c91 := (blk_cell B2.out 1).trans rfl; clear hbk hu))
      refine bodyPost_ret (v := .tuple #[.agg #[.int .i64 0, .slice none 0 0], .int .i64 0, .int .i64 4]) ?_ rfl ?_
      · simp [results, Try.results11, go_sem, c90, c91]
      · exact ⟨_, rfl, Kd.R_nil _ _ _ _ _, HB.out⟩
  rw [if_neg h9] at hF
  have d1 : ((a0.size : Int) == 9) = false := beq_eq_false_iff_ne.2 (by omega)
  have d2 : decide ((a0.size : Int) < 10) = false := decide_eq_false (by omega)
  by_cases h66 : bt a0 0 ≠ 66
  · rw [if_pos h66] at hF
    have e66 : (bt a0 0 != 66) = true := by rw [bne_iff_ne]; exact h66
    simp only [rdBad, Option.some.injEq, Prod.mk.injEq] at hF
    obtain ⟨rfl, rfl, rfl, rfl⟩ := hF
    go_enter Try.func11, Try.ntmps11
    go_wp2_with (first | ((with_reducible refine gate_dst (N := 2) rfl ?_); refine box_event ?hg (N := 2) ?hd (cs := #[.int .i64 0, .slice none 0 0]) (t := 24) ?hr ?_; (case hd => rfl); (case hg => rfl); (case hr => first | (go_simp; done) | (go_simp; rfl)); intro g2 hg w1 hbox hb; have G2 := Aside0.mk (show w.heap.size ≤ g2 from (by rw [hg]; exact HB.out.size)); have B2 := Aside0.mk hbox; clear hbox hg; have n0_ := Aside0.mk (below_then HB.out HB.out.size hb); clear HB; have HB := n0_; clear n0_; clear hb) | (go_at_call 36; go_must (refine (ambryref01_Number.calls 9 a0 1 8 _ _ HNF.out).mono ?_); rintro e w2 ⟨rfl, hd⟩; have hb := hd.below; have n0_ := Aside0.mk (below_then HB.out HB.out.size hb); have n1_ := Aside0.mk ((hb.block _ (blk_lt B2.out)).trans B2.out); clear HB B2; have HB := n0_; have B2 := n1_; clear n0_ n1_; clear hb hd) | ((with_reducible refine gate_store (t := 24) (p := 2) (v := .tmp 36) rfl ?_); go_must (refine sagg_event rfl 24 (.tmp 2) (.tmp 36) rfl rfl g2 #[.int .i64 0, .slice none 0 0] _ _ rfl rfl B2.out (by kernel_rfl) rfl rfl ?_); intro w9 hbk hu; have n0_ := Aside0.mk (hu.below HB.out G2.out); clear HB; have HB := n0_; clear n0_; clear B2; have B2 := Aside0.mk hbk; have c90 := (blk_cell B2.out 0).trans rfl; have c91 := (blk_cell B2.out 1).trans rfl; clear hbk hu))
    refine bodyPost_ret (v := .tuple #[.agg #[.int .i64 0, .slice none 0 0], .int .i64 0, .int .i64 4]) ?_ rfl ?_
    · simp [results, Try.results11, go_sem, c90, c91]
    · exact ⟨_, rfl, Kd.R_nil _ _ _ _ _, HB.out⟩
  rw [if_neg h66] at hF
  have e66 : (bt a0 0 != 66) = false := by rw [← Bool.not_eq_true, bne_iff_ne]; exact h66
  have h9s : 9 < a0.size := by omega
  have hb9 : ((a0[9]'h9s).toNat : Int) = bt a0 9 := bt_at a0 9 h9s
  have hr9 := bt_range a0 9
  obtain ⟨nb, hnb⟩ : ∃ n : Nat, bt a0 9 = (n : Int) := ⟨(bt a0 9).toNat, by omega⟩
  rw [hnb] at hb9 hr9 hF
  rw [Int.toNat_natCast] at hF
  have HF := Aside0.mk (show refLoop k a0 t (nb - 0) 10 [] = some (r1, r2, r3, r4) from hF)
  clear hF
  go_enter Try.func11, Try.ntmps11
  go_wp2_with (first | ((with_reducible refine gate_dst (N := 2) rfl ?_); refine box_event ?hg (N := 2) ?hd (cs := #[.int .i64 0, .slice none 0 0]) (t := 24) ?hr ?_; (case hd => rfl); (case hg => rfl); (case hr => first | (go_simp; done) | (go_simp; rfl)); intro g2 hg w1 hbox hb; have G2 := Aside0.mk (show w.heap.size ≤ g2 from (by rw [hg]; exact HB.out.size)); have B2 := Aside0.mk hbox; clear hbox hg; have n0_ := Aside0.mk (below_then HB.out HB.out.size hb); clear HB; have HB := n0_; clear n0_; clear hb) | (go_at_call 36; go_must (refine (ambryref01_Number.calls 9 a0 1 8 _ _ HNF.out).mono ?_); rintro e w2 ⟨rfl, hd⟩; have hb := hd.below; have n0_ := Aside0.mk (below_then HB.out HB.out.size hb); have n1_ := Aside0.mk ((hb.block _ (blk_lt B2.out)).trans B2.out); clear HB B2; have HB := n0_; have B2 := n1_; clear n0_ n1_; clear hb hd) | ((with_reducible refine gate_dst (N := 6) rfl ?_); refine box_event ?hg (N := 6) ?hd (cs := #[.int .i64 0, .slice none 0 0]) (t := 24) ?hr ?_; (case hd => rfl); (case hg => rfl); (case hr => first | (go_simp; done) | (go_simp; rfl)); intro g6 hg w3 hbox hb; have G6 := Aside0.mk (show w.heap.size ≤ g6 from (by rw [hg]; exact HB.out.size)); have H26 := Aside0.mk (show g2 ≠ g6 from fun e => absurd (blk_lt B2.out) (by omega)); have B6 := Aside0.mk hbox; clear hbox hg; have n0_ := Aside0.mk (below_then HB.out HB.out.size hb); have n1_ := Aside0.mk ((hb.block _ (blk_lt B2.out)).trans B2.out); clear HB B2; have HB := n0_; have B2 := n1_; clear n0_ n1_; clear hb) | ((with_reducible refine gate_store (t := 24) (p := 6) (v := .tmp 39) rfl ?_); go_must (refine sagg_event rfl 24 (.tmp 6) (.tmp 39) rfl rfl g6 #[.int .i64 t, .slice none 0 0] _ _ rfl rfl B6.out (by kernel_rfl) rfl rfl ?_); intro w4 hbk hu; have n0_ := Aside0.mk (hu.below HB.out G6.out); have n1_ := Aside0.mk (hu.blk B2.out H26.out); clear HB B2; have HB := n0_; have B2 := n1_; clear n0_ n1_; clear B6; have B6 := Aside0.mk hbk; clear hbk hu))
  go_loopg [7, 8] nb (fun gg s7 s8 wr => ∃ (i : Nat) (at_ : Int) (acc : List S52) (v : Value), i ≤ nb ∧ nb - i ≤ gg ∧ s8 = .int .i64 i ∧ s7 = .int .i64 at_ ∧ acc.length ≤ i ∧ -9223372036854775808 ≤ at_ ∧ at_ ≤ 9223372036854775807 ∧ Aside0 (Below w.heap.size w wr) ∧ Aside0 (wr.heap[g2]? = some (.cells #[.int .i64 0, .slice none 0 0] 24 (0, 0))) ∧ Aside0 (wr.heap[g6]? = some (.cells #[.int .i64 t, v] 24 (0, 0))) ∧ Aside0 (Kd.R k52 52 wr w.heap.size (fun _ => True) v acc) ∧ Aside0 (refLoop k a0 t (nb - i) at_ acc = some (r1, r2, r3, r4)))
  case atStart => exact ⟨0, 10, [], _, Nat.zero_le _, by omega, rfl, rfl, by simp, by omega, by omega, HB, B2, B6, ⟨Kd.R_nil _ _ _ _ _⟩, HF⟩
  case round =>
    obtain ⟨i, at_, acc, v, hi, hgi, rfl, rfl, hal, ha0, ha1, HB, B2, B6, HR, HF⟩ := hrel
    have cB60 := (blk_cell B6.out 0).trans rfl
    have cB61 := (blk_cell B6.out 1).trans rfl
    by_cases hin : i < nb
    · obtain ⟨n, hn⟩ : ∃ n, nb - i = n + 1 := ⟨nb - i - 1, by omega⟩
      have e1 : decide ((i : Int) < (nb : Int)) = true := decide_eq_true (by omega)
      have hFR := HF.out
      rw [hn, refLoop] at hFR
      by_cases hat : 0 ≤ at_ ∧ at_ < a0.size
      · rw [if_pos hat] at hFR
        obtain ⟨hat0, hat1⟩ := hat
        have e2 : decide (0 ≤ at_) = true := decide_eq_true hat0
        have e3 : decide (at_ < (a0.size : Int)) = true := decide_eq_true hat1
        have hix : at_.toNat < a0.size := by omega
        have hba : ((a0[at_.toNat]'hix).toNat : Int) = bt a0 at_ := bt_at a0 at_ hix
        have hw1 : IntKind.i64.wrap (at_ + 1) = at_ + 1 := by simp [IntKind.wrap, IntKind.bits, IntKind.signed]; omega
        have hw2 : wrap64 (at_ + 1) = at_ + 1 := by unfold wrap64; omega
        have hp := piece_f a0 hsz3 (at_ + 1)
        obtain ⟨⟨x1, x2⟩, hx⟩ : ∃ q, pieceP a0 (at_ + 1) = q := ⟨_, rfl⟩
        rw [hx] at hp hFR
        simp only at hFR
        have HX := Aside0.mk hp
        have hp2 := piece_f a0 hsz3 x2
        have hy2 := pieceP_range a0 x2
        obtain ⟨⟨y1, y2⟩, hy⟩ : ∃ q, pieceP a0 x2 = q := ⟨_, rfl⟩
        rw [hy] at hp2 hFR hy2
        simp only at hFR hy2
        have HY := Aside0.mk hp2
        have HF2 := Aside0.mk hFR
        have HLN := Aside0.mk (show (acc.length + 1) * 40 ≤ 140737488355328 by omega)
        have tok1 : True := trivial
        have tok2 : True := trivial
        clear hp hp2 hx hy hFR HF
        go_wp2_with (first | ((with_reducible refine gate_dst (N := 9) rfl ?_); refine box_event ?hg (N := 9) ?hd (cs := #[.string ⟨#[]⟩, .string ⟨#[]⟩, .bool false]) (t := 52) ?hr ?_; (case hd => rfl); (case hg => rfl); (case hr => first | (go_simp; done) | (go_simp; rfl)); intro g9 hg w5 hbox hb; have G9 := Aside0.mk (show w.heap.size ≤ g9 from (by rw [hg]; exact HB.out.size)); have H29 := Aside0.mk (show g2 ≠ g9 from fun e => absurd (blk_lt B2.out) (by omega)); have H69 := Aside0.mk (show g6 ≠ g9 from fun e => absurd (blk_lt B6.out) (by omega)); have nR_ := Aside0.mk (Kd.R_below (Kd.R_elderB HR.out g9 (Nat.le_of_eq hg.symm)) hb); clear HR; have HR := nR_; clear nR_; have B9 := Aside0.mk hbox; clear hbox hg; have n0_ := Aside0.mk (below_then HB.out HB.out.size hb); have n1_ := Aside0.mk ((hb.block _ (blk_lt B2.out)).trans B2.out); have n2_ := Aside0.mk ((hb.block _ (blk_lt B6.out)).trans B6.out); clear HB B2 B6; have HB := n0_; have B2 := n1_; have B6 := n2_; clear n0_ n1_ n2_; clear hb) | ((with_reducible refine gate_store (t := 52) (p := 9) (v := .tmp 61) rfl ?_); go_must (refine sagg_event rfl 52 (.tmp 9) (.tmp 61) rfl rfl g9 #[.string ⟨#[]⟩, .string ⟨#[]⟩, .bool (bt a0 at_ == 1)] _ _ rfl rfl B9.out (by kernel_rfl) rfl rfl ?_); intro w6 hbk hu; have n0_ := Aside0.mk (hu.below HB.out G9.out); have n1_ := Aside0.mk (hu.blk B2.out H29.out); have n2_ := Aside0.mk (hu.blk B6.out H69.out); have n3_ := Aside0.mk (Kd.R_step HR.out (fun k_ hk_ _ => hu.block k_ hk_.2)); clear HB B2 B6 HR; have HB := n0_; have B2 := n1_; have B6 := n2_; have HR := n3_; clear n0_ n1_ n2_ n3_; clear B9; have B9 := Aside0.mk hbk; clear hbk hu) | (have t1_ := tok1; go_at_call 37; go_must (with_reducible refine (ambryref15_piece.calls a0 (at_ + 1) x1 x2 _ HX.out).mono ?_); rintro e w7 ⟨rfl, hd⟩; have hb := hd.below; have n0_ := Aside0.mk (below_then HB.out HB.out.size hb); have n1_ := Aside0.mk ((hb.block _ (blk_lt B2.out)).trans B2.out); have n2_ := Aside0.mk ((hb.block _ (blk_lt B6.out)).trans B6.out); have n3_ := Aside0.mk ((hb.block _ (blk_lt B9.out)).trans B9.out); have n4_ := Aside0.mk (Kd.R_below HR.out hb); clear HB B2 B6 B9 HR; have HB := n0_; have B2 := n1_; have B6 := n2_; have B9 := n3_; have HR := n4_; clear n0_ n1_ n2_ n3_ n4_; clear hb hd; clear tok1) | ((with_reducible refine gate_store (t := 9) (p := 69) (v := .tmp 67) rfl ?_); go_must (refine scell_event rfl rfl g9 0 (.string x1) _ _ B9.out ?hr ?_); (case hr => have q1_ := (blk_cell B9.out 0).trans rfl; have q2_ := blk_frozen B9.out 0; first | (go_simp; done) | (go_simp; rfl)); intro w8 hbk hu; have n0_ := Aside0.mk (hu.below HB.out G9.out); have n1_ := Aside0.mk (hu.blk B2.out H29.out); have n2_ := Aside0.mk (hu.blk B6.out H69.out); have n3_ := Aside0.mk (Kd.R_step HR.out (fun k_ hk_ _ => hu.block k_ hk_.2)); clear HB B2 B6 HR; have HB := n0_; have B2 := n1_; have B6 := n2_; have HR := n3_; clear n0_ n1_ n2_ n3_; clear B9; have B9 := Aside0.mk (show w8.heap[g9]? = some (.cells #[.string x1, .string ⟨#[]⟩, .bool (bt a0 at_ == 1)] 52 (0, 0)) from hbk); clear hbk hu) | (have t0_ := tok2; have t1_ := tok2; go_at_call 37; go_must (with_reducible refine (ambryref15_piece.calls a0 (x2) y1 y2 _ HY.out).mono ?_); rintro e w9 ⟨rfl, hd⟩; have hb := hd.below; have n0_ := Aside0.mk (below_then HB.out HB.out.size hb); have n1_ := Aside0.mk ((hb.block _ (blk_lt B2.out)).trans B2.out); have n2_ := Aside0.mk ((hb.block _ (blk_lt B6.out)).trans B6.out); have n3_ := Aside0.mk ((hb.block _ (blk_lt B9.out)).trans B9.out); have n4_ := Aside0.mk (Kd.R_below HR.out hb); clear HB B2 B6 B9 HR; have HB := n0_; have B2 := n1_; have B6 := n2_; have B9 := n3_; have HR := n4_; clear n0_ n1_ n2_ n3_ n4_; clear hb hd; clear tok2) | ((with_reducible refine gate_store (t := 9) (p := 76) (v := .tmp 74) rfl ?_); go_must (refine scell_event rfl rfl g9 1 (.string y1) _ _ B9.out ?hr ?_); (case hr => have q1_ := (blk_cell B9.out 1).trans rfl; have q2_ := blk_frozen B9.out 1; first | (go_simp; done) | (go_simp; rfl)); intro w10 hbk hu; have n0_ := Aside0.mk (hu.below HB.out G9.out); have n1_ := Aside0.mk (hu.blk B2.out H29.out); have n2_ := Aside0.mk (hu.blk B6.out H69.out); have n3_ := Aside0.mk (Kd.R_step HR.out (fun k_ hk_ _ => hu.block k_ hk_.2)); clear HB B2 B6 HR; have HB := n0_; have B2 := n1_; have B6 := n2_; have HR := n3_; clear n0_ n1_ n2_ n3_; clear B9; have B9 := Aside0.mk (show w10.heap[g9]? = some (.cells #[.string x1, .string y1, .bool (bt a0 at_ == 1)] 52 (0, 0)) from hbk); have d61 := (blk_cell B6.out 1).trans rfl; have d90 := (blk_cell B9.out 0).trans rfl; have d91 := (blk_cell B9.out 1).trans rfl; have d92 := (blk_cell B9.out 2).trans rfl; clear hbk hu) | ((with_reducible refine gate_builtin (b := .append) (xs := #[.tmp 78, .tmp 80]) rfl ?_); at_builtin; go_must (refine Kd.R_append k52 (w0 := w) w.heap.size rfl (.tmp 78) (.tmp 80) 22 52 (.agg #[(.string ⟨#[]⟩), (.string ⟨#[]⟩), (.bool false)]) 40 rfl Try.underlying22 info52 rfl (by decide) (by decide) v acc (⟨x1, y1, (bt a0 at_ == 1)⟩ : S52) [.string x1, .string y1, .bool (bt a0 at_ == 1)] (fun k => True ∧ k ≠ g9) (fun _ => False) rfl rfl (k52_mkM _ _ _ (⟨x1, y1, (bt a0 at_ == 1)⟩ : S52)) (fun _ hk => hk.elim) (fun k_ hk_ => ⟨trivial, fun e_ => by have := blk_lt B9.out; omega⟩) HR.out HB.out HB.out.size HLN.out ?_); intro v1 w11 ho hb hg hat; have n1_ := Aside0.mk (blk_grown B2.out hg (Kd.R_ne HR.out B2.out (by decide))); have n2_ := Aside0.mk (blk_grown B6.out hg (Kd.R_ne HR.out B6.out (by decide))); clear HB B2 B6 B9 HR; have HB := Aside0.mk hb; have B2 := n1_; have B6 := n2_; clear n1_ n2_; obtain ⟨A1, c1, e1_⟩ := Kd.R_slice ho; simp only [List.length_append, List.length_singleton, List.length_nil, Nat.zero_add] at e1_; subst e1_; have HR := Aside0.mk (Kd.R_mono ho (ok' := fun _ => True) (fun _ _ => trivial)); clear ho hb hg hat) | ((with_reducible refine gate_store (t := 22) (p := 82) (v := .tmp 81) rfl ?_); go_must (refine scell_event rfl rfl g6 1 (.slice A1 (acc.length + 1) c1) _ _ B6.out ?hr ?_); (case hr => have q1_ := (blk_cell B6.out 1).trans rfl; have q2_ := blk_frozen B6.out 1; first | (go_simp; done) | (go_simp; rfl)); intro w12 hbk hu; have n0_ := Aside0.mk (hu.below HB.out G6.out); have n1_ := Aside0.mk (hu.blk B2.out H26.out); have n2_ := Aside0.mk (Kd.R_mono (Kd.R_step (Kd.R_types HR.out B6.out (by decide)) (fun k_ hk_ _ => hu.block k_ hk_.2)) (fun _ hk_ => hk_.1)); clear HB B2 HR; have HB := n0_; have B2 := n1_; have HR := n2_; clear n0_ n1_ n2_; clear B6; have B6 := Aside0.mk (show w12.heap[g6]? = some (.cells #[.int .i64 t, .slice A1 (acc.length + 1) c1] 24 (0, 0)) from hbk); clear hbk hu))
        go_roundg (nb - (i + 1))
        case measure => omega
        case rel => exact ⟨i + 1, y2, acc ++ [⟨x1, y1, bt a0 at_ == 1⟩], _, by omega, by omega, by go_num, rfl, by simp; omega, by omega, by omega, HB, B2, B6, HR, ⟨by rw [show nb - (i + 1) = n by omega]; exact HF2.out⟩⟩
      · rw [if_neg hat] at hFR
        have HF2 := Aside0.mk hFR
        clear hFR HF
        by_cases hat0 : 0 ≤ at_
        · have e2 : decide (0 ≤ at_) = true := decide_eq_true hat0
          have e3 : decide (at_ < (a0.size : Int)) = false := decide_eq_false (fun h => hat ⟨hat0, h⟩)
          have hF := HF2.out
          unfold refEnd at hF
          by_cases hneg : at_ < 0
          · rw [if_pos hneg] at hF
            simp only [rdBad, Option.some.injEq, Prod.mk.injEq] at hF
            obtain ⟨rfl, rfl, rfl, rfl⟩ := hF
            have e5 : decide (at_ < 0) = true := decide_eq_true hneg
            clear HF2
            go_wp2_with (first | ((with_reducible refine gate_store (t := 24) (p := 2) (v := .tmp 96) rfl ?_); go_must (refine sagg_event rfl 24 (.tmp 2) (.tmp 96) rfl rfl g2 #[.int .i64 0, .slice none 0 0] _ _ rfl rfl B2.out (by kernel_rfl) rfl rfl ?_); intro w11 hbk hu; have n0_ := Aside0.mk (hu.below HB.out G2.out); clear HB; have HB := n0_; clear n0_; clear B2; have B2 := Aside0.mk hbk; have c90 := (blk_cell B2.out 0).trans rfl; have c91 := (blk_cell B2.out 1).trans rfl; clear hbk hu))
            refine bodyPost_ret (v := .tuple #[.agg #[.int .i64 0, .slice none 0 0], .int .i64 0, .int .i64 4]) ?_ rfl ?_
            · simp [results, Try.results11, go_sem, c90, c91]
            · exact ⟨_, rfl, Kd.R_nil _ _ _ _ _, HB.out⟩
          rw [if_neg hneg] at hF
          have e5 : decide (at_ < 0) = false := decide_eq_false hneg
          obtain ⟨e0, hck, hF⟩ := Option.bind_eq_some_iff.1 hF
          have HCK := Aside0.mk hck
          obtain ⟨A, c, rfl, hle, hC⟩ := Kd.R_reads HR.out
          have HCR := Aside0.mk hC
          have HLC := Aside0.mk hle
          clear hck hC hle HF2
          by_cases he0 : e0 = 0
          · rw [if_pos he0] at hF
            subst he0
            obtain ⟨p0, hpt, hF⟩ := Option.bind_eq_some_iff.1 hF
            have HPT := Aside0.mk hpt
            clear hpt
            by_cases hpe : p0.toList = a0.toList
            · rw [if_pos hpe] at hF
              have e6 : (p0.toList == a0.toList) = true := beq_iff_eq.2 hpe
              have e7 : (p0.toList != a0.toList) = false := by rw [← Bool.not_eq_true, bne_iff_ne]; exact fun h => h hpe
              simp only [Option.some.injEq, Prod.mk.injEq] at hF
              obtain ⟨rfl, rfl, rfl, rfl⟩ := hF
              clear hpe
              go_wp2_with (first | (go_at_call 19; go_must (with_reducible refine (ambryref15_Check.calls k t A c acc _ _ HCR.out HLC.out HCK.out).mono ?_); rintro e w8 ⟨rfl, hb⟩; have n0_ := Aside0.mk (below_then HB.out HB.out.size hb); have n1_ := Aside0.mk ((hb.block _ (blk_lt B2.out)).trans B2.out); have n2_ := Aside0.mk ((hb.block _ (blk_lt B6.out)).trans B6.out); have n3_ := Aside0.mk (Kd.R_below HR.out hb); have n4_ := Aside0.mk (Kd.C_below HCR.out hb); clear HB B2 B6 HR HCR; have HB := n0_; have B2 := n1_; have B6 := n2_; have HR := n3_; have HCR := n4_; clear n0_ n1_ n2_ n3_ n4_; have c60 := (blk_cell B6.out 0).trans rfl; have c61 := (blk_cell B6.out 1).trans rfl; have c20 := (blk_cell B2.out 0).trans rfl; have c21 := (blk_cell B2.out 1).trans rfl; clear hb) | (go_at_call 38; go_must (with_reducible refine (ambryref15_put.calls k t A c acc p0 _ HCR.out HLC.out HPT.out).mono ?_); rintro e w10 ⟨rfl, hb⟩; have n0_ := Aside0.mk (below_then HB.out HB.out.size hb); have n1_ := Aside0.mk ((hb.block _ (blk_lt B2.out)).trans B2.out); have n2_ := Aside0.mk ((hb.block _ (blk_lt B6.out)).trans B6.out); have n3_ := Aside0.mk (Kd.R_below HR.out hb); clear HB B2 B6 HR; have HB := n0_; have B2 := n1_; have B6 := n2_; have HR := n3_; clear n0_ n1_ n2_ n3_; have c60 := (blk_cell B6.out 0).trans rfl; have c61 := (blk_cell B6.out 1).trans rfl; have c20 := (blk_cell B2.out 0).trans rfl; have c21 := (blk_cell B2.out 1).trans rfl; clear hb) | ((with_reducible refine gate_store (t := 24) (p := 2) (v := .tmp 97) rfl ?_); go_must (refine sagg_event rfl 24 (.tmp 2) (.tmp 97) rfl rfl g2 #[.int .i64 t, .slice A acc.length c] _ _ rfl rfl B2.out (by kernel_rfl) rfl rfl ?_); intro w11 hbk hu; have n0_ := Aside0.mk (hu.below HB.out G2.out); have n1_ := Aside0.mk (Kd.R_mono (Kd.R_step (Kd.R_types HR.out B2.out (by decide)) (fun k_ hk_ _ => hu.block k_ hk_.2)) (fun _ hk_ => hk_.1)); clear HB HR; have HB := n0_; have HR := n1_; clear n0_ n1_; clear B2; have B2 := Aside0.mk hbk; have c90 := (blk_cell B2.out 0).trans rfl; have c91 := (blk_cell B2.out 1).trans rfl; clear hbk hu))
              refine bodyPost_ret (v := .tuple #[.agg #[.int .i64 t, .slice A acc.length c], .int .i64 0, .int .i64 0]) ?_ rfl ?_
              · simp [results, Try.results11, go_sem, c90, c91]
              · exact ⟨_, rfl, HR.out, HB.out⟩
            · rw [if_neg hpe] at hF
              have e6 : (p0.toList == a0.toList) = false := beq_eq_false_iff_ne.2 hpe
              have e7 : (p0.toList != a0.toList) = true := bne_iff_ne.2 hpe
              simp only [rdBad, Option.some.injEq, Prod.mk.injEq] at hF
              obtain ⟨rfl, rfl, rfl, rfl⟩ := hF
              clear hpe
              go_wp2_with (first | (go_at_call 19; go_must (with_reducible refine (ambryref15_Check.calls k t A c acc _ _ HCR.out HLC.out HCK.out).mono ?_); rintro e w8 ⟨rfl, hb⟩; have n0_ := Aside0.mk (below_then HB.out HB.out.size hb); have n1_ := Aside0.mk ((hb.block _ (blk_lt B2.out)).trans B2.out); have n2_ := Aside0.mk ((hb.block _ (blk_lt B6.out)).trans B6.out); have n3_ := Aside0.mk (Kd.R_below HR.out hb); have n4_ := Aside0.mk (Kd.C_below HCR.out hb); clear HB B2 B6 HR HCR; have HB := n0_; have B2 := n1_; have B6 := n2_; have HR := n3_; have HCR := n4_; clear n0_ n1_ n2_ n3_ n4_; have c60 := (blk_cell B6.out 0).trans rfl; have c61 := (blk_cell B6.out 1).trans rfl; have c20 := (blk_cell B2.out 0).trans rfl; have c21 := (blk_cell B2.out 1).trans rfl; clear hb) | (go_at_call 38; go_must (with_reducible refine (ambryref15_put.calls k t A c acc p0 _ HCR.out HLC.out HPT.out).mono ?_); rintro e w10 ⟨rfl, hb⟩; have n0_ := Aside0.mk (below_then HB.out HB.out.size hb); have n1_ := Aside0.mk ((hb.block _ (blk_lt B2.out)).trans B2.out); have n2_ := Aside0.mk ((hb.block _ (blk_lt B6.out)).trans B6.out); have n3_ := Aside0.mk (Kd.R_below HR.out hb); clear HB B2 B6 HR; have HB := n0_; have B2 := n1_; have B6 := n2_; have HR := n3_; clear n0_ n1_ n2_ n3_; have c60 := (blk_cell B6.out 0).trans rfl; have c61 := (blk_cell B6.out 1).trans rfl; have c20 := (blk_cell B2.out 0).trans rfl; have c21 := (blk_cell B2.out 1).trans rfl; clear hb) | ((with_reducible refine gate_store (t := 24) (p := 2) (v := .tmp 96) rfl ?_); go_must (refine sagg_event rfl 24 (.tmp 2) (.tmp 96) rfl rfl g2 #[.int .i64 0, .slice none 0 0] _ _ rfl rfl B2.out (by kernel_rfl) rfl rfl ?_); intro w11 hbk hu; have n0_ := Aside0.mk (hu.below HB.out G2.out); clear HB; have HB := n0_; clear n0_; clear B2; have B2 := Aside0.mk hbk; have c90 := (blk_cell B2.out 0).trans rfl; have c91 := (blk_cell B2.out 1).trans rfl; clear hbk hu))
              refine bodyPost_ret (v := .tuple #[.agg #[.int .i64 0, .slice none 0 0], .int .i64 0, .int .i64 4]) ?_ rfl ?_
              · simp [results, Try.results11, go_sem, c90, c91]
              · exact ⟨_, rfl, Kd.R_nil _ _ _ _ _, HB.out⟩
          · rw [if_neg he0] at hF
            have e6 : (e0 == 0) = false := beq_eq_false_iff_ne.2 he0
            have e7 : (e0 != 0) = true := bne_iff_ne.2 he0
            simp only [rdBad, Option.some.injEq, Prod.mk.injEq] at hF
            obtain ⟨rfl, rfl, rfl, rfl⟩ := hF
            go_wp2_with (first | (go_at_call 19; go_must (with_reducible refine (ambryref15_Check.calls k t A c acc _ _ HCR.out HLC.out HCK.out).mono ?_); rintro e w8 ⟨rfl, hb⟩; have n0_ := Aside0.mk (below_then HB.out HB.out.size hb); have n1_ := Aside0.mk ((hb.block _ (blk_lt B2.out)).trans B2.out); have n2_ := Aside0.mk ((hb.block _ (blk_lt B6.out)).trans B6.out); have n3_ := Aside0.mk (Kd.R_below HR.out hb); have n4_ := Aside0.mk (Kd.C_below HCR.out hb); clear HB B2 B6 HR HCR; have HB := n0_; have B2 := n1_; have B6 := n2_; have HR := n3_; have HCR := n4_; clear n0_ n1_ n2_ n3_ n4_; have c60 := (blk_cell B6.out 0).trans rfl; have c61 := (blk_cell B6.out 1).trans rfl; have c20 := (blk_cell B2.out 0).trans rfl; have c21 := (blk_cell B2.out 1).trans rfl; clear hb) | ((with_reducible refine gate_store (t := 24) (p := 2) (v := .tmp 96) rfl ?_); go_must (refine sagg_event rfl 24 (.tmp 2) (.tmp 96) rfl rfl g2 #[.int .i64 0, .slice none 0 0] _ _ rfl rfl B2.out (by kernel_rfl) rfl rfl ?_); intro w11 hbk hu; have n0_ := Aside0.mk (hu.below HB.out G2.out); clear HB; have HB := n0_; clear n0_; clear B2; have B2 := Aside0.mk hbk; have c90 := (blk_cell B2.out 0).trans rfl; have c91 := (blk_cell B2.out 1).trans rfl; clear hbk hu))
            refine bodyPost_ret (v := .tuple #[.agg #[.int .i64 0, .slice none 0 0], .int .i64 0, .int .i64 4]) ?_ rfl ?_
            · simp [results, Try.results11, go_sem, c90, c91]
            · exact ⟨_, rfl, Kd.R_nil _ _ _ _ _, HB.out⟩
        · have e2 : decide (0 ≤ at_) = false := decide_eq_false hat0
          have hF := HF2.out
          unfold refEnd at hF
          by_cases hneg : at_ < 0
          · rw [if_pos hneg] at hF
            simp only [rdBad, Option.some.injEq, Prod.mk.injEq] at hF
            obtain ⟨rfl, rfl, rfl, rfl⟩ := hF
            have e5 : decide (at_ < 0) = true := decide_eq_true hneg
            clear HF2
            go_wp2_with (first | ((with_reducible refine gate_store (t := 24) (p := 2) (v := .tmp 96) rfl ?_); go_must (refine sagg_event rfl 24 (.tmp 2) (.tmp 96) rfl rfl g2 #[.int .i64 0, .slice none 0 0] _ _ rfl rfl B2.out (by kernel_rfl) rfl rfl ?_); intro w11 hbk hu; have n0_ := Aside0.mk (hu.below HB.out G2.out); clear HB; have HB := n0_; clear n0_; clear B2; have B2 := Aside0.mk hbk; have c90 := (blk_cell B2.out 0).trans rfl; have c91 := (blk_cell B2.out 1).trans rfl; clear hbk hu))
            refine bodyPost_ret (v := .tuple #[.agg #[.int .i64 0, .slice none 0 0], .int .i64 0, .int .i64 4]) ?_ rfl ?_
            · simp [results, Try.results11, go_sem, c90, c91]
            · exact ⟨_, rfl, Kd.R_nil _ _ _ _ _, HB.out⟩
          rw [if_neg hneg] at hF
          have e5 : decide (at_ < 0) = false := decide_eq_false hneg
          obtain ⟨e0, hck, hF⟩ := Option.bind_eq_some_iff.1 hF
          have HCK := Aside0.mk hck
          obtain ⟨A, c, rfl, hle, hC⟩ := Kd.R_reads HR.out
          have HCR := Aside0.mk hC
          have HLC := Aside0.mk hle
          clear hck hC hle HF2
          by_cases he0 : e0 = 0
          · rw [if_pos he0] at hF
            subst he0
            obtain ⟨p0, hpt, hF⟩ := Option.bind_eq_some_iff.1 hF
            have HPT := Aside0.mk hpt
            clear hpt
            by_cases hpe : p0.toList = a0.toList
            · rw [if_pos hpe] at hF
              have e6 : (p0.toList == a0.toList) = true := beq_iff_eq.2 hpe
              have e7 : (p0.toList != a0.toList) = false := by rw [← Bool.not_eq_true, bne_iff_ne]; exact fun h => h hpe
              simp only [Option.some.injEq, Prod.mk.injEq] at hF
              obtain ⟨rfl, rfl, rfl, rfl⟩ := hF
              clear hpe
              go_wp2_with (first | (go_at_call 19; go_must (with_reducible refine (ambryref15_Check.calls k t A c acc _ _ HCR.out HLC.out HCK.out).mono ?_); rintro e w8 ⟨rfl, hb⟩; have n0_ := Aside0.mk (below_then HB.out HB.out.size hb); have n1_ := Aside0.mk ((hb.block _ (blk_lt B2.out)).trans B2.out); have n2_ := Aside0.mk ((hb.block _ (blk_lt B6.out)).trans B6.out); have n3_ := Aside0.mk (Kd.R_below HR.out hb); have n4_ := Aside0.mk (Kd.C_below HCR.out hb); clear HB B2 B6 HR HCR; have HB := n0_; have B2 := n1_; have B6 := n2_; have HR := n3_; have HCR := n4_; clear n0_ n1_ n2_ n3_ n4_; have c60 := (blk_cell B6.out 0).trans rfl; have c61 := (blk_cell B6.out 1).trans rfl; have c20 := (blk_cell B2.out 0).trans rfl; have c21 := (blk_cell B2.out 1).trans rfl; clear hb) | (go_at_call 38; go_must (with_reducible refine (ambryref15_put.calls k t A c acc p0 _ HCR.out HLC.out HPT.out).mono ?_); rintro e w10 ⟨rfl, hb⟩; have n0_ := Aside0.mk (below_then HB.out HB.out.size hb); have n1_ := Aside0.mk ((hb.block _ (blk_lt B2.out)).trans B2.out); have n2_ := Aside0.mk ((hb.block _ (blk_lt B6.out)).trans B6.out); have n3_ := Aside0.mk (Kd.R_below HR.out hb); clear HB B2 B6 HR; have HB := n0_; have B2 := n1_; have B6 := n2_; have HR := n3_; clear n0_ n1_ n2_ n3_; have c60 := (blk_cell B6.out 0).trans rfl; have c61 := (blk_cell B6.out 1).trans rfl; have c20 := (blk_cell B2.out 0).trans rfl; have c21 := (blk_cell B2.out 1).trans rfl; clear hb) | ((with_reducible refine gate_store (t := 24) (p := 2) (v := .tmp 97) rfl ?_); go_must (refine sagg_event rfl 24 (.tmp 2) (.tmp 97) rfl rfl g2 #[.int .i64 t, .slice A acc.length c] _ _ rfl rfl B2.out (by kernel_rfl) rfl rfl ?_); intro w11 hbk hu; have n0_ := Aside0.mk (hu.below HB.out G2.out); have n1_ := Aside0.mk (Kd.R_mono (Kd.R_step (Kd.R_types HR.out B2.out (by decide)) (fun k_ hk_ _ => hu.block k_ hk_.2)) (fun _ hk_ => hk_.1)); clear HB HR; have HB := n0_; have HR := n1_; clear n0_ n1_; clear B2; have B2 := Aside0.mk hbk; have c90 := (blk_cell B2.out 0).trans rfl; have c91 := (blk_cell B2.out 1).trans rfl; clear hbk hu))
              refine bodyPost_ret (v := .tuple #[.agg #[.int .i64 t, .slice A acc.length c], .int .i64 0, .int .i64 0]) ?_ rfl ?_
              · simp [results, Try.results11, go_sem, c90, c91]
              · exact ⟨_, rfl, HR.out, HB.out⟩
            · rw [if_neg hpe] at hF
              have e6 : (p0.toList == a0.toList) = false := beq_eq_false_iff_ne.2 hpe
              have e7 : (p0.toList != a0.toList) = true := bne_iff_ne.2 hpe
              simp only [rdBad, Option.some.injEq, Prod.mk.injEq] at hF
              obtain ⟨rfl, rfl, rfl, rfl⟩ := hF
              clear hpe
              go_wp2_with (first | (go_at_call 19; go_must (with_reducible refine (ambryref15_Check.calls k t A c acc _ _ HCR.out HLC.out HCK.out).mono ?_); rintro e w8 ⟨rfl, hb⟩; have n0_ := Aside0.mk (below_then HB.out HB.out.size hb); have n1_ := Aside0.mk ((hb.block _ (blk_lt B2.out)).trans B2.out); have n2_ := Aside0.mk ((hb.block _ (blk_lt B6.out)).trans B6.out); have n3_ := Aside0.mk (Kd.R_below HR.out hb); have n4_ := Aside0.mk (Kd.C_below HCR.out hb); clear HB B2 B6 HR HCR; have HB := n0_; have B2 := n1_; have B6 := n2_; have HR := n3_; have HCR := n4_; clear n0_ n1_ n2_ n3_ n4_; have c60 := (blk_cell B6.out 0).trans rfl; have c61 := (blk_cell B6.out 1).trans rfl; have c20 := (blk_cell B2.out 0).trans rfl; have c21 := (blk_cell B2.out 1).trans rfl; clear hb) | (go_at_call 38; go_must (with_reducible refine (ambryref15_put.calls k t A c acc p0 _ HCR.out HLC.out HPT.out).mono ?_); rintro e w10 ⟨rfl, hb⟩; have n0_ := Aside0.mk (below_then HB.out HB.out.size hb); have n1_ := Aside0.mk ((hb.block _ (blk_lt B2.out)).trans B2.out); have n2_ := Aside0.mk ((hb.block _ (blk_lt B6.out)).trans B6.out); have n3_ := Aside0.mk (Kd.R_below HR.out hb); clear HB B2 B6 HR; have HB := n0_; have B2 := n1_; have B6 := n2_; have HR := n3_; clear n0_ n1_ n2_ n3_; have c60 := (blk_cell B6.out 0).trans rfl; have c61 := (blk_cell B6.out 1).trans rfl; have c20 := (blk_cell B2.out 0).trans rfl; have c21 := (blk_cell B2.out 1).trans rfl; clear hb) | ((with_reducible refine gate_store (t := 24) (p := 2) (v := .tmp 96) rfl ?_); go_must (refine sagg_event rfl 24 (.tmp 2) (.tmp 96) rfl rfl g2 #[.int .i64 0, .slice none 0 0] _ _ rfl rfl B2.out (by kernel_rfl) rfl rfl ?_); intro w11 hbk hu; have n0_ := Aside0.mk (hu.below HB.out G2.out); clear HB; have HB := n0_; clear n0_; clear B2; have B2 := Aside0.mk hbk; have c90 := (blk_cell B2.out 0).trans rfl; have c91 := (blk_cell B2.out 1).trans rfl; clear hbk hu))
              refine bodyPost_ret (v := .tuple #[.agg #[.int .i64 0, .slice none 0 0], .int .i64 0, .int .i64 4]) ?_ rfl ?_
              · simp [results, Try.results11, go_sem, c90, c91]
              · exact ⟨_, rfl, Kd.R_nil _ _ _ _ _, HB.out⟩
          · rw [if_neg he0] at hF
            have e6 : (e0 == 0) = false := beq_eq_false_iff_ne.2 he0
            have e7 : (e0 != 0) = true := bne_iff_ne.2 he0
            simp only [rdBad, Option.some.injEq, Prod.mk.injEq] at hF
            obtain ⟨rfl, rfl, rfl, rfl⟩ := hF
            go_wp2_with (first | (go_at_call 19; go_must (with_reducible refine (ambryref15_Check.calls k t A c acc _ _ HCR.out HLC.out HCK.out).mono ?_); rintro e w8 ⟨rfl, hb⟩; have n0_ := Aside0.mk (below_then HB.out HB.out.size hb); have n1_ := Aside0.mk ((hb.block _ (blk_lt B2.out)).trans B2.out); have n2_ := Aside0.mk ((hb.block _ (blk_lt B6.out)).trans B6.out); have n3_ := Aside0.mk (Kd.R_below HR.out hb); have n4_ := Aside0.mk (Kd.C_below HCR.out hb); clear HB B2 B6 HR HCR; have HB := n0_; have B2 := n1_; have B6 := n2_; have HR := n3_; have HCR := n4_; clear n0_ n1_ n2_ n3_ n4_; have c60 := (blk_cell B6.out 0).trans rfl; have c61 := (blk_cell B6.out 1).trans rfl; have c20 := (blk_cell B2.out 0).trans rfl; have c21 := (blk_cell B2.out 1).trans rfl; clear hb) | ((with_reducible refine gate_store (t := 24) (p := 2) (v := .tmp 96) rfl ?_); go_must (refine sagg_event rfl 24 (.tmp 2) (.tmp 96) rfl rfl g2 #[.int .i64 0, .slice none 0 0] _ _ rfl rfl B2.out (by kernel_rfl) rfl rfl ?_); intro w11 hbk hu; have n0_ := Aside0.mk (hu.below HB.out G2.out); clear HB; have HB := n0_; clear n0_; clear B2; have B2 := Aside0.mk hbk; have c90 := (blk_cell B2.out 0).trans rfl; have c91 := (blk_cell B2.out 1).trans rfl; clear hbk hu))
            refine bodyPost_ret (v := .tuple #[.agg #[.int .i64 0, .slice none 0 0], .int .i64 0, .int .i64 4]) ?_ rfl ?_
            · simp [results, Try.results11, go_sem, c90, c91]
            · exact ⟨_, rfl, Kd.R_nil _ _ _ _ _, HB.out⟩
    · have e1 : decide ((i : Int) < (nb : Int)) = false := decide_eq_false (by omega)
      have HF2 : Aside0 (refEnd k a0 t at_ acc = some (r1, r2, r3, r4)) := ⟨by have := HF.out; rw [show nb - i = 0 by omega, refLoop] at this; exact this⟩
      clear HF
      have hF := HF2.out
      unfold refEnd at hF
      by_cases hneg : at_ < 0
      · rw [if_pos hneg] at hF
        simp only [rdBad, Option.some.injEq, Prod.mk.injEq] at hF
        obtain ⟨rfl, rfl, rfl, rfl⟩ := hF
        have e5 : decide (at_ < 0) = true := decide_eq_true hneg
        clear HF2
        go_wp2_with (first | ((with_reducible refine gate_store (t := 24) (p := 2) (v := .tmp 96) rfl ?_); go_must (refine sagg_event rfl 24 (.tmp 2) (.tmp 96) rfl rfl g2 #[.int .i64 0, .slice none 0 0] _ _ rfl rfl B2.out (by kernel_rfl) rfl rfl ?_); intro w11 hbk hu; have n0_ := Aside0.mk (hu.below HB.out G2.out); clear HB; have HB := n0_; clear n0_; clear B2; have B2 := Aside0.mk hbk; have c90 := (blk_cell B2.out 0).trans rfl; have c91 := (blk_cell B2.out 1).trans rfl; clear hbk hu))
        refine bodyPost_ret (v := .tuple #[.agg #[.int .i64 0, .slice none 0 0], .int .i64 0, .int .i64 4]) ?_ rfl ?_
        · simp [results, Try.results11, go_sem, c90, c91]
        · exact ⟨_, rfl, Kd.R_nil _ _ _ _ _, HB.out⟩
      rw [if_neg hneg] at hF
      have e5 : decide (at_ < 0) = false := decide_eq_false hneg
      obtain ⟨e0, hck, hF⟩ := Option.bind_eq_some_iff.1 hF
      have HCK := Aside0.mk hck
      obtain ⟨A, c, rfl, hle, hC⟩ := Kd.R_reads HR.out
      have HCR := Aside0.mk hC
      have HLC := Aside0.mk hle
      clear hck hC hle HF2
      by_cases he0 : e0 = 0
      · rw [if_pos he0] at hF
        subst he0
        obtain ⟨p0, hpt, hF⟩ := Option.bind_eq_some_iff.1 hF
        have HPT := Aside0.mk hpt
        clear hpt
        by_cases hpe : p0.toList = a0.toList
        · rw [if_pos hpe] at hF
          have e6 : (p0.toList == a0.toList) = true := beq_iff_eq.2 hpe
          have e7 : (p0.toList != a0.toList) = false := by rw [← Bool.not_eq_true, bne_iff_ne]; exact fun h => h hpe
          simp only [Option.some.injEq, Prod.mk.injEq] at hF
          obtain ⟨rfl, rfl, rfl, rfl⟩ := hF
          clear hpe
          go_wp2_with (first | (go_at_call 19; go_must (with_reducible refine (ambryref15_Check.calls k t A c acc _ _ HCR.out HLC.out HCK.out).mono ?_); rintro e w8 ⟨rfl, hb⟩; have n0_ := Aside0.mk (below_then HB.out HB.out.size hb); have n1_ := Aside0.mk ((hb.block _ (blk_lt B2.out)).trans B2.out); have n2_ := Aside0.mk ((hb.block _ (blk_lt B6.out)).trans B6.out); have n3_ := Aside0.mk (Kd.R_below HR.out hb); have n4_ := Aside0.mk (Kd.C_below HCR.out hb); clear HB B2 B6 HR HCR; have HB := n0_; have B2 := n1_; have B6 := n2_; have HR := n3_; have HCR := n4_; clear n0_ n1_ n2_ n3_ n4_; have c60 := (blk_cell B6.out 0).trans rfl; have c61 := (blk_cell B6.out 1).trans rfl; have c20 := (blk_cell B2.out 0).trans rfl; have c21 := (blk_cell B2.out 1).trans rfl; clear hb) | (go_at_call 38; go_must (with_reducible refine (ambryref15_put.calls k t A c acc p0 _ HCR.out HLC.out HPT.out).mono ?_); rintro e w10 ⟨rfl, hb⟩; have n0_ := Aside0.mk (below_then HB.out HB.out.size hb); have n1_ := Aside0.mk ((hb.block _ (blk_lt B2.out)).trans B2.out); have n2_ := Aside0.mk ((hb.block _ (blk_lt B6.out)).trans B6.out); have n3_ := Aside0.mk (Kd.R_below HR.out hb); clear HB B2 B6 HR; have HB := n0_; have B2 := n1_; have B6 := n2_; have HR := n3_; clear n0_ n1_ n2_ n3_; have c60 := (blk_cell B6.out 0).trans rfl; have c61 := (blk_cell B6.out 1).trans rfl; have c20 := (blk_cell B2.out 0).trans rfl; have c21 := (blk_cell B2.out 1).trans rfl; clear hb) | ((with_reducible refine gate_store (t := 24) (p := 2) (v := .tmp 97) rfl ?_); go_must (refine sagg_event rfl 24 (.tmp 2) (.tmp 97) rfl rfl g2 #[.int .i64 t, .slice A acc.length c] _ _ rfl rfl B2.out (by kernel_rfl) rfl rfl ?_); intro w11 hbk hu; have n0_ := Aside0.mk (hu.below HB.out G2.out); have n1_ := Aside0.mk (Kd.R_mono (Kd.R_step (Kd.R_types HR.out B2.out (by decide)) (fun k_ hk_ _ => hu.block k_ hk_.2)) (fun _ hk_ => hk_.1)); clear HB HR; have HB := n0_; have HR := n1_; clear n0_ n1_; clear B2; have B2 := Aside0.mk hbk; have c90 := (blk_cell B2.out 0).trans rfl; have c91 := (blk_cell B2.out 1).trans rfl; clear hbk hu))
          refine bodyPost_ret (v := .tuple #[.agg #[.int .i64 t, .slice A acc.length c], .int .i64 0, .int .i64 0]) ?_ rfl ?_
          · simp [results, Try.results11, go_sem, c90, c91]
          · exact ⟨_, rfl, HR.out, HB.out⟩
        · rw [if_neg hpe] at hF
          have e6 : (p0.toList == a0.toList) = false := beq_eq_false_iff_ne.2 hpe
          have e7 : (p0.toList != a0.toList) = true := bne_iff_ne.2 hpe
          simp only [rdBad, Option.some.injEq, Prod.mk.injEq] at hF
          obtain ⟨rfl, rfl, rfl, rfl⟩ := hF
          clear hpe
          go_wp2_with (first | (go_at_call 19; go_must (with_reducible refine (ambryref15_Check.calls k t A c acc _ _ HCR.out HLC.out HCK.out).mono ?_); rintro e w8 ⟨rfl, hb⟩; have n0_ := Aside0.mk (below_then HB.out HB.out.size hb); have n1_ := Aside0.mk ((hb.block _ (blk_lt B2.out)).trans B2.out); have n2_ := Aside0.mk ((hb.block _ (blk_lt B6.out)).trans B6.out); have n3_ := Aside0.mk (Kd.R_below HR.out hb); have n4_ := Aside0.mk (Kd.C_below HCR.out hb); clear HB B2 B6 HR HCR; have HB := n0_; have B2 := n1_; have B6 := n2_; have HR := n3_; have HCR := n4_; clear n0_ n1_ n2_ n3_ n4_; have c60 := (blk_cell B6.out 0).trans rfl; have c61 := (blk_cell B6.out 1).trans rfl; have c20 := (blk_cell B2.out 0).trans rfl; have c21 := (blk_cell B2.out 1).trans rfl; clear hb) | (go_at_call 38; go_must (with_reducible refine (ambryref15_put.calls k t A c acc p0 _ HCR.out HLC.out HPT.out).mono ?_); rintro e w10 ⟨rfl, hb⟩; have n0_ := Aside0.mk (below_then HB.out HB.out.size hb); have n1_ := Aside0.mk ((hb.block _ (blk_lt B2.out)).trans B2.out); have n2_ := Aside0.mk ((hb.block _ (blk_lt B6.out)).trans B6.out); have n3_ := Aside0.mk (Kd.R_below HR.out hb); clear HB B2 B6 HR; have HB := n0_; have B2 := n1_; have B6 := n2_; have HR := n3_; clear n0_ n1_ n2_ n3_; have c60 := (blk_cell B6.out 0).trans rfl; have c61 := (blk_cell B6.out 1).trans rfl; have c20 := (blk_cell B2.out 0).trans rfl; have c21 := (blk_cell B2.out 1).trans rfl; clear hb) | ((with_reducible refine gate_store (t := 24) (p := 2) (v := .tmp 96) rfl ?_); go_must (refine sagg_event rfl 24 (.tmp 2) (.tmp 96) rfl rfl g2 #[.int .i64 0, .slice none 0 0] _ _ rfl rfl B2.out (by kernel_rfl) rfl rfl ?_); intro w11 hbk hu; have n0_ := Aside0.mk (hu.below HB.out G2.out); clear HB; have HB := n0_; clear n0_; clear B2; have B2 := Aside0.mk hbk; have c90 := (blk_cell B2.out 0).trans rfl; have c91 := (blk_cell B2.out 1).trans rfl; clear hbk hu))
          refine bodyPost_ret (v := .tuple #[.agg #[.int .i64 0, .slice none 0 0], .int .i64 0, .int .i64 4]) ?_ rfl ?_
          · simp [results, Try.results11, go_sem, c90, c91]
          · exact ⟨_, rfl, Kd.R_nil _ _ _ _ _, HB.out⟩
      · rw [if_neg he0] at hF
        have e6 : (e0 == 0) = false := beq_eq_false_iff_ne.2 he0
        have e7 : (e0 != 0) = true := bne_iff_ne.2 he0
        simp only [rdBad, Option.some.injEq, Prod.mk.injEq] at hF
        obtain ⟨rfl, rfl, rfl, rfl⟩ := hF
        go_wp2_with (first | (go_at_call 19; go_must (with_reducible refine (ambryref15_Check.calls k t A c acc _ _ HCR.out HLC.out HCK.out).mono ?_); rintro e w8 ⟨rfl, hb⟩; have n0_ := Aside0.mk (below_then HB.out HB.out.size hb); have n1_ := Aside0.mk ((hb.block _ (blk_lt B2.out)).trans B2.out); have n2_ := Aside0.mk ((hb.block _ (blk_lt B6.out)).trans B6.out); have n3_ := Aside0.mk (Kd.R_below HR.out hb); have n4_ := Aside0.mk (Kd.C_below HCR.out hb); clear HB B2 B6 HR HCR; have HB := n0_; have B2 := n1_; have B6 := n2_; have HR := n3_; have HCR := n4_; clear n0_ n1_ n2_ n3_ n4_; have c60 := (blk_cell B6.out 0).trans rfl; have c61 := (blk_cell B6.out 1).trans rfl; have c20 := (blk_cell B2.out 0).trans rfl; have c21 := (blk_cell B2.out 1).trans rfl; clear hb) | ((with_reducible refine gate_store (t := 24) (p := 2) (v := .tmp 96) rfl ?_); go_must (refine sagg_event rfl 24 (.tmp 2) (.tmp 96) rfl rfl g2 #[.int .i64 0, .slice none 0 0] _ _ rfl rfl B2.out (by kernel_rfl) rfl rfl ?_); intro w11 hbk hu; have n0_ := Aside0.mk (hu.below HB.out G2.out); clear HB; have HB := n0_; clear n0_; clear B2; have B2 := Aside0.mk hbk; have c90 := (blk_cell B2.out 0).trans rfl; have c91 := (blk_cell B2.out 1).trans rfl; clear hbk hu))
        refine bodyPost_ret (v := .tuple #[.agg #[.int .i64 0, .slice none 0 0], .int .i64 0, .int .i64 4]) ?_ rfl ?_
        · simp [results, Try.results11, go_sem, c90, c91]
        · exact ⟨_, rfl, Kd.R_nil _ _ _ _ _, HB.out⟩
end Go.Proofs.Ytehcmedeeaoebaa.PB
