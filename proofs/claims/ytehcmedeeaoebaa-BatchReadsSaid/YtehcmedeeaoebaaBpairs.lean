import Derived.Test.YtehcmedeeaoebaaBsort
import Derived.Test.YtehcmedeeaoebaaBmay
import Derived.Test.YtehcmedeeaoebaaBpair
import Derived.Test.YtehcmedeeaoebaaBev
import Derived.WalkSpells
import Derived.WalkLawsBesides
import Derived.Test.YtehcmedeeaoebaaBheld
namespace Go.Proofs.Ytehcmedeeaoebaa.PB
open Go.RowKit Go.Proofs.YtehcmedeeaoebaaW.PrintWords Go.Proofs.YtehcmedeeaoebaaW.PrintLast Go.Proofs.YtehcmedeeaoebaaW.PrintMore
set_option linter.unusedVariables false
set_option linter.unusedSimpArgs false
def vsOk (vs : List S80) : Bool := vs.all fun v => decide (v.f1.size ≤ 9223372036854775806 ∧ 0 ≤ v.f0 ∧ v.f0 ≤ 1152921504606846976)
def pairsRow (key : ByteArray) (vs : List S80) : List S69 := vs.map fun v => ⟨pairKey key v.f0, pairVal v⟩
def itemAt (l : List S67) (i : Nat) : S67 := l.getD i z67
def pairsL (k : Nat) (l : List S67) : Nat → Nat → List S69 → Option (List S69 × Int)
  | 0, _, acc => some (sortP acc, 0)
  | n + 1, i, acc => (batch_may.f k (itemAt l i).f0 (itemAt l i).f1).bind fun b =>
      if b = true then if 0 < i ∧ ltS (itemAt l (i - 1)).f0 (itemAt l i).f0 = false then some ([], 2)
        else if (itemAt l i).f0.size ≤ 120 ∧ vsOk (itemAt l i).f1 = true ∧ acc.length + (itemAt l i).f1.length ≤ 4398046511103 then pairsL k l n (i + 1) (acc ++ pairsRow (itemAt l i).f0 (itemAt l i).f1) else none
      else some ([], 2)
def batch_Pairs.f (k : Nat) (l0 : List S67) : Option (List S69 × Int) := pairsL k l0 l0.length 0 []
theorem pairsL_mono (k : Nat) (l : List S67) : ∀ n i acc, LeO (pairsL k l n i acc) (pairsL (k + 1) l n i acc)
  | 0, _, _ => LeO.refl _
  | n + 1, i, acc => by
    rw [pairsL, pairsL]
    exact LeO.bind (batch_may.mono _ _ _) fun _ => LeO.ite (LeO.ite (LeO.refl _) (LeO.ite (pairsL_mono k l n _ _) (LeO.refl _))) (LeO.refl _)
theorem batch_Pairs.mono : ∀ a0 k, LeO (batch_Pairs.f k a0) (batch_Pairs.f (k + 1) a0) := fun a0 k => pairsL_mono k a0 _ _ _
theorem rdT67_get (l : List S67) (i : Nat) : rd_T67 l (i : Int) = itemAt l i := by simp [rd_T67, itemAt]
theorem pairsRow_take (key : ByteArray) (vs : List S80) (j : Nat) (h : j < vs.length) : pairsRow key (vs.take (j + 1)) = pairsRow key (vs.take j) ++ [⟨pairKey key vs[j].f0, pairVal vs[j]⟩] := by
  unfold pairsRow; rw [List.take_succ_eq_append_getElem h, List.map_append]; rfl
set_option maxHeartbeats 8000000 in
set_option maxRecDepth 100000 in
theorem batch_Pairs.calls (k : Nat) (A0 : Option Addr) (c0 : Nat) (l0 : List (S67)) (r1 : List (S69)) (r2 : Int) (w : World) (hr0 : Kd.C k67 w A0 l0.length l0) (hc0 : l0.length ≤ c0) (h : batch_Pairs.f k l0 = some (r1, r2)) :
    Calls Try.prog 28 #[.slice A0 l0.length c0] w fun e w' => ∃ v0_ : Value, e = .returned (.tuple #[v0_, .int .i64 r2]) ∧ Kd.R k69 69 w' w.heap.size (fun _ => True) v0_ r1 ∧ Below w.heap.size w w' := by
  have hl := hr0.2.1
  have HC := Aside0.mk hr0
  have HF := Aside0.mk (show pairsL k l0 (l0.length - 0) 0 [] = some (r1, r2) from h)
  clear hr0 h
  go_enter Try.func28, Try.ntmps28
  go_wp2
  go_loopg [4, 11] l0.length (fun gg s4 s11 wr => ∃ (i : Nat) (acc : List S69), i ≤ l0.length ∧ acc.length ≤ 4398046511103 ∧ l0.length - i ≤ gg ∧ s11 = .int .i64 i ∧ Aside0 (Below w.heap.size w wr) ∧ Aside0 (Kd.R k69 69 wr w.heap.size (fun _ => True) s4 acc) ∧ Aside0 (pairsL k l0 (l0.length - i) i acc = some (r1, r2)))
  case atStart => exact ⟨0, [], Nat.zero_le _, by simp, by omega, rfl, ⟨Below.refl _ _⟩, ⟨Kd.R_nil _ _ _ _ _⟩, HF⟩
  case round =>
    obtain ⟨i, acc, hi, hal, hgi, rfl, HB, HR, HF⟩ := hrel
    have HAL := Aside0.mk hal
    clear hal
    by_cases hil : i < l0.length
    · have hiz : (i : Int) < (l0.length : Int) := by omega
      obtain ⟨n, hn⟩ : ∃ n, l0.length - i = n + 1 := ⟨l0.length - i - 1, by omega⟩
      obtain ⟨ad, A1, c1, e, h0, h1, h2, h3⟩ := at_T67 HC.out (i : Int) (by omega) hiz
      cases e
      rw [rdT67_get] at h0 h1 h2 h3
      simp only [Int.toNat_natCast] at h0 h1 h2 h3
      have HF0 := HF.out
      rw [hn, pairsL] at HF0
      obtain ⟨b, hmy, HF0⟩ := Option.bind_eq_some_iff.1 HF0
      obtain ⟨key, hkey⟩ : ∃ q, (itemAt l0 i).f0 = q := ⟨_, rfl⟩
      obtain ⟨vs, hvs⟩ : ∃ q, (itemAt l0 i).f1 = q := ⟨_, rfl⟩
      rw [hkey, hvs] at hmy HF0
      rw [hkey] at h0
      rw [hvs] at h1 h2 h3
      replace h0 := (HB.out.cell (World.block_lt_of_cell? w _ h0)).trans h0
      replace h1 := (HB.out.cell (World.block_lt_of_cell? w _ h1)).trans h1
      have HMY := Aside0.mk hmy
      have HLV := Aside0.mk h2
      have HCV : Aside0 (∀ W, Below w.heap.size w W → Kd.C k80 W A1 vs.length vs) := ⟨fun W hb => Kd.C_below h3 hb⟩
      clear hmy h2 h3 hkey hvs HF
      cases b with
      | false =>
        rw [if_neg (by simp)] at HF0
        simp only [Option.some.injEq, Prod.mk.injEq] at HF0
        obtain ⟨rfl, rfl⟩ := HF0
        go_wp2_with (first | ((with_reducible refine gate_dst (N := 6) rfl ?_); refine box_event ?hg (N := 6) ?hd (cs := #[.string ⟨#[]⟩, .slice none 0 0]) (t := 67) ?hr ?_; (case hd => rfl); (case hg => rfl); (case hr => first | (go_simp; done) | (go_simp; rfl)); intro g6 hg w1 hbox hb; have G6 := Aside0.mk (show w.heap.size ≤ g6 from (by rw [hg]; exact HB.out.size)); have B6 := Aside0.mk hbox; clear hbox hg; have n0_ := Aside0.mk (below_then HB.out HB.out.size hb); have n1_ := Aside0.mk (Kd.R_below HR.out hb); clear HB HR; have HB := n0_; have HR := n1_; clear n0_ n1_; clear hb) | ((with_reducible refine gate_store (t := 67) (p := 6) (v := .tmp 15) rfl ?_); go_must (refine sagg_event rfl 67 (.tmp 6) (.tmp 15) rfl rfl g6 #[.string key, .slice A1 vs.length c1] _ _ rfl rfl B6.out (by kernel_rfl) rfl rfl ?_); intro w2 hbk hu; have nR_ := Aside0.mk (Kd.R_mono (Kd.R_step (Kd.R_types HR.out B6.out (by decide)) (fun k_ hk_ _ => hu.block k_ hk_.2)) (fun _ hk_ => hk_.1)); clear HR; have HR := nR_; clear nR_; have n0_ := Aside0.mk (hu.below HB.out G6.out); clear HB; have HB := n0_; clear n0_; clear B6; have B6 := Aside0.mk hbk; have c60 := (blk_cell B6.out 0).trans rfl; have c61 := (blk_cell B6.out 1).trans rfl; clear hbk hu))
        have hB1 := HB.out
        have hR1 := HR.out
        have qk : ∀ p : Held (fun w' => w'.cell? ⟨g6, 0, none⟩ = some (.string key) ∧ w'.cell? ⟨g6, 1, none⟩ = some (.slice A1 vs.length c1) ∧ w'.heap[g6]? = some (.cells #[.string key, .slice A1 vs.length c1] 67 (0, 0)) ∧ Kd.R k69 69 w' w.heap.size (fun _ => True) u4 acc ∧ Below w.heap.size w w'), p.w.cell? ⟨g6, 0, none⟩ = some (.string key) := fun p => p.h.1
        have qv : ∀ p : Held (fun w' => w'.cell? ⟨g6, 0, none⟩ = some (.string key) ∧ w'.cell? ⟨g6, 1, none⟩ = some (.slice A1 vs.length c1) ∧ w'.heap[g6]? = some (.cells #[.string key, .slice A1 vs.length c1] 67 (0, 0)) ∧ Kd.R k69 69 w' w.heap.size (fun _ => True) u4 acc ∧ Below w.heap.size w w'), p.w.cell? ⟨g6, 1, none⟩ = some (.slice A1 vs.length c1) := fun p => p.h.2.1
        have HSK := Aside0.mk (fun (p : Held (fun w' => w'.cell? ⟨g6, 0, none⟩ = some (.string key) ∧ w'.cell? ⟨g6, 1, none⟩ = some (.slice A1 vs.length c1) ∧ w'.heap[g6]? = some (.cells #[.string key, .slice A1 vs.length c1] 67 (0, 0)) ∧ Kd.R k69 69 w' w.heap.size (fun _ => True) u4 acc ∧ Below w.heap.size w w')) (w' : World) (hb : Below p.w.heap.size p.w w') => show (fun w' => w'.cell? ⟨g6, 0, none⟩ = some (.string key) ∧ w'.cell? ⟨g6, 1, none⟩ = some (.slice A1 vs.length c1) ∧ w'.heap[g6]? = some (.cells #[.string key, .slice A1 vs.length c1] 67 (0, 0)) ∧ Kd.R k69 69 w' w.heap.size (fun _ => True) u4 acc ∧ Below w.heap.size w w') w' from ⟨pw_cell_below hb p.h.1, pw_cell_below hb p.h.2.1, (hb.block _ (blk_lt (p.h.2.2.1))).trans (p.h.2.2.1), Kd.R_below (p.h.2.2.2.1) hb, below_then (p.h.2.2.2.2) (Below.size (p.h.2.2.2.2)) hb⟩)
        have HCL := Aside0.mk (fun (p : Held (fun w' => w'.cell? ⟨g6, 0, none⟩ = some (.string key) ∧ w'.cell? ⟨g6, 1, none⟩ = some (.slice A1 vs.length c1) ∧ w'.heap[g6]? = some (.cells #[.string key, .slice A1 vs.length c1] 67 (0, 0)) ∧ Kd.R k69 69 w' w.heap.size (fun _ => True) u4 acc ∧ Below w.heap.size w w')) => Held.call (batch_may.calls k key A1 c1 vs false p.w (HCV.out _ (p.h.2.2.2.2)) HLV.out HMY.out) (HSK.out p))
        refine wp_region_quiet_held (fun w' => w'.cell? ⟨g6, 0, none⟩ = some (.string key) ∧ w'.cell? ⟨g6, 1, none⟩ = some (.slice A1 vs.length c1) ∧ w'.heap[g6]? = some (.cells #[.string key, .slice A1 vs.length c1] 67 (0, 0)) ∧ Kd.R k69 69 w' w.heap.size (fun _ => True) u4 acc ∧ Below w.heap.size w w') (by kernel_rfl) (by kernel_rfl) ⟨c60, c61, B6.out, Kd.R_drew hR1, below_drew hB1⟩ ?_
        clear hB1 hR1
        repeat ((with_reducible refine wpQuiet_step (fun K hK => ?_)); go_simp; (try rw [if_neg (fun h => by cases h)]); first | (with_reducible refine hK _ ?_; clear hK K) | (apply Exists.intro; with_reducible refine And.intro (fun _ => ?_) ?_; (first | with_reducible rfl | exact HCL.out _); with_reducible refine hK _ ?_; clear hK K))
        refine wpQuiet_nil ?_
        intro _ hw'
        obtain ⟨p, hw''⟩ := hw'
        subst hw''
        have hH := p.h
        clear HSK HCL qk qv
        revert hH
        generalize p.w = w'
        intro hH
        have B6' := Aside0.mk hH.2.2.1
        have HR' := Aside0.mk hH.2.2.2.1
        have HB' := Aside0.mk hH.2.2.2.2
        have c60' := hH.1
        have c61' := hH.2.1
        clear hH HB HR B6 c60 c61
        go_wp2
        go_ret2
        exact ⟨_, rfl, Kd.R_nil _ _ _ _ _, HB'.out⟩
      | true =>
        rw [if_pos rfl] at HF0
        by_cases hi0 : ¬ 0 < i
        · rw [if_neg (fun h => hi0 h.1)] at HF0
          have p2 : ¬ (0 : Int) < (i : Int) := by omega
          have p3 : decide ((0 : Int) < (i : Int)) = false := decide_eq_false p2
          by_cases hk3 : key.size ≤ 120 ∧ vsOk vs = true ∧ acc.length + vs.length ≤ 4398046511103
          case neg => rw [if_neg hk3] at HF0; cases HF0
          rw [if_pos hk3] at HF0
          obtain ⟨hky, hvs, hln⟩ := hk3
          have HKY := Aside0.mk hky
          have HVS := Aside0.mk hvs
          have HLN0 := Aside0.mk hln
          have HF1 := Aside0.mk HF0
          clear hky hvs hln HF0
          go_wp2_with (first | ((with_reducible refine gate_dst (N := 6) rfl ?_); refine box_event ?hg (N := 6) ?hd (cs := #[.string ⟨#[]⟩, .slice none 0 0]) (t := 67) ?hr ?_; (case hd => rfl); (case hg => rfl); (case hr => first | (go_simp; done) | (go_simp; rfl)); intro g6 hg w1 hbox hb; have G6 := Aside0.mk (show w.heap.size ≤ g6 from (by rw [hg]; exact HB.out.size)); have B6 := Aside0.mk hbox; clear hbox hg; have n0_ := Aside0.mk (below_then HB.out HB.out.size hb); have n1_ := Aside0.mk (Kd.R_below HR.out hb); clear HB HR; have HB := n0_; have HR := n1_; clear n0_ n1_; clear hb) | ((with_reducible refine gate_store (t := 67) (p := 6) (v := .tmp 15) rfl ?_); go_must (refine sagg_event rfl 67 (.tmp 6) (.tmp 15) rfl rfl g6 #[.string key, .slice A1 vs.length c1] _ _ rfl rfl B6.out (by kernel_rfl) rfl rfl ?_); intro w2 hbk hu; have nR_ := Aside0.mk (Kd.R_mono (Kd.R_step (Kd.R_types HR.out B6.out (by decide)) (fun k_ hk_ _ => hu.block k_ hk_.2)) (fun _ hk_ => hk_.1)); clear HR; have HR := nR_; clear nR_; have n0_ := Aside0.mk (hu.below HB.out G6.out); clear HB; have HB := n0_; clear n0_; clear B6; have B6 := Aside0.mk hbk; have c60 := (blk_cell B6.out 0).trans rfl; have c61 := (blk_cell B6.out 1).trans rfl; clear hbk hu))
          have hB1 := HB.out
          have hR1 := HR.out
          have qk : ∀ p : Held (fun w' => w'.cell? ⟨g6, 0, none⟩ = some (.string key) ∧ w'.cell? ⟨g6, 1, none⟩ = some (.slice A1 vs.length c1) ∧ w'.heap[g6]? = some (.cells #[.string key, .slice A1 vs.length c1] 67 (0, 0)) ∧ Kd.R k69 69 w' w.heap.size (fun _ => True) u4 acc ∧ Below w.heap.size w w'), p.w.cell? ⟨g6, 0, none⟩ = some (.string key) := fun p => p.h.1
          have qv : ∀ p : Held (fun w' => w'.cell? ⟨g6, 0, none⟩ = some (.string key) ∧ w'.cell? ⟨g6, 1, none⟩ = some (.slice A1 vs.length c1) ∧ w'.heap[g6]? = some (.cells #[.string key, .slice A1 vs.length c1] 67 (0, 0)) ∧ Kd.R k69 69 w' w.heap.size (fun _ => True) u4 acc ∧ Below w.heap.size w w'), p.w.cell? ⟨g6, 1, none⟩ = some (.slice A1 vs.length c1) := fun p => p.h.2.1
          have HSK := Aside0.mk (fun (p : Held (fun w' => w'.cell? ⟨g6, 0, none⟩ = some (.string key) ∧ w'.cell? ⟨g6, 1, none⟩ = some (.slice A1 vs.length c1) ∧ w'.heap[g6]? = some (.cells #[.string key, .slice A1 vs.length c1] 67 (0, 0)) ∧ Kd.R k69 69 w' w.heap.size (fun _ => True) u4 acc ∧ Below w.heap.size w w')) (w' : World) (hb : Below p.w.heap.size p.w w') => show (fun w' => w'.cell? ⟨g6, 0, none⟩ = some (.string key) ∧ w'.cell? ⟨g6, 1, none⟩ = some (.slice A1 vs.length c1) ∧ w'.heap[g6]? = some (.cells #[.string key, .slice A1 vs.length c1] 67 (0, 0)) ∧ Kd.R k69 69 w' w.heap.size (fun _ => True) u4 acc ∧ Below w.heap.size w w') w' from ⟨pw_cell_below hb p.h.1, pw_cell_below hb p.h.2.1, (hb.block _ (blk_lt (p.h.2.2.1))).trans (p.h.2.2.1), Kd.R_below (p.h.2.2.2.1) hb, below_then (p.h.2.2.2.2) (Below.size (p.h.2.2.2.2)) hb⟩)
          have HCL := Aside0.mk (fun (p : Held (fun w' => w'.cell? ⟨g6, 0, none⟩ = some (.string key) ∧ w'.cell? ⟨g6, 1, none⟩ = some (.slice A1 vs.length c1) ∧ w'.heap[g6]? = some (.cells #[.string key, .slice A1 vs.length c1] 67 (0, 0)) ∧ Kd.R k69 69 w' w.heap.size (fun _ => True) u4 acc ∧ Below w.heap.size w w')) => Held.call (batch_may.calls k key A1 c1 vs true p.w (HCV.out _ (p.h.2.2.2.2)) HLV.out HMY.out) (HSK.out p))
          refine wp_region_quiet_held (fun w' => w'.cell? ⟨g6, 0, none⟩ = some (.string key) ∧ w'.cell? ⟨g6, 1, none⟩ = some (.slice A1 vs.length c1) ∧ w'.heap[g6]? = some (.cells #[.string key, .slice A1 vs.length c1] 67 (0, 0)) ∧ Kd.R k69 69 w' w.heap.size (fun _ => True) u4 acc ∧ Below w.heap.size w w') (by kernel_rfl) (by kernel_rfl) ⟨c60, c61, B6.out, Kd.R_drew hR1, below_drew hB1⟩ ?_
          clear hB1 hR1
          repeat ((with_reducible refine wpQuiet_step (fun K hK => ?_)); go_simp; (try rw [if_neg (fun h => by cases h)]); first | (with_reducible refine hK _ ?_; clear hK K) | (apply Exists.intro; with_reducible refine And.intro (fun _ => ?_) ?_; (first | with_reducible rfl | exact HCL.out _); with_reducible refine hK _ ?_; clear hK K))
          refine wpQuiet_nil ?_
          intro _ hw'
          obtain ⟨p, hw''⟩ := hw'
          subst hw''
          have hH := p.h
          clear HSK HCL qk qv
          revert hH
          generalize p.w = w'
          intro hH
          have B6' := Aside0.mk hH.2.2.1
          have HR' := Aside0.mk hH.2.2.2.1
          have HB' := Aside0.mk hH.2.2.2.2
          have c60' := hH.1
          have c61' := hH.2.1
          clear hH HB HR B6 c60 c61
          have hvl : (vs.length : Int) ≤ 9223372036854775807 := by have := (HCV.out _ HB'.out).2.1; omega
          have HVL := Aside0.mk hvl
          clear hvl
          go_wp2
          go_loopg [4, 37] vs.length (fun gg s4 s37 wr => ∃ j : Nat, j ≤ vs.length ∧ vs.length - j ≤ gg ∧ s37 = .int .i64 j ∧ Aside0 (Below w.heap.size w wr) ∧ Aside0 (wr.heap[g6]? = some (.cells #[.string key, .slice A1 vs.length c1] 67 (0, 0))) ∧ Aside0 (Kd.R k69 69 wr w.heap.size (fun _ => True) s4 (acc ++ pairsRow key (vs.take j))))
          case atStart => exact ⟨0, Nat.zero_le _, by omega, rfl, HB', B6', ⟨by rw [List.take_zero]; simpa [pairsRow] using HR'.out⟩⟩
          case round =>
            obtain ⟨j, hj, hgj, rfl, HB, B6, HR⟩ := hrel
            have hvz := HVL.out
            by_cases hjl : j < vs.length
            · have hjz : (j : Int) < (vs.length : Int) := by omega
              obtain ⟨ad5, e5, h0, h1, h2⟩ := at_T80 (HCV.out _ HB.out) (j : Int) (by omega) hjz
              rw [rdT80_get vs j hjl] at h0 h1 h2
              simp only [Int.toNat_natCast] at h0 h1 h2
              have hok := List.all_eq_true.1 HVS.out vs[j] (List.getElem_mem hjl)
              rw [decide_eq_true_iff] at hok
              have hst := pairsRow_take key vs j hjl
              obtain ⟨x0, x1, x2, hx⟩ : ∃ x0 x1 x2, vs[j] = ⟨x0, x1, x2⟩ := ⟨_, _, _, rfl⟩
              rw [hx] at h0 h1 h2 hok hst
              simp only at h0 h1 h2 hok hst
              obtain ⟨pk0, hpk⟩ : ∃ q, pairKey key x0 = q := ⟨_, rfl⟩
              obtain ⟨pv0, hpv⟩ : ∃ q, pairVal ⟨x0, x1, x2⟩ = q := ⟨_, rfl⟩
              rw [hpk, hpv] at hst
              have HPK := Aside0.mk (show pairKey key (⟨x0, x1, x2⟩ : S80).f0 = pk0 from hpk)
              have HPV := Aside0.mk hpv
              have HX1 := Aside0.mk (show (⟨x0, x1, x2⟩ : S80).f1.size ≤ 9223372036854775806 from hok.1)
              have HX0 := Aside0.mk (show 0 ≤ (⟨x0, x1, x2⟩ : S80).f0 from hok.2.1)
              have HX2 := Aside0.mk (show (⟨x0, x1, x2⟩ : S80).f0 ≤ 1152921504606846976 from hok.2.2)
              obtain ⟨acc5, ha5⟩ : ∃ q, acc ++ pairsRow key (vs.take j) = q := ⟨_, rfl⟩
              have hal : acc5.length = acc.length + j := by rw [← ha5]; simp [pairsRow]; omega
              have hl32 : (acc5.length + 1) * 32 ≤ 140737488355328 := by have := HLN0.out; omega
              have HLN := Aside0.mk hl32
              have HST := Aside0.mk (show acc ++ pairsRow key (vs.take (j + 1)) = acc5 ++ [⟨pk0, pv0⟩] by rw [hst, ← List.append_assoc, ha5])
              rw [ha5] at HR
              obtain ⟨v5, hv5⟩ : ∃ q, q = u4 := ⟨_, rfl⟩
              rw [← hv5] at HR ⊢
              clear hok hst hpk hpv hx ha5 hal hl32 hv5
              cases e5
              go_wp2_with (first | ((with_reducible refine gate_dst (N := 8) rfl ?_); refine box_event ?hg (N := 8) ?hd (cs := #[.int .i64 0, .string ⟨#[]⟩, .bool false]) (t := 80) ?hr ?_; (case hd => rfl); (case hg => rfl); (case hr => first | (go_simp; done) | (go_simp; rfl)); intro g8 hg w4 hbox hb; have G8 := Aside0.mk (show w.heap.size ≤ g8 from (by rw [hg]; exact HB.out.size)); have H68 := Aside0.mk (show g6 ≠ g8 from fun e => absurd (blk_lt B6.out) (by omega)); have B8 := Aside0.mk hbox; clear hbox hg; have n0_ := Aside0.mk (below_then HB.out HB.out.size hb); have n1_ := Aside0.mk ((hb.block _ (blk_lt B6.out)).trans B6.out); have n2_ := Aside0.mk (Kd.R_below HR.out hb); clear HB B6 HR; have HB := n0_; have B6 := n1_; have HR := n2_; clear n0_ n1_ n2_; clear hb) | ((with_reducible refine gate_store (t := 80) (p := 8) (v := .tmp 40) rfl ?_); go_must (refine sagg_event rfl 80 (.tmp 8) (.tmp 40) rfl rfl g8 #[.int .i64 x0, .string x1, .bool x2] _ _ rfl rfl B8.out (by kernel_rfl) rfl rfl ?_); intro w5 hbk hu; have nR_ := Aside0.mk (Kd.R_mono (Kd.R_step (Kd.R_types HR.out B8.out (by decide)) (fun k_ hk_ _ => hu.block k_ hk_.2)) (fun _ hk_ => hk_.1)); clear HR; have HR := nR_; clear nR_; have n0_ := Aside0.mk (hu.below HB.out G8.out); have n1_ := Aside0.mk (hu.blk B6.out H68.out); clear HB B6; have HB := n0_; have B6 := n1_; clear n0_ n1_; clear B8; have B8 := Aside0.mk hbk; have c60 := (blk_cell B6.out 0).trans rfl; have c80 := (blk_cell B8.out 0).trans rfl; have c81 := (blk_cell B8.out 1).trans rfl; have c82 := (blk_cell B8.out 2).trans rfl; clear hbk hu) | (go_at_call 54; go_must (refine (pair.calls key ⟨x0, x1, x2⟩ _ HKY.out HX1.out HX0.out HX2.out).mono ?_); rintro e w6 ⟨rfl, hb⟩; have n0_ := Aside0.mk (below_then HB.out HB.out.size hb); have n1_ := Aside0.mk ((hb.block _ (blk_lt B6.out)).trans B6.out); have n2_ := Aside0.mk (Kd.R_below HR.out hb); clear HB B6 HR; have HB := n0_; have B6 := n1_; have HR := n2_; clear n0_ n1_ n2_; rw [HPK.out, HPV.out]; clear hb) | ((with_reducible refine gate_builtin (b := .append) (xs := #[.tmp 41, .tmp 46]) rfl ?_); at_builtin; go_must (refine Kd.R_append k69 (w0 := w) w.heap.size rfl (.tmp 41) (.tmp 46) 43 69 (.agg #[(.string ⟨#[]⟩), (.string ⟨#[]⟩)]) 32 rfl Try.underlying43 info69 rfl (by decide) (by decide) v5 acc5 (⟨pk0, pv0⟩ : S69) [.string pk0, .string pv0] (fun _ => True) (fun _ => False) rfl rfl (k69_mkM _ _ _ (⟨pk0, pv0⟩ : S69)) (fun _ hk => hk.elim) (fun _ _ => trivial) HR.out HB.out HB.out.size HLN.out ?_); intro v1 w7 ho hb hg hat; have n1_ := Aside0.mk (blk_grown B6.out hg (Kd.R_ne HR.out B6.out (by decide))); clear HB B6 HR; have HB := Aside0.mk hb; have B6 := n1_; clear n1_; have HR := Aside0.mk ho; clear ho hb hg hat))
              go_roundg (vs.length - (j + 1))
              case measure => omega
              case rel => exact ⟨j + 1, by omega, by omega, by go_num, HB, B6, ⟨by rw [HST.out]; exact HR.out⟩⟩
            · have hjz : ¬ (j : Int) < (vs.length : Int) := by omega
              have HR2 : Aside0 (Kd.R k69 69 wr w.heap.size (fun _ => True) u4 (acc ++ pairsRow key vs)) := ⟨by have := HR.out; rwa [List.take_of_length_le (by omega)] at this⟩
              clear HR
              go_wp2
              go_roundg (l0.length - (i + 1))
              case measure => omega
              case rel => exact ⟨i + 1, acc ++ pairsRow key vs, by omega, by have := HLN0.out; simp [pairsRow]; omega, by omega, by go_num, HB, HR2, ⟨by have := HF1.out; rwa [show l0.length - (i + 1) = n by omega]⟩⟩
        · obtain ⟨m, rfl⟩ : ∃ m, i = m + 1 := ⟨i - 1, by omega⟩
          obtain ⟨ad', A1', c1', e', g0, g1, g2, g3⟩ := at_T67 HC.out (m : Int) (by omega) (by omega)
          cases e'
          rw [rdT67_get] at g0
          simp only [Int.toNat_natCast] at g0
          obtain ⟨pk, hpk⟩ : ∃ q, (itemAt l0 m).f0 = q := ⟨_, rfl⟩
          rw [hpk] at g0
          have PW := Aside0.mk g0
          clear g0 g1 g2 g3
          have p0 : (0 : Int) ≤ (m : Int) := by omega
          have p1 : (m : Int) < (l0.length : Int) := by omega
          simp only [Int.natCast_add, Int.cast_ofNat_Int] at hiz ⊢
          have p2 : (0 : Int) < (m : Int) + 1 := by omega
          have p4 : IntKind.i64.wrap (m : Int) = (m : Int) := by simp [IntKind.wrap, IntKind.bits, IntKind.signed]; omega
          have p3 : decide ((0 : Int) < (m : Int) + 1) = true := decide_eq_true p2
          by_cases hq : ltS pk key = true
          · have hq' : Op.bytesLess pk.toList key.toList = true := hq
            rw [if_neg (by rw [show m + 1 - 1 = m from rfl, hpk, hq]; simp)] at HF0
            clear hq hpk
            by_cases hk3 : key.size ≤ 120 ∧ vsOk vs = true ∧ acc.length + vs.length ≤ 4398046511103
            case neg => rw [if_neg hk3] at HF0; cases HF0
            rw [if_pos hk3] at HF0
            obtain ⟨hky, hvs, hln⟩ := hk3
            have HKY := Aside0.mk hky
            have HVS := Aside0.mk hvs
            have HLN0 := Aside0.mk hln
            have HF1 := Aside0.mk HF0
            clear hky hvs hln HF0
            go_wp2_with (first | ((with_reducible refine gate_dst (N := 6) rfl ?_); refine box_event ?hg (N := 6) ?hd (cs := #[.string ⟨#[]⟩, .slice none 0 0]) (t := 67) ?hr ?_; (case hd => rfl); (case hg => rfl); (case hr => first | (go_simp; done) | (go_simp; rfl)); intro g6 hg w1 hbox hb; have G6 := Aside0.mk (show w.heap.size ≤ g6 from (by rw [hg]; exact HB.out.size)); have B6 := Aside0.mk hbox; clear hbox hg; have n0_ := Aside0.mk (below_then HB.out HB.out.size hb); have n1_ := Aside0.mk (Kd.R_below HR.out hb); clear HB HR; have HB := n0_; have HR := n1_; clear n0_ n1_; clear hb) | ((with_reducible refine gate_store (t := 67) (p := 6) (v := .tmp 15) rfl ?_); go_must (refine sagg_event rfl 67 (.tmp 6) (.tmp 15) rfl rfl g6 #[.string key, .slice A1 vs.length c1] _ _ rfl rfl B6.out (by kernel_rfl) rfl rfl ?_); intro w2 hbk hu; have nR_ := Aside0.mk (Kd.R_mono (Kd.R_step (Kd.R_types HR.out B6.out (by decide)) (fun k_ hk_ _ => hu.block k_ hk_.2)) (fun _ hk_ => hk_.1)); clear HR; have HR := nR_; clear nR_; have n0_ := Aside0.mk (hu.below HB.out G6.out); clear HB; have HB := n0_; clear n0_; clear B6; have B6 := Aside0.mk hbk; have c60 := (blk_cell B6.out 0).trans rfl; have c61 := (blk_cell B6.out 1).trans rfl; have p0c := (HB.out.cell (World.block_lt_of_cell? w _ PW.out)).trans PW.out; clear hbk hu))
            have hB1 := HB.out
            have hR1 := HR.out
            have qp : ∀ p : Held (fun w' => w'.cell? (ad.add (m * 2)) = some (.string pk) ∧ w'.cell? ⟨g6, 0, none⟩ = some (.string key) ∧ w'.cell? ⟨g6, 1, none⟩ = some (.slice A1 vs.length c1) ∧ w'.heap[g6]? = some (.cells #[.string key, .slice A1 vs.length c1] 67 (0, 0)) ∧ Kd.R k69 69 w' w.heap.size (fun _ => True) u4 acc ∧ Below w.heap.size w w'), p.w.cell? (ad.add (m * 2)) = some (.string pk) := fun p => p.h.1
            have qk : ∀ p : Held (fun w' => w'.cell? (ad.add (m * 2)) = some (.string pk) ∧ w'.cell? ⟨g6, 0, none⟩ = some (.string key) ∧ w'.cell? ⟨g6, 1, none⟩ = some (.slice A1 vs.length c1) ∧ w'.heap[g6]? = some (.cells #[.string key, .slice A1 vs.length c1] 67 (0, 0)) ∧ Kd.R k69 69 w' w.heap.size (fun _ => True) u4 acc ∧ Below w.heap.size w w'), p.w.cell? ⟨g6, 0, none⟩ = some (.string key) := fun p => p.h.2.1
            have qv : ∀ p : Held (fun w' => w'.cell? (ad.add (m * 2)) = some (.string pk) ∧ w'.cell? ⟨g6, 0, none⟩ = some (.string key) ∧ w'.cell? ⟨g6, 1, none⟩ = some (.slice A1 vs.length c1) ∧ w'.heap[g6]? = some (.cells #[.string key, .slice A1 vs.length c1] 67 (0, 0)) ∧ Kd.R k69 69 w' w.heap.size (fun _ => True) u4 acc ∧ Below w.heap.size w w'), p.w.cell? ⟨g6, 1, none⟩ = some (.slice A1 vs.length c1) := fun p => p.h.2.2.1
            have HSK := Aside0.mk (fun (p : Held (fun w' => w'.cell? (ad.add (m * 2)) = some (.string pk) ∧ w'.cell? ⟨g6, 0, none⟩ = some (.string key) ∧ w'.cell? ⟨g6, 1, none⟩ = some (.slice A1 vs.length c1) ∧ w'.heap[g6]? = some (.cells #[.string key, .slice A1 vs.length c1] 67 (0, 0)) ∧ Kd.R k69 69 w' w.heap.size (fun _ => True) u4 acc ∧ Below w.heap.size w w')) (w' : World) (hb : Below p.w.heap.size p.w w') => show (fun w' => w'.cell? (ad.add (m * 2)) = some (.string pk) ∧ w'.cell? ⟨g6, 0, none⟩ = some (.string key) ∧ w'.cell? ⟨g6, 1, none⟩ = some (.slice A1 vs.length c1) ∧ w'.heap[g6]? = some (.cells #[.string key, .slice A1 vs.length c1] 67 (0, 0)) ∧ Kd.R k69 69 w' w.heap.size (fun _ => True) u4 acc ∧ Below w.heap.size w w') w' from ⟨pw_cell_below hb p.h.1, pw_cell_below hb p.h.2.1, pw_cell_below hb p.h.2.2.1, (hb.block _ (blk_lt (p.h.2.2.2.1))).trans (p.h.2.2.2.1), Kd.R_below (p.h.2.2.2.2.1) hb, below_then (p.h.2.2.2.2.2) (Below.size (p.h.2.2.2.2.2)) hb⟩)
            have HCL := Aside0.mk (fun (p : Held (fun w' => w'.cell? (ad.add (m * 2)) = some (.string pk) ∧ w'.cell? ⟨g6, 0, none⟩ = some (.string key) ∧ w'.cell? ⟨g6, 1, none⟩ = some (.slice A1 vs.length c1) ∧ w'.heap[g6]? = some (.cells #[.string key, .slice A1 vs.length c1] 67 (0, 0)) ∧ Kd.R k69 69 w' w.heap.size (fun _ => True) u4 acc ∧ Below w.heap.size w w')) => Held.call (batch_may.calls k key A1 c1 vs true p.w (HCV.out _ (p.h.2.2.2.2.2)) HLV.out HMY.out) (HSK.out p))
            refine wp_region_quiet_held (fun w' => w'.cell? (ad.add (m * 2)) = some (.string pk) ∧ w'.cell? ⟨g6, 0, none⟩ = some (.string key) ∧ w'.cell? ⟨g6, 1, none⟩ = some (.slice A1 vs.length c1) ∧ w'.heap[g6]? = some (.cells #[.string key, .slice A1 vs.length c1] 67 (0, 0)) ∧ Kd.R k69 69 w' w.heap.size (fun _ => True) u4 acc ∧ Below w.heap.size w w') (by kernel_rfl) (by kernel_rfl) ⟨p0c, c60, c61, B6.out, Kd.R_drew hR1, below_drew hB1⟩ ?_
            clear hB1 hR1
            repeat ((with_reducible refine wpQuiet_step (fun K hK => ?_)); go_simp; (try rw [if_neg (fun h => by cases h)]); first | (with_reducible refine hK _ ?_; clear hK K) | (apply Exists.intro; with_reducible refine And.intro (fun _ => ?_) ?_; (first | with_reducible rfl | exact HCL.out _); with_reducible refine hK _ ?_; clear hK K))
            refine wpQuiet_nil ?_
            intro _ hw'
            obtain ⟨p, hw''⟩ := hw'
            subst hw''
            have hH := p.h
            clear HSK HCL qp qk qv
            revert hH
            generalize p.w = w'
            intro hH
            have B6' := Aside0.mk hH.2.2.2.1
            have HR' := Aside0.mk hH.2.2.2.2.1
            have HB' := Aside0.mk hH.2.2.2.2.2
            have c60' := hH.2.1
            have c61' := hH.2.2.1
            clear hH HB HR B6 c60 c61
            have hvl : (vs.length : Int) ≤ 9223372036854775807 := by have := (HCV.out _ HB'.out).2.1; omega
            have HVL := Aside0.mk hvl
            clear hvl
            go_wp2
            go_loopg [4, 37] vs.length (fun gg s4 s37 wr => ∃ j : Nat, j ≤ vs.length ∧ vs.length - j ≤ gg ∧ s37 = .int .i64 j ∧ Aside0 (Below w.heap.size w wr) ∧ Aside0 (wr.heap[g6]? = some (.cells #[.string key, .slice A1 vs.length c1] 67 (0, 0))) ∧ Aside0 (Kd.R k69 69 wr w.heap.size (fun _ => True) s4 (acc ++ pairsRow key (vs.take j))))
            case atStart => exact ⟨0, Nat.zero_le _, by omega, rfl, HB', B6', ⟨by rw [List.take_zero]; simpa [pairsRow] using HR'.out⟩⟩
            case round =>
              obtain ⟨j, hj, hgj, rfl, HB, B6, HR⟩ := hrel
              have hvz := HVL.out
              by_cases hjl : j < vs.length
              · have hjz : (j : Int) < (vs.length : Int) := by omega
                obtain ⟨ad5, e5, h0, h1, h2⟩ := at_T80 (HCV.out _ HB.out) (j : Int) (by omega) hjz
                rw [rdT80_get vs j hjl] at h0 h1 h2
                simp only [Int.toNat_natCast] at h0 h1 h2
                have hok := List.all_eq_true.1 HVS.out vs[j] (List.getElem_mem hjl)
                rw [decide_eq_true_iff] at hok
                have hst := pairsRow_take key vs j hjl
                obtain ⟨x0, x1, x2, hx⟩ : ∃ x0 x1 x2, vs[j] = ⟨x0, x1, x2⟩ := ⟨_, _, _, rfl⟩
                rw [hx] at h0 h1 h2 hok hst
                simp only at h0 h1 h2 hok hst
                obtain ⟨pk0, hpk⟩ : ∃ q, pairKey key x0 = q := ⟨_, rfl⟩
                obtain ⟨pv0, hpv⟩ : ∃ q, pairVal ⟨x0, x1, x2⟩ = q := ⟨_, rfl⟩
                rw [hpk, hpv] at hst
                have HPK := Aside0.mk (show pairKey key (⟨x0, x1, x2⟩ : S80).f0 = pk0 from hpk)
                have HPV := Aside0.mk hpv
                have HX1 := Aside0.mk (show (⟨x0, x1, x2⟩ : S80).f1.size ≤ 9223372036854775806 from hok.1)
                have HX0 := Aside0.mk (show 0 ≤ (⟨x0, x1, x2⟩ : S80).f0 from hok.2.1)
                have HX2 := Aside0.mk (show (⟨x0, x1, x2⟩ : S80).f0 ≤ 1152921504606846976 from hok.2.2)
                obtain ⟨acc5, ha5⟩ : ∃ q, acc ++ pairsRow key (vs.take j) = q := ⟨_, rfl⟩
                have hal : acc5.length = acc.length + j := by rw [← ha5]; simp [pairsRow]; omega
                have hl32 : (acc5.length + 1) * 32 ≤ 140737488355328 := by have := HLN0.out; omega
                have HLN := Aside0.mk hl32
                have HST := Aside0.mk (show acc ++ pairsRow key (vs.take (j + 1)) = acc5 ++ [⟨pk0, pv0⟩] by rw [hst, ← List.append_assoc, ha5])
                rw [ha5] at HR
                obtain ⟨v5, hv5⟩ : ∃ q, q = u4 := ⟨_, rfl⟩
                rw [← hv5] at HR ⊢
                clear hok hst hpk hpv hx ha5 hal hl32 hv5
                cases e5
                go_wp2_with (first | ((with_reducible refine gate_dst (N := 8) rfl ?_); refine box_event ?hg (N := 8) ?hd (cs := #[.int .i64 0, .string ⟨#[]⟩, .bool false]) (t := 80) ?hr ?_; (case hd => rfl); (case hg => rfl); (case hr => first | (go_simp; done) | (go_simp; rfl)); intro g8 hg w4 hbox hb; have G8 := Aside0.mk (show w.heap.size ≤ g8 from (by rw [hg]; exact HB.out.size)); have H68 := Aside0.mk (show g6 ≠ g8 from fun e => absurd (blk_lt B6.out) (by omega)); have B8 := Aside0.mk hbox; clear hbox hg; have n0_ := Aside0.mk (below_then HB.out HB.out.size hb); have n1_ := Aside0.mk ((hb.block _ (blk_lt B6.out)).trans B6.out); have n2_ := Aside0.mk (Kd.R_below HR.out hb); clear HB B6 HR; have HB := n0_; have B6 := n1_; have HR := n2_; clear n0_ n1_ n2_; clear hb) | ((with_reducible refine gate_store (t := 80) (p := 8) (v := .tmp 40) rfl ?_); go_must (refine sagg_event rfl 80 (.tmp 8) (.tmp 40) rfl rfl g8 #[.int .i64 x0, .string x1, .bool x2] _ _ rfl rfl B8.out (by kernel_rfl) rfl rfl ?_); intro w5 hbk hu; have nR_ := Aside0.mk (Kd.R_mono (Kd.R_step (Kd.R_types HR.out B8.out (by decide)) (fun k_ hk_ _ => hu.block k_ hk_.2)) (fun _ hk_ => hk_.1)); clear HR; have HR := nR_; clear nR_; have n0_ := Aside0.mk (hu.below HB.out G8.out); have n1_ := Aside0.mk (hu.blk B6.out H68.out); clear HB B6; have HB := n0_; have B6 := n1_; clear n0_ n1_; clear B8; have B8 := Aside0.mk hbk; have c60 := (blk_cell B6.out 0).trans rfl; have c80 := (blk_cell B8.out 0).trans rfl; have c81 := (blk_cell B8.out 1).trans rfl; have c82 := (blk_cell B8.out 2).trans rfl; clear hbk hu) | (go_at_call 54; go_must (refine (pair.calls key ⟨x0, x1, x2⟩ _ HKY.out HX1.out HX0.out HX2.out).mono ?_); rintro e w6 ⟨rfl, hb⟩; have n0_ := Aside0.mk (below_then HB.out HB.out.size hb); have n1_ := Aside0.mk ((hb.block _ (blk_lt B6.out)).trans B6.out); have n2_ := Aside0.mk (Kd.R_below HR.out hb); clear HB B6 HR; have HB := n0_; have B6 := n1_; have HR := n2_; clear n0_ n1_ n2_; rw [HPK.out, HPV.out]; clear hb) | ((with_reducible refine gate_builtin (b := .append) (xs := #[.tmp 41, .tmp 46]) rfl ?_); at_builtin; go_must (refine Kd.R_append k69 (w0 := w) w.heap.size rfl (.tmp 41) (.tmp 46) 43 69 (.agg #[(.string ⟨#[]⟩), (.string ⟨#[]⟩)]) 32 rfl Try.underlying43 info69 rfl (by decide) (by decide) v5 acc5 (⟨pk0, pv0⟩ : S69) [.string pk0, .string pv0] (fun _ => True) (fun _ => False) rfl rfl (k69_mkM _ _ _ (⟨pk0, pv0⟩ : S69)) (fun _ hk => hk.elim) (fun _ _ => trivial) HR.out HB.out HB.out.size HLN.out ?_); intro v1 w7 ho hb hg hat; have n1_ := Aside0.mk (blk_grown B6.out hg (Kd.R_ne HR.out B6.out (by decide))); clear HB B6 HR; have HB := Aside0.mk hb; have B6 := n1_; clear n1_; have HR := Aside0.mk ho; clear ho hb hg hat))
                go_roundg (vs.length - (j + 1))
                case measure => omega
                case rel => exact ⟨j + 1, by omega, by omega, by go_num, HB, B6, ⟨by rw [HST.out]; exact HR.out⟩⟩
              · have hjz : ¬ (j : Int) < (vs.length : Int) := by omega
                have HR2 : Aside0 (Kd.R k69 69 wr w.heap.size (fun _ => True) u4 (acc ++ pairsRow key vs)) := ⟨by have := HR.out; rwa [List.take_of_length_le (by omega)] at this⟩
                clear HR
                go_wp2
                go_roundg (l0.length - (m + 1 + 1))
                case measure => omega
                case rel => exact ⟨m + 1 + 1, acc ++ pairsRow key vs, by omega, by have := HLN0.out; simp [pairsRow]; omega, by omega, by go_num, HB, HR2, ⟨by have := HF1.out; rwa [show l0.length - (m + 1 + 1) = n by omega]⟩⟩
          · have hq2 : ltS pk key = false := by simpa using hq
            have hq' : Op.bytesLess pk.toList key.toList = false := hq2
            rw [if_pos ⟨by omega, by rw [show m + 1 - 1 = m from rfl, hpk]; exact hq2⟩] at HF0
            simp only [Option.some.injEq, Prod.mk.injEq] at HF0
            obtain ⟨rfl, rfl⟩ := HF0
            clear hq hq2 hpk
            go_wp2_with (first | ((with_reducible refine gate_dst (N := 6) rfl ?_); refine box_event ?hg (N := 6) ?hd (cs := #[.string ⟨#[]⟩, .slice none 0 0]) (t := 67) ?hr ?_; (case hd => rfl); (case hg => rfl); (case hr => first | (go_simp; done) | (go_simp; rfl)); intro g6 hg w1 hbox hb; have G6 := Aside0.mk (show w.heap.size ≤ g6 from (by rw [hg]; exact HB.out.size)); have B6 := Aside0.mk hbox; clear hbox hg; have n0_ := Aside0.mk (below_then HB.out HB.out.size hb); have n1_ := Aside0.mk (Kd.R_below HR.out hb); clear HB HR; have HB := n0_; have HR := n1_; clear n0_ n1_; clear hb) | ((with_reducible refine gate_store (t := 67) (p := 6) (v := .tmp 15) rfl ?_); go_must (refine sagg_event rfl 67 (.tmp 6) (.tmp 15) rfl rfl g6 #[.string key, .slice A1 vs.length c1] _ _ rfl rfl B6.out (by kernel_rfl) rfl rfl ?_); intro w2 hbk hu; have nR_ := Aside0.mk (Kd.R_mono (Kd.R_step (Kd.R_types HR.out B6.out (by decide)) (fun k_ hk_ _ => hu.block k_ hk_.2)) (fun _ hk_ => hk_.1)); clear HR; have HR := nR_; clear nR_; have n0_ := Aside0.mk (hu.below HB.out G6.out); clear HB; have HB := n0_; clear n0_; clear B6; have B6 := Aside0.mk hbk; have c60 := (blk_cell B6.out 0).trans rfl; have c61 := (blk_cell B6.out 1).trans rfl; have p0c := (HB.out.cell (World.block_lt_of_cell? w _ PW.out)).trans PW.out; clear hbk hu))
            have hB1 := HB.out
            have hR1 := HR.out
            have qp : ∀ p : Held (fun w' => w'.cell? (ad.add (m * 2)) = some (.string pk) ∧ w'.cell? ⟨g6, 0, none⟩ = some (.string key) ∧ w'.cell? ⟨g6, 1, none⟩ = some (.slice A1 vs.length c1) ∧ w'.heap[g6]? = some (.cells #[.string key, .slice A1 vs.length c1] 67 (0, 0)) ∧ Kd.R k69 69 w' w.heap.size (fun _ => True) u4 acc ∧ Below w.heap.size w w'), p.w.cell? (ad.add (m * 2)) = some (.string pk) := fun p => p.h.1
            have qk : ∀ p : Held (fun w' => w'.cell? (ad.add (m * 2)) = some (.string pk) ∧ w'.cell? ⟨g6, 0, none⟩ = some (.string key) ∧ w'.cell? ⟨g6, 1, none⟩ = some (.slice A1 vs.length c1) ∧ w'.heap[g6]? = some (.cells #[.string key, .slice A1 vs.length c1] 67 (0, 0)) ∧ Kd.R k69 69 w' w.heap.size (fun _ => True) u4 acc ∧ Below w.heap.size w w'), p.w.cell? ⟨g6, 0, none⟩ = some (.string key) := fun p => p.h.2.1
            have qv : ∀ p : Held (fun w' => w'.cell? (ad.add (m * 2)) = some (.string pk) ∧ w'.cell? ⟨g6, 0, none⟩ = some (.string key) ∧ w'.cell? ⟨g6, 1, none⟩ = some (.slice A1 vs.length c1) ∧ w'.heap[g6]? = some (.cells #[.string key, .slice A1 vs.length c1] 67 (0, 0)) ∧ Kd.R k69 69 w' w.heap.size (fun _ => True) u4 acc ∧ Below w.heap.size w w'), p.w.cell? ⟨g6, 1, none⟩ = some (.slice A1 vs.length c1) := fun p => p.h.2.2.1
            have HSK := Aside0.mk (fun (p : Held (fun w' => w'.cell? (ad.add (m * 2)) = some (.string pk) ∧ w'.cell? ⟨g6, 0, none⟩ = some (.string key) ∧ w'.cell? ⟨g6, 1, none⟩ = some (.slice A1 vs.length c1) ∧ w'.heap[g6]? = some (.cells #[.string key, .slice A1 vs.length c1] 67 (0, 0)) ∧ Kd.R k69 69 w' w.heap.size (fun _ => True) u4 acc ∧ Below w.heap.size w w')) (w' : World) (hb : Below p.w.heap.size p.w w') => show (fun w' => w'.cell? (ad.add (m * 2)) = some (.string pk) ∧ w'.cell? ⟨g6, 0, none⟩ = some (.string key) ∧ w'.cell? ⟨g6, 1, none⟩ = some (.slice A1 vs.length c1) ∧ w'.heap[g6]? = some (.cells #[.string key, .slice A1 vs.length c1] 67 (0, 0)) ∧ Kd.R k69 69 w' w.heap.size (fun _ => True) u4 acc ∧ Below w.heap.size w w') w' from ⟨pw_cell_below hb p.h.1, pw_cell_below hb p.h.2.1, pw_cell_below hb p.h.2.2.1, (hb.block _ (blk_lt (p.h.2.2.2.1))).trans (p.h.2.2.2.1), Kd.R_below (p.h.2.2.2.2.1) hb, below_then (p.h.2.2.2.2.2) (Below.size (p.h.2.2.2.2.2)) hb⟩)
            have HCL := Aside0.mk (fun (p : Held (fun w' => w'.cell? (ad.add (m * 2)) = some (.string pk) ∧ w'.cell? ⟨g6, 0, none⟩ = some (.string key) ∧ w'.cell? ⟨g6, 1, none⟩ = some (.slice A1 vs.length c1) ∧ w'.heap[g6]? = some (.cells #[.string key, .slice A1 vs.length c1] 67 (0, 0)) ∧ Kd.R k69 69 w' w.heap.size (fun _ => True) u4 acc ∧ Below w.heap.size w w')) => Held.call (batch_may.calls k key A1 c1 vs true p.w (HCV.out _ (p.h.2.2.2.2.2)) HLV.out HMY.out) (HSK.out p))
            refine wp_region_quiet_held (fun w' => w'.cell? (ad.add (m * 2)) = some (.string pk) ∧ w'.cell? ⟨g6, 0, none⟩ = some (.string key) ∧ w'.cell? ⟨g6, 1, none⟩ = some (.slice A1 vs.length c1) ∧ w'.heap[g6]? = some (.cells #[.string key, .slice A1 vs.length c1] 67 (0, 0)) ∧ Kd.R k69 69 w' w.heap.size (fun _ => True) u4 acc ∧ Below w.heap.size w w') (by kernel_rfl) (by kernel_rfl) ⟨p0c, c60, c61, B6.out, Kd.R_drew hR1, below_drew hB1⟩ ?_
            clear hB1 hR1
            repeat ((with_reducible refine wpQuiet_step (fun K hK => ?_)); go_simp; (try rw [if_neg (fun h => by cases h)]); first | (with_reducible refine hK _ ?_; clear hK K) | (apply Exists.intro; with_reducible refine And.intro (fun _ => ?_) ?_; (first | with_reducible rfl | exact HCL.out _); with_reducible refine hK _ ?_; clear hK K))
            refine wpQuiet_nil ?_
            intro _ hw'
            obtain ⟨p, hw''⟩ := hw'
            subst hw''
            have hH := p.h
            clear HSK HCL qp qk qv
            revert hH
            generalize p.w = w'
            intro hH
            have B6' := Aside0.mk hH.2.2.2.1
            have HR' := Aside0.mk hH.2.2.2.2.1
            have HB' := Aside0.mk hH.2.2.2.2.2
            have c60' := hH.2.1
            have c61' := hH.2.2.1
            clear hH HB HR B6 c60 c61
            go_wp2
            go_ret2
            exact ⟨_, rfl, Kd.R_nil _ _ _ _ _, HB'.out⟩
    · have hiz : ¬ (i : Int) < (l0.length : Int) := by omega
      have HF0 := HF.out
      rw [show l0.length - i = 0 by omega, pairsL] at HF0
      simp only [Option.some.injEq, Prod.mk.injEq] at HF0
      obtain ⟨rfl, rfl⟩ := HF0
      have HSC := Aside0.mk (fun W (h : Kd.R k69 69 W w.heap.size (fun _ => True) u4 acc) => SortFunc69.calls w.heap.size (fun _ => True) u4 acc W h (by have := HAL.out; omega))
      go_wp2_with (go_at_call 55; go_must (refine (HSC.out _ HR.out).mono ?_); rintro e w9 ⟨rfl, hR, hb⟩; have HB9 := Aside0.mk (HB.out.trans hb); have HR9 := Aside0.mk hR; clear hR hb)
      go_ret2
      exact ⟨_, rfl, HR9.out, HB9.out⟩
end Go.Proofs.Ytehcmedeeaoebaa.PB
