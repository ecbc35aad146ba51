import Derived.Test.YtehcmedeeaoebaaPBchainCheck
import Derived.Test.YtehcmedeeaoebaaBidxv
namespace Go.Proofs.Ytehcmedeeaoebaa.PB
open Go.RowKit Go.Proofs.YtehcmedeeaoebaaW.PrintWords Go.Proofs.YtehcmedeeaoebaaW.PrintLast Go.Proofs.YtehcmedeeaoebaaW.PrintMore
set_option linter.unusedVariables false
set_option linter.unusedSimpArgs false
def longV (v : S80) : Bool := decide (199 < v.f1.size)
def batch_may.f (k : Nat) (a0_0 : ByteArray) (l0_1 : List S80) : Option Bool :=
  if a0_0.size ≤ 120 then if 0 < l0_1.length then (chain_Check.f k l0_1).bind fun e => if e = 0 then some (!(l0_1.any longV)) else some false else some false else some false
theorem batch_may.mono : ∀ a0 a1 k, LeO (batch_may.f k a0 a1) (batch_may.f (k + 1) a0 a1) := by
  intro a0 a1 k
  unfold batch_may.f
  exact LeO.ite (LeO.ite (LeO.bind (chain_Check.mono _ _) fun _ => LeO.refl _) (LeO.refl _)) (LeO.refl _)
theorem may1.calls (x : S80) (W : World) :
    Calls Try.prog 70 (#[.agg #[.int .i64 x.f0, .string x.f1, .bool x.f2]] ++ #[]) W fun e w' => e = .returned (.bool (longV x)) ∧ Below W.heap.size W w' := by
  unfold longV
  rw [Array.append_empty]
  go_enter Try.func70, Try.ntmps70
  go_wp2
  go_ret
  exact ⟨by simp; omega, (Below.refl _ _).alloc (Nat.le_refl _) _⟩
set_option maxHeartbeats 4000000 in
set_option maxRecDepth 100000 in
theorem batch_may.calls (k : Nat) (a0_0 : ByteArray) (A0_1 : Option Addr) (c0_1 : Nat) (l0_1 : List (S80)) (r : Bool) (w : World) (hr0_1 : Kd.C k80 w A0_1 l0_1.length l0_1) (hc0_1 : l0_1.length ≤ c0_1) (h : batch_may.f k a0_0 l0_1 = some r) :
    Calls Try.prog 53 #[.agg #[.string a0_0, .slice A0_1 l0_1.length c0_1]] w fun e w' => e = .returned (.bool r) ∧ Below w.heap.size w w' := by
  have hl := hr0_1.2.1
  have HR := Aside0.mk hr0_1
  clear hr0_1
  unfold batch_may.f at h
  by_cases c1 : a0_0.size ≤ 120
  · rw [if_pos c1] at h
    by_cases c2 : 0 < l0_1.length
    · rw [if_pos c2] at h
      obtain ⟨e, he, h⟩ := Option.bind_eq_some_iff.1 h
      have HE := Aside0.mk he
      clear he
      by_cases c3 : e = 0
      · rw [if_pos c3] at h
        subst c3
        have hh : (!(l0_1.any longV)) = r := Option.some.inj h
        clear h
        have HH := Aside0.mk hh
        clear hh
        go_enter Try.func53, Try.ntmps53
        go_wp2_with fail
        refine (chain_Check.calls k A0_1 c0_1 l0_1 0 _ (Kd.C_below HR.out (below_alloc (Below.refl _ _) _)) hc0_1 HE.out).mono ?_
        rintro e w1 ⟨rfl, hb1⟩
        have BK1 : w1.heap[w.heap.size]? = some (.cells #[.string a0_0, .slice A0_1 l0_1.length c0_1] 67 (0, 0)) := (hb1.block _ (by simp)).trans (blk_new w _)
        have BW1 : Below w.heap.size w w1 := below_then ((Below.refl _ _).alloc (Nat.le_refl _) _) (by simp) hb1
        have hbk1 := (blk_cell BK1 1).trans rfl
        have hcon := ContainsFunc80.calls A0_1 c0_1 l0_1 70 #[] longV w1 (enters_of Try.func70 (by kernel_rfl) rfl) (Kd.C_below HR.out BW1) hc0_1 (fun W x hb => may1.calls x W)
        have HBW1 := Aside0.mk BW1
        clear hb1 BK1 BW1
        obtain ⟨q, hq⟩ : ∃ q, l0_1.any longV = q := ⟨_, rfl⟩
        rw [hq] at hcon HH
        go_wp2_with (go_at_call 72; refine hcon.mono ?_; rintro e w2 ⟨rfl, hb2⟩)
        go_ret
        exact ⟨by rw [← HH.out]; rfl, below_then HBW1.out HBW1.out.size hb2⟩
      · rw [if_neg c3] at h
        obtain rfl : false = r := by simpa using h
        clear h
        have c3' : (e == 0) = false := by simpa using c3
        go_enter Try.func53, Try.ntmps53
        go_wp2_with (go_at_call 71; refine (chain_Check.calls k A0_1 c0_1 l0_1 e _ (Kd.C_below HR.out (below_alloc (Below.refl _ _) _)) hc0_1 HE.out).mono ?_; rintro e w1 ⟨rfl, hb1⟩)
        go_ret
        exact ⟨rfl, below_then ((Below.refl _ _).alloc (Nat.le_refl _) _) (by simp) hb1⟩
    · rw [if_neg c2] at h
      obtain rfl : false = r := by simpa using h
      clear h
      have c2' : decide (0 < l0_1.length) = false := by simpa using c2
      go_enter Try.func53, Try.ntmps53
      go_wp2
      go_ret
      exact ⟨rfl, (Below.refl _ _).alloc (Nat.le_refl _) _⟩
  · rw [if_neg c1] at h
    obtain rfl : false = r := by simpa using h
    clear h
    have c1' : decide (a0_0.size ≤ 120) = false := by simpa using c1
    go_enter Try.func53, Try.ntmps53
    go_wp2
    go_ret
    exact ⟨rfl, (Below.refl _ _).alloc (Nat.le_refl _) _⟩
end Go.Proofs.Ytehcmedeeaoebaa.PB
