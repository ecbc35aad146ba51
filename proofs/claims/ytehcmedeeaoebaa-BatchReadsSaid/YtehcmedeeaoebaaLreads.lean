import Derived.Test.YtehcmedeeaoebaaLreadb
import Derived.Test.YtehcmedeeaoebaaLlives
import Derived.Test.YtehcmedeeaoebaaPBambrylaw15BatchReads
namespace Go.Proofs.Ytehcmedeeaoebaa.PB
open Go.RowKit Go.Proofs.YtehcmedeeaoebaaW.PrintWords Go.Proofs.YtehcmedeeaoebaaW.PrintLast Go.Proofs.YtehcmedeeaoebaaW.PrintMore
set_option linter.unusedVariables false
theorem lives_ev' : Ev (fun k => (ambrylaw15_lives.f k).bind fun t => some t) true := Ev.bind ⟨40, lives_ge⟩ (Ev.const _)
theorem same_loop (l : List S52) (hl : l.length ≤ 9223372036854775807) : ∀ n i, i + n = l.length → Ev (fun k => ambryref15_SameChanges.l0 k l l (i : Int)) true := by
  intro n
  induction n with
  | zero =>
    intro i hi
    refine Ev.step (Ev.const _) fun k => ?_
    simp only [ambryref15_SameChanges.l0]
    rw [if_neg (by omega)]
  | succ n ih =>
    intro i hi
    refine Ev.step (ih (i + 1) (by omega)) fun k => ?_
    simp only [ambryref15_SameChanges.l0]
    rw [if_pos (by omega), if_pos (by omega), if_pos (by omega), if_neg (by simp), w64 (by omega) (by omega)]
    rfl
theorem sameChanges_ev (l : List S52) (hl : l.length ≤ 9223372036854775807) : Ev (fun k => ambryref15_SameChanges.f k l l) true := by
  unfold ambryref15_SameChanges.f
  simp only [if_true]
  exact same_loop l hl l.length 0 (by omega)
theorem same_ev (t : Int) (l : List S52) (hl : l.length ≤ 9223372036854775807) : Ev (fun k => ambryref15_Same.f k t l t l) true := by
  unfold ambryref15_Same.f
  simp only [if_true]
  exact Ev.bind (sameChanges_ev l hl) (Ev.const _)
theorem readP_ok (s : ByteArray) : readP s = badP ∨ (∃ t, s.size = 9 ∧ bt s 0 = 77 ∧ 0 ≤ t ∧ t ≤ 1152921504606846976 ∧ wrap64 (be (bytesOf (s.extract 1 9))) = t ∧ readP s = (0, [], t, 0)) ∨ ∃ t l, checkP t l = 0 ∧ putP t l = s ∧ readP s = (t, l, 0, 0) := by
  unfold readP
  by_cases c1 : s.size < 9
  · left; rw [if_pos c1]
  rw [if_neg c1]
  by_cases c9 : s.size = 9
  · rw [if_pos c9]
    by_cases c2 : bt s 0 = 77 ∧ 0 ≤ wrap64 (be (bytesOf (s.extract 1 9))) ∧ wrap64 (be (bytesOf (s.extract 1 9))) ≤ 1152921504606846976
    · right; left; rw [if_pos c2]; exact ⟨_, c9, c2.1, c2.2.1, c2.2.2, rfl, rfl⟩
    · left; rw [if_neg c2]
  rw [if_neg c9]
  by_cases c2 : bt s 0 ≠ 66
  · left; rw [if_pos c2]
  rw [if_neg c2]
  have h10 : 10 ≤ s.size := by omega
  have h66 : bt s 0 = 66 := by omega
  rw [← batchP_ref s h10 h66]
  have key : ∀ (n : Nat) (at_ : Int) (acc : List S52), refLoopP s (wrap64 (be (bytesOf (s.extract 1 9)))) n at_ acc = badP ∨ ∃ l, checkP (wrap64 (be (bytesOf (s.extract 1 9)))) l = 0 ∧ putP (wrap64 (be (bytesOf (s.extract 1 9)))) l = s ∧ refLoopP s (wrap64 (be (bytesOf (s.extract 1 9)))) n at_ acc = (wrap64 (be (bytesOf (s.extract 1 9))), l, 0, 0) := by
    have he : ∀ at_ acc, refEndP s (wrap64 (be (bytesOf (s.extract 1 9)))) at_ acc = badP ∨ ∃ l, checkP (wrap64 (be (bytesOf (s.extract 1 9)))) l = 0 ∧ putP (wrap64 (be (bytesOf (s.extract 1 9)))) l = s ∧ refEndP s (wrap64 (be (bytesOf (s.extract 1 9)))) at_ acc = (wrap64 (be (bytesOf (s.extract 1 9))), l, 0, 0) := by
      intro at_ acc
      unfold refEndP
      by_cases d1 : at_ < 0
      · left; rw [if_pos d1]
      rw [if_neg d1]
      by_cases d2 : checkP (wrap64 (be (bytesOf (s.extract 1 9)))) acc = 0
      · rw [if_pos d2]
        by_cases d3 : putP (wrap64 (be (bytesOf (s.extract 1 9)))) acc = s
        · right; exact ⟨acc, d2, d3, by rw [if_pos d3]⟩
        · left; rw [if_neg d3]
      · left; rw [if_neg d2]
    intro n
    induction n with
    | zero => intro at_ acc; exact he at_ acc
    | succ n ih =>
      intro at_ acc
      rw [refLoopP]
      by_cases c : 0 ≤ at_ ∧ at_ < s.size
      · rw [if_pos c]; exact ih _ _
      · rw [if_neg c]; exact he at_ acc
  rcases key (bt s 9).toNat 10 [] with h | ⟨l, h1, h2, h3⟩
  · left; exact h
  · right; right; exact ⟨_, l, h1, h2, h3⟩
theorem readP_short (s : ByteArray) : (readP s).2.1.length ≤ 64 := by
  rcases readP_ok s with h | ⟨t, _, _, _, _, _, h⟩ | ⟨t, l, hc, _, h⟩
  · rw [h]; simp [badP]
  · rw [h]; simp
  · rw [h]; exact (checkP_right hc).2.2.1
theorem reads_law (s : ByteArray) (hs : s.size ≤ 140737488351232) : Ev (fun k => ambrylaw15_BatchReads.f k s) true := by
  unfold ambrylaw15_BatchReads.f
  refine Ev.bind (Read_ev s) (Ev.bind (refRead_ev s hs) (Ev.bind (same_ev _ _ (by have := readP_short s; omega)) ?_))
  simp only [if_true]
  exact lives_ev'
end Go.Proofs.Ytehcmedeeaoebaa.PB
