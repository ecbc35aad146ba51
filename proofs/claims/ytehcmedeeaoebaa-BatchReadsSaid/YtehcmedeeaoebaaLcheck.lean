import Derived.Test.YtehcmedeeaoebaaLkit
import Derived.Test.YtehcmedeeaoebaaPBambryref15Check
namespace Go.Proofs.Ytehcmedeeaoebaa.PB
open Go.RowKit Go.Proofs.YtehcmedeeaoebaaW.PrintWords Go.Proofs.YtehcmedeeaoebaaW.PrintLast Go.Proofs.YtehcmedeeaoebaaW.PrintMore
def sumP (l : List S52) : Nat := (l.map fun c => 3 + c.f0.size + c.f1.size).sum
def sizeP (l : List S52) : Nat := 10 + sumP l
def rightP (t : Int) (l : List S52) : Prop := 1 ≤ t ∧ t ≤ 1152921504606846976 ∧ l.length ≤ 64 ∧ okAll l = true
instance (t : Int) (l : List S52) : Decidable (rightP t l) := by unfold rightP; infer_instance
def checkP (t : Int) (l : List S52) : Int := if rightP t l then if 16384 < sizeP l then 5 else 0 else 2
theorem okAll_iff (l : List S52) : okAll l = true ↔ ∀ j, (h : j < l.length) → okAt l j h = true := by unfold okAll; rw [decide_eq_true_iff]
theorem kept_size {c : S52} (h : keptB c = true) : c.f0.size ≤ 120 ∧ c.f1.size ≤ 199 := by
  unfold keptB at h
  simp only [Bool.and_eq_true, decide_eq_true_eq] at h
  exact h.1
theorem okAll_kept {l : List S52} (h : okAll l = true) : ∀ c ∈ l, keptB c = true := by
  intro c hc
  obtain ⟨j, hj, rfl⟩ := List.getElem_of_mem hc
  have := (okAll_iff l).1 h j hj
  unfold okAt at this
  rw [Bool.and_eq_true] at this
  exact this.1
theorem okAll_fits {l : List S52} (hl : l.length ≤ 64) (h : okAll l = true) : putFits l := ⟨hl, fun c hc => kept_size (okAll_kept h c hc)⟩
theorem sumP_drop (l : List S52) (i : Nat) (h : i < l.length) : sumP (l.drop i) = 3 + l[i].f0.size + l[i].f1.size + sumP (l.drop (i + 1)) := by
  rw [List.drop_eq_getElem_cons h]; unfold sumP; rw [List.map_cons, List.sum_cons]
theorem size_loop (l : List S52) (hf : putFits l) : ∀ n i (acc : Int), i + n = l.length → 0 ≤ acc → acc ≤ 10 + 322 * i →
    Ev (fun k => batch_size.l0 k acc l (l.length : Int) (i : Int)) (acc + sumP (l.drop i)) := by
  intro n
  induction n with
  | zero =>
    intro i acc hi h0 h1
    refine Ev.step (Ev.const _) fun k => ?_
    simp only [batch_size.l0]
    rw [if_neg (by omega), List.drop_eq_nil_of_le (by omega)]
    simp [sumP]
  | succ n ih =>
    intro i acc hi h0 h1
    have hil : i < l.length := by omega
    have hc := hf.2 l[i] (List.getElem_mem hil)
    have hl := hf.1
    have e := ih (i + 1) (acc + (3 + l[i].f0.size + l[i].f1.size)) (by omega) (by omega) (by omega)
    rw [sumP_drop l i hil]
    refine Ev.step (g := fun k => batch_size.l0 k (acc + (3 + l[i].f0.size + l[i].f1.size)) l (l.length : Int) ((i + 1 : Nat) : Int)) ?_ fun k => ?_
    · rw [show (acc + ((3 + l[i].f0.size + l[i].f1.size + sumP (l.drop (i + 1)) : Nat) : Int)) = acc + (3 + l[i].f0.size + l[i].f1.size) + sumP (l.drop (i + 1)) by omega]
      exact e
    · simp only [batch_size.l0]
      rw [if_pos (by omega), if_pos (by omega), if_pos (by omega), rdT52_get l i hil, w64 (n := (i : Int) + 1) (by omega) (by omega), w64 (n := 3 + (l[i].f0.size : Int)) (by omega) (by omega), w64 (n := 3 + (l[i].f0.size : Int) + (l[i].f1.size : Int)) (by omega) (by omega), w64 (by omega) (by omega)]
      rfl
theorem size_ev (t : Int) (l : List S52) (hf : putFits l) : Ev (fun k => batch_size.f k t l) (sizeP l : Int) := by
  have := size_loop l hf l.length 0 10 (by omega) (by omega) (by omega)
  unfold batch_size.f
  rw [List.drop_zero] at this
  exact this
theorem Check_ev (t : Int) (l : List S52) : Ev (fun k => batch_Check.f k t l) (checkP t l) := by
  unfold batch_Check.f checkP
  by_cases c1 : t < 1
  · simp only [if_pos c1]; rw [if_neg (show ¬ rightP t l from fun h => by have := h.1; omega)]; exact Ev.const _
  by_cases c2 : 1152921504606846976 < t
  · simp only [if_neg c1, if_pos c2]; rw [if_neg (show ¬ rightP t l from fun h => by have := h.2.1; omega)]; exact Ev.const _
  by_cases c3 : 64 < l.length
  · simp only [if_neg c1, if_neg c2, if_pos c3]; rw [if_neg (show ¬ rightP t l from fun h => by have := h.2.2.1; omega)]; exact Ev.const _
  simp only [if_neg c1, if_neg c2, if_neg c3]
  by_cases c4 : okAll l = true
  · simp only [if_pos c4]
    rw [if_pos (show rightP t l from ⟨by omega, by omega, by omega, c4⟩)]
    refine Ev.bind (size_ev t l (okAll_fits (by omega) c4)) ?_
    by_cases c5 : 16384 < sizeP l
    · rw [if_pos c5]; exact Ev.of_eq (if_pos (by omega))
    · rw [if_neg c5]; exact Ev.of_eq (if_neg (by omega))
  · simp only [if_neg c4]; rw [if_neg (show ¬ rightP t l from fun h => c4 h.2.2.2)]; exact Ev.const _
theorem Kept_f (c : S52) : ambryref15_Kept.f c.f0 c.f1 c.f2 = some (keptB c) := kept_f c
def okFrom (l : List S52) (i : Nat) : Bool := decide (∀ j, (h : j < l.length) → i ≤ j → okAt l j h = true)
theorem okFrom_end (l : List S52) (i : Nat) (h : l.length ≤ i) : okFrom l i = true := by unfold okFrom; rw [decide_eq_true_iff]; intro j hj hi; omega
theorem okFrom_step (l : List S52) (i : Nat) (h : i < l.length) : okFrom l i = (okAt l i h && okFrom l (i + 1)) := by
  rw [Bool.eq_iff_iff, Bool.and_eq_true]
  unfold okFrom
  rw [decide_eq_true_iff, decide_eq_true_iff]
  constructor
  · exact fun H => ⟨H i h (Nat.le_refl _), fun j hj hi => H j hj (by omega)⟩
  · rintro ⟨h1, h2⟩ j hj hi
    by_cases e : j = i
    · subst e; exact h1
    · exact h2 j hj (by omega)
theorem Right_loop1 (t : Int) (l : List S52) (hl : l.length ≤ 64) (i : Nat) (hi : i < l.length) (v : Bool) (hv : Ev (fun k => ambryref15_Right.l0 k ((i + 1 : Nat) : Int) t l) v) :
    ∀ n j, j + n = i → Ev (fun k => ambryref15_Right.l1 k (i : Int) (j : Int) t l) (!(((l.take i).drop j).any (sameKey l[i])) && v) := by
  intro n
  induction n with
  | zero =>
    intro j hj
    refine Ev.step (g := fun k => ambryref15_Right.l0 k ((i + 1 : Nat) : Int) t l) ?_ fun k => ?_
    · rw [List.drop_eq_nil_of_le (by simp; omega)]; simpa using hv
    · simp only [ambryref15_Right.l1]
      rw [if_neg (by omega), w64 (by omega) (by omega)]; rfl
  | succ n ih =>
    intro j hj
    have hjl : j < l.length := by omega
    have hjt : j < (l.take i).length := by simp; omega
    rw [List.drop_eq_getElem_cons hjt, List.any_cons, List.getElem_take]
    by_cases c : sameKey l[i] l[j] = true
    · rw [c]
      refine Ev.step (Ev.const false) fun k => ?_
      simp only [ambryref15_Right.l1]
      rw [if_pos (by omega), if_pos (by omega), if_pos (by omega), if_pos (by omega), if_pos (by omega), rdT52_get l j hjl, rdT52_get l i hi, if_pos (by simpa [sameKey] using c)]
    · have c' : sameKey l[i] l[j] = false := by simpa using c
      rw [c', Bool.false_or]
      refine Ev.step (ih (j + 1) (by omega)) fun k => ?_
      simp only [ambryref15_Right.l1]
      rw [if_pos (by omega), if_pos (by omega), if_pos (by omega), if_pos (by omega), if_pos (by omega), rdT52_get l j hjl, rdT52_get l i hi, if_neg (by simpa [sameKey] using c), w64 (by omega) (by omega)]
      rfl
theorem Right_loop0 (t : Int) (l : List S52) (hl : l.length ≤ 64) : ∀ n i, i + n = l.length → Ev (fun k => ambryref15_Right.l0 k (i : Int) t l) (okFrom l i) := by
  intro n
  induction n with
  | zero =>
    intro i hi
    rw [okFrom_end l i (by omega)]
    refine Ev.step (Ev.const true) fun k => ?_
    simp only [ambryref15_Right.l0]
    rw [if_neg (by omega)]
  | succ n ih =>
    intro i hi
    have hil : i < l.length := by omega
    rw [okFrom_step l i hil]
    refine Ev.step (g := fun k => if keptB l[i] = true then ambryref15_Right.l1 k (i : Int) 0 t l else some false) ?_ fun k => ?_
    · unfold okAt
      cases c : keptB l[i]
      · simp only [Bool.false_eq_true, if_false, Bool.false_and]; exact Ev.const _
      · simp only [if_true, Bool.true_and]
        exact Right_loop1 t l hl i hil _ (ih (i + 1) (by omega)) i 0 (by omega)
    · simp only [ambryref15_Right.l0]
      rw [if_pos (by omega), if_pos (by omega), rdT52_get l i hil, Kept_f, Option.bind_some]
theorem Right_ev (t : Int) (l : List S52) : Ev (fun k => ambryref15_Right.f k t l) (decide (rightP t l)) := by
  have j0t : Ev (fun k => ambryref15_Right.j0 k true t l) false := Ev.step (Ev.const _) fun k => by simp only [ambryref15_Right.j0, if_true]
  unfold ambryref15_Right.f
  by_cases c1 : t < 1
  · simp only [if_pos c1]; rw [decide_eq_false (fun h => by have := h.1; omega)]; exact j0t
  by_cases c2 : t > 1152921504606846976
  · simp only [if_neg c1, if_pos c2]; rw [decide_eq_false (fun h => by have := h.2.1; omega)]; exact j0t
  simp only [if_neg c1, if_neg c2]
  by_cases c3 : 64 < l.length
  · rw [decide_eq_true (show (l.length : Int) > 64 by omega), decide_eq_false (fun h => by have := h.2.2.1; omega)]; exact j0t
  · rw [decide_eq_false (show ¬ (l.length : Int) > 64 by omega)]
    have e : decide (rightP t l) = okFrom l 0 := by
      unfold okFrom
      refine decide_eq_decide.2 ?_
      exact ⟨fun h j hj _ => (okAll_iff l).1 h.2.2.2 j hj, fun h => ⟨by omega, by omega, by omega, (okAll_iff l).2 fun j hj => h j hj (Nat.zero_le _)⟩⟩
    rw [e]
    refine Ev.step (Right_loop0 t l (by omega) l.length 0 (by omega)) fun k => ?_
    simp only [ambryref15_Right.j0, Bool.false_eq_true, if_false]
    rfl
theorem foldl_put_size : ∀ (l : List S52) (s : ByteArray), (l.foldl putItem s).size = s.size + sumP l
  | [], s => by simp [sumP]
  | c :: r, s => by rw [List.foldl_cons, foldl_put_size r, putItem_size]; simp [sumP]; omega
theorem putP_size (t : Int) (l : List S52) : (putP t l).size = sizeP l := by unfold putP sizeP; rw [foldl_put_size, putHead_size]
theorem put_ev (t : Int) (l : List S52) (hf : putFits l) : Ev (fun k => ambryref15_put.f k t l) (putP t l) := by
  unfold ambryref15_put.f
  exact Ev.of_eq (if_pos hf)
theorem refCheck_ev (t : Int) (l : List S52) : Ev (fun k => ambryref15_Check.f k t l) (checkP t l) := by
  unfold ambryref15_Check.f checkP
  refine Ev.bind (Right_ev t l) ?_
  by_cases c : rightP t l
  · rw [decide_eq_true c, if_pos c]
    simp only [if_true]
    refine Ev.bind (put_ev t l (okAll_fits c.2.2.1 c.2.2.2)) ?_
    rw [putP_size]
    by_cases c5 : 16384 < sizeP l
    · rw [if_pos c5]; exact Ev.of_eq (if_pos (by omega))
    · rw [if_neg c5]; exact Ev.of_eq (if_neg (by omega))
  · rw [decide_eq_false c, if_neg c]
    simp only [Bool.false_eq_true, if_false]
    exact Ev.const _
end Go.Proofs.Ytehcmedeeaoebaa.PB
