import Derived.Test.YtehcmedeeaoebaaLnum
import Derived.Test.YtehcmedeeaoebaaLcheck
import Derived.Test.YtehcmedeeaoebaaBrefread
namespace Go.Proofs.Ytehcmedeeaoebaa.PB
open Go.RowKit Go.Proofs.YtehcmedeeaoebaaW.PrintWords Go.Proofs.YtehcmedeeaoebaaW.PrintLast Go.Proofs.YtehcmedeeaoebaaW.PrintMore
set_option linter.unusedVariables false
abbrev RdV := Int × List S52 × Int × Int
def badP : RdV := (0, [], 0, 4)
def readEndP (s : ByteArray) (t at_ : Int) (acc : List S52) : RdV := if at_ = s.size then if checkP t acc = 0 then (t, acc, 0, 0) else badP else badP
def readLoopP (s : ByteArray) (t : Int) : Nat → Int → List S52 → RdV
  | 0, at_, acc => readEndP s t at_ acc
  | n + 1, at_, acc => if at_ < s.size then if 1 < bt s at_ then badP else
      match textP s (at_ + 1) with
      | none => badP
      | some (key, at1) => match textP s at1 with
        | none => badP
        | some (val, at2) => readLoopP s t n at2 (acc ++ [⟨key, val, bt s at_ == 1⟩])
    else badP
def refEndP (s : ByteArray) (t at_ : Int) (acc : List S52) : RdV := if at_ < 0 then badP else if checkP t acc = 0 then if putP t acc = s then (t, acc, 0, 0) else badP else badP
def refLoopP (s : ByteArray) (t : Int) : Nat → Int → List S52 → RdV
  | 0, at_, acc => refEndP s t at_ acc
  | n + 1, at_, acc => if 0 ≤ at_ ∧ at_ < s.size then refLoopP s t n (pieceP s (pieceP s (at_ + 1)).2).2 (acc ++ [⟨(pieceP s (at_ + 1)).1, (pieceP s (pieceP s (at_ + 1)).2).1, bt s at_ == 1⟩]) else refEndP s t at_ acc
theorem readEnd_ev (s : ByteArray) (t at_ : Int) (acc : List S52) : Ev (fun k => readEnd k s t at_ acc) (readEndP s t at_ acc) := by
  unfold readEnd readEndP
  by_cases c : at_ = s.size
  · simp only [if_pos c]
    refine Ev.bind (Check_ev t acc) ?_
    by_cases c2 : checkP t acc = 0
    · simp only [if_pos c2]; exact Ev.const _
    · simp only [if_neg c2]; exact Ev.const _
  · simp only [if_neg c]; exact Ev.const _
theorem readLoop_ev (s : ByteArray) (t : Int) : ∀ n at_ acc, Ev (fun k => readLoop k s t n at_ acc) (readLoopP s t n at_ acc) := by
  intro n
  induction n with
  | zero => intro at_ acc; exact readEnd_ev s t at_ acc
  | succ n ih =>
    intro at_ acc
    simp only [readLoop, readLoopP]
    by_cases c1 : at_ < s.size
    · simp only [if_pos c1]
      by_cases c2 : 1 < bt s at_
      · simp only [if_pos c2]; exact Ev.const _
      · simp only [if_neg c2]
        rcases textP s (at_ + 1) with _ | ⟨key, at1⟩
        · exact Ev.const _
        simp only
        rcases textP s at1 with _ | ⟨val, at2⟩
        · exact Ev.const _
        exact ih _ _
    · simp only [if_neg c1]; exact Ev.const _
theorem toList_iff (a b : ByteArray) : a.toList = b.toList ↔ a = b := by
  rw [Lib.toList_data, Lib.toList_data]
  exact ⟨fun h => ByteArray.ext (Array.toList_inj.1 h), fun h => by rw [h]⟩
theorem checkP_right {t : Int} {l : List S52} (h : checkP t l = 0) : rightP t l := by
  unfold checkP at h
  by_cases c : rightP t l
  · exact c
  · rw [if_neg c] at h; cases h
theorem checkP_size {t : Int} {l : List S52} (h : checkP t l = 0) : sizeP l ≤ 16384 := by
  have hr := checkP_right h
  unfold checkP at h
  rw [if_pos hr] at h
  by_cases c : 16384 < sizeP l
  · rw [if_pos c] at h; cases h
  · omega
theorem refEnd_ev (s : ByteArray) (t at_ : Int) (acc : List S52) : Ev (fun k => refEnd k s t at_ acc) (refEndP s t at_ acc) := by
  unfold refEnd refEndP
  by_cases c : at_ < 0
  · simp only [if_pos c]; exact Ev.const _
  simp only [if_neg c]
  refine Ev.bind (refCheck_ev t acc) ?_
  by_cases c2 : checkP t acc = 0
  · simp only [if_pos c2]
    have hr := checkP_right c2
    refine Ev.bind (put_ev t acc (okAll_fits hr.2.2.1 hr.2.2.2)) ?_
    by_cases c3 : putP t acc = s
    · simp only [if_pos c3, if_pos ((toList_iff _ _).2 c3)]; exact Ev.const _
    · simp only [if_neg c3, if_neg (fun h => c3 ((toList_iff _ _).1 h))]; exact Ev.const _
  · simp only [if_neg c2]; exact Ev.const _
theorem refLoop_ev (s : ByteArray) (t : Int) : ∀ n at_ acc, Ev (fun k => refLoop k s t n at_ acc) (refLoopP s t n at_ acc) := by
  intro n
  induction n with
  | zero => intro at_ acc; exact refEnd_ev s t at_ acc
  | succ n ih =>
    intro at_ acc
    simp only [refLoop, refLoopP]
    by_cases c1 : 0 ≤ at_ ∧ at_ < s.size
    · simp only [if_pos c1]; exact ih _ _
    · simp only [if_neg c1]; exact refEnd_ev s t at_ acc
def frm (s : ByteArray) (p : Nat) : List UInt8 := s.data.toList.drop p
theorem frm_cons {s : ByteArray} {p : Nat} {b : UInt8} {rest : List UInt8} (h : frm s p = b :: rest) : p < s.size ∧ bt s (p : Int) = (b.toNat : Int) ∧ frm s (p + 1) = rest := by
  have hp : p < s.data.toList.length := by
    rcases Nat.lt_or_ge p s.data.toList.length with h1 | h1
    · exact h1
    · unfold frm at h; rw [List.drop_eq_nil_of_le h1] at h; cases h
  have hp' : p < s.size := by simpa using hp
  unfold frm at h ⊢
  rw [List.drop_eq_getElem_cons hp] at h
  injection h with h1 h2
  refine ⟨hp', ?_, h2⟩
  have := bt_at s (p : Int) (by simpa using hp')
  rw [← this, ← h1]
  simp only [Int.toNat_natCast]
  rfl
theorem frm_of_lt {s : ByteArray} {p : Nat} (h : p < s.size) : ∃ b, frm s p = b :: frm s (p + 1) := by
  have hp : p < s.data.toList.length := by simpa using h
  exact ⟨_, List.drop_eq_getElem_cons hp⟩
theorem frm_nil_iff (s : ByteArray) (p : Nat) (h : p ≤ s.size) : frm s p = [] ↔ p = s.size := by
  unfold frm
  rw [List.drop_eq_nil_iff]
  have : s.data.toList.length = s.size := by simp
  omega
theorem ext_list (s : ByteArray) (a n : Nat) (h : a + n ≤ s.size) : (s.extract a (a + n)).data.toList = (frm s a).take n := by
  unfold frm
  rw [ByteArray.data_extract, Array.toList_extract, List.extract_eq_take_drop, show a + n - a = n by omega]
set_option linter.unusedVariables false in
theorem text_of {s : ByteArray} {p : Nat} {x : ByteArray} {rest : List UInt8} (hx : x.size ≤ 255) (h : frm s p = UInt8.ofNat x.size :: (x.data.toList ++ rest)) :
    textP s (p : Int) = some (x, ((p + 1 + x.size : Nat) : Int)) ∧ frm s (p + 1 + x.size) = rest ∧ p + 1 + x.size ≤ s.size := by
  obtain ⟨hp, hb, hr⟩ := frm_cons h
  have hbx : bt s (p : Int) = (x.size : Int) := by rw [hb, UInt8.toNat_ofNat']; omega
  have hlen : x.size + rest.length = s.size - (p + 1) := by
    have := congrArg List.length hr
    simp only [frm, List.length_drop, List.length_append] at this
    have e1 : s.data.toList.length = s.size := by simp
    have e2 : x.data.toList.length = x.size := by simp
    omega
  have hle : p + 1 + x.size ≤ s.size := by omega
  refine ⟨?_, ?_, hle⟩
  · unfold textP
    rw [if_pos (by omega), hbx, if_pos (by omega)]
    have e1 : ((p : Int) + 1).toNat = p + 1 := by omega
    have e2 : ((p : Int) + 1 + (x.size : Int)).toNat = p + 1 + x.size := by omega
    rw [e1, e2]
    have : s.extract (p + 1) (p + 1 + x.size) = x := by
      apply ByteArray.ext
      apply Array.toList_inj.1
      rw [ext_list s _ _ hle, hr, List.take_append_of_le_length (by simp)]
      exact List.take_of_length_le (by simp)
    rw [this]
    simp
  · have : frm s (p + 1 + x.size) = (frm s (p + 1)).drop x.size := by unfold frm; rw [List.drop_drop]
    rw [this, hr, List.drop_append_of_le_length (by simp), List.drop_eq_nil_of_le (by simp)]
    rfl
theorem of_text {s : ByteArray} {p : Nat} {x : ByteArray} {q : Int} (h : textP s (p : Int) = some (x, q)) :
    x.size ≤ 255 ∧ q = ((p + 1 + x.size : Nat) : Int) ∧ p + 1 + x.size ≤ s.size ∧ frm s p = UInt8.ofNat x.size :: (x.data.toList ++ frm s (p + 1 + x.size)) := by
  unfold textP at h
  by_cases c1 : (p : Int) < s.size
  · rw [if_pos c1] at h
    by_cases c2 : (p : Int) + 1 + bt s p ≤ s.size
    · rw [if_pos c2] at h
      have hb := bt_range s (p : Int)
      obtain ⟨n, hn⟩ : ∃ n : Nat, bt s (p : Int) = (n : Int) := ⟨(bt s (p : Int)).toNat, by omega⟩
      rw [hn] at h c2 hb
      have e1 : ((p : Int) + 1).toNat = p + 1 := by omega
      have e2 : ((p : Int) + 1 + (n : Int)).toNat = p + 1 + n := by omega
      rw [e1, e2] at h
      simp only [Option.some.injEq, Prod.mk.injEq] at h
      obtain ⟨rfl, rfl⟩ := h
      have hsz : (s.extract (p + 1) (p + 1 + n)).size = n := by rw [ByteArray.size_extract]; omega
      obtain ⟨b, hfb⟩ := frm_of_lt (s := s) (p := p) (by omega)
      have hbb := (frm_cons hfb).2.1
      have hbn : b = UInt8.ofNat n := by
        apply UInt8.toNat_inj.1
        rw [UInt8.toNat_ofNat']
        omega
      rw [hsz]
      refine ⟨by omega, by omega, by omega, ?_⟩
      rw [hfb, hbn, ext_list s (p + 1) n (by omega)]
      congr 1
      have : frm s (p + 1 + n) = (frm s (p + 1)).drop n := by unfold frm; rw [List.drop_drop]
      rw [this, List.take_append_drop]
    · rw [if_neg c2] at h; cases h
  · rw [if_neg c1] at h; cases h
theorem piece_of_text {s : ByteArray} {p : Nat} {x : ByteArray} {q : Int} (h : textP s (p : Int) = some (x, q)) : pieceP s (p : Int) = (x, q) := by
  unfold textP at h
  unfold pieceP
  by_cases c1 : (p : Int) < s.size
  · rw [if_pos c1] at h
    by_cases c2 : (p : Int) + 1 + bt s p ≤ s.size
    · rw [if_pos c2] at h
      rw [if_neg (by omega), if_neg (by omega), if_neg (by omega)]
      exact Option.some.inj h
    · rw [if_neg c2] at h; cases h
  · rw [if_neg c1] at h; cases h
end Go.Proofs.Ytehcmedeeaoebaa.PB
