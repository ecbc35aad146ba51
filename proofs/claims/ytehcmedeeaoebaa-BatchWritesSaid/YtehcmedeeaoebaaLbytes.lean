import Derived.Test.YtehcmedeeaoebaaLcheck
import Derived.Test.YtehcmedeeaoebaaPBbatchBytes
import Derived.Test.YtehcmedeeaoebaaPBbatchMark
import Derived.Test.YtehcmedeeaoebaaPBambryref15Bytes
import Derived.Test.YtehcmedeeaoebaaPBambryref15Mark
namespace Go.Proofs.Ytehcmedeeaoebaa.PB
open Go.RowKit Go.Proofs.YtehcmedeeaoebaaW.PrintWords Go.Proofs.YtehcmedeeaoebaaW.PrintLast Go.Proofs.YtehcmedeeaoebaaW.PrintMore
theorem put8_ev (xs : List Int) (n : Int) (h : xs.length < 140737488355328) : Ev (fun k => field_Put8.f k xs n) (xs ++ [n % 256]) := by
  unfold field_Put8.f field_put_uint8.f
  refine Ev.bind ?_ (Ev.const _)
  rw [show wrap64 (1 - 1) = 0 by unfold wrap64; omega]
  refine Ev.step (g := fun k => field_put_uint8.l0 k (xs ++ [n % 256]) (n % 256) (-1)) (Ev.step (Ev.const _) fun k => ?_) fun k => ?_
  · simp only [field_put_uint8.l0]
    rw [if_neg (by omega)]
  · simp only [field_put_uint8.l0]
    rw [if_pos (by omega), show wrap64 (8 * 0) = 0 by unfold wrap64; omega, if_pos (by omega), if_pos h, show wrap64 (0 - 1) = -1 by unfold wrap64; omega]
    have e : shr IntKind.u64 (IntKind.u64.wrap (n % 256)) 0 % 256 = n % 256 := by
      unfold shr
      rw [IntKind.wrap_u64, show min (0 : Int).toNat IntKind.u64.bits = 0 from rfl]
      simp
    rw [e]
theorem put64_loop (u : Int) (m : Nat) : ∀ (xs : List Int), m ≤ 8 → xs.length + m < 140737488355328 → Ev (fun k => field_put_uint64.l0 k xs u ((m : Int) - 1)) (xs ++ lowBytes u m) := by
  induction m with
  | zero =>
    intro xs _ _
    refine Ev.step (Ev.const _) fun k => ?_
    simp only [field_put_uint64.l0]
    rw [if_neg (by omega)]
    simp [lowBytes]
  | succ m ih =>
    intro xs hm hl
    have e0 : ((m + 1 : Nat) : Int) - 1 = (m : Int) := by omega
    rw [e0]
    refine Ev.step (g := fun k => field_put_uint64.l0 k (xs ++ [byteOf u m]) u ((m : Int) - 1)) ?_ fun k => ?_
    · have := ih (xs ++ [byteOf u m]) (by omega) (by simp; omega)
      rwa [List.append_assoc] at this
    · simp only [field_put_uint64.l0]
      rw [if_pos (by omega), w64 (n := 8 * (m : Int)) (by omega) (by omega), if_pos (by omega), if_pos (by omega), w64 (by omega) (by omega)]
      have e4 : shr IntKind.u64 u (8 * (m : Int)) % 256 = byteOf u m := by
        unfold shr byteOf
        rw [show min (8 * (m : Int)).toNat IntKind.u64.bits = 8 * m by show min (8 * (m : Int)).toNat 64 = 8 * m; omega]
      rw [e4]
theorem put64_ev (xs : List Int) (n : Int) (h : xs.length + 8 < 140737488355328) : Ev (fun k => field_Put64.f k xs n) (xs ++ bytes8 (n % 18446744073709551616)) := by
  unfold field_Put64.f field_put_uint64.f
  refine Ev.bind ?_ (Ev.const _)
  rw [show wrap64 (8 - 1) = ((8 : Nat) : Int) - 1 by unfold wrap64; omega, IntKind.wrap_u64, bytes8_low]
  exact put64_loop _ 8 xs (by omega) h
theorem short_ev (xs : List Int) (s : ByteArray) (h : xs.length + 1 + s.size < 140737488355328) : Ev (fun k => batch_short.f k xs s) (xs ++ [(s.size : Int) % 256] ++ bytesOf s) := by
  unfold batch_short.f
  refine Ev.bind (put8_ev xs _ (by omega)) (Ev.of_eq (if_pos (by simp; omega)))
theorem bytes_item (xs : List Int) (c : S52) : strOfNums (((xs ++ [(if c.f2 = true then 1 else 0 : Int) % 256]) ++ [(c.f0.size : Int) % 256] ++ bytesOf c.f0) ++ [(c.f1.size : Int) % 256] ++ bytesOf c.f1) = putItem (strOfNums xs) c := by
  unfold putItem F1
  simp only [strOfNums_app, strOfNums_bytesOf]
theorem Bytes_loop (l : List S52) (hf : putFits l) : ∀ n i (xs : List Int), i + n = l.length → xs.length ≤ 10 + 322 * i →
    Ev (fun k => batch_Bytes.l0 k xs l (l.length : Int) (i : Int)) ((l.drop i).foldl putItem (strOfNums xs), 0) := by
  have hl := hf.1
  intro n
  induction n with
  | zero =>
    intro i xs hi h1
    refine Ev.step (Ev.const _) fun k => ?_
    simp only [batch_Bytes.l0]
    rw [if_neg (by omega), List.drop_eq_nil_of_le (by omega)]
    rfl
  | succ n ih =>
    intro i xs hi h1
    have hil : i < l.length := by omega
    have hc := hf.2 l[i] (List.getElem_mem hil)
    rw [List.drop_eq_getElem_cons hil, List.foldl_cons, ← bytes_item]
    have fin : ∀ ys : List Int, ys.length ≤ 10 + 322 * (i + 1) → Ev (fun k => batch_Bytes.l0 k ys l (l.length : Int) (wrap64 ((i : Int) + 1))) ((l.drop (i + 1)).foldl putItem (strOfNums ys), 0) := by
      intro ys hy
      rw [w64 (by omega) (by omega)]
      exact ih (i + 1) ys (by omega) hy
    by_cases c : l[i].f2 = true
    · rw [if_pos c]
      refine Ev.step (g := fun k => (field_Put8.f k xs 1).bind fun t161 => (batch_short.f k t161 l[i].f0).bind fun t164 => (batch_short.f k t164 l[i].f1).bind fun t167 => batch_Bytes.l0 k t167 l (l.length : Int) (wrap64 ((i : Int) + 1))) ?_ fun k => ?_
      · refine Ev.bind (put8_ev xs 1 (by omega)) (Ev.bind (short_ev _ _ (by simp; omega)) (Ev.bind (short_ev _ _ (by simp [bytesOf_length]; omega)) (fin _ (by simp [bytesOf_length]; omega))))
      · simp only [batch_Bytes.l0]
        rw [if_pos (by omega), if_pos (by omega), if_pos (by omega), rdT52_get l i hil, if_pos c]
    · rw [if_neg c]
      refine Ev.step (g := fun k => (field_Put8.f k xs 0).bind fun t161 => (batch_short.f k t161 l[i].f0).bind fun t164 => (batch_short.f k t164 l[i].f1).bind fun t167 => batch_Bytes.l0 k t167 l (l.length : Int) (wrap64 ((i : Int) + 1))) ?_ fun k => ?_
      · refine Ev.bind (put8_ev xs 0 (by omega)) (Ev.bind (short_ev _ _ (by simp; omega)) (Ev.bind (short_ev _ _ (by simp [bytesOf_length]; omega)) (fin _ (by simp [bytesOf_length]; omega))))
      · simp only [batch_Bytes.l0]
        rw [if_pos (by omega), if_pos (by omega), if_pos (by omega), rdT52_get l i hil, if_neg c]
def bytesP (t : Int) (l : List S52) : ByteArray × Int := if checkP t l = 0 then (putP t l, 0) else (⟨#[]⟩, checkP t l)
theorem checkP_zero {t : Int} {l : List S52} (h : checkP t l = 0) : rightP t l ∧ sizeP l ≤ 16384 := by
  unfold checkP at h
  by_cases c : rightP t l
  · rw [if_pos c] at h
    by_cases c2 : 16384 < sizeP l
    · rw [if_pos c2] at h; cases h
    · exact ⟨c, by omega⟩
  · rw [if_neg c] at h; cases h
theorem bytes8_length (n : Int) : (bytes8 n).length = 8 := by rw [bytes8_low, lowBytes_length]
theorem Bytes_ev (t : Int) (l : List S52) : Ev (fun k => batch_Bytes.f k t l) (bytesP t l) := by
  unfold batch_Bytes.f bytesP
  refine Ev.bind (Check_ev t l) ?_
  by_cases c : checkP t l = 0
  · simp only [if_pos c]
    have hr := (checkP_zero c).1
    have hf := okAll_fits hr.2.2.1 hr.2.2.2
    refine Ev.bind (put64_ev _ _ (by simp)) (Ev.bind (put8_ev _ _ (by simp [bytes8_length])) ?_)
    have := Bytes_loop l hf l.length 0 ([66] ++ bytes8 (t % 18446744073709551616) ++ [(l.length : Int) % 256]) (by omega) (by simp [bytes8_length])
    rw [List.drop_zero, strOfNums_app, strOfNums_app] at this
    exact this
  · simp only [if_neg c]
    exact Ev.const _
theorem refBytes_ev (t : Int) (l : List S52) : Ev (fun k => ambryref15_Bytes.f k t l) (bytesP t l) := by
  unfold ambryref15_Bytes.f bytesP
  refine Ev.bind (refCheck_ev t l) ?_
  by_cases c : checkP t l = 0
  · simp only [if_pos c]
    have hr := (checkP_zero c).1
    exact Ev.bind (put_ev t l (okAll_fits hr.2.2.1 hr.2.2.2)) (Ev.const _)
  · simp only [if_neg c]
    exact Ev.const _
def markP (n : Int) : ByteArray × Int := if n < 0 then (⟨#[]⟩, 2) else if n > 1152921504606846976 then (⟨#[]⟩, 2) else ((⟨#[77]⟩ : ByteArray) ++ F8 n, 0)
theorem Mark_ev (n : Int) : Ev (fun k => batch_Mark.f k n) (markP n) := by
  unfold batch_Mark.f markP
  by_cases c1 : n < 0
  · simp only [if_pos c1]; exact Ev.const _
  by_cases c2 : n > 1152921504606846976
  · simp only [if_neg c1, if_pos c2]; exact Ev.const _
  simp only [if_neg c1, if_neg c2]
  refine Ev.bind (put64_ev _ _ (by simp)) ?_
  rw [strOfNums_app]
  exact Ev.const _
theorem field8_ev (n : Int) : Ev (fun k => ambryref01_Field.f k n 8) (F8 n) := Ev.of_mono (Field8_f n) (fun k => ambryref01_Field.mono _ _ k)
theorem refMark_ev (n : Int) : Ev (fun k => ambryref15_Mark.f k n) (markP n) := by
  unfold ambryref15_Mark.f markP
  by_cases c1 : n < 0
  · simp only [if_pos c1]; exact Ev.const _
  by_cases c2 : n > 1152921504606846976
  · simp only [if_neg c1, if_pos c2]; exact Ev.const _
  simp only [if_neg c1, if_neg c2]
  refine Ev.bind (field8_ev n) (Ev.of_eq (if_pos (by rw [F8_size]; omega)))
end Go.Proofs.Ytehcmedeeaoebaa.PB
