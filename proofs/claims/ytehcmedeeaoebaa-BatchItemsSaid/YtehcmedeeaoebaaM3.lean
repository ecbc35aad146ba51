import Derived.Test.YtehcmedeeaoebaaM1
import Derived.Test.YtehcmedeeaoebaaM2
import Derived.Shelf.SlSortCmp.WholeK
import Derived.Shelf.Sort.Plain
import Derived.Test.YtehcmedeeaoebaaProg
import Derived.WalkSpells
import Derived.WalkLawsBesides
import Derived.Maps.OwnSet
import Derived.Maps.Keyed
import Derived.StringKeys
import Derived.Shelf.Slices.In.SortNone
import Derived.BigRegion
import Derived.RegionTactic
section
namespace Go.Proofs.Ytehcmedeeaoebaa.PB
open Go.RowKit Go.Proofs.YtehcmedeeaoebaaW.PrintWords Go.Proofs.YtehcmedeeaoebaaW.PrintLast Go.Proofs.YtehcmedeeaoebaaW.PrintMore
set_option linter.unusedVariables false
abbrev RdV := Int × List S52 × Int × Int
def badP : RdV := (0, [], 0, 4)
def readEndP (s : ByteArray) (t at_ : Int) (acc : List S52) : RdV := if at_ = s.size then if checkP t acc = 0 then (t, acc, 0, 0) else badP else badP
def readLoopP (s : ByteArray) (t : Int) : Nat → Int → List S52 → RdV
  | 0, at_, acc => readEndP s t at_ acc
  | n + 1, at_, acc => if at_ < s.size then if 1 < bt s at_ then badP else
      match textP s (at_ + 1) with
      | none => badP
      | some (key, at1) => match textP s at1 with
        | none => badP
        | some (val, at2) => readLoopP s t n at2 (acc ++ [⟨key, val, bt s at_ == 1⟩])
    else badP
def refEndP (s : ByteArray) (t at_ : Int) (acc : List S52) : RdV := if at_ < 0 then badP else if checkP t acc = 0 then if putP t acc = s then (t, acc, 0, 0) else badP else badP
def refLoopP (s : ByteArray) (t : Int) : Nat → Int → List S52 → RdV
  | 0, at_, acc => refEndP s t at_ acc
  | n + 1, at_, acc => if 0 ≤ at_ ∧ at_ < s.size then refLoopP s t n (pieceP s (pieceP s (at_ + 1)).2).2 (acc ++ [⟨(pieceP s (at_ + 1)).1, (pieceP s (pieceP s (at_ + 1)).2).1, bt s at_ == 1⟩]) else refEndP s t at_ acc
theorem readEnd_ev (s : ByteArray) (t at_ : Int) (acc : List S52) : Ev (fun k => readEnd k s t at_ acc) (readEndP s t at_ acc) := by
  unfold readEnd readEndP
  by_cases c : at_ = s.size
  · simp only [if_pos c]
    refine Ev.bind (Check_ev t acc) ?_
    by_cases c2 : checkP t acc = 0
    · simp only [if_pos c2]; exact Ev.const _
    · simp only [if_neg c2]; exact Ev.const _
  · simp only [if_neg c]; exact Ev.const _
theorem readLoop_ev (s : ByteArray) (t : Int) : ∀ n at_ acc, Ev (fun k => readLoop k s t n at_ acc) (readLoopP s t n at_ acc) := by
  intro n
  induction n with
  | zero => intro at_ acc; exact readEnd_ev s t at_ acc
  | succ n ih =>
    intro at_ acc
    simp only [readLoop, readLoopP]
    by_cases c1 : at_ < s.size
    · simp only [if_pos c1]
      by_cases c2 : 1 < bt s at_
      · simp only [if_pos c2]; exact Ev.const _
      · simp only [if_neg c2]
        rcases textP s (at_ + 1) with _ | ⟨key, at1⟩
        · exact Ev.const _
        simp only
        rcases textP s at1 with _ | ⟨val, at2⟩
        · exact Ev.const _
        exact ih _ _
    · simp only [if_neg c1]; exact Ev.const _
theorem toList_iff (a b : ByteArray) : a.toList = b.toList ↔ a = b := by
  rw [Lib.toList_data, Lib.toList_data]
  exact ⟨fun h => ByteArray.ext (Array.toList_inj.1 h), fun h => by rw [h]⟩
theorem checkP_right {t : Int} {l : List S52} (h : checkP t l = 0) : rightP t l := by
  unfold checkP at h
  by_cases c : rightP t l
  · exact c
  · rw [if_neg c] at h; cases h
theorem checkP_size {t : Int} {l : List S52} (h : checkP t l = 0) : sizeP l ≤ 16384 := by
  have hr := checkP_right h
  unfold checkP at h
  rw [if_pos hr] at h
  by_cases c : 16384 < sizeP l
  · rw [if_pos c] at h; cases h
  · omega
theorem refEnd_ev (s : ByteArray) (t at_ : Int) (acc : List S52) : Ev (fun k => refEnd k s t at_ acc) (refEndP s t at_ acc) := by
  unfold refEnd refEndP
  by_cases c : at_ < 0
  · simp only [if_pos c]; exact Ev.const _
  simp only [if_neg c]
  refine Ev.bind (refCheck_ev t acc) ?_
  by_cases c2 : checkP t acc = 0
  · simp only [if_pos c2]
    have hr := checkP_right c2
    refine Ev.bind (put_ev t acc (okAll_fits hr.2.2.1 hr.2.2.2)) ?_
    by_cases c3 : putP t acc = s
    · simp only [if_pos c3, if_pos ((toList_iff _ _).2 c3)]; exact Ev.const _
    · simp only [if_neg c3, if_neg (fun h => c3 ((toList_iff _ _).1 h))]; exact Ev.const _
  · simp only [if_neg c2]; exact Ev.const _
theorem refLoop_ev (s : ByteArray) (t : Int) : ∀ n at_ acc, Ev (fun k => refLoop k s t n at_ acc) (refLoopP s t n at_ acc) := by
  intro n
  induction n with
  | zero => intro at_ acc; exact refEnd_ev s t at_ acc
  | succ n ih =>
    intro at_ acc
    simp only [refLoop, refLoopP]
    by_cases c1 : 0 ≤ at_ ∧ at_ < s.size
    · simp only [if_pos c1]; exact ih _ _
    · simp only [if_neg c1]; exact refEnd_ev s t at_ acc
def frm (s : ByteArray) (p : Nat) : List UInt8 := s.data.toList.drop p
theorem frm_cons {s : ByteArray} {p : Nat} {b : UInt8} {rest : List UInt8} (h : frm s p = b :: rest) : p < s.size ∧ bt s (p : Int) = (b.toNat : Int) ∧ frm s (p + 1) = rest := by
  have hp : p < s.data.toList.length := by
    rcases Nat.lt_or_ge p s.data.toList.length with h1 | h1
    · exact h1
    · unfold frm at h; rw [List.drop_eq_nil_of_le h1] at h; cases h
  have hp' : p < s.size := by simpa using hp
  unfold frm at h ⊢
  rw [List.drop_eq_getElem_cons hp] at h
  injection h with h1 h2
  refine ⟨hp', ?_, h2⟩
  have := bt_at s (p : Int) (by simpa using hp')
  rw [← this, ← h1]
  simp only [Int.toNat_natCast]
  rfl
theorem frm_of_lt {s : ByteArray} {p : Nat} (h : p < s.size) : ∃ b, frm s p = b :: frm s (p + 1) := by
  have hp : p < s.data.toList.length := by simpa using h
  exact ⟨_, List.drop_eq_getElem_cons hp⟩
theorem frm_nil_iff (s : ByteArray) (p : Nat) (h : p ≤ s.size) : frm s p = [] ↔ p = s.size := by
  unfold frm
  rw [List.drop_eq_nil_iff]
  have : s.data.toList.length = s.size := by simp
  omega
theorem ext_list (s : ByteArray) (a n : Nat) (h : a + n ≤ s.size) : (s.extract a (a + n)).data.toList = (frm s a).take n := by
  unfold frm
  rw [ByteArray.data_extract, Array.toList_extract, List.extract_eq_take_drop, show a + n - a = n by omega]
set_option linter.unusedVariables false in
theorem text_of {s : ByteArray} {p : Nat} {x : ByteArray} {rest : List UInt8} (hx : x.size ≤ 255) (h : frm s p = UInt8.ofNat x.size :: (x.data.toList ++ rest)) :
    textP s (p : Int) = some (x, ((p + 1 + x.size : Nat) : Int)) ∧ frm s (p + 1 + x.size) = rest ∧ p + 1 + x.size ≤ s.size := by
  obtain ⟨hp, hb, hr⟩ := frm_cons h
  have hbx : bt s (p : Int) = (x.size : Int) := by rw [hb, UInt8.toNat_ofNat']; omega
  have hlen : x.size + rest.length = s.size - (p + 1) := by
    have := congrArg List.length hr
    simp only [frm, List.length_drop, List.length_append] at this
    have e1 : s.data.toList.length = s.size := by simp
    have e2 : x.data.toList.length = x.size := by simp
    omega
  have hle : p + 1 + x.size ≤ s.size := by omega
  refine ⟨?_, ?_, hle⟩
  · unfold textP
    rw [if_pos (by omega), hbx, if_pos (by omega)]
    have e1 : ((p : Int) + 1).toNat = p + 1 := by omega
    have e2 : ((p : Int) + 1 + (x.size : Int)).toNat = p + 1 + x.size := by omega
    rw [e1, e2]
    have : s.extract (p + 1) (p + 1 + x.size) = x := by
      apply ByteArray.ext
      apply Array.toList_inj.1
      rw [ext_list s _ _ hle, hr, List.take_append_of_le_length (by simp)]
      exact List.take_of_length_le (by simp)
    rw [this]
    simp
  · have : frm s (p + 1 + x.size) = (frm s (p + 1)).drop x.size := by unfold frm; rw [List.drop_drop]
    rw [this, hr, List.drop_append_of_le_length (by simp), List.drop_eq_nil_of_le (by simp)]
    rfl
theorem of_text {s : ByteArray} {p : Nat} {x : ByteArray} {q : Int} (h : textP s (p : Int) = some (x, q)) :
    x.size ≤ 255 ∧ q = ((p + 1 + x.size : Nat) : Int) ∧ p + 1 + x.size ≤ s.size ∧ frm s p = UInt8.ofNat x.size :: (x.data.toList ++ frm s (p + 1 + x.size)) := by
  unfold textP at h
  by_cases c1 : (p : Int) < s.size
  · rw [if_pos c1] at h
    by_cases c2 : (p : Int) + 1 + bt s p ≤ s.size
    · rw [if_pos c2] at h
      have hb := bt_range s (p : Int)
      obtain ⟨n, hn⟩ : ∃ n : Nat, bt s (p : Int) = (n : Int) := ⟨(bt s (p : Int)).toNat, by omega⟩
      rw [hn] at h c2 hb
      have e1 : ((p : Int) + 1).toNat = p + 1 := by omega
      have e2 : ((p : Int) + 1 + (n : Int)).toNat = p + 1 + n := by omega
      rw [e1, e2] at h
      simp only [Option.some.injEq, Prod.mk.injEq] at h
      obtain ⟨rfl, rfl⟩ := h
      have hsz : (s.extract (p + 1) (p + 1 + n)).size = n := by rw [ByteArray.size_extract]; omega
      obtain ⟨b, hfb⟩ := frm_of_lt (s := s) (p := p) (by omega)
      have hbb := (frm_cons hfb).2.1
      have hbn : b = UInt8.ofNat n := by
        apply UInt8.toNat_inj.1
        rw [UInt8.toNat_ofNat']
        omega
      rw [hsz]
      refine ⟨by omega, by omega, by omega, ?_⟩
      rw [hfb, hbn, ext_list s (p + 1) n (by omega)]
      congr 1
      have : frm s (p + 1 + n) = (frm s (p + 1)).drop n := by unfold frm; rw [List.drop_drop]
      rw [this, List.take_append_drop]
    · rw [if_neg c2] at h; cases h
  · rw [if_neg c1] at h; cases h
theorem piece_of_text {s : ByteArray} {p : Nat} {x : ByteArray} {q : Int} (h : textP s (p : Int) = some (x, q)) : pieceP s (p : Int) = (x, q) := by
  unfold textP at h
  unfold pieceP
  by_cases c1 : (p : Int) < s.size
  · rw [if_pos c1] at h
    by_cases c2 : (p : Int) + 1 + bt s p ≤ s.size
    · rw [if_pos c2] at h
      rw [if_neg (by omega), if_neg (by omega), if_neg (by omega)]
      exact Option.some.inj h
    · rw [if_neg c2] at h; cases h
  · rw [if_neg c1] at h; cases h
end Go.Proofs.Ytehcmedeeaoebaa.PB
end
section
namespace Go.Proofs.Ytehcmedeeaoebaa.PB
open Go.RowKit Go.Proofs.YtehcmedeeaoebaaW.PrintWords Go.Proofs.YtehcmedeeaoebaaW.PrintLast Go.Proofs.YtehcmedeeaoebaaW.PrintMore
set_option linter.unusedVariables false
def flagB (b : Bool) : UInt8 := if b then 1 else 0
def encC (c : S52) : List UInt8 := flagB c.f2 :: (UInt8.ofNat c.f0.size :: (c.f0.data.toList ++ (UInt8.ofNat c.f1.size :: c.f1.data.toList)))
def encL (l : List S52) : List UInt8 := l.flatMap encC
def smallC (c : S52) : Prop := c.f0.size ≤ 255 ∧ c.f1.size ≤ 255
theorem item_of {s : ByteArray} {p : Nat} {c : S52} {rest : List UInt8} (hc : smallC c) (h : frm s p = encC c ++ rest) :
    ∃ q q' : Nat, p < s.size ∧ bt s (p : Int) ≤ 1 ∧ (bt s (p : Int) == 1) = c.f2 ∧ textP s ((p : Int) + 1) = some (c.f0, (q : Int)) ∧ textP s (q : Int) = some (c.f1, (q' : Int)) ∧ frm s q' = rest ∧ q' ≤ s.size := by
  unfold encC at h
  obtain ⟨hp, hb, h1⟩ := frm_cons h
  have e1 := text_of (x := c.f0) (rest := (UInt8.ofNat c.f1.size :: c.f1.data.toList) ++ rest) hc.1 (by rw [h1]; simp)
  obtain ⟨t1, f1, l1⟩ := e1
  have e2 := text_of (x := c.f1) (rest := rest) hc.2 (by rw [f1]; simp)
  obtain ⟨t2, f2, l2⟩ := e2
  refine ⟨_, _, hp, ?_, ?_, t1, t2, f2, l2⟩
  · rw [hb]; unfold flagB; cases c.f2 <;> decide
  · rw [hb]; unfold flagB; cases c.f2 <;> decide
theorem of_item {s : ByteArray} {p : Nat} {x y : ByteArray} {q q' : Int} (hp : p < s.size) (hb : bt s (p : Int) ≤ 1) (h1 : textP s ((p : Int) + 1) = some (x, q)) (h2 : textP s q = some (y, q')) :
    ∃ m : Nat, q' = (m : Int) ∧ m ≤ s.size ∧ smallC ⟨x, y, bt s (p : Int) == 1⟩ ∧ frm s p = encC ⟨x, y, bt s (p : Int) == 1⟩ ++ frm s m := by
  obtain ⟨b, hfb⟩ := frm_of_lt hp
  have hbb := (frm_cons hfb).2.1
  obtain ⟨a1, a2, a3, a4⟩ := of_text (p := p + 1) h1
  subst a2
  obtain ⟨b1, b2, b3, b4⟩ := of_text h2
  subst b2
  refine ⟨_, rfl, b3, ⟨a1, b1⟩, ?_⟩
  rw [hfb, a4, b4]
  have hr := bt_range s (p : Int)
  have hbf : b = flagB (bt s (p : Int) == 1) := by
    apply UInt8.toNat_inj.1
    rcases (show bt s (p : Int) = 0 ∨ bt s (p : Int) = 1 by omega) with e | e
    · rw [e]; unfold flagB; rw [e] at hbb; simp; omega
    · rw [e]; unfold flagB; rw [e] at hbb; simp; omega
  rw [hbf]
  unfold encC
  simp
theorem read_of (s : ByteArray) (t : Int) : ∀ (l : List S52) (p : Nat) (acc : List S52), p ≤ s.size → (∀ c ∈ l, smallC c) → frm s p = encL l → readLoopP s t l.length (p : Int) acc = readEndP s t s.size (acc ++ l)
  | [], p, acc, hp, _, h => by
    have : p = s.size := (frm_nil_iff s p hp).1 h
    subst this
    simp [readLoopP]
  | c :: l, p, acc, hp, hs, h => by
    obtain ⟨q, q', h1, h2, h3, h4, h5, h6, h7⟩ := item_of (rest := encL l) (hs c (by simp)) (by rw [h]; simp [encL])
    rw [List.length_cons, readLoopP, if_pos (by omega), if_neg (by omega), h4]
    simp only
    rw [h5]
    simp only
    rw [h3, read_of s t l q' _ h7 (fun c hc => hs c (by simp [hc])) h6]
    simp
theorem ref_of (s : ByteArray) (t : Int) : ∀ (l : List S52) (p : Nat) (acc : List S52), p ≤ s.size → (∀ c ∈ l, smallC c) → frm s p = encL l → refLoopP s t l.length (p : Int) acc = refEndP s t s.size (acc ++ l)
  | [], p, acc, hp, _, h => by
    have : p = s.size := (frm_nil_iff s p hp).1 h
    subst this
    simp [refLoopP]
  | c :: l, p, acc, hp, hs, h => by
    obtain ⟨q, q', h1, h2, h3, h4, h5, h6, h7⟩ := item_of (rest := encL l) (hs c (by simp)) (by rw [h]; simp [encL])
    have hpc : pieceP s ((p : Int) + 1) = (c.f0, (q : Int)) := piece_of_text (p := p + 1) h4
    rw [List.length_cons, refLoopP, if_pos (by omega), hpc]
    simp only
    rw [piece_of_text h5]
    simp only
    rw [h3, ref_of s t l q' _ h7 (fun c hc => hs c (by simp [hc])) h6]
    simp
theorem of_read (s : ByteArray) (t : Int) : ∀ (n p : Nat) (acc : List S52), p ≤ s.size → readLoopP s t n (p : Int) acc = badP ∨ ∃ l, l.length = n ∧ (∀ c ∈ l, smallC c) ∧ frm s p = encL l
  | 0, p, acc, hp => by
    rw [readLoopP]
    unfold readEndP
    by_cases c : (p : Int) = s.size
    · right; exact ⟨[], rfl, by simp, (frm_nil_iff s p hp).2 (by omega)⟩
    · left; rw [if_neg c]
  | n + 1, p, acc, hp => by
    rw [readLoopP]
    by_cases c1 : (p : Int) < s.size
    · rw [if_pos c1]
      by_cases c2 : 1 < bt s (p : Int)
      · left; rw [if_pos c2]
      · rw [if_neg c2]
        rcases h1 : textP s ((p : Int) + 1) with _ | ⟨key, at1⟩
        · left; rfl
        simp only
        rcases h2 : textP s at1 with _ | ⟨val, at2⟩
        · left; rfl
        simp only
        obtain ⟨m, rfl, hm, hsm, hf⟩ := of_item (by omega) (by omega) h1 h2
        rcases of_read s t n m (acc ++ [⟨key, val, bt s (p : Int) == 1⟩]) hm with h | ⟨l, hl, hs, hfm⟩
        · left; exact h
        · right
          exact ⟨⟨key, val, bt s (p : Int) == 1⟩ :: l, by simp [hl], by intro c hc; rcases List.mem_cons.1 hc with rfl | hc; exact hsm; exact hs c hc, by rw [hf, hfm]; simp [encL]⟩
    · left; rw [if_neg c1]
theorem of_ref (s : ByteArray) (t : Int) : ∀ (n : Nat) (at_ : Int) (acc : List S52), refLoopP s t n at_ acc = badP ∨ ∃ l, checkP t l = 0 ∧ putP t l = s := by
  have he : ∀ at_ acc, refEndP s t at_ acc = badP ∨ ∃ l, checkP t l = 0 ∧ putP t l = s := by
    intro at_ acc
    unfold refEndP
    by_cases c1 : at_ < 0
    · left; rw [if_pos c1]
    rw [if_neg c1]
    by_cases c2 : checkP t acc = 0
    · rw [if_pos c2]
      by_cases c3 : putP t acc = s
      · right; exact ⟨acc, c2, c3⟩
      · left; rw [if_neg c3]
    · left; rw [if_neg c2]
  intro n
  induction n with
  | zero => intro at_ acc; exact he at_ acc
  | succ n ih =>
    intro at_ acc
    rw [refLoopP]
    by_cases c : 0 ≤ at_ ∧ at_ < s.size
    · rw [if_pos c]; exact ih _ _
    · rw [if_neg c]; exact he at_ acc
theorem u8_mod (n : Nat) : UInt8.ofNat (((n : Int) % 256).toNat) = UInt8.ofNat n := by
  apply UInt8.toNat_inj.1
  rw [UInt8.toNat_ofNat', UInt8.toNat_ofNat']
  omega
theorem F1_list (n : Nat) : (F1 (n : Int)).data.toList = [UInt8.ofNat n] := by
  unfold F1
  rw [strOfNums_data]
  simp only [List.map_cons, List.map_nil]
  rw [u8_mod]
theorem putItem_list (s : ByteArray) (c : S52) : (putItem s c).data.toList = s.data.toList ++ encC c := by
  unfold putItem
  have e : F1 (if c.f2 = true then 1 else 0) = F1 (((if c.f2 = true then 1 else 0 : Nat) : Nat) : Int) := by cases c.f2 <;> rfl
  rw [e]
  simp only [ByteArray.data_append, Array.toList_append, F1_list]
  unfold encC flagB
  cases c.f2 <;> simp
theorem foldl_put_list : ∀ (l : List S52) (s : ByteArray), (l.foldl putItem s).data.toList = s.data.toList ++ encL l
  | [], s => by simp [encL]
  | c :: l, s => by rw [List.foldl_cons, foldl_put_list l, putItem_list]; simp [encL]
def bytesU (t : Int) : List UInt8 := (bytes8 (t % 18446744073709551616)).map fun n => UInt8.ofNat n.toNat
theorem bytesU_length (t : Int) : (bytesU t).length = 8 := by unfold bytesU; rw [List.length_map, bytes8_low, lowBytes_length]
theorem putP_list (t : Int) (l : List S52) : (putP t l).data.toList = 66 :: (bytesU t ++ (UInt8.ofNat l.length :: encL l)) := by
  unfold putP
  rw [foldl_put_list]
  unfold putHead F8
  simp only [ByteArray.data_append, Array.toList_append, F1_list, strOfNums_data]
  rfl
theorem split_list (s : ByteArray) (hs : 10 ≤ s.size) (h66 : bt s 0 = 66) : s.data.toList = 66 :: (bytesU (wrap64 (be (bytesOf (s.extract 1 9)))) ++ (UInt8.ofNat (bt s 9).toNat :: frm s 10)) := by
  obtain ⟨b0, h0⟩ := frm_of_lt (s := s) (p := 0) (by omega)
  obtain ⟨b9, h9⟩ := frm_of_lt (s := s) (p := 9) (by omega)
  have e0 : b0 = 66 := by
    have := (frm_cons h0).2.1
    apply UInt8.toNat_inj.1
    have h66' : bt s ((0 : Nat) : Int) = 66 := h66
    rw [h66'] at this
    show b0.toNat = 66
    omega
  have e9 : b9 = UInt8.ofNat (bt s 9).toNat := by
    have h := (frm_cons h9).2.1
    have h' : bt s 9 = (b9.toNat : Int) := h
    rw [h', Int.toNat_natCast, UInt8.ofNat_toNat]
  have hl : (bytesOf (s.extract 1 9)).length = 8 := by rw [bytesOf_length, ByteArray.size_extract]; omega
  have hb : ∀ b ∈ bytesOf (s.extract 1 9), 0 ≤ b ∧ b < 256 := by
    intro b hb
    unfold bytesOf at hb
    obtain ⟨u, _, rfl⟩ := List.mem_map.1 hb
    have := u.toNat_lt
    omega
  obtain ⟨h1, h2, h3⟩ := bytes8_be _ hl hb
  have ew : wrap64 (be (bytesOf (s.extract 1 9))) % 18446744073709551616 = be (bytesOf (s.extract 1 9)) := by unfold wrap64; omega
  have eu : bytesU (wrap64 (be (bytesOf (s.extract 1 9)))) = (frm s 1).take 8 := by
    unfold bytesU
    rw [ew, h1]
    have := ext_list s 1 8 (by omega)
    rw [← this]
    unfold bytesOf
    rw [List.map_map]
    refine (List.map_congr_left fun b _ => ?_).trans (List.map_id _)
    show UInt8.ofNat ((b.toNat : Int)).toNat = b
    rw [Int.toNat_natCast, UInt8.ofNat_toNat]
  rw [eu]
  have f0 : s.data.toList = frm s 0 := rfl
  rw [f0, h0, e0, ← e9]
  congr 1
  have : frm s 9 = (frm s 1).drop 8 := by unfold frm; rw [List.drop_drop]
  rw [← h9, this, List.take_append_drop]
theorem putP_iff (s : ByteArray) (hs : 10 ≤ s.size) (h66 : bt s 0 = 66) (l : List S52) (hl : l.length = (bt s 9).toNat) (hf : frm s 10 = encL l) : putP (wrap64 (be (bytesOf (s.extract 1 9)))) l = s := by
  apply ByteArray.ext
  apply Array.toList_inj.1
  rw [putP_list, split_list s hs h66, hl, hf]
def batchP (s : ByteArray) : RdV := if 16384 < s.size then badP else readLoopP s (wrap64 (be (bytesOf (s.extract 1 9)))) (bt s 9).toNat 10 []
theorem of_putP {s : ByteArray} {t : Int} {l : List S52} (hc : checkP t l = 0) (h : putP t l = s) : 10 ≤ s.size ∧ bt s 0 = 66 ∧ (bt s 9).toNat = l.length ∧ frm s 10 = encL l ∧ wrap64 (be (bytesOf (s.extract 1 9))) = t ∧ (∀ c ∈ l, smallC c) ∧ s.size ≤ 16384 := by
  have hr := checkP_right hc
  have hz := checkP_size hc
  have hL := putP_list t l
  rw [h] at hL
  have hsz : s.size = sizeP l := by rw [← h, putP_size]
  have h10 : 10 ≤ s.size := by rw [hsz]; unfold sizeP; omega
  have f0 : frm s 0 = 66 :: (bytesU t ++ (UInt8.ofNat l.length :: encL l)) := hL
  obtain ⟨_, b0, f1⟩ := frm_cons f0
  have f9 : frm s 9 = UInt8.ofNat l.length :: encL l := by
    have : frm s 9 = (frm s 1).drop 8 := by unfold frm; rw [List.drop_drop]
    rw [this, f1, List.drop_append_of_le_length (by rw [bytesU_length]; omega), List.drop_eq_nil_of_le (by rw [bytesU_length]; omega)]
    rfl
  obtain ⟨_, b9, f10⟩ := frm_cons f9
  have hl64 := hr.2.2.1
  have h66 : bt s 0 = 66 := b0
  have h9 : (bt s 9).toNat = l.length := by
    have b9' : bt s 9 = _ := b9
    rw [b9', UInt8.toNat_ofNat']
    omega
  refine ⟨h10, h66, h9, f10, ?_, ?_, by omega⟩
  · have hx : (s.extract 1 9).data.toList = bytesU t := by
      have := ext_list s 1 8 (by omega)
      rw [show 1 + 8 = 9 from rfl] at this
      rw [this, f1, List.take_append_of_le_length (by rw [bytesU_length]; omega), List.take_of_length_le (by rw [bytesU_length]; omega)]
    have ht := hr.1
    have ht2 := hr.2.1
    have hb : bytesOf (s.extract 1 9) = bytes8 t := by
      unfold bytesOf
      rw [hx]
      unfold bytesU
      rw [show t % 18446744073709551616 = t by omega, bytes8_list]
      simp only [List.map_cons, List.map_nil, UInt8.toNat_ofNat']
      simp only [List.cons.injEq, and_true]
      refine ⟨by omega, by omega, by omega, by omega, by omega, by omega, by omega, by omega⟩
    rw [hb, be_bytes8 t (by omega) (by omega), w64 (by omega) (by omega)]
  · intro c hc'
    have := okAll_fits hl64 hr.2.2.2
    have := this.2 c hc'
    exact ⟨by omega, by omega⟩
theorem batchP_ref (s : ByteArray) (hs : 10 ≤ s.size) (h66 : bt s 0 = 66) : refLoopP s (wrap64 (be (bytesOf (s.extract 1 9)))) (bt s 9).toNat 10 [] = batchP s := by
  unfold batchP
  obtain ⟨t, ht⟩ : ∃ t, wrap64 (be (bytesOf (s.extract 1 9))) = t := ⟨_, rfl⟩
  rw [ht]
  by_cases hA : ∃ l : List S52, l.length = (bt s 9).toNat ∧ (∀ c ∈ l, smallC c) ∧ frm s 10 = encL l
  · obtain ⟨l, hl, hsm, hf⟩ := hA
    have e1 := read_of s t l 10 [] (by omega) hsm hf
    have e2 := ref_of s t l 10 [] (by omega) hsm hf
    rw [hl] at e1 e2
    have hput := putP_iff s hs h66 l hl hf
    rw [ht] at hput
    have e1' : readLoopP s t (bt s 9).toNat 10 [] = readEndP s t s.size ([] ++ l) := e1
    have e2' : refLoopP s t (bt s 9).toNat 10 [] = refEndP s t s.size ([] ++ l) := e2
    rw [e1', e2', List.nil_append]
    unfold readEndP refEndP
    rw [if_neg (show ¬ ((s.size : Int) < 0) by omega), if_pos rfl, if_pos hput]
    by_cases c : checkP t l = 0
    · have hz := checkP_size c
      have : s.size = sizeP l := by rw [← hput, putP_size]
      rw [if_neg (show ¬ 16384 < s.size by omega)]
    · rw [if_neg c]
      split <;> rfl
  · have e1 : readLoopP s t (bt s 9).toNat 10 [] = badP := by
      rcases of_read s t (bt s 9).toNat 10 [] (by omega) with h | h
      · exact h
      · exact absurd h hA
    have e2 : refLoopP s t (bt s 9).toNat 10 [] = badP := by
      rcases of_ref s t (bt s 9).toNat 10 [] with h | ⟨l, hc, hp⟩
      · exact h
      · obtain ⟨_, _, h9, hf, _, hsm, _⟩ := of_putP hc hp
        exact absurd ⟨l, h9.symm, hsm, hf⟩ hA
    rw [e1, e2]
    by_cases c2 : 16384 < s.size
    · rw [if_pos c2]
    · rw [if_neg c2]
def readP (s : ByteArray) : RdV :=
  if s.size < 9 then badP else if s.size = 9 then if bt s 0 = 77 ∧ 0 ≤ wrap64 (be (bytesOf (s.extract 1 9))) ∧ wrap64 (be (bytesOf (s.extract 1 9))) ≤ 1152921504606846976 then (0, [], wrap64 (be (bytesOf (s.extract 1 9))), 0) else badP
  else if bt s 0 ≠ 66 then badP else batchP s
theorem Read_ev (s : ByteArray) : Ev (fun k => batch_Read.f k s) (readP s) := by
  unfold batch_Read.f readP
  obtain ⟨t, ht⟩ : ∃ t, wrap64 (be (bytesOf (s.extract 1 9))) = t := ⟨_, rfl⟩
  simp only [ht]
  by_cases c1 : s.size < 9
  · simp only [if_pos c1]; exact Ev.const _
  simp only [if_neg c1]
  by_cases c9 : s.size = 9
  · simp only [if_pos c9, if_neg (show ¬ 16384 < s.size by omega)]
    by_cases c2 : bt s 0 = 77 ∧ 0 ≤ t ∧ t ≤ 1152921504606846976
    · simp only [if_pos c2, if_pos (show bt s 0 = 77 ∧ s.size = 9 ∧ 0 ≤ t ∧ t ≤ 1152921504606846976 from ⟨c2.1, c9, c2.2⟩)]; exact Ev.const _
    · simp only [if_neg c2, if_neg (show ¬ (bt s 0 = 77 ∧ s.size = 9 ∧ 0 ≤ t ∧ t ≤ 1152921504606846976) from fun h => c2 ⟨h.1, h.2.2⟩), if_pos (show bt s 0 ≠ 66 ∨ s.size = 9 from Or.inr c9)]; exact Ev.const _
  · simp only [if_neg c9, if_neg (show ¬ (bt s 0 = 77 ∧ s.size = 9 ∧ 0 ≤ t ∧ t ≤ 1152921504606846976) from fun h => c9 h.2.1)]
    by_cases c2 : bt s 0 ≠ 66
    · simp only [if_pos c2, if_pos (show bt s 0 ≠ 66 ∨ s.size = 9 from Or.inl c2)]
      by_cases c3 : 16384 < s.size
      · simp only [if_pos c3]; exact Ev.const _
      · simp only [if_neg c3]; exact Ev.const _
    · simp only [if_neg c2, if_neg (show ¬ (bt s 0 ≠ 66 ∨ s.size = 9) from fun h => h.elim c2 c9)]
      unfold batchP
      rw [ht]
      by_cases c3 : 16384 < s.size
      · simp only [if_pos c3]; exact Ev.const _
      · simp only [if_neg c3]; exact readLoop_ev s t _ _ _
theorem refRead_ev (s : ByteArray) (hs : s.size ≤ 140737488351232) : Ev (fun k => ambryref15_Read.f k s) (readP s) := by
  unfold ambryref15_Read.f readP
  have hr := fun h10 h66 => batchP_ref s h10 h66
  obtain ⟨t, ht⟩ : ∃ t, wrap64 (be (bytesOf (s.extract 1 9))) = t := ⟨_, rfl⟩
  simp only [ht] at hr ⊢
  simp only [if_neg (show ¬ 140737488351232 < s.size by omega)]
  by_cases c1 : s.size < 9
  · simp only [if_pos c1]; exact Ev.const _
  simp only [if_neg c1]
  by_cases c9 : s.size = 9
  · simp only [if_pos c9]
    by_cases c2 : bt s 0 = 77 ∧ 0 ≤ t ∧ t ≤ 1152921504606846976
    · simp only [if_pos c2]; exact Ev.const _
    · simp only [if_neg c2]; exact Ev.const _
  · simp only [if_neg c9]
    by_cases c2 : bt s 0 ≠ 66
    · simp only [if_pos c2]; exact Ev.const _
    · simp only [if_neg c2]
      rw [← hr (by omega) (by omega)]
      exact refLoop_ev s t _ _ _
end Go.Proofs.Ytehcmedeeaoebaa.PB
end
section
namespace Go.Proofs
open Go.Shelf
def Try.sortPair_ren : Go.Shelf.Ren := ⟨fun | 6 => 55 | 15 => 74 | 14 => 73 | 28 => 91 | 29 => 92 | 20 => 83 | 21 => 84 | 22 => 85 | 23 => 86 | 24 => 87 | 25 => 88 | 26 => 89 | 27 => 90 | 46 => 103 | 47 => 104 | 48 => 105 | 49 => 106 | 50 => 107 | 57 => 111 | n => n, fun | 22 => 43 | 24 => 69 | 25 => 95 | 3 => 3 | 39 => 110 | 0 => 0 | 53 => 134 | 55 => 108 | 4 => 4 | 46 => 127 | 45 => 126 | 50 => 131 | 5 => 5 | 9 => 9 | 66 => 140 | 70 => 144 | 76 => 148 | 77 => 149 | n => n, fun | n => n⟩
theorem Try.sortPair : Go.Proofs.SlLaysF0.n6 Try.prog Try.sortPair_ren := {
  mixed := by kernel_rfl
  f6 := ⟨Try.f55.name, by decide, Try.func55.trans (congrArg some (by kernel_rfl))⟩
  f14 := ⟨Try.f73.name, by decide, Try.func73.trans (congrArg some (by kernel_rfl))⟩
  f15 := Try.func74.trans (congrArg some (by kernel_rfl))
  f20 := ⟨Try.f83.name, by decide, Try.func83.trans (congrArg some (by kernel_rfl))⟩
  f21 := ⟨Try.f84.name, by decide, Try.func84.trans (congrArg some (by kernel_rfl))⟩
  f22 := ⟨Try.f85.name, by decide, Try.func85.trans (congrArg some (by kernel_rfl))⟩
  f23 := ⟨Try.f86.name, by decide, Try.func86.trans (congrArg some (by kernel_rfl))⟩
  f24 := ⟨Try.f87.name, by decide, Try.func87.trans (congrArg some (by kernel_rfl))⟩
  f25 := ⟨Try.f88.name, by decide, Try.func88.trans (congrArg some (by kernel_rfl))⟩
  f26 := ⟨Try.f89.name, by decide, Try.func89.trans (congrArg some (by kernel_rfl))⟩
  f27 := ⟨Try.f90.name, by decide, Try.func90.trans (congrArg some (by kernel_rfl))⟩
  f28 := Try.func91.trans (congrArg some (by kernel_rfl))
  f29 := Try.func92.trans (congrArg some (by kernel_rfl))
  f46 := ⟨Try.f103.name, by decide, Try.func103.trans (congrArg some (by kernel_rfl))⟩
  f47 := Try.func104.trans (congrArg some (by kernel_rfl))
  f48 := Try.func105.trans (congrArg some (by kernel_rfl))
  f49 := ⟨Try.f106.name, by decide, Try.func106.trans (congrArg some (by kernel_rfl))⟩
  f50 := ⟨Try.f107.name, by decide, Try.func107.trans (congrArg some (by kernel_rfl))⟩
  f57 := ⟨Try.f111.name, by decide, Try.func111.trans (congrArg some (by kernel_rfl))⟩
  t0 := Try.underlying0
  a0 := Try.isAgg0
  z0 := Try.sizeOf0
  v0 := Try.zeroValue0
  t3 := Try.underlying3
  a3 := Try.isAgg3
  z3 := Try.sizeOf3
  v3 := Try.zeroValue3
  t4 := Try.underlying4
  a4 := Try.isAgg4
  z4 := Try.sizeOf4
  v4 := Try.zeroValue4
  t5 := Try.underlying5
  a5 := Try.isAgg5
  z5 := Try.sizeOf5
  v5 := Try.zeroValue5
  t9 := Try.underlying9
  a9 := Try.isAgg9
  z9 := Try.sizeOf9
  v9 := Try.zeroValue9
  t22 := Try.underlying43
  a22 := Try.isAgg43
  z22 := Try.sizeOf43
  v22 := Try.zeroValue43
  t25 := Try.underlying95
  a25 := Try.isAgg95
  z25 := Try.sizeOf95
  v25 := Try.zeroValue95
  t39 := Try.underlying110
  a39 := Try.isAgg110
  z39 := Try.sizeOf110
  v39 := Try.zeroValue110
  t45 := Try.underlying126
  a45 := Try.isAgg126
  z45 := Try.sizeOf126
  v45 := Try.zeroValue126
  t46 := Try.underlying127
  a46 := Try.isAgg127
  z46 := Try.sizeOf127
  v46 := Try.zeroValue127
  t50 := Try.underlying131
  a50 := Try.isAgg131
  z50 := Try.sizeOf131
  v50 := Try.zeroValue131
  t53 := Try.underlying134
  a53 := Try.isAgg134
  z53 := Try.sizeOf134
  v53 := Try.zeroValue134
  t55 := Try.underlying108
  a55 := Try.isAgg108
  z55 := Try.sizeOf108
  v55 := Try.zeroValue108
  t66 := Try.underlying140
  a66 := Try.isAgg140
  z66 := Try.sizeOf140
  v66 := Try.zeroValue140
  t70 := Try.underlying144
  a70 := Try.isAgg144
  z70 := Try.sizeOf144
  v70 := Try.zeroValue144
  t76 := Try.underlying148
  a76 := Try.isAgg148
  z76 := Try.sizeOf148
  v76 := Try.zeroValue148
  t77 := Try.underlying149
  a77 := Try.isAgg149
  z77 := Try.sizeOf149
  v77 := Try.zeroValue149 }
def Try.sortStr_ren : Go.Shelf.Ren := ⟨fun | 190 => 60 | 125 => 74 | 258 => 77 | 128 => 91 | 129 => 92 | 302 => 94 | 303 => 95 | 304 => 96 | 305 => 97 | 306 => 98 | 307 => 99 | 308 => 100 | 309 => 101 | 310 => 102 | 333 => 108 | 329 => 104 | 330 => 105 | 334 => 109 | 335 => 110 | 336 => 75 | 344 => 112 | n => n, fun | 31 => 97 | 9 => 9 | 3 => 3 | 46 => 110 | 0 => 0 | 51 => 134 | 53 => 108 | 4 => 4 | 183 => 127 | 182 => 126 | 131 => 131 | 5 => 5 | 218 => 140 | 222 => 144 | 228 => 148 | 229 => 149 | n => n, fun | n => n⟩
theorem Try.sortStr : Go.Proofs.Lays.n190 Try.prog Try.sortStr_ren := {
  mixed := by kernel_rfl
  f125 := Try.func74.trans (congrArg some (by kernel_rfl))
  f128 := Try.func91.trans (congrArg some (by kernel_rfl))
  f129 := Try.func92.trans (congrArg some (by kernel_rfl))
  f190 := Try.func60.trans (congrArg some (by kernel_rfl))
  f258 := Try.func77.trans (congrArg some (by kernel_rfl))
  f302 := Try.func94.trans (congrArg some (by kernel_rfl))
  f303 := Try.func95.trans (congrArg some (by kernel_rfl))
  f304 := Try.func96.trans (congrArg some (by kernel_rfl))
  f305 := Try.func97.trans (congrArg some (by kernel_rfl))
  f306 := Try.func98.trans (congrArg some (by kernel_rfl))
  f307 := Try.func99.trans (congrArg some (by kernel_rfl))
  f308 := Try.func100.trans (congrArg some (by kernel_rfl))
  f309 := Try.func101.trans (congrArg some (by kernel_rfl))
  f310 := Try.func102.trans (congrArg some (by kernel_rfl))
  f329 := Try.func104.trans (congrArg some (by kernel_rfl))
  f330 := Try.func105.trans (congrArg some (by kernel_rfl))
  f333 := Try.func108.trans (congrArg some (by kernel_rfl))
  f334 := Try.func109.trans (congrArg some (by kernel_rfl))
  f335 := Try.func110.trans (congrArg some (by kernel_rfl))
  f336 := Try.func75.trans (congrArg some (by kernel_rfl))
  f344 := Try.func112.trans (congrArg some (by kernel_rfl))
  t0 := Try.underlying0
  a0 := Try.isAgg0
  z0 := Try.sizeOf0
  v0 := Try.zeroValue0
  t3 := Try.underlying3
  a3 := Try.isAgg3
  z3 := Try.sizeOf3
  v3 := Try.zeroValue3
  t4 := Try.underlying4
  a4 := Try.isAgg4
  z4 := Try.sizeOf4
  v4 := Try.zeroValue4
  t5 := Try.underlying5
  a5 := Try.isAgg5
  z5 := Try.sizeOf5
  v5 := Try.zeroValue5
  t9 := Try.underlying9
  a9 := Try.isAgg9
  z9 := Try.sizeOf9
  v9 := Try.zeroValue9
  t31 := Try.underlying97
  a31 := Try.isAgg97
  z31 := Try.sizeOf97
  v31 := Try.zeroValue97
  t46 := Try.underlying110
  a46 := Try.isAgg110
  z46 := Try.sizeOf110
  v46 := Try.zeroValue110
  t51 := Try.underlying134
  a51 := Try.isAgg134
  z51 := Try.sizeOf134
  v51 := Try.zeroValue134
  t53 := Try.underlying108
  a53 := Try.isAgg108
  z53 := Try.sizeOf108
  v53 := Try.zeroValue108
  t131 := Try.underlying131
  a131 := Try.isAgg131
  z131 := Try.sizeOf131
  v131 := Try.zeroValue131
  t182 := Try.underlying126
  a182 := Try.isAgg126
  z182 := Try.sizeOf126
  v182 := Try.zeroValue126
  t183 := Try.underlying127
  a183 := Try.isAgg127
  z183 := Try.sizeOf127
  v183 := Try.zeroValue127
  t218 := Try.underlying140
  a218 := Try.isAgg140
  z218 := Try.sizeOf140
  v218 := Try.zeroValue140
  t222 := Try.underlying144
  a222 := Try.isAgg144
  z222 := Try.sizeOf144
  v222 := Try.zeroValue144
  t228 := Try.underlying148
  a228 := Try.isAgg148
  z228 := Try.sizeOf148
  v228 := Try.zeroValue148
  t229 := Try.underlying149
  a229 := Try.isAgg149
  z229 := Try.sizeOf149
  v229 := Try.zeroValue149 }
end Go.Proofs
end
section
namespace Go.Proofs.Ytehcmedeeaoebaa.PB
open Go.RowKit Go.Proofs.YtehcmedeeaoebaaW.PrintWords Go.Proofs.YtehcmedeeaoebaaW.PrintLast Go.Proofs.YtehcmedeeaoebaaW.PrintMore
set_option linter.unusedVariables false
set_option linter.unusedSimpArgs false
def ltS (a b : ByteArray) : Bool := Op.bytesLess a.toList b.toList
def risesP : List S69 → Bool
  | a :: b :: r => ltS a.f0 b.f0 && risesP (b :: r)
  | _ => true
theorem risesP_iff (l : List S69) : risesP l = true ↔ ∀ j, (h : j + 1 < l.length) → ltS (l[j]'(by omega)).f0 l[j + 1].f0 = true := by
  induction l with
  | nil => simp [risesP]
  | cons a r ih =>
    cases r with
    | nil => simp [risesP]
    | cons b r =>
      rw [risesP, Bool.and_eq_true, ih]
      constructor
      · rintro ⟨h0, h1⟩ j h
        cases j with
        | zero => exact h0
        | succ j => exact h1 j (by simpa using h)
      · intro h
        exact ⟨h 0 (by simp), fun j hj => h (j + 1) (by simpa using hj)⟩
theorem rdT69_get (l : List S69) (i : Nat) (h : i < l.length) : rd_T69 l (i : Int) = l[i] := by
  simp [rd_T69, List.getD_eq_getElem?_getD, h]
set_option maxHeartbeats 2000000 in
set_option maxRecDepth 100000 in
theorem rises.calls (A : Option Addr) (c : Nat) (l : List S69) (w : World) (hr : Kd.C k69 w A l.length l) (hc : l.length ≤ c) :
    Calls Try.prog 48 #[.slice A l.length c] w fun e w' => e = .returned (.bool (risesP l)) ∧ Below w.heap.size w w' := by
  have hl := hr.2.1
  have HR := Aside0.mk hr
  clear hr
  go_enter Try.func48, Try.ntmps48
  go_wp2
  go_loopg [6] l.length (fun gg s6 wr => ∃ kk : Nat, kk ≤ l.length ∧ l.length - kk ≤ gg ∧ s6 = .int .i64 kk ∧ Aside0 (Below w.heap.size w wr) ∧ Aside0 (∀ j, (h : j + 1 < l.length) → j + 1 < kk → ltS (l[j]'(by omega)).f0 l[j + 1].f0 = true))
  case atStart => exact ⟨0, Nat.zero_le _, by omega, rfl, ⟨Below.refl _ w⟩, ⟨fun j _ hj => absurd hj (Nat.not_lt_zero _)⟩⟩
  case round =>
    obtain ⟨kk, hkk, hg, rfl, BW, HA⟩ := hrel
    by_cases hlt : kk < l.length
    · have hltz : (kk : Int) < (l.length : Int) := by omega
      cases kk with
      | zero =>
        go_wp2
        go_quiet (fail)
        go_wp2
        go_roundg (l.length - 1)
        case measure => omega
        case rel => exact ⟨1, by omega, by omega, by go_num, ⟨pw_below_drewN BW.out _⟩, ⟨fun j _ hj => absurd hj (by omega)⟩⟩
      | succ m =>
        obtain ⟨ad, e, h0, h1⟩ := at_T69 HR.out (m : Int) (by omega) (by omega)
        cases e
        obtain ⟨ad2, e2, g0, g1⟩ := at_T69 HR.out ((m + 1 : Nat) : Int) (by omega) hltz
        cases e2
        rw [rdT69_get l m (by omega)] at h0 h1
        rw [rdT69_get l (m + 1) hlt] at g0 g1
        simp only [Int.toNat_natCast] at h0 h1 g0 g1
        obtain ⟨q, hq⟩ : ∃ q, ltS (l[m]'(by omega)).f0 l[m + 1].f0 = q := ⟨_, rfl⟩
        have HQ := Aside0.mk hq
        unfold ltS at hq
        obtain ⟨x, hx⟩ : ∃ x, (l[m]'(by omega)).f0 = x := ⟨_, rfl⟩
        obtain ⟨y, hy⟩ : ∃ y, l[m + 1].f0 = y := ⟨_, rfl⟩
        rw [hx] at h0 hq
        rw [hy] at g0 hq
        replace h0 := (BW.out.cell (World.block_lt_of_cell? w _ h0)).trans h0
        replace g0 := (BW.out.cell (World.block_lt_of_cell? w _ g0)).trans g0
        clear hx hy h1 g1
        have p0 : (0 : Int) ≤ (m : Int) := by omega
        have p1 : (m : Int) < (l.length : Int) := by omega
        simp only [Int.natCast_add, Int.cast_ofNat_Int] at hltz ⊢
        cases q with
        | true =>
          go_wp2
          go_quiet (fail)
          go_wp2
          go_roundg (l.length - (m + 2))
          case measure => omega
          case rel =>
            refine ⟨m + 2, by omega, by omega, by go_num, ⟨pw_below_drewN BW.out _⟩, ⟨fun j h hj => ?_⟩⟩
            by_cases e : j = m
            · subst e; exact HQ.out
            · exact HA.out j h (by omega)
        | false =>
          have hno : risesP l = false := by
            rw [← Bool.not_eq_true, risesP_iff]
            intro h
            have := h m hlt
            rw [HQ.out] at this
            cases this
          go_wp2
          go_quiet (fail)
          go_wp2
          go_ret
          exact ⟨by rw [hno]; rfl, pw_below_drewN BW.out _⟩
    · have hltz : ¬ (kk : Int) < (l.length : Int) := by omega
      have hyes : risesP l = true := by
        rw [risesP_iff]
        exact fun j h => HA.out j h (by omega)
      have HY := Aside0.mk hyes
      clear hyes
      go_wp2
      go_ret
      exact ⟨by rw [HY.out]; rfl, BW.out⟩
end Go.Proofs.Ytehcmedeeaoebaa.PB
end
section
namespace Go.Proofs.Ytehcmedeeaoebaa.PB
open Go.ChangeMaps Go.MapKept Go.ChangeShapes
open Go.RowKit Go.Proofs.YtehcmedeeaoebaaW.PrintWords Go.Proofs.YtehcmedeeaoebaaW.PrintLast Go.Proofs.YtehcmedeeaoebaaW.PrintMore
set_option linter.unusedVariables false
abbrev HV (v : Value) : Option (DataW Value × List MemPlace) := some (.held v, [])
def klit (k : ByteArray) : Lit := .string k.data.toList
structure G80 where
  k : ByteArray
  v : Value
  vs : List S80
def nil80 : Value := .slice none 0 0
def hasG (G : List G80) (key : ByteArray) : Bool := G.any fun g => g.k.toList == key.toList
def valG : List G80 → ByteArray → Value
  | [], _ => nil80
  | g :: G, key => if (g.k.toList == key.toList) = true then g.v else valG G key
def rowG : List G80 → ByteArray → List S80
  | [], _ => []
  | g :: G, key => if (g.k.toList == key.toList) = true then g.vs else rowG G key
def putG : List G80 → ByteArray → Value → List S80 → List G80
  | [], key, v, vs => [⟨key, v, vs⟩]
  | g :: G, key, v, vs => if (g.k.toList == key.toList) = true then ⟨key, v, vs⟩ :: G else g :: putG G key v vs
def apartG (x y : G80) : Prop := ¬ x.k.toList = y.k.toList ∧ ∀ b, x.v.ownBlock = some b → y.v.ownBlock ≠ some b
structure Grp (w : World) (base m n : Nat) (G : List G80) : Prop where
  made : ∃ D, w.ownsMap Try.prog 9 HV m n D ∧ (∀ key : ByteArray, Maps.has D (klit key) = hasG G key) ∧ ∀ g ∈ G, D.atKey (klit g.k) (.held nil80) = .held g.v
  row : ∀ g ∈ G, Kd.R k80 80 w base (fun _ => True) g.v g.vs
  apart : G.Pairwise apartG
theorem k80_any {w : World} {base : Nat} {ok1 ok2 : Nat → Prop} {x : S80} {cs : List Value} (h : k80.M w base ok1 x cs) : k80.M w base ok2 x cs := by
  rw [k80_openM h]
  exact k80_mkM _ _ _ _
theorem klit_inj {a b : ByteArray} : klit a = klit b ↔ a.toList = b.toList := by
  unfold klit
  rw [Lib.toList_data, Lib.toList_data]
  constructor
  · intro h; injection h
  · intro h; rw [h]
theorem hasG_mem {G : List G80} {key : ByteArray} (h : hasG G key = true) : ∃ g ∈ G, g.k.toList = key.toList ∧ valG G key = g.v ∧ rowG G key = g.vs := by
  induction G with
  | nil => cases h
  | cons g G ih =>
    by_cases c : (g.k.toList == key.toList) = true
    · exact ⟨g, List.mem_cons_self, eq_of_beq c, by rw [valG, if_pos c], by rw [rowG, if_pos c]⟩
    · have : hasG G key = true := by
        unfold hasG at h ⊢
        rw [List.any_cons, Bool.or_eq_true] at h
        exact h.resolve_left c
      obtain ⟨g', h1, h2, h3, h4⟩ := ih this
      exact ⟨g', List.mem_cons_of_mem _ h1, h2, by rw [valG, if_neg c, h3], by rw [rowG, if_neg c, h4]⟩
theorem hasG_not {G : List G80} {key : ByteArray} (h : hasG G key = false) : valG G key = nil80 ∧ rowG G key = [] ∧ ∀ v vs, putG G key v vs = G ++ [⟨key, v, vs⟩] := by
  induction G with
  | nil => exact ⟨rfl, rfl, fun _ _ => rfl⟩
  | cons g G ih =>
    unfold hasG at h
    rw [List.any_cons, Bool.or_eq_false_iff] at h
    obtain ⟨h1, h2, h3⟩ := ih h.2
    exact ⟨by rw [valG, if_neg (by rw [h.1]; simp), h1], by rw [rowG, if_neg (by rw [h.1]; simp), h2], fun v vs => by rw [putG, if_neg (by rw [h.1]; simp), h3]; rfl⟩
theorem grp_made (w : World) (base : Nat) : Grp (w.alloc (.map #[] 0)) base w.heap.size 0 [] :=
  ⟨⟨.map [], World.ownsMap_made _ _ _ _, fun _ => rfl, by simp⟩, by simp, List.Pairwise.nil⟩
section
variable {w w' : World} {base m n : Nat} {G : List G80}
theorem Grp.val (h : Grp w base m n G) (key : ByteArray) : Kd.R k80 80 w base (fun _ => True) (valG G key) (rowG G key) := by
  cases c : hasG G key with
  | true =>
    obtain ⟨g, h1, _, h3, h4⟩ := hasG_mem c
    rw [h3, h4]
    exact h.row g h1
  | false =>
    obtain ⟨h1, h2, _⟩ := hasG_not c
    rw [h1, h2]
    exact Kd.R_nil _ _ _ _ _
theorem Grp.at_ (h : Grp w base m n G) (key : ByteArray) {D : DataW Value} (hh : ∀ key : ByteArray, Maps.has D (klit key) = hasG G key) (hat : ∀ g ∈ G, D.atKey (klit g.k) (.held nil80) = .held g.v) : D.atKey (klit key) (.held nil80) = .held (valG G key) := by
  cases c : hasG G key with
  | true =>
    obtain ⟨g, h1, h2, h3, _⟩ := hasG_mem c
    rw [h3, ← hat g h1, klit_inj.2 h2]
  | false =>
    rw [(hasG_not c).1]
    exact Maps.atKey_of_not_has (by rw [hh key, c]) _
theorem Grp.map_lt (h : Grp w base m n G) : m < w.heap.size := by obtain ⟨D, hD, _⟩ := h.made; exact hD.lt
theorem Grp.map_obj (h : Grp w base m n G) : ∃ es c, w.heap[m]? = some (.map es c) := by obtain ⟨D, ⟨es, c, hb, _⟩, _⟩ := h.made; exact ⟨es, c, hb⟩
theorem Grp.own_block (h : Grp w base m n G) {g : G80} (hg : g ∈ G) {b : Nat} (hb : g.v.ownBlock = some b) : ∃ cells, w.heap[b]? = some (.cells cells 80 (0, 0)) := by
  obtain ⟨inner, ho⟩ := Kd.R_own (h.row g hg)
  exact own_typed ho b hb
theorem Grp.kept (h : Grp w base m n G) {row : Option Nat} (hg : w.grownBy w' row) (h1 : some m ≠ row) (h2 : ∀ g ∈ G, ∀ b, g.v.ownBlock = some b → some b ≠ row) : Grp w' base m n G := by
  obtain ⟨D, hD, hh, hat⟩ := h.made
  refine ⟨⟨D, hD.kept hg h1, hh, hat⟩, fun g hgG => ?_, h.apart⟩
  have hr := h.row g hgG
  have := Kd.R_bound hr
  refine Kd.R_mono (Kd.R_grown (ok := fun k => some k = g.v.ownBlock) (Kd.R_flat (fun hd => k80_any hd) hr (fun k hk _ => hk.symm)) hg (fun k hk => h2 g hgG k hk.symm)) (fun _ _ => trivial)
theorem Grp.typed (h : Grp w base m n G) {r t : Nat} {cells : Array Value} (hr : w.heap[r]? = some (.cells cells t (0, 0))) (ht : t ≠ 80) {row : Option Nat} (hrow : ∀ b, row = some b → b = r) (hg : w.grownBy w' row) : Grp w' base m n G := by
  refine h.kept hg (fun e => ?_) (fun g hgG b hb e => ?_)
  · have := hrow m e.symm
    subst this
    obtain ⟨es, c, hm⟩ := h.map_obj
    rw [hm] at hr; cases hr
  · have := hrow b e.symm
    subst this
    obtain ⟨cs, hc⟩ := h.own_block hgG hb
    rw [hc] at hr
    injection hr with hr
    injection hr with _ hr
    exact ht hr.symm
theorem Grp.below (h : Grp w base m n G) (hb : Below w.heap.size w w') : Grp w' base m n G :=
  h.kept (row := none) ⟨hb.os, hb.tape, hb.output, hb.size, fun k hk _ => hb.block k hk⟩ (by simp) (by simp)
end
theorem key9 : Maps.Keyed Try.prog 9 := Maps.string_keyed Try.underlying9
theorem zero65 (w : World) : (zeroValue 65).run Try.prog w = .ok nil80 w := by kernel_rfl
theorem klit_key (key : ByteArray) (h : key.size ≤ 9223372036854775807) : keyOf Try.prog 9 (.string key) = some (klit key) := Go.WideMaps.keyOf_string_mk Try.underlying9 h
theorem klit_is (key : ByteArray) : WideAt.IsKeyLit (klit key) := trivial
theorem hasG_put (G : List G80) (key k : ByteArray) (v : Value) (vs : List S80) : hasG (putG G key v vs) k = (key.toList == k.toList || hasG G k) := by
  induction G with
  | nil => rfl
  | cons g G ih =>
    rw [putG]
    by_cases c : (g.k.toList == key.toList) = true
    · rw [if_pos c]
      unfold hasG
      rw [List.any_cons, List.any_cons, eq_of_beq c, ← Bool.or_assoc, Bool.or_self]
    · rw [if_neg c]
      unfold hasG at ih ⊢
      rw [List.any_cons, List.any_cons, ih, ← Bool.or_assoc, ← Bool.or_assoc, Bool.or_comm (g.k.toList == k.toList)]
theorem putG_mem {G : List G80} {key : ByteArray} {v : Value} {vs : List S80} {x : G80} (ha : G.Pairwise apartG) (h : x ∈ putG G key v vs) : (x = ⟨key, v, vs⟩) ∨ (x ∈ G ∧ ¬ x.k.toList = key.toList) := by
  induction G with
  | nil => exact Or.inl (List.mem_singleton.1 h)
  | cons g G ih =>
    rw [putG] at h
    by_cases c : (g.k.toList == key.toList) = true
    · rw [if_pos c] at h
      rcases List.mem_cons.1 h with h | h
      · exact Or.inl h
      · refine Or.inr ⟨List.mem_cons_of_mem _ h, fun e => ?_⟩
        exact ((List.pairwise_cons.1 ha).1 x h).1 ((eq_of_beq c).trans e.symm)
    · rw [if_neg c] at h
      rcases List.mem_cons.1 h with h | h
      · exact Or.inr ⟨by rw [h]; exact List.mem_cons_self, by rw [h]; simpa using c⟩
      · rcases ih (List.pairwise_cons.1 ha).2 h with h | ⟨h1, h2⟩
        · exact Or.inl h
        · exact Or.inr ⟨List.mem_cons_of_mem _ h1, h2⟩
theorem putG_apart {G : List G80} {key : ByteArray} {v : Value} {vs : List S80} (ha : G.Pairwise apartG) (hv : ∀ g ∈ G, ¬ g.k.toList = key.toList → ∀ b, g.v.ownBlock = some b → v.ownBlock ≠ some b) : (putG G key v vs).Pairwise apartG := by
  induction G with
  | nil => exact List.pairwise_singleton _ _
  | cons g G ih =>
    rw [putG]
    obtain ⟨h1, h2⟩ := List.pairwise_cons.1 ha
    by_cases c : (g.k.toList == key.toList) = true
    · rw [if_pos c]
      refine List.pairwise_cons.2 ⟨fun x hx => ⟨?_, fun b hb e => ?_⟩, h2⟩
      · show ¬ key.toList = x.k.toList
        rw [← eq_of_beq c]; exact (h1 x hx).1
      · refine hv x (List.mem_cons_of_mem _ hx) (fun e2 => (h1 x hx).1 ((eq_of_beq c).trans e2.symm)) b e hb
    · rw [if_neg c]
      refine List.pairwise_cons.2 ⟨fun x hx => ?_, ih h2 fun g hg => hv g (List.mem_cons_of_mem _ hg)⟩
      rcases putG_mem h2 hx with rfl | ⟨hx, _⟩
      · exact ⟨by simpa using c, fun b hb e => hv g List.mem_cons_self (by simpa using c) b hb e⟩
      · exact h1 x hx
theorem Grp.put {w w1 w2 : World} {base m n : Nat} {G : List G80} {D : DataW Value} (h : Grp w base m n G) (key : ByteArray) (v : Value) (vs : List S80) (hg1 : w.grownBy w1 (valG G key).ownBlock) (hv : Kd.R k80 80 w1 base (fun _ => True) v vs)
    (hat : v.ownBlock = (valG G key).ownBlock ∨ ∃ b, v.ownBlock = some b ∧ w.heap.size ≤ b) (h1 : w1.ownsMap Try.prog 9 HV m n D) (h2 : w2.ownsMap Try.prog 9 HV m (n + 1) (D.put (klit key) (.held v)))
    (hh : ∀ key : ByteArray, Maps.has D (klit key) = hasG G key) (hD : ∀ g ∈ G, D.atKey (klit g.k) (.held nil80) = .held g.v) (hg2 : w1.grownBy w2 (some m)) : Grp w2 base m (n + 1) (putG G key v vs) := by
  have hother : ∀ g ∈ G, ¬ g.k.toList = key.toList → ∀ b, g.v.ownBlock = some b → some b ≠ (valG G key).ownBlock := by
    intro g hg hk b hb e
    cases c : hasG G key with
    | false => rw [(hasG_not c).1] at e; cases e
    | true =>
      obtain ⟨g', h1', h2', h3', _⟩ := hasG_mem c
      rw [h3'] at e
      have : ∀ (L : List G80), L.Pairwise apartG → g ∈ L → g' ∈ L → g = g' ∨ apartG g g' ∨ apartG g' g := by
        intro L hL hgL hg'L
        induction L with
        | nil => cases hgL
        | cons a L ih =>
          obtain ⟨p1, p2⟩ := List.pairwise_cons.1 hL
          rcases List.mem_cons.1 hgL with e1 | e1 <;> rcases List.mem_cons.1 hg'L with e2 | e2
          · exact Or.inl (e1.trans e2.symm)
          · rw [e1]; exact Or.inr (Or.inl (p1 _ e2))
          · rw [e2]; exact Or.inr (Or.inr (p1 _ e1))
          · exact ih p2 e1 e2
      rcases this G h.apart hg h1' with rfl | ha | ha
      · exact hk h2'
      · exact ha.2 b hb e.symm
      · exact ha.2 b e.symm hb
  have hfar : ∀ g ∈ G, ¬ g.k.toList = key.toList → ∀ b, g.v.ownBlock = some b → v.ownBlock ≠ some b := by
    intro g hg hk b hb e
    rcases hat with hat | ⟨b', hb', hge⟩
    · exact hother g hg hk b hb (by rw [← hat, e])
    · rw [hb'] at e
      injection e with e
      obtain ⟨cs, hc⟩ := h.own_block hg hb
      have := blk_lt hc
      omega
  have hmap : ∀ (x : G80) (W : World) (b : Nat) (cells : Array Value), w1.heap[b]? = some (.cells cells 80 (0, 0)) → some b ≠ some m := by
    intro x W b cells hc e
    injection e with e
    subst e
    obtain ⟨es, cl, hm, _⟩ := h1
    rw [hm] at hc; cases hc
  refine ⟨⟨_, h2, fun k => ?_, fun g hg => ?_⟩, fun g hg => ?_, putG_apart h.apart hfar⟩
  · rw [hasG_put]
    by_cases c : key.toList = k.toList
    · rw [← klit_inj.2 c, Maps.has_put_same ⟨_, (h1.isMap).choose_spec⟩ (klit_is key), beq_iff_eq.2 c, Bool.true_or]
    · rw [Maps.has_put_other (fun e => c (klit_inj.1 e).symm), hh k, beq_eq_false_iff_ne.2 c, Bool.false_or]
  · rcases putG_mem h.apart hg with rfl | ⟨hg, hk⟩
    · exact Maps.atKey_put_same ⟨_, (h1.isMap).choose_spec⟩ (klit_is key) _ _
    · rw [Maps.atKey_put_other (fun e => hk (klit_inj.1 e))]; exact hD g hg
  · rcases putG_mem h.apart hg with rfl | ⟨hg, hk⟩
    · obtain ⟨inner, ho⟩ := Kd.R_own hv
      refine Kd.R_mono (Kd.R_grown (ok := fun k => some k = v.ownBlock) (Kd.R_flat (fun hd => k80_any hd) hv (fun k hk _ => hk.symm)) hg2 (fun k hk => ?_)) (fun _ _ => trivial)
      obtain ⟨cells, hc⟩ := own_typed ho k hk.symm
      exact hmap ⟨key, v, vs⟩ w1 k cells hc
    · have hr := h.row g hg
      have r1 : Kd.R k80 80 w1 base (fun k => some k = g.v.ownBlock) g.v g.vs := Kd.R_grown (Kd.R_flat (fun hd => k80_any hd) hr (fun k hk _ => hk.symm)) hg1 (fun k hk' => hother g hg hk k hk'.symm)
      obtain ⟨inner, ho⟩ := Kd.R_own r1
      refine Kd.R_mono (Kd.R_grown r1 hg2 (fun k hk' => ?_)) (fun _ _ => trivial)
      obtain ⟨cells, hc⟩ := own_typed ho k hk'.symm
      exact hmap g w1 k cells hc
section
variable {ops : Array Oper} {rest : List Oper} {o : Oper} {a : Act} {Q : Exit → Act → World → Prop}
theorem grp_lookup_ok {w : World} {base m n : Nat} {G : List G80} (hgd : o.guard = none) (mo xo : Operand) (ho : o.op = .lookup 96 mo xo true) (hm : a.eval mo = .map (some m)) (h : Grp w base m n G) (key : ByteArray) (hx : a.eval xo = .string key) (hk : key.size ≤ 9223372036854775807)
    (hK : wpList Try.prog ops Q rest (a.put o.dst (.tuple #[valG G key, .bool (hasG G key)])) w) : wpList Try.prog ops Q (o :: rest) a w := by
  obtain ⟨D, hD, hh, hat⟩ := h.made
  refine wpList_lookup_own_ok w hgd mo xo 96 ho 9 65 key9 Try.underlying96 HV (zero65 w) (.held nil80) [] rfl m n D hm hD _ (klit key) hx (klit_key key hk) fun v ps hv => ?_
  have e := h.at_ key hh hat
  rw [e] at hv
  have : v = valG G key := by simpa [HV] using (Prod.mk.inj (Option.some.inj hv)).1
  rw [this, hh key]
  exact hK
theorem grp_lookup {w : World} {base m n : Nat} {G : List G80} (hgd : o.guard = none) (mo xo : Operand) (ho : o.op = .lookup 96 mo xo false) (hm : a.eval mo = .map (some m)) (h : Grp w base m n G) (key : ByteArray) (hx : a.eval xo = .string key) (hk : key.size ≤ 9223372036854775807)
    (hK : wpList Try.prog ops Q rest (a.put o.dst (valG G key)) w) : wpList Try.prog ops Q (o :: rest) a w := by
  obtain ⟨D, hD, hh, hat⟩ := h.made
  obtain ⟨v, ps, hrun, hv⟩ := hD.lookup key9 Try.underlying96 (zero65 w) (zd := .held nil80) (zp := []) rfl (klit_key key hk)
  have e := h.at_ key hh hat
  rw [e] at hv
  have ev : v = valG G key := by simpa [HV] using (Prod.mk.inj (Option.some.inj hv)).1
  subst ev
  refine wpList_plain hgd fun K' hK' => ?_
  unfold Oper.wp
  simp [execOp, ho, hm, hx, hrun, Result.andThen]
  exact hK' _ _ hK
theorem grp_put {w w1 : World} {base m n : Nat} {G : List G80} (hgd : o.guard = none) (mo xo vo : Operand) (ho : o.op = .mapUpdate 96 mo xo vo) (hm : a.eval mo = .map (some m)) (h : Grp w base m n G) (key : ByteArray) (hx : a.eval xo = .string key) (hk : key.size ≤ 9223372036854775807) (v : Value) (vs : List S80) (hv : a.eval vo = v) (hn : n < 9223372036854775807) (v0 : Value) (hv0 : valG G key = v0)
    (hg1 : w.grownBy w1 v0.ownBlock) (hR : Kd.R k80 80 w1 base (fun _ => True) v vs) (hat : v.ownBlock = v0.ownBlock ∨ ∃ b, v.ownBlock = some b ∧ w.heap.size ≤ b)
    (hK : ∀ w2, Grp w2 base m (n + 1) (putG G key v vs) → w1.grownBy w2 (some m) → (∃ es c, w1.heap[m]? = some (.map es c)) → wpList Try.prog ops Q rest (a.put o.dst undef) w2) : wpList Try.prog ops Q (o :: rest) a w1 := by
  subst hv0
  obtain ⟨D, hD, hh, hatD⟩ := h.made
  have hne : some m ≠ (valG G key).ownBlock := by
    intro e
    obtain ⟨inner, hown⟩ := Kd.R_own (h.val key)
    obtain ⟨cs, hc⟩ := own_typed hown m e.symm
    obtain ⟨es, cl, hm', _⟩ := hD
    rw [hm'] at hc; cases hc
  have h1 := hD.kept hg1 hne
  exact wpList_mapUpdate_own w1 hgd mo xo vo 96 ho 9 65 key9 Try.underlying96 HV m n D hm h1 hn _ v (klit key) hx hv (klit_key key hk) (.held v) [] rfl fun w2 h2 hg2 => hK w2 (h.put key v vs hg1 hR hat h1 h2 hh hatD hg2) hg2 (by obtain ⟨es, c, hb, _⟩ := h1; exact ⟨es, c, hb⟩)
end
end Go.Proofs.Ytehcmedeeaoebaa.PB
end
section
namespace Go.Proofs.Ytehcmedeeaoebaa.PB
open Go.RowKit Go.Proofs.YtehcmedeeaoebaaW.PrintWords Go.Proofs.YtehcmedeeaoebaaW.PrintLast Go.Proofs.YtehcmedeeaoebaaW.PrintMore
open Go.Sort
set_option linter.unusedVariables false
def sortB (l : List (List UInt8)) : List (List UInt8) := l.mergeSort fun x y => decide (x ≤ y)
def sortS (xs : List ByteArray) : List ByteArray := (sortB (xs.map fun x => x.data.toList)).map fun l => ⟨l.toArray⟩
theorem sortB_length (l : List (List UInt8)) : (sortB l).length = l.length := List.length_mergeSort _
theorem sortS_length (xs : List ByteArray) : (sortS xs).length = xs.length := by unfold sortS; rw [List.length_map, sortB_length, List.length_map]
theorem encs_sortS (xs : List ByteArray) : encs Value.string (sortS xs) = (sortB (xs.map fun x => x.data.toList)).map encStr := by
  unfold sortS encs
  rw [List.map_map]
  rfl
set_option maxHeartbeats 1000000 in
theorem SortStr.calls (base : Nat) (ok : Nat → Prop) (v : Value) (xs : List ByteArray) (w : World) (hR : Kd.R Kd.string 9 w base ok v xs) (hn : xs.length < 4611686018427387904) :
    Calls Try.prog 60 #[v] w fun e w' => e = .returned (.tuple #[]) ∧ Kd.R Kd.string 9 w' base ok v (sortS xs) ∧ Below base w w' ∧ w.grownBy w' v.ownBlock := by
  have ho := Kd.own_of_R hR
  obtain ⟨hok, _⟩ := hR
  obtain ⟨hl, hor⟩ := ho
  rcases hor with ⟨rfl, h0⟩ | ⟨g, cap, cur, rfl, hb, hg, h1, h2, h3, h4⟩
  · obtain rfl : xs = [] := List.eq_nil_of_length_eq_zero h0
    refine Calls.mono (Go.Proofs.Any.slices_Sort_string_none Try.sortStr none 0 w) ?_
    rintro e w' ⟨rfl, rfl⟩
    refine ⟨rfl, ?_, Below.refl _ _, ⟨rfl, rfl, rfl, Nat.le_refl _, fun _ _ _ => rfl⟩⟩
    have : sortS [] = [] := List.eq_nil_of_length_eq_zero (sortS_length [])
    rw [this]
    exact Kd.R_nil _ _ _ _ _
  have hss : (xs.map fun x => x.data.toList).length = xs.length := List.length_map _
  have hgl := blk_lt hg
  have hH : Holds encStr w g 0 (xs.map fun x => x.data.toList).toArray := by
    intro j hj
    have hj' : j < xs.length := by simpa using hj
    refine ⟨?_, blk_frozen hg _⟩
    rw [Nat.zero_add, blk_cell hg]
    have e : cur[j]? = (cur.toList.take (xs.length * 1))[j]? := by rw [List.getElem?_take, if_pos (by omega)]; simp
    rw [e, h4, getElem!_pos _ j hj]
    simp [encs, hj']
  have hcon := Go.Proofs.Any.slices_Sort_string Try.sortStr g 0 cap (xs.map fun x => x.data.toList) w hH hgl (by rw [hss]; exact hn)
  rw [hss] at hcon
  refine Calls.mono (show Calls Try.prog 60 _ _ _ from hcon) ?_
  rintro e w' ⟨rfl, n, os, rfl⟩
  have hsl : (sortB (xs.map fun x => x.data.toList)).length = xs.length := by rw [sortB_length, hss]
  obtain ⟨ys, hys⟩ : ∃ ys, sortB (xs.map fun x => x.data.toList) = ys := ⟨_, rfl⟩
  have hys' : ((xs.map fun x => x.data.toList).mergeSort fun x y => decide (x ≤ y)) = ys := hys
  have hen : encs Value.string (sortS xs) = ys.map encStr := by rw [encs_sortS, hys]
  rw [hys']
  rw [hys] at hsl
  have hblk : (grow (putRow encStr (Go.Sort.ahead w n) g 0 ys.toArray) os).heap[g]? = some (.cells (putCells encStr 0 ys.toArray cur) 9 (0, 0)) := by
    unfold grow putRow mapBlock Go.Sort.ahead
    simp only
    rw [Array.getElem?_append_left (by simpa using hgl), Array.getElem?_modify, if_pos rfl, hg]
    rfl
  have hgrow : w.grownBy (grow (putRow encStr (Go.Sort.ahead w n) g 0 ys.toArray) os) (some g) := by
    refine ⟨rfl, rfl, rfl, by unfold grow putRow mapBlock Go.Sort.ahead; simp, fun k hk hne => ?_⟩
    unfold grow putRow mapBlock Go.Sort.ahead
    simp only
    rw [Array.getElem?_append_left (by simpa using hk), Array.getElem?_modify, if_neg (fun e => hne (by rw [e]))]
  refine ⟨rfl, Kd.R_of_own ⟨?_, Or.inr ⟨g, cap, _, by rw [sortS_length], hb, hblk, by rw [sortS_length]; exact h1, h2, by simp [putCells, h3], ?_⟩⟩ hok, ⟨hgrow.os, hgrow.tape, hgrow.output, Nat.le_trans (by omega) hgrow.size, fun k hk => hgrow.block k (by omega) (fun e => by injection e with e; omega)⟩, hgrow⟩
  · rw [hen, List.length_map, hsl, sortS_length, Nat.mul_one]
  · rw [hen, sortS_length, Nat.mul_one]
    refine List.ext_getElem (by simp [putCells, h3, hsl]; omega) fun t ht1 ht2 => ?_
    have ht : t < ys.length := by simpa using ht2
    rw [List.getElem_take, Array.getElem_toList]
    simp only [putCells, Array.getElem_mapIdx, Nat.zero_le, true_and, Nat.zero_add, Nat.sub_zero]
    rw [if_pos (by simpa using ht), getElem!_pos ys.toArray t (by simpa using ht)]
    simp
end Go.Proofs.Ytehcmedeeaoebaa.PB
end
section
namespace Go.Proofs.Ytehcmedeeaoebaa.PB
open Go.RowKit Go.Proofs.YtehcmedeeaoebaaW.PrintWords Go.Proofs.YtehcmedeeaoebaaW.PrintLast Go.Proofs.YtehcmedeeaoebaaW.PrintMore
attribute [local go_sem] max2_int min2_int max_two min_two max_three min_three max_four min_four
set_option linter.unusedVariables false
set_option linter.unusedSimpArgs false
def chain_right.f (a0_0 : Int) (a0_1 : ByteArray) (a0_2 : Bool) : Option (Bool) := if a0_0 ≥ 1 then (if a0_0 ≤ 1152921504606846976 then (if (a0_1.size : Int) ≤ 200 then (if a0_2 = true then (some (a0_1.toList == ([] : List UInt8))) else (some true)) else (some false)) else (some false)) else (some false)
set_option maxHeartbeats 8000000 in
set_option maxRecDepth 100000 in
theorem chain_right.calls (a0_0 : Int) (a0_1 : ByteArray) (a0_2 : Bool) (r : Bool) (w : World) (h : chain_right.f a0_0 a0_1 a0_2 = some r) :
    Calls Try.prog 81 #[.agg #[.int .i64 a0_0, .string a0_1, .bool a0_2]] w fun e w' => e = .returned (.bool r) ∧ Below w.heap.size w w' := by
  have hu80 := Try.underlying80
  have HB := Aside0.mk (Below.refl w.heap.size w)
  have H : (if a0_0 ≥ 1 then (if a0_0 ≤ 1152921504606846976 then (if (a0_1.size : Int) ≤ 200 then (if a0_2 = true then (some (a0_1.toList == ([] : List UInt8))) else (some true)) else (some false)) else (some false)) else (some false)) = some r := h
  clear h
  by_cases c2 : a0_0 ≥ 1
  · rw [if_pos c2] at H
    have c2b0 : decide (1 ≤ a0_0) = true := decide_eq_true c2
    clear c2
    by_cases c3 : a0_0 ≤ 1152921504606846976
    · rw [if_pos c3] at H
      have c3b0 : decide (a0_0 ≤ 1152921504606846976) = true := decide_eq_true c3
      clear c3
      by_cases c4 : (a0_1.size : Int) ≤ 200
      · rw [if_pos c4] at H
        have c4b0 : decide ((a0_1.size : Int) ≤ 200) = true := decide_eq_true c4
        have c4b1 : decide (a0_1.size ≤ 200) = true := decide_eq_true (by omega)
        clear c4
        by_cases c5 : a0_2 = true
        · subst c5
          have H1 : (some (a0_1.toList == ([] : List UInt8))) = some r := by rw [if_pos rfl] at H; exact H
          clear H
          have H := H1
          clear H1
          obtain rfl := Option.some.inj H
          go_enter Try.func81, Try.ntmps81
          go_wp2_with (first | ((with_reducible refine gate_dst (N := 1) rfl ?_); (try (refine gate_guard (by rfl) ?_; dsimp only)); refine box_event ?hg (N := 1) ?hd (cs := #[.int .i64 a0_0, .string a0_1, .bool true]) (t := 80) ?hr ?_; (case hd => rfl); (case hg => rfl); (case hr => first | (go_simp; done) | (go_simp; rfl)); intro gb167 hg w6 hbox hb; have n0_ := Aside0.mk (below_step (by repeat (first | (with_reducible first | exact HB.out | apply below_alloc | apply pw_below_drewN | apply below_drew1) | exact HB.out)) hb); have n1_ := Aside0.mk (hbox); have n2_ := Aside0.mk ((by rw [hg]; exact (below_size (by repeat (first | (with_reducible first | exact HB.out | apply below_alloc | apply pw_below_drewN | apply below_drew1) | exact HB.out))) : w.heap.size ≤ gb167)); have n3_ := Aside0.mk ((by rw [hg]; exact (below_size (by repeat (first | (with_reducible first | exact HB.out | apply below_alloc | apply pw_below_drewN | apply below_drew1) | exact HB.out))) : w.heap.size ≤ gb167)); clear HB; have HB := n0_; have BK167 := n1_; have GW167 := n2_; have GE167 := n3_; clear n0_ n1_ n2_ n3_; clear hb hbox hg; have hcz7_0 : w6.cell? ⟨gb167, 0, none⟩ = some (.int .i64 a0_0) := (blk_cell BK167.out 0).trans rfl; have hcz7_1 : w6.cell? ⟨gb167, 1, none⟩ = some (.string a0_1) := (blk_cell BK167.out 1).trans rfl; have hcz7_2 : w6.cell? ⟨gb167, 2, none⟩ = some (.bool true) := (blk_cell BK167.out 2).trans rfl; have hfz7_0 := blk_frozen BK167.out 0; have hfz7_1 := blk_frozen BK167.out 1; have hfz7_2 := blk_frozen BK167.out 2))
          go_ret
          exact ⟨by first | rfl | (simp [errW_none, errW_some] <;> rfl) | (simp [*, errW_none, errW_some] <;> rfl), by repeat (first | (with_reducible first | exact HB.out | apply below_alloc | apply pw_below_drewN | apply below_drew1 | refine below_set ?_ GE167.out) | exact HB.out)⟩
        · replace c5 := Bool.eq_false_iff.mpr c5
          subst c5
          have H1 : (some true) = some r := by rw [if_neg (show ¬ (false = true) by decide)] at H; exact H
          clear H
          have H := H1
          clear H1
          obtain rfl := Option.some.inj H
          go_enter Try.func81, Try.ntmps81
          go_wp2_with (first | ((with_reducible refine gate_dst (N := 1) rfl ?_); (try (refine gate_guard (by rfl) ?_; dsimp only)); refine box_event ?hg (N := 1) ?hd (cs := #[.int .i64 a0_0, .string a0_1, .bool false]) (t := 80) ?hr ?_; (case hd => rfl); (case hg => rfl); (case hr => first | (go_simp; done) | (go_simp; rfl)); intro gb167 hg w8 hbox hb; have n0_ := Aside0.mk (below_step (by repeat (first | (with_reducible first | exact HB.out | apply below_alloc | apply pw_below_drewN | apply below_drew1) | exact HB.out)) hb); have n1_ := Aside0.mk (hbox); have n2_ := Aside0.mk ((by rw [hg]; exact (below_size (by repeat (first | (with_reducible first | exact HB.out | apply below_alloc | apply pw_below_drewN | apply below_drew1) | exact HB.out))) : w.heap.size ≤ gb167)); have n3_ := Aside0.mk ((by rw [hg]; exact (below_size (by repeat (first | (with_reducible first | exact HB.out | apply below_alloc | apply pw_below_drewN | apply below_drew1) | exact HB.out))) : w.heap.size ≤ gb167)); clear HB; have HB := n0_; have BK167 := n1_; have GW167 := n2_; have GE167 := n3_; clear n0_ n1_ n2_ n3_; clear hb hbox hg; have hcz9_0 : w8.cell? ⟨gb167, 0, none⟩ = some (.int .i64 a0_0) := (blk_cell BK167.out 0).trans rfl; have hcz9_1 : w8.cell? ⟨gb167, 1, none⟩ = some (.string a0_1) := (blk_cell BK167.out 1).trans rfl; have hcz9_2 : w8.cell? ⟨gb167, 2, none⟩ = some (.bool false) := (blk_cell BK167.out 2).trans rfl; have hfz9_0 := blk_frozen BK167.out 0; have hfz9_1 := blk_frozen BK167.out 1; have hfz9_2 := blk_frozen BK167.out 2))
          go_ret
          exact ⟨by first | rfl | (simp [errW_none, errW_some] <;> rfl) | (simp [*, errW_none, errW_some] <;> rfl), by repeat (first | (with_reducible first | exact HB.out | apply below_alloc | apply pw_below_drewN | apply below_drew1 | refine below_set ?_ GE167.out) | exact HB.out)⟩
      · rw [if_neg c4] at H
        have c4b0 : decide ((a0_1.size : Int) ≤ 200) = false := decide_eq_false c4
        have c4b1 : decide (a0_1.size ≤ 200) = false := decide_eq_false (by omega)
        clear c4
        obtain rfl := Option.some.inj H
        go_enter Try.func81, Try.ntmps81
        go_wp2_with (first | ((with_reducible refine gate_dst (N := 1) rfl ?_); (try (refine gate_guard (by rfl) ?_; dsimp only)); refine box_event ?hg (N := 1) ?hd (cs := #[.int .i64 a0_0, .string a0_1, .bool a0_2]) (t := 80) ?hr ?_; (case hd => rfl); (case hg => rfl); (case hr => first | (go_simp; done) | (go_simp; rfl)); intro gb167 hg w10 hbox hb; have n0_ := Aside0.mk (below_step (by repeat (first | (with_reducible first | exact HB.out | apply below_alloc | apply pw_below_drewN | apply below_drew1) | exact HB.out)) hb); have n1_ := Aside0.mk (hbox); have n2_ := Aside0.mk ((by rw [hg]; exact (below_size (by repeat (first | (with_reducible first | exact HB.out | apply below_alloc | apply pw_below_drewN | apply below_drew1) | exact HB.out))) : w.heap.size ≤ gb167)); have n3_ := Aside0.mk ((by rw [hg]; exact (below_size (by repeat (first | (with_reducible first | exact HB.out | apply below_alloc | apply pw_below_drewN | apply below_drew1) | exact HB.out))) : w.heap.size ≤ gb167)); clear HB; have HB := n0_; have BK167 := n1_; have GW167 := n2_; have GE167 := n3_; clear n0_ n1_ n2_ n3_; clear hb hbox hg; have hcz11_0 : w10.cell? ⟨gb167, 0, none⟩ = some (.int .i64 a0_0) := (blk_cell BK167.out 0).trans rfl; have hcz11_1 : w10.cell? ⟨gb167, 1, none⟩ = some (.string a0_1) := (blk_cell BK167.out 1).trans rfl; have hcz11_2 : w10.cell? ⟨gb167, 2, none⟩ = some (.bool a0_2) := (blk_cell BK167.out 2).trans rfl; have hfz11_0 := blk_frozen BK167.out 0; have hfz11_1 := blk_frozen BK167.out 1; have hfz11_2 := blk_frozen BK167.out 2))
        go_ret
        exact ⟨by first | rfl | (simp [errW_none, errW_some] <;> rfl) | (simp [*, errW_none, errW_some] <;> rfl), by repeat (first | (with_reducible first | exact HB.out | apply below_alloc | apply pw_below_drewN | apply below_drew1 | refine below_set ?_ GE167.out) | exact HB.out)⟩
    · rw [if_neg c3] at H
      have c3b0 : decide (a0_0 ≤ 1152921504606846976) = false := decide_eq_false c3
      clear c3
      obtain rfl := Option.some.inj H
      go_enter Try.func81, Try.ntmps81
      go_wp2_with (first | ((with_reducible refine gate_dst (N := 1) rfl ?_); (try (refine gate_guard (by rfl) ?_; dsimp only)); refine box_event ?hg (N := 1) ?hd (cs := #[.int .i64 a0_0, .string a0_1, .bool a0_2]) (t := 80) ?hr ?_; (case hd => rfl); (case hg => rfl); (case hr => first | (go_simp; done) | (go_simp; rfl)); intro gb167 hg w12 hbox hb; have n0_ := Aside0.mk (below_step (by repeat (first | (with_reducible first | exact HB.out | apply below_alloc | apply pw_below_drewN | apply below_drew1) | exact HB.out)) hb); have n1_ := Aside0.mk (hbox); have n2_ := Aside0.mk ((by rw [hg]; exact (below_size (by repeat (first | (with_reducible first | exact HB.out | apply below_alloc | apply pw_below_drewN | apply below_drew1) | exact HB.out))) : w.heap.size ≤ gb167)); have n3_ := Aside0.mk ((by rw [hg]; exact (below_size (by repeat (first | (with_reducible first | exact HB.out | apply below_alloc | apply pw_below_drewN | apply below_drew1) | exact HB.out))) : w.heap.size ≤ gb167)); clear HB; have HB := n0_; have BK167 := n1_; have GW167 := n2_; have GE167 := n3_; clear n0_ n1_ n2_ n3_; clear hb hbox hg; have hcz13_0 : w12.cell? ⟨gb167, 0, none⟩ = some (.int .i64 a0_0) := (blk_cell BK167.out 0).trans rfl; have hcz13_1 : w12.cell? ⟨gb167, 1, none⟩ = some (.string a0_1) := (blk_cell BK167.out 1).trans rfl; have hcz13_2 : w12.cell? ⟨gb167, 2, none⟩ = some (.bool a0_2) := (blk_cell BK167.out 2).trans rfl; have hfz13_0 := blk_frozen BK167.out 0; have hfz13_1 := blk_frozen BK167.out 1; have hfz13_2 := blk_frozen BK167.out 2))
      go_ret
      exact ⟨by first | rfl | (simp [errW_none, errW_some] <;> rfl) | (simp [*, errW_none, errW_some] <;> rfl), by repeat (first | (with_reducible first | exact HB.out | apply below_alloc | apply pw_below_drewN | apply below_drew1 | refine below_set ?_ GE167.out) | exact HB.out)⟩
  · rw [if_neg c2] at H
    have c2b0 : decide (1 ≤ a0_0) = false := decide_eq_false c2
    clear c2
    obtain rfl := Option.some.inj H
    go_enter Try.func81, Try.ntmps81
    go_wp2_with (first | ((with_reducible refine gate_dst (N := 1) rfl ?_); (try (refine gate_guard (by rfl) ?_; dsimp only)); refine box_event ?hg (N := 1) ?hd (cs := #[.int .i64 a0_0, .string a0_1, .bool a0_2]) (t := 80) ?hr ?_; (case hd => rfl); (case hg => rfl); (case hr => first | (go_simp; done) | (go_simp; rfl)); intro gb167 hg w14 hbox hb; have n0_ := Aside0.mk (below_step (by repeat (first | (with_reducible first | exact HB.out | apply below_alloc | apply pw_below_drewN | apply below_drew1) | exact HB.out)) hb); have n1_ := Aside0.mk (hbox); have n2_ := Aside0.mk ((by rw [hg]; exact (below_size (by repeat (first | (with_reducible first | exact HB.out | apply below_alloc | apply pw_below_drewN | apply below_drew1) | exact HB.out))) : w.heap.size ≤ gb167)); have n3_ := Aside0.mk ((by rw [hg]; exact (below_size (by repeat (first | (with_reducible first | exact HB.out | apply below_alloc | apply pw_below_drewN | apply below_drew1) | exact HB.out))) : w.heap.size ≤ gb167)); clear HB; have HB := n0_; have BK167 := n1_; have GW167 := n2_; have GE167 := n3_; clear n0_ n1_ n2_ n3_; clear hb hbox hg; have hcz15_0 : w14.cell? ⟨gb167, 0, none⟩ = some (.int .i64 a0_0) := (blk_cell BK167.out 0).trans rfl; have hcz15_1 : w14.cell? ⟨gb167, 1, none⟩ = some (.string a0_1) := (blk_cell BK167.out 1).trans rfl; have hcz15_2 : w14.cell? ⟨gb167, 2, none⟩ = some (.bool a0_2) := (blk_cell BK167.out 2).trans rfl; have hfz15_0 := blk_frozen BK167.out 0; have hfz15_1 := blk_frozen BK167.out 1; have hfz15_2 := blk_frozen BK167.out 2))
    go_ret
    exact ⟨by first | rfl | (simp [errW_none, errW_some] <;> rfl) | (simp [*, errW_none, errW_some] <;> rfl), by repeat (first | (with_reducible first | exact HB.out | apply below_alloc | apply pw_below_drewN | apply below_drew1 | refine below_set ?_ GE167.out) | exact HB.out)⟩
end Go.Proofs.Ytehcmedeeaoebaa.PB
end
section
namespace Go.Proofs.Ytehcmedeeaoebaa.PB
open Go.RowKit Go.Proofs.YtehcmedeeaoebaaW.PrintWords Go.Proofs.YtehcmedeeaoebaaW.PrintLast Go.Proofs.YtehcmedeeaoebaaW.PrintMore
attribute [local go_sem] max2_int min2_int max_two min_two max_three min_three max_four min_four
set_option linter.unusedVariables false
set_option linter.unusedSimpArgs false
def chain_Check.l0 : Nat → List (S80) → List (S80) → Int → Int → Option (Int)
  | 0, _, _, _, _ => none
  | k + 1, x0, x5, x6, x7 => if x7 < x6 then (if 0 ≤ x7 then (if x7 < (x5.length : Int) then ((chain_right.f ((rd_T80 x5 x7).f0) ((rd_T80 x5 x7).f1) ((rd_T80 x5 x7).f2)).bind fun t170 => (if t170 = true then (if x7 > 0 then (if 0 ≤ (wrap64 (x7 - 1)) then (if (wrap64 (x7 - 1)) < (x0.length : Int) then (if ((rd_T80 x5 x7).f0) ≥ ((rd_T80 x0 (wrap64 (x7 - 1))).f0) then (some 4) else (chain_Check.l0 k x0 x5 x6 (wrap64 (x7 + 1)))) else (none)) else (none)) else (chain_Check.l0 k x0 x5 x6 (wrap64 (x7 + 1)))) else (some 4))) else (none)) else (none)) else (some 0)
def chain_Check.f (k : Nat) (l0 : List (S80)) : Option (Int) := chain_Check.l0 k l0 l0 (l0.length : Int) 0
theorem chain_Check.mono_l : ∀ k, (∀ y0 y1 y2 y3, LeO (chain_Check.l0 k y0 y1 y2 y3) (chain_Check.l0 (k + 1) y0 y1 y2 y3))
  | 0 => fun _ _ _ _ r h => by simp [chain_Check.l0] at h
  | k + 1 => by
    have ih0 := chain_Check.mono_l k
    · intro y0 y1 y2 y3
      unfold chain_Check.l0
      repeat' first
      | (with_reducible exact ih0 _ _ _ _)
      | (with_reducible exact LeO.refl _)
      | (with_reducible exact LeO.none _)
      | (with_reducible refine LeO.ite ?_ ?_)
      | (with_reducible refine LeO.bind ?_ (fun _ => ?_))
      | exact ih0 _ _ _ _
      | exact LeO.none _
      | refine LeO.ite ?_ ?_
      | refine LeO.bind ?_ (fun _ => ?_)
theorem chain_Check.mono : ∀ a0 k, LeO (chain_Check.f k a0) (chain_Check.f (k + 1) a0) := by
  intro a0 k
  have ih0 := chain_Check.mono_l k
  unfold chain_Check.f
  repeat' first
      | (with_reducible exact ih0 _ _ _ _)
      | (with_reducible exact LeO.refl _)
      | (with_reducible exact LeO.none _)
      | (with_reducible refine LeO.ite ?_ ?_)
      | (with_reducible refine LeO.bind ?_ (fun _ => ?_))
      | exact ih0 _ _ _ _
      | exact LeO.none _
      | refine LeO.ite ?_ ?_
      | refine LeO.bind ?_ (fun _ => ?_)
def chain_Check.T4 : Bool × List (List Nat × List Nat) := (true, [([], []), ([0], [0]), ([1], [1]), ([2, 1], [2]), ([3], [3]), ([4, 3], [3, 4]), ([5, 3, 3], [3, 5]), ([6], [6]), ([7, 6], [6, 7]), ([6], [6]), ([6], [6]), ([10, 6], [6, 10]), ([9, 11, 6], [6, 9, 11]), ([12, 6], [6, 12]), ([13, 6], [6, 13]), ([8, 14, 6], [6, 8, 14]), ([6, 15, 3], [3, 6, 15]), ([3, 16], [3, 16])])
def chain_Check.B4 : List Nat := [0, 1, 3, 7, 15, 31, 63, 127, 255, 127, 127, 1151, 3711, 7807, 15999, 32767, 65535, 131071]
theorem chain_Check.tab4 : rtab .any (opsOf Try.f71 4) = chain_Check.T4 := by kernel_rfl
theorem chain_Check.bits4 : waitsOk chain_Check.T4.2 chain_Check.B4 = true := by kernel_rfl
set_option maxHeartbeats 8000000 in
set_option maxRecDepth 100000 in
theorem chain_Check.calls (k : Nat) (A0 : Option Addr) (c0 : Nat) (l0 : List (S80)) (r : Int) (w : World) (hr0 : Kd.C k80 w A0 l0.length l0) (hc0 : l0.length ≤ c0) (h : chain_Check.f k l0 = some r) :
    Calls Try.prog 71 #[.slice A0 l0.length c0] w fun e w' => e = .returned (.int .i64 r) ∧ Below w.heap.size w w' := by
  have hu80 := Try.underlying80
  have HR0 := Aside0.mk hr0
  have HC0 := Aside0.mk hc0
  clear hr0 hc0
  have HB := Aside0.mk (Below.refl w.heap.size w)
  have H : (chain_Check.l0 k l0 l0 (l0.length : Int) 0) = some r := h
  clear h
  have H' := Aside0.mk H
  clear H
  go_enter Try.func71, Try.ntmps71
  go_wp2
  go_loopg [7] k (fun kq v7 w' => ∃ (x7_1 : Int), v7 = .int .i64 x7_1 ∧ Aside0 (chain_Check.l0 kq l0 l0 (l0.length : Int) x7_1 = some r) ∧ Aside0 (kq ≤ k) ∧ Aside0 (Below w.heap.size w w'))
  case atStart => exact ⟨(0), (by first | rfl | (simp; done) | (simp [*]; done)), H', ⟨Nat.le_refl _⟩, ⟨by repeat (first | (with_reducible first | exact HB.out | apply below_alloc | apply pw_below_drewN | apply below_drew1) | exact HB.out)⟩⟩
  case round =>
    clear H'
    obtain ⟨x7_1, rfl, HA, HK1, HB⟩ := hrel
    cases gk with
    | zero => exact absurd HA.out (by simp [chain_Check.l0])
    | succ k1 =>
      have H := HA.out
      clear HA
      simp only [chain_Check.l0] at H
      by_cases c2 : x7_1 < (l0.length : Int)
      · rw [if_pos c2] at H
        have c2b0 : decide (x7_1 < (l0.length : Int)) = true := decide_eq_true c2
        clear c2
        by_cases c3 : 0 ≤ x7_1
        · rw [if_pos c3] at H
          have c3b0 : decide (0 ≤ x7_1) = true := decide_eq_true c3
          clear c3
          by_cases c4 : x7_1 < (l0.length : Int)
          · rw [if_pos c4] at H
            have c4b0 : decide (x7_1 < (l0.length : Int)) = true := decide_eq_true c4
            clear c4
            replace H := Option.bind_eq_some_iff.mp H
            obtain ⟨t170, A50, H⟩ := H
            replace H : (if t170 = true then (if x7_1 > 0 then (if 0 ≤ (wrap64 (x7_1 - 1)) then (if (wrap64 (x7_1 - 1)) < (l0.length : Int) then (if ((rd_T80 l0 x7_1).f0) ≥ ((rd_T80 l0 (wrap64 (x7_1 - 1))).f0) then (some 4) else (chain_Check.l0 k1 l0 l0 (l0.length : Int) (wrap64 (x7_1 + 1)))) else (none)) else (none)) else (chain_Check.l0 k1 l0 l0 (l0.length : Int) (wrap64 (x7_1 + 1)))) else (some 4)) = some r := H
            have A5 := Aside0.mk A50
            clear A50
            by_cases c6 : t170 = true
            · subst c6
              have H1 : (if x7_1 > 0 then (if 0 ≤ (wrap64 (x7_1 - 1)) then (if (wrap64 (x7_1 - 1)) < (l0.length : Int) then (if ((rd_T80 l0 x7_1).f0) ≥ ((rd_T80 l0 (wrap64 (x7_1 - 1))).f0) then (some 4) else (chain_Check.l0 k1 l0 l0 (l0.length : Int) (wrap64 (x7_1 + 1)))) else (none)) else (none)) else (chain_Check.l0 k1 l0 l0 (l0.length : Int) (wrap64 (x7_1 + 1)))) = some r := by rw [if_pos rfl] at H; exact H
              clear H
              have H := H1
              clear H1
              by_cases c7 : x7_1 > 0
              · rw [if_pos c7] at H
                have c7b0 : decide (0 < x7_1) = true := decide_eq_true c7
                clear c7
                obtain ⟨ji8, hji8⟩ : ∃ j_ : Int, (wrap64 (x7_1 - 1)) = j_ := ⟨_, rfl⟩
                replace H : (if 0 ≤ (ji8) then (if (ji8) < (l0.length : Int) then (if ((rd_T80 l0 x7_1).f0) ≥ ((rd_T80 l0 (ji8)).f0) then (some 4) else (chain_Check.l0 k1 l0 l0 (l0.length : Int) (wrap64 (x7_1 + 1)))) else (none)) else (none)) = some r := by first | (rw [hji8] at H; exact H) | (simp only [hji8] at H ⊢; exact H)
                (try rw [hji8] at A5)
                have hji8w : (IntKind.i64.wrap (x7_1 - 1)) = ji8 := (i64_w _).trans hji8
                by_cases c9 : 0 ≤ (ji8)
                · rw [if_pos c9] at H
                  have c9b0 : decide (0 ≤ (ji8)) = true := decide_eq_true c9
                  clear c9
                  by_cases c10 : (ji8) < (l0.length : Int)
                  · rw [if_pos c10] at H
                    have c10b0 : decide ((ji8) < (l0.length : Int)) = true := decide_eq_true c10
                    clear c10
                    by_cases c11 : ((rd_T80 l0 x7_1).f0) ≥ ((rd_T80 l0 (ji8)).f0)
                    · rw [if_pos c11] at H
                      have c11b0 : decide (((rd_T80 l0 (ji8)).f0) ≤ ((rd_T80 l0 x7_1).f0)) = true := decide_eq_true c11
                      clear c11
                      obtain rfl := Option.some.inj H
                      have p168 : 0 ≤ (x7_1 : Int) := of_decide_eq_true (by first | (with_reducible assumption) | assumption)
                      have q168 : x7_1 < (l0.length : Int) := of_decide_eq_true (by first | (with_reducible assumption) | assumption)
                      obtain ⟨ad168, e168, hx168_0, hx168_1, hx168_2⟩ := at_T80 HR0.out x7_1 p168 q168
                      cases e168
                      replace hx168_0 := (HB.out.cell (World.block_lt_of_cell? w _ hx168_0)).trans hx168_0
                      replace hx168_1 := (HB.out.cell (World.block_lt_of_cell? w _ hx168_1)).trans hx168_1
                      replace hx168_2 := (HB.out.cell (World.block_lt_of_cell? w _ hx168_2)).trans hx168_2
                      replace p168 := eq_true p168
                      replace q168 := eq_true q168
                      try go_wp2_with (first | ((with_reducible refine gate_dst (N := 4) rfl ?_); refine box_event ?hg (N := 4) ?hd (cs := #[.int .i64 0, .string (⟨#[]⟩ : ByteArray), .bool false]) (t := 80) ?hr ?_; (case hd => rfl); (case hg => rfl); (case hr => first | (go_simp; done) | (go_simp; rfl)); intro gb169 hg w12 hbox hb; have n0_ := Aside0.mk (below_step (by repeat (first | (with_reducible first | exact HB.out | apply below_alloc | apply pw_below_drewN | apply below_drew1) | exact HB.out)) hb); have n1_ := Aside0.mk (hbox); have n2_ := Aside0.mk ((by rw [hg]; exact (below_size (by repeat (first | (with_reducible first | exact HB.out | apply below_alloc | apply pw_below_drewN | apply below_drew1) | exact HB.out))) : w.heap.size ≤ gb169)); have n3_ := Aside0.mk ((by rw [hg]; exact (below_size (by repeat (first | (with_reducible first | exact HB.out | apply below_alloc | apply pw_below_drewN | apply below_drew1) | exact HB.out))) : w.heap.size ≤ gb169)); clear HB; have HB := n0_; have BK169 := n1_; have GW169 := n2_; have GE169 := n3_; clear n0_ n1_ n2_ n3_; clear hb hbox hg; have hcz13_0 : w12.cell? ⟨gb169, 0, none⟩ = some (.int .i64 0) := (blk_cell BK169.out 0).trans rfl; have hcz13_1 : w12.cell? ⟨gb169, 1, none⟩ = some (.string (⟨#[]⟩ : ByteArray)) := (blk_cell BK169.out 1).trans rfl; have hcz13_2 : w12.cell? ⟨gb169, 2, none⟩ = some (.bool false) := (blk_cell BK169.out 2).trans rfl; have hfz13_0 := blk_frozen BK169.out 0; have hfz13_1 := blk_frozen BK169.out 1; have hfz13_2 := blk_frozen BK169.out 2))
                      have n0_ : Aside0 ((((w12.setCell ⟨gb169, 0, none⟩ (.int .i64 ((rd_T80 l0 x7_1).f0))).setCell ⟨gb169, 1, none⟩ (.string ((rd_T80 l0 x7_1).f1))).setCell ⟨gb169, 2, none⟩ (.bool ((rd_T80 l0 x7_1).f2))).heap[gb169]? = some (.cells #[.int .i64 ((rd_T80 l0 x7_1).f0), .string ((rd_T80 l0 x7_1).f1), .bool ((rd_T80 l0 x7_1).f2)] 80 (0, 0))) := ⟨by (with_reducible repeat (first | refine blk_drewN ?_ _ | refine blk_drew ?_ | refine blk_alloc ?_ _)); refine blk_put (cs := #[.int .i64 ((rd_T80 l0 x7_1).f0), .string ((rd_T80 l0 x7_1).f1), .bool false]) ?_ 2 _ rfl; (with_reducible repeat (first | refine blk_drewN ?_ _ | refine blk_drew ?_ | refine blk_alloc ?_ _)); refine blk_put (cs := #[.int .i64 ((rd_T80 l0 x7_1).f0), .string (⟨#[]⟩ : ByteArray), .bool false]) ?_ 1 _ rfl; (with_reducible repeat (first | refine blk_drewN ?_ _ | refine blk_drew ?_ | refine blk_alloc ?_ _)); refine blk_put (cs := #[.int .i64 0, .string (⟨#[]⟩ : ByteArray), .bool false]) ?_ 0 _ rfl; (with_reducible repeat (first | refine blk_drewN ?_ _ | refine blk_drew ?_ | refine blk_alloc ?_ _)); exact BK169.out⟩
                      have n1_ : Aside0 (Below w.heap.size w (((w12.setCell ⟨gb169, 0, none⟩ (.int .i64 ((rd_T80 l0 x7_1).f0))).setCell ⟨gb169, 1, none⟩ (.string ((rd_T80 l0 x7_1).f1))).setCell ⟨gb169, 2, none⟩ (.bool ((rd_T80 l0 x7_1).f2)))) := ⟨by repeat (first | (with_reducible first | exact HB.out | apply below_alloc | apply pw_below_drewN | apply below_drew1 | refine below_set ?_ GE169.out) | exact HB.out)⟩
                      (try clear BK169)
                      (try clear HB)
                      generalize (((w12.setCell ⟨gb169, 0, none⟩ (.int .i64 ((rd_T80 l0 x7_1).f0))).setCell ⟨gb169, 1, none⟩ (.string ((rd_T80 l0 x7_1).f1))).setCell ⟨gb169, 2, none⟩ (.bool ((rd_T80 l0 x7_1).f2))) = w14 at n0_ n1_ ⊢
                      have BK169 := n0_
                      have HB := n1_
                      clear n0_ n1_
                      have n0_ := Aside0.mk (blk_drew BK169.out)
                      have n1_ := Aside0.mk (below_drew1 HB.out)
                      clear BK169
                      clear HB
                      have BK169 := n0_
                      have HB := n1_
                      clear n0_ n1_
                      have p171 : 0 ≤ ((ji8) : Int) := of_decide_eq_true (by first | (with_reducible assumption) | assumption)
                      have q171 : (ji8) < (l0.length : Int) := of_decide_eq_true (by first | (with_reducible assumption) | assumption)
                      obtain ⟨ad171, e171, hx171_0, hx171_1, hx171_2⟩ := at_T80 HR0.out (ji8) p171 q171
                      have hw171_2 := hx171_2
                      have hw171_1 := hx171_1
                      have hw171_0 := hx171_0
                      obtain rfl : ad168 = ad171 := (by injection e171)
                      replace hx171_0 := (HB.out.cell (World.block_lt_of_cell? w _ hx171_0)).trans hx171_0
                      replace hx171_1 := (HB.out.cell (World.block_lt_of_cell? w _ hx171_1)).trans hx171_1
                      replace hx171_2 := (HB.out.cell (World.block_lt_of_cell? w _ hx171_2)).trans hx171_2
                      replace p171 := eq_true p171
                      replace q171 := eq_true q171
                      refine start_ (n := 18) (S := fun w' => w'.cell? ⟨gb169, 0, none⟩ = some (.int .i64 ((rd_T80 l0 x7_1).f0)) ∧ w'.cell? ⟨gb169, 1, none⟩ = some (.string ((rd_T80 l0 x7_1).f1)) ∧ w'.cell? ⟨gb169, 2, none⟩ = some (.bool ((rd_T80 l0 x7_1).f2)) ∧ w'.cell? (ad168.add (((ji8)).toNat * 3)) = some (.int .i64 ((rd_T80 l0 (ji8)).f0)) ∧ w'.cell? ⟨(ad168.add (((ji8)).toNat * 3)).block, (ad168.add (((ji8)).toNat * 3)).off + 1, none⟩ = some (.string ((rd_T80 l0 (ji8)).f1)) ∧ w'.cell? ⟨(ad168.add (((ji8)).toNat * 3)).block, (ad168.add (((ji8)).toNat * 3)).off + 2, none⟩ = some (.bool ((rd_T80 l0 (ji8)).f2))) (ds := []) #[false, false, false, false, false, false, false, false, false, false, false, false, false, false, false, false, false, false] (by kernel_rfl) rfl rfl ⟨(blk_cell BK169.out 0).trans rfl, (blk_cell BK169.out 1).trans rfl, (blk_cell BK169.out 2).trans rfl, ((HB.out.cell (World.block_lt_of_cell? w _ hw171_0)).trans hw171_0), ((HB.out.cell (World.block_lt_of_cell? w _ hw171_1)).trans hw171_1), ((HB.out.cell (World.block_lt_of_cell? w _ hw171_2)).trans hw171_2)⟩ (fun hHeld => ?_); refine with_tabW chain_Check.tab4 chain_Check.bits4 (fun HT_ HW_ => ?_)
                      generalize w14.drew = w15 at BK169 HB hx171_0 hx171_1 hx171_2 hHeld ⊢
                      refine take_ (i := 0) (N := some 12) (v := ?_) (a' := ?_) #[true, false, false, false, false, false, false, false, false, false, false, false, false, false, false, false, false, false] rfl rfl (take_ofW HT_.out HW_.out (by kernel_rfl)) (fun _ _ _ h => h) (Or.inl ⟨by rfl, ?_⟩) hHeld ?_ ?_
                      rotate_left
                      · rintro w' ⟨s0, s1, s2, s3, s4, s5⟩
                        go_simp
                        with_reducible rfl
                      rotate_left
                      · simp only [Act.put, List.setIfInBounds_toArray, List.set_cons_zero, List.set_cons_succ, i64_w, i32_w]
                        rfl
                      refine one_ (i := 1) (N := some 13) #[true, true, false, false, false, false, false, false, false, false, false, false, false, false, false, false, false, false] rfl rfl (one_of HT_.out (by kernel_rfl)) (by decide) (fun K hK => ?_)
                      refine goes_ Try.func81 (by kernel_rfl) rfl #[.agg #[.int .i64 ((rd_T80 l0 x7_1).f0), .string ((rd_T80 l0 x7_1).f1), .bool ((rd_T80 l0 x7_1).f2)]] (by rfl) rfl rfl (by (try simp only [List.map_toArray, List.map_cons, List.map_nil]); first | done | rfl | (simp only [List.length_drop, List.length_take]; rfl)) ?_
                      with_reducible refine (chain_right.calls ((rd_T80 l0 x7_1).f0) ((rd_T80 l0 x7_1).f1) ((rd_T80 l0 x7_1).f2) true _ A5.out).mono ?_
                      rintro e w16 ⟨rfl, hb⟩
                      refine ⟨_, rfl, ?_⟩
                      have n0_ := Aside0.mk (blk_below (g := gb169) (o := .cells #[.int .i64 ((rd_T80 l0 x7_1).f0), .string ((rd_T80 l0 x7_1).f1), .bool ((rd_T80 l0 x7_1).f2)] 80 (0, 0)) (by (with_reducible repeat (first | refine blk_drewN ?_ _ | refine blk_drew ?_ | refine blk_alloc ?_ _)); exact BK169.out) hb)
                      have n1_ := Aside0.mk (below_step (by repeat (first | (with_reducible first | exact HB.out | apply below_alloc | apply pw_below_drewN | apply below_drew1 | refine below_set ?_ GE169.out) | exact HB.out)) hb)
                      clear BK169
                      clear HB
                      have BK169 := n0_
                      have HB := n1_
                      clear n0_ n1_
                      (try clear hb)
                      (try clear hb2)
                      (try clear hk)
                      (try clear hi)
                      refine hK.out _ _ ⟨(blk_cell BK169.out 0).trans rfl, (blk_cell BK169.out 1).trans rfl, (blk_cell BK169.out 2).trans rfl, ((HB.out.cell (World.block_lt_of_cell? w _ hw171_0)).trans hw171_0), ((HB.out.cell (World.block_lt_of_cell? w _ hw171_1)).trans hw171_1), ((HB.out.cell (World.block_lt_of_cell? w _ hw171_2)).trans hw171_2)⟩ (fun hHeld => ?_)
                      clear hK K
                      refine norm_ (a' := ?_) ?_ ?_
                      rotate_left
                      · show Act.put _ (some 13) _ = _
                        simp only [Act.put, List.setIfInBounds_toArray, List.set_cons_zero, List.set_cons_succ, i64_w, i32_w]
                        rfl
                      refine pure_ (i := 2) (N := some 14) (v := ?_) (a' := ?_) #[true, true, true, false, false, false, false, false, false, false, false, false, false, false, false, false, false, false] rfl rfl (any_of HT_.out (by kernel_rfl)) (fun _ _ _ h => h) (Or.inl ⟨by rfl, ?_⟩) ?_ ?_
                      rotate_left
                      · intro w'
                        go_simp
                        with_reducible rfl
                      rotate_left
                      · simp only [Act.put, List.setIfInBounds_toArray, List.set_cons_zero, List.set_cons_succ, i64_w, i32_w]
                        rfl
                      refine pure_ (i := 3) (N := some 15) (v := ?_) (a' := ?_) #[true, true, true, true, false, false, false, false, false, false, false, false, false, false, false, false, false, false] rfl rfl (any_of HT_.out (by kernel_rfl)) (fun _ _ _ h => h) (Or.inl ⟨by rfl, ?_⟩) ?_ ?_
                      rotate_left
                      · intro w'
                        go_simp
                        with_reducible rfl
                      rotate_left
                      · simp only [Act.put, List.setIfInBounds_toArray, List.set_cons_zero, List.set_cons_succ, i64_w, i32_w]
                        rfl
                      refine pure_ (i := 4) (N := some 16) (v := ?_) (a' := ?_) #[true, true, true, true, true, false, false, false, false, false, false, false, false, false, false, false, false, false] rfl rfl (any_of HT_.out (by kernel_rfl)) (fun _ _ _ h => h) (Or.inl ⟨by rfl, ?_⟩) ?_ ?_
                      rotate_left
                      · intro w'
                        go_simp
                        with_reducible rfl
                      rotate_left
                      · simp only [Act.put, List.setIfInBounds_toArray, List.set_cons_zero, List.set_cons_succ, i64_w, i32_w]
                        rfl
                      refine pure_ (i := 5) (N := some 17) (v := ?_) (a' := ?_) #[true, true, true, true, true, true, false, false, false, false, false, false, false, false, false, false, false, false] rfl rfl (any_of HT_.out (by kernel_rfl)) (fun _ _ _ h => h) (Or.inl ⟨by rfl, ?_⟩) ?_ ?_
                      rotate_left
                      · intro w'
                        go_simp
                        with_reducible rfl
                      rotate_left
                      · simp only [Act.put, List.setIfInBounds_toArray, List.set_cons_zero, List.set_cons_succ, i64_w, i32_w]
                        rfl
                      refine pure_ (i := 6) (N := some 18) (v := ?_) (a' := ?_) #[true, true, true, true, true, true, true, false, false, false, false, false, false, false, false, false, false, false] rfl rfl (any_of HT_.out (by kernel_rfl)) (fun _ _ _ h => h) (Or.inl ⟨by rfl, ?_⟩) ?_ ?_
                      rotate_left
                      · intro w'
                        go_simp
                        with_reducible rfl
                      rotate_left
                      · simp only [Act.put, List.setIfInBounds_toArray, List.set_cons_zero, List.set_cons_succ, i64_w, i32_w]
                        rfl
                      refine pure_ (i := 7) (N := some 19) (v := ?_) (a' := ?_) #[true, true, true, true, true, true, true, true, false, false, false, false, false, false, false, false, false, false] rfl rfl (any_of HT_.out (by kernel_rfl)) (fun _ _ _ h => h) (Or.inl ⟨by rfl, ?_⟩) ?_ ?_
                      rotate_left
                      · intro w'
                        go_simp
                        with_reducible rfl
                      rotate_left
                      · simp only [Act.put, List.setIfInBounds_toArray, List.set_cons_zero, List.set_cons_succ, i64_w, i32_w]
                        rfl
                      refine pure_ (i := 9) (N := some 21) (v := ?_) (a' := ?_) #[true, true, true, true, true, true, true, true, false, true, false, false, false, false, false, false, false, false] rfl rfl (any_of HT_.out (by kernel_rfl)) (fun _ _ _ h => h) (Or.inl ⟨by rfl, ?_⟩) ?_ ?_
                      rotate_left
                      · intro w'
                        go_simp
                        with_reducible rfl
                      rotate_left
                      · simp only [Act.put, List.setIfInBounds_toArray, List.set_cons_zero, List.set_cons_succ, i64_w, i32_w]
                        rfl
                      refine pure_ (i := 10) (N := some 22) (v := ?_) (a' := ?_) #[true, true, true, true, true, true, true, true, false, true, true, false, false, false, false, false, false, false] rfl rfl (any_of HT_.out (by kernel_rfl)) (fun _ _ _ h => h) (Or.inl ⟨by rfl, ?_⟩) ?_ ?_
                      rotate_left
                      · intro w'
                        go_simp
                        with_reducible rfl
                      rotate_left
                      · simp only [Act.put, List.setIfInBounds_toArray, List.set_cons_zero, List.set_cons_succ, i64_w, i32_w]
                        rfl
                      refine pure_ (i := 11) (N := some 23) (v := ?_) (a' := ?_) #[true, true, true, true, true, true, true, true, false, true, true, true, false, false, false, false, false, false] rfl rfl (any_of HT_.out (by kernel_rfl)) (fun _ _ _ h => h) (Or.inl ⟨by rfl, ?_⟩) ?_ ?_
                      rotate_left
                      · intro w'
                        go_simp
                        with_reducible rfl
                      rotate_left
                      · simp only [Act.put, List.setIfInBounds_toArray, List.set_cons_zero, List.set_cons_succ, i64_w, i32_w]
                        rfl
                      refine pure_ (i := 12) (N := some 24) (v := ?_) (a' := ?_) #[true, true, true, true, true, true, true, true, false, true, true, true, true, false, false, false, false, false] rfl rfl (any_of HT_.out (by kernel_rfl)) (fun _ _ _ h => h) (Or.inl ⟨by rfl, ?_⟩) ?_ ?_
                      rotate_left
                      · intro w'
                        go_simp
                        with_reducible rfl
                      rotate_left
                      · simp only [Act.put, List.setIfInBounds_toArray, List.set_cons_zero, List.set_cons_succ, i64_w, i32_w]
                        rfl
                      refine pure_ (i := 13) (N := some 25) (v := ?_) (a' := ?_) #[true, true, true, true, true, true, true, true, false, true, true, true, true, true, false, false, false, false] rfl rfl (any_of HT_.out (by kernel_rfl)) (fun _ _ _ h => h) (Or.inl ⟨by rfl, ?_⟩) ?_ ?_
                      rotate_left
                      · intro w'
                        go_simp
                        with_reducible rfl
                      rotate_left
                      · simp only [Act.put, List.setIfInBounds_toArray, List.set_cons_zero, List.set_cons_succ, i64_w, i32_w]
                        rfl
                      refine take_ (i := 8) (N := some 20) (v := ?_) (a' := ?_) #[true, true, true, true, true, true, true, true, true, true, true, true, true, true, false, false, false, false] rfl rfl (take_ofW HT_.out HW_.out (by kernel_rfl)) (fun _ _ _ h => h) (Or.inl ⟨by rfl, ?_⟩) hHeld ?_ ?_
                      rotate_left
                      · rintro w' ⟨s0, s1, s2, s3, s4, s5⟩
                        go_simp
                        with_reducible rfl
                      rotate_left
                      · simp only [Act.put, List.setIfInBounds_toArray, List.set_cons_zero, List.set_cons_succ, i64_w, i32_w]
                        rfl
                      refine take_ (i := 14) (N := some 26) (v := ?_) (a' := ?_) #[true, true, true, true, true, true, true, true, true, true, true, true, true, true, true, false, false, false] rfl rfl (take_ofW HT_.out HW_.out (by kernel_rfl)) (fun _ _ _ h => h) (Or.inl ⟨by rfl, ?_⟩) hHeld ?_ ?_
                      rotate_left
                      · rintro w' ⟨s0, s1, s2, s3, s4, s5⟩
                        go_simp
                        with_reducible rfl
                      rotate_left
                      · simp only [Act.put, List.setIfInBounds_toArray, List.set_cons_zero, List.set_cons_succ, i64_w, i32_w]
                        rfl
                      refine pure_ (i := 15) (N := some 27) (v := ?_) (a' := ?_) #[true, true, true, true, true, true, true, true, true, true, true, true, true, true, true, true, false, false] rfl rfl (any_of HT_.out (by kernel_rfl)) (fun _ _ _ h => h) (Or.inl ⟨by rfl, ?_⟩) ?_ ?_
                      rotate_left
                      · intro w'
                        go_simp
                        with_reducible rfl
                      rotate_left
                      · simp only [Act.put, List.setIfInBounds_toArray, List.set_cons_zero, List.set_cons_succ, i64_w, i32_w]
                        rfl
                      refine pure_ (i := 16) (N := some 28) (v := ?_) (a' := ?_) #[true, true, true, true, true, true, true, true, true, true, true, true, true, true, true, true, true, false] rfl rfl (any_of HT_.out (by kernel_rfl)) (fun _ _ _ h => h) (Or.inl ⟨by rfl, ?_⟩) ?_ ?_
                      rotate_left
                      · intro w'
                        go_simp
                        with_reducible rfl
                      rotate_left
                      · simp only [Act.put, List.setIfInBounds_toArray, List.set_cons_zero, List.set_cons_succ, i64_w, i32_w]
                        rfl
                      refine pure_ (i := 17) (N := some 29) (v := ?_) (a' := ?_) #[true, true, true, true, true, true, true, true, true, true, true, true, true, true, true, true, true, true] rfl rfl (any_of HT_.out (by kernel_rfl)) (fun _ _ _ h => h) (Or.inl ⟨by rfl, ?_⟩) ?_ ?_
                      rotate_left
                      · intro w'
                        go_simp
                        with_reducible rfl
                      rotate_left
                      · simp only [Act.put, List.setIfInBounds_toArray, List.set_cons_zero, List.set_cons_succ, i64_w, i32_w]
                        rfl
                      refine done_ (done_of HT_.out (by kernel_rfl)) ?_
                      try go_wp2
                      go_ret
                      exact ⟨by first | rfl | (simp [errW_none, errW_some] <;> rfl) | (simp only [← hji8]; first | rfl | (simp [errW_none, errW_some] <;> rfl)) | (simp [*, errW_none, errW_some] <;> rfl), by repeat (first | (with_reducible first | exact HB.out | apply below_alloc | apply pw_below_drewN | apply below_drew1 | refine below_set ?_ GE169.out) | exact HB.out)⟩
                    · rw [if_neg c11] at H
                      have c11b0 : decide (((rd_T80 l0 (ji8)).f0) ≤ ((rd_T80 l0 x7_1).f0)) = false := decide_eq_false c11
                      clear c11
                      have H' := Aside0.mk H
                      clear H
                      have p168 : 0 ≤ (x7_1 : Int) := of_decide_eq_true (by first | (with_reducible assumption) | assumption)
                      have q168 : x7_1 < (l0.length : Int) := of_decide_eq_true (by first | (with_reducible assumption) | assumption)
                      obtain ⟨ad168, e168, hx168_0, hx168_1, hx168_2⟩ := at_T80 HR0.out x7_1 p168 q168
                      cases e168
                      replace hx168_0 := (HB.out.cell (World.block_lt_of_cell? w _ hx168_0)).trans hx168_0
                      replace hx168_1 := (HB.out.cell (World.block_lt_of_cell? w _ hx168_1)).trans hx168_1
                      replace hx168_2 := (HB.out.cell (World.block_lt_of_cell? w _ hx168_2)).trans hx168_2
                      replace p168 := eq_true p168
                      replace q168 := eq_true q168
                      try go_wp2_with (first | ((with_reducible refine gate_dst (N := 4) rfl ?_); refine box_event ?hg (N := 4) ?hd (cs := #[.int .i64 0, .string (⟨#[]⟩ : ByteArray), .bool false]) (t := 80) ?hr ?_; (case hd => rfl); (case hg => rfl); (case hr => first | (go_simp; done) | (go_simp; rfl)); intro gb169 hg w17 hbox hb; have n0_ := Aside0.mk (below_step (by repeat (first | (with_reducible first | exact HB.out | apply below_alloc | apply pw_below_drewN | apply below_drew1) | exact HB.out)) hb); have n1_ := Aside0.mk (hbox); have n2_ := Aside0.mk ((by rw [hg]; exact (below_size (by repeat (first | (with_reducible first | exact HB.out | apply below_alloc | apply pw_below_drewN | apply below_drew1) | exact HB.out))) : w.heap.size ≤ gb169)); have n3_ := Aside0.mk ((by rw [hg]; exact (below_size (by repeat (first | (with_reducible first | exact HB.out | apply below_alloc | apply pw_below_drewN | apply below_drew1) | exact HB.out))) : w.heap.size ≤ gb169)); clear HB; have HB := n0_; have BK169 := n1_; have GW169 := n2_; have GE169 := n3_; clear n0_ n1_ n2_ n3_; clear hb hbox hg; have hcz18_0 : w17.cell? ⟨gb169, 0, none⟩ = some (.int .i64 0) := (blk_cell BK169.out 0).trans rfl; have hcz18_1 : w17.cell? ⟨gb169, 1, none⟩ = some (.string (⟨#[]⟩ : ByteArray)) := (blk_cell BK169.out 1).trans rfl; have hcz18_2 : w17.cell? ⟨gb169, 2, none⟩ = some (.bool false) := (blk_cell BK169.out 2).trans rfl; have hfz18_0 := blk_frozen BK169.out 0; have hfz18_1 := blk_frozen BK169.out 1; have hfz18_2 := blk_frozen BK169.out 2))
                      have n0_ : Aside0 ((((w17.setCell ⟨gb169, 0, none⟩ (.int .i64 ((rd_T80 l0 x7_1).f0))).setCell ⟨gb169, 1, none⟩ (.string ((rd_T80 l0 x7_1).f1))).setCell ⟨gb169, 2, none⟩ (.bool ((rd_T80 l0 x7_1).f2))).heap[gb169]? = some (.cells #[.int .i64 ((rd_T80 l0 x7_1).f0), .string ((rd_T80 l0 x7_1).f1), .bool ((rd_T80 l0 x7_1).f2)] 80 (0, 0))) := ⟨by (with_reducible repeat (first | refine blk_drewN ?_ _ | refine blk_drew ?_ | refine blk_alloc ?_ _)); refine blk_put (cs := #[.int .i64 ((rd_T80 l0 x7_1).f0), .string ((rd_T80 l0 x7_1).f1), .bool false]) ?_ 2 _ rfl; (with_reducible repeat (first | refine blk_drewN ?_ _ | refine blk_drew ?_ | refine blk_alloc ?_ _)); refine blk_put (cs := #[.int .i64 ((rd_T80 l0 x7_1).f0), .string (⟨#[]⟩ : ByteArray), .bool false]) ?_ 1 _ rfl; (with_reducible repeat (first | refine blk_drewN ?_ _ | refine blk_drew ?_ | refine blk_alloc ?_ _)); refine blk_put (cs := #[.int .i64 0, .string (⟨#[]⟩ : ByteArray), .bool false]) ?_ 0 _ rfl; (with_reducible repeat (first | refine blk_drewN ?_ _ | refine blk_drew ?_ | refine blk_alloc ?_ _)); exact BK169.out⟩
                      have n1_ : Aside0 (Below w.heap.size w (((w17.setCell ⟨gb169, 0, none⟩ (.int .i64 ((rd_T80 l0 x7_1).f0))).setCell ⟨gb169, 1, none⟩ (.string ((rd_T80 l0 x7_1).f1))).setCell ⟨gb169, 2, none⟩ (.bool ((rd_T80 l0 x7_1).f2)))) := ⟨by repeat (first | (with_reducible first | exact HB.out | apply below_alloc | apply pw_below_drewN | apply below_drew1 | refine below_set ?_ GE169.out) | exact HB.out)⟩
                      (try clear BK169)
                      (try clear HB)
                      generalize (((w17.setCell ⟨gb169, 0, none⟩ (.int .i64 ((rd_T80 l0 x7_1).f0))).setCell ⟨gb169, 1, none⟩ (.string ((rd_T80 l0 x7_1).f1))).setCell ⟨gb169, 2, none⟩ (.bool ((rd_T80 l0 x7_1).f2))) = w19 at n0_ n1_ ⊢
                      have BK169 := n0_
                      have HB := n1_
                      clear n0_ n1_
                      have n0_ := Aside0.mk (blk_drew BK169.out)
                      have n1_ := Aside0.mk (below_drew1 HB.out)
                      clear BK169
                      clear HB
                      have BK169 := n0_
                      have HB := n1_
                      clear n0_ n1_
                      have p171 : 0 ≤ ((ji8) : Int) := of_decide_eq_true (by first | (with_reducible assumption) | assumption)
                      have q171 : (ji8) < (l0.length : Int) := of_decide_eq_true (by first | (with_reducible assumption) | assumption)
                      obtain ⟨ad171, e171, hx171_0, hx171_1, hx171_2⟩ := at_T80 HR0.out (ji8) p171 q171
                      have hw171_2 := hx171_2
                      have hw171_1 := hx171_1
                      have hw171_0 := hx171_0
                      obtain rfl : ad168 = ad171 := (by injection e171)
                      replace hx171_0 := (HB.out.cell (World.block_lt_of_cell? w _ hx171_0)).trans hx171_0
                      replace hx171_1 := (HB.out.cell (World.block_lt_of_cell? w _ hx171_1)).trans hx171_1
                      replace hx171_2 := (HB.out.cell (World.block_lt_of_cell? w _ hx171_2)).trans hx171_2
                      replace p171 := eq_true p171
                      replace q171 := eq_true q171
                      refine start_ (n := 18) (S := fun w' => w'.cell? ⟨gb169, 0, none⟩ = some (.int .i64 ((rd_T80 l0 x7_1).f0)) ∧ w'.cell? ⟨gb169, 1, none⟩ = some (.string ((rd_T80 l0 x7_1).f1)) ∧ w'.cell? ⟨gb169, 2, none⟩ = some (.bool ((rd_T80 l0 x7_1).f2)) ∧ w'.cell? (ad168.add (((ji8)).toNat * 3)) = some (.int .i64 ((rd_T80 l0 (ji8)).f0)) ∧ w'.cell? ⟨(ad168.add (((ji8)).toNat * 3)).block, (ad168.add (((ji8)).toNat * 3)).off + 1, none⟩ = some (.string ((rd_T80 l0 (ji8)).f1)) ∧ w'.cell? ⟨(ad168.add (((ji8)).toNat * 3)).block, (ad168.add (((ji8)).toNat * 3)).off + 2, none⟩ = some (.bool ((rd_T80 l0 (ji8)).f2))) (ds := []) #[false, false, false, false, false, false, false, false, false, false, false, false, false, false, false, false, false, false] (by kernel_rfl) rfl rfl ⟨(blk_cell BK169.out 0).trans rfl, (blk_cell BK169.out 1).trans rfl, (blk_cell BK169.out 2).trans rfl, ((HB.out.cell (World.block_lt_of_cell? w _ hw171_0)).trans hw171_0), ((HB.out.cell (World.block_lt_of_cell? w _ hw171_1)).trans hw171_1), ((HB.out.cell (World.block_lt_of_cell? w _ hw171_2)).trans hw171_2)⟩ (fun hHeld => ?_); refine with_tabW chain_Check.tab4 chain_Check.bits4 (fun HT_ HW_ => ?_)
                      generalize w19.drew = w20 at BK169 HB hx171_0 hx171_1 hx171_2 hHeld ⊢
                      refine take_ (i := 0) (N := some 12) (v := ?_) (a' := ?_) #[true, false, false, false, false, false, false, false, false, false, false, false, false, false, false, false, false, false] rfl rfl (take_ofW HT_.out HW_.out (by kernel_rfl)) (fun _ _ _ h => h) (Or.inl ⟨by rfl, ?_⟩) hHeld ?_ ?_
                      rotate_left
                      · rintro w' ⟨s0, s1, s2, s3, s4, s5⟩
                        go_simp
                        with_reducible rfl
                      rotate_left
                      · simp only [Act.put, List.setIfInBounds_toArray, List.set_cons_zero, List.set_cons_succ, i64_w, i32_w]
                        rfl
                      refine one_ (i := 1) (N := some 13) #[true, true, false, false, false, false, false, false, false, false, false, false, false, false, false, false, false, false] rfl rfl (one_of HT_.out (by kernel_rfl)) (by decide) (fun K hK => ?_)
                      refine goes_ Try.func81 (by kernel_rfl) rfl #[.agg #[.int .i64 ((rd_T80 l0 x7_1).f0), .string ((rd_T80 l0 x7_1).f1), .bool ((rd_T80 l0 x7_1).f2)]] (by rfl) rfl rfl (by (try simp only [List.map_toArray, List.map_cons, List.map_nil]); first | done | rfl | (simp only [List.length_drop, List.length_take]; rfl)) ?_
                      with_reducible refine (chain_right.calls ((rd_T80 l0 x7_1).f0) ((rd_T80 l0 x7_1).f1) ((rd_T80 l0 x7_1).f2) true _ A5.out).mono ?_
                      rintro e w21 ⟨rfl, hb⟩
                      refine ⟨_, rfl, ?_⟩
                      have n0_ := Aside0.mk (blk_below (g := gb169) (o := .cells #[.int .i64 ((rd_T80 l0 x7_1).f0), .string ((rd_T80 l0 x7_1).f1), .bool ((rd_T80 l0 x7_1).f2)] 80 (0, 0)) (by (with_reducible repeat (first | refine blk_drewN ?_ _ | refine blk_drew ?_ | refine blk_alloc ?_ _)); exact BK169.out) hb)
                      have n1_ := Aside0.mk (below_step (by repeat (first | (with_reducible first | exact HB.out | apply below_alloc | apply pw_below_drewN | apply below_drew1 | refine below_set ?_ GE169.out) | exact HB.out)) hb)
                      clear BK169
                      clear HB
                      have BK169 := n0_
                      have HB := n1_
                      clear n0_ n1_
                      (try clear hb)
                      (try clear hb2)
                      (try clear hk)
                      (try clear hi)
                      refine hK.out _ _ ⟨(blk_cell BK169.out 0).trans rfl, (blk_cell BK169.out 1).trans rfl, (blk_cell BK169.out 2).trans rfl, ((HB.out.cell (World.block_lt_of_cell? w _ hw171_0)).trans hw171_0), ((HB.out.cell (World.block_lt_of_cell? w _ hw171_1)).trans hw171_1), ((HB.out.cell (World.block_lt_of_cell? w _ hw171_2)).trans hw171_2)⟩ (fun hHeld => ?_)
                      clear hK K
                      refine norm_ (a' := ?_) ?_ ?_
                      rotate_left
                      · show Act.put _ (some 13) _ = _
                        simp only [Act.put, List.setIfInBounds_toArray, List.set_cons_zero, List.set_cons_succ, i64_w, i32_w]
                        rfl
                      refine pure_ (i := 2) (N := some 14) (v := ?_) (a' := ?_) #[true, true, true, false, false, false, false, false, false, false, false, false, false, false, false, false, false, false] rfl rfl (any_of HT_.out (by kernel_rfl)) (fun _ _ _ h => h) (Or.inl ⟨by rfl, ?_⟩) ?_ ?_
                      rotate_left
                      · intro w'
                        go_simp
                        with_reducible rfl
                      rotate_left
                      · simp only [Act.put, List.setIfInBounds_toArray, List.set_cons_zero, List.set_cons_succ, i64_w, i32_w]
                        rfl
                      refine pure_ (i := 3) (N := some 15) (v := ?_) (a' := ?_) #[true, true, true, true, false, false, false, false, false, false, false, false, false, false, false, false, false, false] rfl rfl (any_of HT_.out (by kernel_rfl)) (fun _ _ _ h => h) (Or.inl ⟨by rfl, ?_⟩) ?_ ?_
                      rotate_left
                      · intro w'
                        go_simp
                        with_reducible rfl
                      rotate_left
                      · simp only [Act.put, List.setIfInBounds_toArray, List.set_cons_zero, List.set_cons_succ, i64_w, i32_w]
                        rfl
                      refine pure_ (i := 4) (N := some 16) (v := ?_) (a' := ?_) #[true, true, true, true, true, false, false, false, false, false, false, false, false, false, false, false, false, false] rfl rfl (any_of HT_.out (by kernel_rfl)) (fun _ _ _ h => h) (Or.inl ⟨by rfl, ?_⟩) ?_ ?_
                      rotate_left
                      · intro w'
                        go_simp
                        with_reducible rfl
                      rotate_left
                      · simp only [Act.put, List.setIfInBounds_toArray, List.set_cons_zero, List.set_cons_succ, i64_w, i32_w]
                        rfl
                      refine pure_ (i := 5) (N := some 17) (v := ?_) (a' := ?_) #[true, true, true, true, true, true, false, false, false, false, false, false, false, false, false, false, false, false] rfl rfl (any_of HT_.out (by kernel_rfl)) (fun _ _ _ h => h) (Or.inl ⟨by rfl, ?_⟩) ?_ ?_
                      rotate_left
                      · intro w'
                        go_simp
                        with_reducible rfl
                      rotate_left
                      · simp only [Act.put, List.setIfInBounds_toArray, List.set_cons_zero, List.set_cons_succ, i64_w, i32_w]
                        rfl
                      refine pure_ (i := 6) (N := some 18) (v := ?_) (a' := ?_) #[true, true, true, true, true, true, true, false, false, false, false, false, false, false, false, false, false, false] rfl rfl (any_of HT_.out (by kernel_rfl)) (fun _ _ _ h => h) (Or.inl ⟨by rfl, ?_⟩) ?_ ?_
                      rotate_left
                      · intro w'
                        go_simp
                        with_reducible rfl
                      rotate_left
                      · simp only [Act.put, List.setIfInBounds_toArray, List.set_cons_zero, List.set_cons_succ, i64_w, i32_w]
                        rfl
                      refine pure_ (i := 7) (N := some 19) (v := ?_) (a' := ?_) #[true, true, true, true, true, true, true, true, false, false, false, false, false, false, false, false, false, false] rfl rfl (any_of HT_.out (by kernel_rfl)) (fun _ _ _ h => h) (Or.inl ⟨by rfl, ?_⟩) ?_ ?_
                      rotate_left
                      · intro w'
                        go_simp
                        with_reducible rfl
                      rotate_left
                      · simp only [Act.put, List.setIfInBounds_toArray, List.set_cons_zero, List.set_cons_succ, i64_w, i32_w]
                        rfl
                      refine pure_ (i := 9) (N := some 21) (v := ?_) (a' := ?_) #[true, true, true, true, true, true, true, true, false, true, false, false, false, false, false, false, false, false] rfl rfl (any_of HT_.out (by kernel_rfl)) (fun _ _ _ h => h) (Or.inl ⟨by rfl, ?_⟩) ?_ ?_
                      rotate_left
                      · intro w'
                        go_simp
                        with_reducible rfl
                      rotate_left
                      · simp only [Act.put, List.setIfInBounds_toArray, List.set_cons_zero, List.set_cons_succ, i64_w, i32_w]
                        rfl
                      refine pure_ (i := 10) (N := some 22) (v := ?_) (a' := ?_) #[true, true, true, true, true, true, true, true, false, true, true, false, false, false, false, false, false, false] rfl rfl (any_of HT_.out (by kernel_rfl)) (fun _ _ _ h => h) (Or.inl ⟨by rfl, ?_⟩) ?_ ?_
                      rotate_left
                      · intro w'
                        go_simp
                        with_reducible rfl
                      rotate_left
                      · simp only [Act.put, List.setIfInBounds_toArray, List.set_cons_zero, List.set_cons_succ, i64_w, i32_w]
                        rfl
                      refine pure_ (i := 11) (N := some 23) (v := ?_) (a' := ?_) #[true, true, true, true, true, true, true, true, false, true, true, true, false, false, false, false, false, false] rfl rfl (any_of HT_.out (by kernel_rfl)) (fun _ _ _ h => h) (Or.inl ⟨by rfl, ?_⟩) ?_ ?_
                      rotate_left
                      · intro w'
                        go_simp
                        with_reducible rfl
                      rotate_left
                      · simp only [Act.put, List.setIfInBounds_toArray, List.set_cons_zero, List.set_cons_succ, i64_w, i32_w]
                        rfl
                      refine pure_ (i := 12) (N := some 24) (v := ?_) (a' := ?_) #[true, true, true, true, true, true, true, true, false, true, true, true, true, false, false, false, false, false] rfl rfl (any_of HT_.out (by kernel_rfl)) (fun _ _ _ h => h) (Or.inl ⟨by rfl, ?_⟩) ?_ ?_
                      rotate_left
                      · intro w'
                        go_simp
                        with_reducible rfl
                      rotate_left
                      · simp only [Act.put, List.setIfInBounds_toArray, List.set_cons_zero, List.set_cons_succ, i64_w, i32_w]
                        rfl
                      refine pure_ (i := 13) (N := some 25) (v := ?_) (a' := ?_) #[true, true, true, true, true, true, true, true, false, true, true, true, true, true, false, false, false, false] rfl rfl (any_of HT_.out (by kernel_rfl)) (fun _ _ _ h => h) (Or.inl ⟨by rfl, ?_⟩) ?_ ?_
                      rotate_left
                      · intro w'
                        go_simp
                        with_reducible rfl
                      rotate_left
                      · simp only [Act.put, List.setIfInBounds_toArray, List.set_cons_zero, List.set_cons_succ, i64_w, i32_w]
                        rfl
                      refine take_ (i := 8) (N := some 20) (v := ?_) (a' := ?_) #[true, true, true, true, true, true, true, true, true, true, true, true, true, true, false, false, false, false] rfl rfl (take_ofW HT_.out HW_.out (by kernel_rfl)) (fun _ _ _ h => h) (Or.inl ⟨by rfl, ?_⟩) hHeld ?_ ?_
                      rotate_left
                      · rintro w' ⟨s0, s1, s2, s3, s4, s5⟩
                        go_simp
                        with_reducible rfl
                      rotate_left
                      · simp only [Act.put, List.setIfInBounds_toArray, List.set_cons_zero, List.set_cons_succ, i64_w, i32_w]
                        rfl
                      refine take_ (i := 14) (N := some 26) (v := ?_) (a' := ?_) #[true, true, true, true, true, true, true, true, true, true, true, true, true, true, true, false, false, false] rfl rfl (take_ofW HT_.out HW_.out (by kernel_rfl)) (fun _ _ _ h => h) (Or.inl ⟨by rfl, ?_⟩) hHeld ?_ ?_
                      rotate_left
                      · rintro w' ⟨s0, s1, s2, s3, s4, s5⟩
                        go_simp
                        with_reducible rfl
                      rotate_left
                      · simp only [Act.put, List.setIfInBounds_toArray, List.set_cons_zero, List.set_cons_succ, i64_w, i32_w]
                        rfl
                      refine pure_ (i := 15) (N := some 27) (v := ?_) (a' := ?_) #[true, true, true, true, true, true, true, true, true, true, true, true, true, true, true, true, false, false] rfl rfl (any_of HT_.out (by kernel_rfl)) (fun _ _ _ h => h) (Or.inl ⟨by rfl, ?_⟩) ?_ ?_
                      rotate_left
                      · intro w'
                        go_simp
                        with_reducible rfl
                      rotate_left
                      · simp only [Act.put, List.setIfInBounds_toArray, List.set_cons_zero, List.set_cons_succ, i64_w, i32_w]
                        rfl
                      refine pure_ (i := 16) (N := some 28) (v := ?_) (a' := ?_) #[true, true, true, true, true, true, true, true, true, true, true, true, true, true, true, true, true, false] rfl rfl (any_of HT_.out (by kernel_rfl)) (fun _ _ _ h => h) (Or.inl ⟨by rfl, ?_⟩) ?_ ?_
                      rotate_left
                      · intro w'
                        go_simp
                        with_reducible rfl
                      rotate_left
                      · simp only [Act.put, List.setIfInBounds_toArray, List.set_cons_zero, List.set_cons_succ, i64_w, i32_w]
                        rfl
                      refine pure_ (i := 17) (N := some 29) (v := ?_) (a' := ?_) #[true, true, true, true, true, true, true, true, true, true, true, true, true, true, true, true, true, true] rfl rfl (any_of HT_.out (by kernel_rfl)) (fun _ _ _ h => h) (Or.inl ⟨by rfl, ?_⟩) ?_ ?_
                      rotate_left
                      · intro w'
                        go_simp
                        with_reducible rfl
                      rotate_left
                      · simp only [Act.put, List.setIfInBounds_toArray, List.set_cons_zero, List.set_cons_succ, i64_w, i32_w]
                        rfl
                      refine done_ (done_of HT_.out (by kernel_rfl)) ?_
                      try go_wp2
                      go_roundg k1
                      case measure => have := HK1.out; omega
                      case rel => exact ⟨(wrap64 (x7_1 + 1)), (by first | rfl | (simp; done) | (simp [*]; done)), H', ⟨by have := HK1.out; omega⟩, ⟨by repeat (first | (with_reducible first | exact HB.out | apply below_alloc | apply pw_below_drewN | apply below_drew1 | refine below_set ?_ GE169.out) | exact HB.out)⟩⟩
                  · rw [if_neg c10] at H
                    exact absurd H (by simp)
                · rw [if_neg c9] at H
                  exact absurd H (by simp)
              · rw [if_neg c7] at H
                have c7b0 : decide (0 < x7_1) = false := decide_eq_false c7
                clear c7
                have H' := Aside0.mk H
                clear H
                have p168 : 0 ≤ (x7_1 : Int) := of_decide_eq_true (by first | (with_reducible assumption) | assumption)
                have q168 : x7_1 < (l0.length : Int) := of_decide_eq_true (by first | (with_reducible assumption) | assumption)
                obtain ⟨ad168, e168, hx168_0, hx168_1, hx168_2⟩ := at_T80 HR0.out x7_1 p168 q168
                cases e168
                replace hx168_0 := (HB.out.cell (World.block_lt_of_cell? w _ hx168_0)).trans hx168_0
                replace hx168_1 := (HB.out.cell (World.block_lt_of_cell? w _ hx168_1)).trans hx168_1
                replace hx168_2 := (HB.out.cell (World.block_lt_of_cell? w _ hx168_2)).trans hx168_2
                replace p168 := eq_true p168
                replace q168 := eq_true q168
                try go_wp2_with (first | ((with_reducible refine gate_dst (N := 4) rfl ?_); refine box_event ?hg (N := 4) ?hd (cs := #[.int .i64 0, .string (⟨#[]⟩ : ByteArray), .bool false]) (t := 80) ?hr ?_; (case hd => rfl); (case hg => rfl); (case hr => first | (go_simp; done) | (go_simp; rfl)); intro gb169 hg w22 hbox hb; have n0_ := Aside0.mk (below_step (by repeat (first | (with_reducible first | exact HB.out | apply below_alloc | apply pw_below_drewN | apply below_drew1) | exact HB.out)) hb); have n1_ := Aside0.mk (hbox); have n2_ := Aside0.mk ((by rw [hg]; exact (below_size (by repeat (first | (with_reducible first | exact HB.out | apply below_alloc | apply pw_below_drewN | apply below_drew1) | exact HB.out))) : w.heap.size ≤ gb169)); have n3_ := Aside0.mk ((by rw [hg]; exact (below_size (by repeat (first | (with_reducible first | exact HB.out | apply below_alloc | apply pw_below_drewN | apply below_drew1) | exact HB.out))) : w.heap.size ≤ gb169)); clear HB; have HB := n0_; have BK169 := n1_; have GW169 := n2_; have GE169 := n3_; clear n0_ n1_ n2_ n3_; clear hb hbox hg; have hcz23_0 : w22.cell? ⟨gb169, 0, none⟩ = some (.int .i64 0) := (blk_cell BK169.out 0).trans rfl; have hcz23_1 : w22.cell? ⟨gb169, 1, none⟩ = some (.string (⟨#[]⟩ : ByteArray)) := (blk_cell BK169.out 1).trans rfl; have hcz23_2 : w22.cell? ⟨gb169, 2, none⟩ = some (.bool false) := (blk_cell BK169.out 2).trans rfl; have hfz23_0 := blk_frozen BK169.out 0; have hfz23_1 := blk_frozen BK169.out 1; have hfz23_2 := blk_frozen BK169.out 2))
                have n0_ : Aside0 ((((w22.setCell ⟨gb169, 0, none⟩ (.int .i64 ((rd_T80 l0 x7_1).f0))).setCell ⟨gb169, 1, none⟩ (.string ((rd_T80 l0 x7_1).f1))).setCell ⟨gb169, 2, none⟩ (.bool ((rd_T80 l0 x7_1).f2))).heap[gb169]? = some (.cells #[.int .i64 ((rd_T80 l0 x7_1).f0), .string ((rd_T80 l0 x7_1).f1), .bool ((rd_T80 l0 x7_1).f2)] 80 (0, 0))) := ⟨by (with_reducible repeat (first | refine blk_drewN ?_ _ | refine blk_drew ?_ | refine blk_alloc ?_ _)); refine blk_put (cs := #[.int .i64 ((rd_T80 l0 x7_1).f0), .string ((rd_T80 l0 x7_1).f1), .bool false]) ?_ 2 _ rfl; (with_reducible repeat (first | refine blk_drewN ?_ _ | refine blk_drew ?_ | refine blk_alloc ?_ _)); refine blk_put (cs := #[.int .i64 ((rd_T80 l0 x7_1).f0), .string (⟨#[]⟩ : ByteArray), .bool false]) ?_ 1 _ rfl; (with_reducible repeat (first | refine blk_drewN ?_ _ | refine blk_drew ?_ | refine blk_alloc ?_ _)); refine blk_put (cs := #[.int .i64 0, .string (⟨#[]⟩ : ByteArray), .bool false]) ?_ 0 _ rfl; (with_reducible repeat (first | refine blk_drewN ?_ _ | refine blk_drew ?_ | refine blk_alloc ?_ _)); exact BK169.out⟩
                have n1_ : Aside0 (Below w.heap.size w (((w22.setCell ⟨gb169, 0, none⟩ (.int .i64 ((rd_T80 l0 x7_1).f0))).setCell ⟨gb169, 1, none⟩ (.string ((rd_T80 l0 x7_1).f1))).setCell ⟨gb169, 2, none⟩ (.bool ((rd_T80 l0 x7_1).f2)))) := ⟨by repeat (first | (with_reducible first | exact HB.out | apply below_alloc | apply pw_below_drewN | apply below_drew1 | refine below_set ?_ GE169.out) | exact HB.out)⟩
                (try clear BK169)
                (try clear HB)
                generalize (((w22.setCell ⟨gb169, 0, none⟩ (.int .i64 ((rd_T80 l0 x7_1).f0))).setCell ⟨gb169, 1, none⟩ (.string ((rd_T80 l0 x7_1).f1))).setCell ⟨gb169, 2, none⟩ (.bool ((rd_T80 l0 x7_1).f2))) = w24 at n0_ n1_ ⊢
                have BK169 := n0_
                have HB := n1_
                clear n0_ n1_
                have n0_ := Aside0.mk (blk_drew BK169.out)
                have n1_ := Aside0.mk (below_drew1 HB.out)
                clear BK169
                clear HB
                have BK169 := n0_
                have HB := n1_
                clear n0_ n1_
                refine start_ (n := 18) (S := fun w' => w'.cell? ⟨gb169, 0, none⟩ = some (.int .i64 ((rd_T80 l0 x7_1).f0)) ∧ w'.cell? ⟨gb169, 1, none⟩ = some (.string ((rd_T80 l0 x7_1).f1)) ∧ w'.cell? ⟨gb169, 2, none⟩ = some (.bool ((rd_T80 l0 x7_1).f2))) (ds := []) #[false, false, false, false, false, false, false, false, false, false, false, false, false, false, false, false, false, false] (by kernel_rfl) rfl rfl ⟨(blk_cell BK169.out 0).trans rfl, (blk_cell BK169.out 1).trans rfl, (blk_cell BK169.out 2).trans rfl⟩ (fun hHeld => ?_); refine with_tabW chain_Check.tab4 chain_Check.bits4 (fun HT_ HW_ => ?_)
                generalize w24.drew = w25 at BK169 HB hHeld ⊢
                refine take_ (i := 0) (N := some 12) (v := ?_) (a' := ?_) #[true, false, false, false, false, false, false, false, false, false, false, false, false, false, false, false, false, false] rfl rfl (take_ofW HT_.out HW_.out (by kernel_rfl)) (fun _ _ _ h => h) (Or.inl ⟨by rfl, ?_⟩) hHeld ?_ ?_
                rotate_left
                · rintro w' ⟨s0, s1, s2⟩
                  go_simp
                  with_reducible rfl
                rotate_left
                · simp only [Act.put, List.setIfInBounds_toArray, List.set_cons_zero, List.set_cons_succ, i64_w, i32_w]
                  rfl
                refine one_ (i := 1) (N := some 13) #[true, true, false, false, false, false, false, false, false, false, false, false, false, false, false, false, false, false] rfl rfl (one_of HT_.out (by kernel_rfl)) (by decide) (fun K hK => ?_)
                refine goes_ Try.func81 (by kernel_rfl) rfl #[.agg #[.int .i64 ((rd_T80 l0 x7_1).f0), .string ((rd_T80 l0 x7_1).f1), .bool ((rd_T80 l0 x7_1).f2)]] (by rfl) rfl rfl (by (try simp only [List.map_toArray, List.map_cons, List.map_nil]); first | done | rfl | (simp only [List.length_drop, List.length_take]; rfl)) ?_
                with_reducible refine (chain_right.calls ((rd_T80 l0 x7_1).f0) ((rd_T80 l0 x7_1).f1) ((rd_T80 l0 x7_1).f2) true _ A5.out).mono ?_
                rintro e w26 ⟨rfl, hb⟩
                refine ⟨_, rfl, ?_⟩
                have n0_ := Aside0.mk (blk_below (g := gb169) (o := .cells #[.int .i64 ((rd_T80 l0 x7_1).f0), .string ((rd_T80 l0 x7_1).f1), .bool ((rd_T80 l0 x7_1).f2)] 80 (0, 0)) (by (with_reducible repeat (first | refine blk_drewN ?_ _ | refine blk_drew ?_ | refine blk_alloc ?_ _)); exact BK169.out) hb)
                have n1_ := Aside0.mk (below_step (by repeat (first | (with_reducible first | exact HB.out | apply below_alloc | apply pw_below_drewN | apply below_drew1 | refine below_set ?_ GE169.out) | exact HB.out)) hb)
                clear BK169
                clear HB
                have BK169 := n0_
                have HB := n1_
                clear n0_ n1_
                (try clear hb)
                (try clear hb2)
                (try clear hk)
                (try clear hi)
                refine hK.out _ _ ⟨(blk_cell BK169.out 0).trans rfl, (blk_cell BK169.out 1).trans rfl, (blk_cell BK169.out 2).trans rfl⟩ (fun hHeld => ?_)
                clear hK K
                refine norm_ (a' := ?_) ?_ ?_
                rotate_left
                · show Act.put _ (some 13) _ = _
                  simp only [Act.put, List.setIfInBounds_toArray, List.set_cons_zero, List.set_cons_succ, i64_w, i32_w]
                  rfl
                refine pure_ (i := 2) (N := some 14) (v := ?_) (a' := ?_) #[true, true, true, false, false, false, false, false, false, false, false, false, false, false, false, false, false, false] rfl rfl (any_of HT_.out (by kernel_rfl)) (fun _ _ _ h => h) (Or.inl ⟨by rfl, ?_⟩) ?_ ?_
                rotate_left
                · intro w'
                  go_simp
                  with_reducible rfl
                rotate_left
                · simp only [Act.put, List.setIfInBounds_toArray, List.set_cons_zero, List.set_cons_succ, i64_w, i32_w]
                  rfl
                refine pure_ (i := 3) (N := some 15) (v := ?_) (a' := ?_) #[true, true, true, true, false, false, false, false, false, false, false, false, false, false, false, false, false, false] rfl rfl (any_of HT_.out (by kernel_rfl)) (fun _ _ _ h => h) (Or.inl ⟨by rfl, ?_⟩) ?_ ?_
                rotate_left
                · intro w'
                  go_simp
                  with_reducible rfl
                rotate_left
                · simp only [Act.put, List.setIfInBounds_toArray, List.set_cons_zero, List.set_cons_succ, i64_w, i32_w]
                  rfl
                refine pure_ (i := 4) (N := some 16) (v := ?_) (a' := ?_) #[true, true, true, true, true, false, false, false, false, false, false, false, false, false, false, false, false, false] rfl rfl (any_of HT_.out (by kernel_rfl)) (fun _ _ _ h => h) (Or.inl ⟨by rfl, ?_⟩) ?_ ?_
                rotate_left
                · intro w'
                  go_simp
                  with_reducible rfl
                rotate_left
                · simp only [Act.put, List.setIfInBounds_toArray, List.set_cons_zero, List.set_cons_succ, i64_w, i32_w]
                  rfl
                refine pure_ (i := 5) (N := some 17) (v := ?_) (a' := ?_) #[true, true, true, true, true, true, false, false, false, false, false, false, false, false, false, false, false, false] rfl rfl (any_of HT_.out (by kernel_rfl)) (fun _ _ _ h => h) (Or.inl ⟨by rfl, ?_⟩) ?_ ?_
                rotate_left
                · intro w'
                  go_simp
                  with_reducible rfl
                rotate_left
                · simp only [Act.put, List.setIfInBounds_toArray, List.set_cons_zero, List.set_cons_succ, i64_w, i32_w]
                  rfl
                refine pure_ (i := 6) (N := some 18) (v := ?_) (a' := ?_) #[true, true, true, true, true, true, true, false, false, false, false, false, false, false, false, false, false, false] rfl rfl (any_of HT_.out (by kernel_rfl)) (fun _ _ _ h => h) (Or.inl ⟨by rfl, ?_⟩) ?_ ?_
                rotate_left
                · intro w'
                  go_simp
                  with_reducible rfl
                rotate_left
                · simp only [Act.put, List.setIfInBounds_toArray, List.set_cons_zero, List.set_cons_succ, i64_w, i32_w]
                  rfl
                refine pure_ (i := 7) (N := some 19) (v := undef) (a' := ?_) #[true, true, true, true, true, true, true, true, false, false, false, false, false, false, false, false, false, false] rfl rfl (any_of HT_.out (by kernel_rfl)) (fun _ _ _ h => h) (Or.inr ⟨by rfl, rfl⟩) ?_ ?_
                rotate_left
                · simp only [Act.put, List.setIfInBounds_toArray, List.set_cons_zero, List.set_cons_succ, i64_w, i32_w]
                  rfl
                refine pure_ (i := 8) (N := some 20) (v := undef) (a' := ?_) #[true, true, true, true, true, true, true, true, true, false, false, false, false, false, false, false, false, false] rfl rfl (any_of HT_.out (by kernel_rfl)) (fun _ _ _ h => h) (Or.inr ⟨by rfl, rfl⟩) ?_ ?_
                rotate_left
                · simp only [Act.put, List.setIfInBounds_toArray, List.set_cons_zero, List.set_cons_succ, i64_w, i32_w]
                  rfl
                refine pure_ (i := 9) (N := some 21) (v := undef) (a' := ?_) #[true, true, true, true, true, true, true, true, true, true, false, false, false, false, false, false, false, false] rfl rfl (any_of HT_.out (by kernel_rfl)) (fun _ _ _ h => h) (Or.inr ⟨by rfl, rfl⟩) ?_ ?_
                rotate_left
                · simp only [Act.put, List.setIfInBounds_toArray, List.set_cons_zero, List.set_cons_succ, i64_w, i32_w]
                  rfl
                refine pure_ (i := 10) (N := some 22) (v := undef) (a' := ?_) #[true, true, true, true, true, true, true, true, true, true, true, false, false, false, false, false, false, false] rfl rfl (any_of HT_.out (by kernel_rfl)) (fun _ _ _ h => h) (Or.inr ⟨by rfl, rfl⟩) ?_ ?_
                rotate_left
                · simp only [Act.put, List.setIfInBounds_toArray, List.set_cons_zero, List.set_cons_succ, i64_w, i32_w]
                  rfl
                refine pure_ (i := 11) (N := some 23) (v := undef) (a' := ?_) #[true, true, true, true, true, true, true, true, true, true, true, true, false, false, false, false, false, false] rfl rfl (any_of HT_.out (by kernel_rfl)) (fun _ _ _ h => h) (Or.inr ⟨by rfl, rfl⟩) ?_ ?_
                rotate_left
                · simp only [Act.put, List.setIfInBounds_toArray, List.set_cons_zero, List.set_cons_succ, i64_w, i32_w]
                  rfl
                refine pure_ (i := 12) (N := some 24) (v := undef) (a' := ?_) #[true, true, true, true, true, true, true, true, true, true, true, true, true, false, false, false, false, false] rfl rfl (any_of HT_.out (by kernel_rfl)) (fun _ _ _ h => h) (Or.inr ⟨by rfl, rfl⟩) ?_ ?_
                rotate_left
                · simp only [Act.put, List.setIfInBounds_toArray, List.set_cons_zero, List.set_cons_succ, i64_w, i32_w]
                  rfl
                refine pure_ (i := 13) (N := some 25) (v := undef) (a' := ?_) #[true, true, true, true, true, true, true, true, true, true, true, true, true, true, false, false, false, false] rfl rfl (any_of HT_.out (by kernel_rfl)) (fun _ _ _ h => h) (Or.inr ⟨by rfl, rfl⟩) ?_ ?_
                rotate_left
                · simp only [Act.put, List.setIfInBounds_toArray, List.set_cons_zero, List.set_cons_succ, i64_w, i32_w]
                  rfl
                refine pure_ (i := 14) (N := some 26) (v := undef) (a' := ?_) #[true, true, true, true, true, true, true, true, true, true, true, true, true, true, true, false, false, false] rfl rfl (any_of HT_.out (by kernel_rfl)) (fun _ _ _ h => h) (Or.inr ⟨by rfl, rfl⟩) ?_ ?_
                rotate_left
                · simp only [Act.put, List.setIfInBounds_toArray, List.set_cons_zero, List.set_cons_succ, i64_w, i32_w]
                  rfl
                refine pure_ (i := 15) (N := some 27) (v := undef) (a' := ?_) #[true, true, true, true, true, true, true, true, true, true, true, true, true, true, true, true, false, false] rfl rfl (any_of HT_.out (by kernel_rfl)) (fun _ _ _ h => h) (Or.inr ⟨by rfl, rfl⟩) ?_ ?_
                rotate_left
                · simp only [Act.put, List.setIfInBounds_toArray, List.set_cons_zero, List.set_cons_succ, i64_w, i32_w]
                  rfl
                refine pure_ (i := 16) (N := some 28) (v := ?_) (a' := ?_) #[true, true, true, true, true, true, true, true, true, true, true, true, true, true, true, true, true, false] rfl rfl (any_of HT_.out (by kernel_rfl)) (fun _ _ _ h => h) (Or.inl ⟨by rfl, ?_⟩) ?_ ?_
                rotate_left
                · intro w'
                  go_simp
                  with_reducible rfl
                rotate_left
                · simp only [Act.put, List.setIfInBounds_toArray, List.set_cons_zero, List.set_cons_succ, i64_w, i32_w]
                  rfl
                refine pure_ (i := 17) (N := some 29) (v := ?_) (a' := ?_) #[true, true, true, true, true, true, true, true, true, true, true, true, true, true, true, true, true, true] rfl rfl (any_of HT_.out (by kernel_rfl)) (fun _ _ _ h => h) (Or.inl ⟨by rfl, ?_⟩) ?_ ?_
                rotate_left
                · intro w'
                  go_simp
                  with_reducible rfl
                rotate_left
                · simp only [Act.put, List.setIfInBounds_toArray, List.set_cons_zero, List.set_cons_succ, i64_w, i32_w]
                  rfl
                refine done_ (done_of HT_.out (by kernel_rfl)) ?_
                try go_wp2
                go_roundg k1
                case measure => have := HK1.out; omega
                case rel => exact ⟨(wrap64 (x7_1 + 1)), (by first | rfl | (simp; done) | (simp [*]; done)), H', ⟨by have := HK1.out; omega⟩, ⟨by repeat (first | (with_reducible first | exact HB.out | apply below_alloc | apply pw_below_drewN | apply below_drew1 | refine below_set ?_ GE169.out) | exact HB.out)⟩⟩
            · replace c6 := Bool.eq_false_iff.mpr c6
              subst c6
              have H1 : (some 4) = some r := by rw [if_neg (show ¬ (false = true) by decide)] at H; exact H
              clear H
              have H := H1
              clear H1
              obtain rfl := Option.some.inj H
              have p168 : 0 ≤ (x7_1 : Int) := of_decide_eq_true (by first | (with_reducible assumption) | assumption)
              have q168 : x7_1 < (l0.length : Int) := of_decide_eq_true (by first | (with_reducible assumption) | assumption)
              obtain ⟨ad168, e168, hx168_0, hx168_1, hx168_2⟩ := at_T80 HR0.out x7_1 p168 q168
              cases e168
              replace hx168_0 := (HB.out.cell (World.block_lt_of_cell? w _ hx168_0)).trans hx168_0
              replace hx168_1 := (HB.out.cell (World.block_lt_of_cell? w _ hx168_1)).trans hx168_1
              replace hx168_2 := (HB.out.cell (World.block_lt_of_cell? w _ hx168_2)).trans hx168_2
              replace p168 := eq_true p168
              replace q168 := eq_true q168
              try go_wp2_with (first | ((with_reducible refine gate_dst (N := 4) rfl ?_); refine box_event ?hg (N := 4) ?hd (cs := #[.int .i64 0, .string (⟨#[]⟩ : ByteArray), .bool false]) (t := 80) ?hr ?_; (case hd => rfl); (case hg => rfl); (case hr => first | (go_simp; done) | (go_simp; rfl)); intro gb169 hg w27 hbox hb; have n0_ := Aside0.mk (below_step (by repeat (first | (with_reducible first | exact HB.out | apply below_alloc | apply pw_below_drewN | apply below_drew1) | exact HB.out)) hb); have n1_ := Aside0.mk (hbox); have n2_ := Aside0.mk ((by rw [hg]; exact (below_size (by repeat (first | (with_reducible first | exact HB.out | apply below_alloc | apply pw_below_drewN | apply below_drew1) | exact HB.out))) : w.heap.size ≤ gb169)); have n3_ := Aside0.mk ((by rw [hg]; exact (below_size (by repeat (first | (with_reducible first | exact HB.out | apply below_alloc | apply pw_below_drewN | apply below_drew1) | exact HB.out))) : w.heap.size ≤ gb169)); clear HB; have HB := n0_; have BK169 := n1_; have GW169 := n2_; have GE169 := n3_; clear n0_ n1_ n2_ n3_; clear hb hbox hg; have hcz28_0 : w27.cell? ⟨gb169, 0, none⟩ = some (.int .i64 0) := (blk_cell BK169.out 0).trans rfl; have hcz28_1 : w27.cell? ⟨gb169, 1, none⟩ = some (.string (⟨#[]⟩ : ByteArray)) := (blk_cell BK169.out 1).trans rfl; have hcz28_2 : w27.cell? ⟨gb169, 2, none⟩ = some (.bool false) := (blk_cell BK169.out 2).trans rfl; have hfz28_0 := blk_frozen BK169.out 0; have hfz28_1 := blk_frozen BK169.out 1; have hfz28_2 := blk_frozen BK169.out 2))
              have n0_ : Aside0 ((((w27.setCell ⟨gb169, 0, none⟩ (.int .i64 ((rd_T80 l0 x7_1).f0))).setCell ⟨gb169, 1, none⟩ (.string ((rd_T80 l0 x7_1).f1))).setCell ⟨gb169, 2, none⟩ (.bool ((rd_T80 l0 x7_1).f2))).heap[gb169]? = some (.cells #[.int .i64 ((rd_T80 l0 x7_1).f0), .string ((rd_T80 l0 x7_1).f1), .bool ((rd_T80 l0 x7_1).f2)] 80 (0, 0))) := ⟨by (with_reducible repeat (first | refine blk_drewN ?_ _ | refine blk_drew ?_ | refine blk_alloc ?_ _)); refine blk_put (cs := #[.int .i64 ((rd_T80 l0 x7_1).f0), .string ((rd_T80 l0 x7_1).f1), .bool false]) ?_ 2 _ rfl; (with_reducible repeat (first | refine blk_drewN ?_ _ | refine blk_drew ?_ | refine blk_alloc ?_ _)); refine blk_put (cs := #[.int .i64 ((rd_T80 l0 x7_1).f0), .string (⟨#[]⟩ : ByteArray), .bool false]) ?_ 1 _ rfl; (with_reducible repeat (first | refine blk_drewN ?_ _ | refine blk_drew ?_ | refine blk_alloc ?_ _)); refine blk_put (cs := #[.int .i64 0, .string (⟨#[]⟩ : ByteArray), .bool false]) ?_ 0 _ rfl; (with_reducible repeat (first | refine blk_drewN ?_ _ | refine blk_drew ?_ | refine blk_alloc ?_ _)); exact BK169.out⟩
              have n1_ : Aside0 (Below w.heap.size w (((w27.setCell ⟨gb169, 0, none⟩ (.int .i64 ((rd_T80 l0 x7_1).f0))).setCell ⟨gb169, 1, none⟩ (.string ((rd_T80 l0 x7_1).f1))).setCell ⟨gb169, 2, none⟩ (.bool ((rd_T80 l0 x7_1).f2)))) := ⟨by repeat (first | (with_reducible first | exact HB.out | apply below_alloc | apply pw_below_drewN | apply below_drew1 | refine below_set ?_ GE169.out) | exact HB.out)⟩
              (try clear BK169)
              (try clear HB)
              generalize (((w27.setCell ⟨gb169, 0, none⟩ (.int .i64 ((rd_T80 l0 x7_1).f0))).setCell ⟨gb169, 1, none⟩ (.string ((rd_T80 l0 x7_1).f1))).setCell ⟨gb169, 2, none⟩ (.bool ((rd_T80 l0 x7_1).f2))) = w29 at n0_ n1_ ⊢
              have BK169 := n0_
              have HB := n1_
              clear n0_ n1_
              have n0_ := Aside0.mk (blk_drew BK169.out)
              have n1_ := Aside0.mk (below_drew1 HB.out)
              clear BK169
              clear HB
              have BK169 := n0_
              have HB := n1_
              clear n0_ n1_
              refine start_ (n := 18) (S := fun w' => w'.cell? ⟨gb169, 0, none⟩ = some (.int .i64 ((rd_T80 l0 x7_1).f0)) ∧ w'.cell? ⟨gb169, 1, none⟩ = some (.string ((rd_T80 l0 x7_1).f1)) ∧ w'.cell? ⟨gb169, 2, none⟩ = some (.bool ((rd_T80 l0 x7_1).f2))) (ds := []) #[false, false, false, false, false, false, false, false, false, false, false, false, false, false, false, false, false, false] (by kernel_rfl) rfl rfl ⟨(blk_cell BK169.out 0).trans rfl, (blk_cell BK169.out 1).trans rfl, (blk_cell BK169.out 2).trans rfl⟩ (fun hHeld => ?_); refine with_tabW chain_Check.tab4 chain_Check.bits4 (fun HT_ HW_ => ?_)
              generalize w29.drew = w30 at BK169 HB hHeld ⊢
              refine take_ (i := 0) (N := some 12) (v := ?_) (a' := ?_) #[true, false, false, false, false, false, false, false, false, false, false, false, false, false, false, false, false, false] rfl rfl (take_ofW HT_.out HW_.out (by kernel_rfl)) (fun _ _ _ h => h) (Or.inl ⟨by rfl, ?_⟩) hHeld ?_ ?_
              rotate_left
              · rintro w' ⟨s0, s1, s2⟩
                go_simp
                with_reducible rfl
              rotate_left
              · simp only [Act.put, List.setIfInBounds_toArray, List.set_cons_zero, List.set_cons_succ, i64_w, i32_w]
                rfl
              refine one_ (i := 1) (N := some 13) #[true, true, false, false, false, false, false, false, false, false, false, false, false, false, false, false, false, false] rfl rfl (one_of HT_.out (by kernel_rfl)) (by decide) (fun K hK => ?_)
              refine goes_ Try.func81 (by kernel_rfl) rfl #[.agg #[.int .i64 ((rd_T80 l0 x7_1).f0), .string ((rd_T80 l0 x7_1).f1), .bool ((rd_T80 l0 x7_1).f2)]] (by rfl) rfl rfl (by (try simp only [List.map_toArray, List.map_cons, List.map_nil]); first | done | rfl | (simp only [List.length_drop, List.length_take]; rfl)) ?_
              with_reducible refine (chain_right.calls ((rd_T80 l0 x7_1).f0) ((rd_T80 l0 x7_1).f1) ((rd_T80 l0 x7_1).f2) false _ A5.out).mono ?_
              rintro e w31 ⟨rfl, hb⟩
              refine ⟨_, rfl, ?_⟩
              have n0_ := Aside0.mk (blk_below (g := gb169) (o := .cells #[.int .i64 ((rd_T80 l0 x7_1).f0), .string ((rd_T80 l0 x7_1).f1), .bool ((rd_T80 l0 x7_1).f2)] 80 (0, 0)) (by (with_reducible repeat (first | refine blk_drewN ?_ _ | refine blk_drew ?_ | refine blk_alloc ?_ _)); exact BK169.out) hb)
              have n1_ := Aside0.mk (below_step (by repeat (first | (with_reducible first | exact HB.out | apply below_alloc | apply pw_below_drewN | apply below_drew1 | refine below_set ?_ GE169.out) | exact HB.out)) hb)
              clear BK169
              clear HB
              have BK169 := n0_
              have HB := n1_
              clear n0_ n1_
              (try clear hb)
              (try clear hb2)
              (try clear hk)
              (try clear hi)
              refine hK.out _ _ ⟨(blk_cell BK169.out 0).trans rfl, (blk_cell BK169.out 1).trans rfl, (blk_cell BK169.out 2).trans rfl⟩ (fun hHeld => ?_)
              clear hK K
              refine norm_ (a' := ?_) ?_ ?_
              rotate_left
              · show Act.put _ (some 13) _ = _
                simp only [Act.put, List.setIfInBounds_toArray, List.set_cons_zero, List.set_cons_succ, i64_w, i32_w]
                rfl
              refine pure_ (i := 2) (N := some 14) (v := ?_) (a' := ?_) #[true, true, true, false, false, false, false, false, false, false, false, false, false, false, false, false, false, false] rfl rfl (any_of HT_.out (by kernel_rfl)) (fun _ _ _ h => h) (Or.inl ⟨by rfl, ?_⟩) ?_ ?_
              rotate_left
              · intro w'
                go_simp
                with_reducible rfl
              rotate_left
              · simp only [Act.put, List.setIfInBounds_toArray, List.set_cons_zero, List.set_cons_succ, i64_w, i32_w]
                rfl
              refine pure_ (i := 3) (N := some 15) (v := ?_) (a' := ?_) #[true, true, true, true, false, false, false, false, false, false, false, false, false, false, false, false, false, false] rfl rfl (any_of HT_.out (by kernel_rfl)) (fun _ _ _ h => h) (Or.inl ⟨by rfl, ?_⟩) ?_ ?_
              rotate_left
              · intro w'
                go_simp
                with_reducible rfl
              rotate_left
              · simp only [Act.put, List.setIfInBounds_toArray, List.set_cons_zero, List.set_cons_succ, i64_w, i32_w]
                rfl
              refine pure_ (i := 4) (N := some 16) (v := undef) (a' := ?_) #[true, true, true, true, true, false, false, false, false, false, false, false, false, false, false, false, false, false] rfl rfl (any_of HT_.out (by kernel_rfl)) (fun _ _ _ h => h) (Or.inr ⟨by rfl, rfl⟩) ?_ ?_
              rotate_left
              · simp only [Act.put, List.setIfInBounds_toArray, List.set_cons_zero, List.set_cons_succ, i64_w, i32_w]
                rfl
              refine pure_ (i := 5) (N := some 17) (v := undef) (a' := ?_) #[true, true, true, true, true, true, false, false, false, false, false, false, false, false, false, false, false, false] rfl rfl (any_of HT_.out (by kernel_rfl)) (fun _ _ _ h => h) (Or.inr ⟨by rfl, rfl⟩) ?_ ?_
              rotate_left
              · simp only [Act.put, List.setIfInBounds_toArray, List.set_cons_zero, List.set_cons_succ, i64_w, i32_w]
                rfl
              refine pure_ (i := 6) (N := some 18) (v := undef) (a' := ?_) #[true, true, true, true, true, true, true, false, false, false, false, false, false, false, false, false, false, false] rfl rfl (any_of HT_.out (by kernel_rfl)) (fun _ _ _ h => h) (Or.inr ⟨by rfl, rfl⟩) ?_ ?_
              rotate_left
              · simp only [Act.put, List.setIfInBounds_toArray, List.set_cons_zero, List.set_cons_succ, i64_w, i32_w]
                rfl
              refine pure_ (i := 7) (N := some 19) (v := undef) (a' := ?_) #[true, true, true, true, true, true, true, true, false, false, false, false, false, false, false, false, false, false] rfl rfl (any_of HT_.out (by kernel_rfl)) (fun _ _ _ h => h) (Or.inr ⟨by rfl, rfl⟩) ?_ ?_
              rotate_left
              · simp only [Act.put, List.setIfInBounds_toArray, List.set_cons_zero, List.set_cons_succ, i64_w, i32_w]
                rfl
              refine pure_ (i := 8) (N := some 20) (v := undef) (a' := ?_) #[true, true, true, true, true, true, true, true, true, false, false, false, false, false, false, false, false, false] rfl rfl (any_of HT_.out (by kernel_rfl)) (fun _ _ _ h => h) (Or.inr ⟨by rfl, rfl⟩) ?_ ?_
              rotate_left
              · simp only [Act.put, List.setIfInBounds_toArray, List.set_cons_zero, List.set_cons_succ, i64_w, i32_w]
                rfl
              refine pure_ (i := 9) (N := some 21) (v := undef) (a' := ?_) #[true, true, true, true, true, true, true, true, true, true, false, false, false, false, false, false, false, false] rfl rfl (any_of HT_.out (by kernel_rfl)) (fun _ _ _ h => h) (Or.inr ⟨by rfl, rfl⟩) ?_ ?_
              rotate_left
              · simp only [Act.put, List.setIfInBounds_toArray, List.set_cons_zero, List.set_cons_succ, i64_w, i32_w]
                rfl
              refine pure_ (i := 10) (N := some 22) (v := undef) (a' := ?_) #[true, true, true, true, true, true, true, true, true, true, true, false, false, false, false, false, false, false] rfl rfl (any_of HT_.out (by kernel_rfl)) (fun _ _ _ h => h) (Or.inr ⟨by rfl, rfl⟩) ?_ ?_
              rotate_left
              · simp only [Act.put, List.setIfInBounds_toArray, List.set_cons_zero, List.set_cons_succ, i64_w, i32_w]
                rfl
              refine pure_ (i := 11) (N := some 23) (v := undef) (a' := ?_) #[true, true, true, true, true, true, true, true, true, true, true, true, false, false, false, false, false, false] rfl rfl (any_of HT_.out (by kernel_rfl)) (fun _ _ _ h => h) (Or.inr ⟨by rfl, rfl⟩) ?_ ?_
              rotate_left
              · simp only [Act.put, List.setIfInBounds_toArray, List.set_cons_zero, List.set_cons_succ, i64_w, i32_w]
                rfl
              refine pure_ (i := 12) (N := some 24) (v := undef) (a' := ?_) #[true, true, true, true, true, true, true, true, true, true, true, true, true, false, false, false, false, false] rfl rfl (any_of HT_.out (by kernel_rfl)) (fun _ _ _ h => h) (Or.inr ⟨by rfl, rfl⟩) ?_ ?_
              rotate_left
              · simp only [Act.put, List.setIfInBounds_toArray, List.set_cons_zero, List.set_cons_succ, i64_w, i32_w]
                rfl
              refine pure_ (i := 13) (N := some 25) (v := undef) (a' := ?_) #[true, true, true, true, true, true, true, true, true, true, true, true, true, true, false, false, false, false] rfl rfl (any_of HT_.out (by kernel_rfl)) (fun _ _ _ h => h) (Or.inr ⟨by rfl, rfl⟩) ?_ ?_
              rotate_left
              · simp only [Act.put, List.setIfInBounds_toArray, List.set_cons_zero, List.set_cons_succ, i64_w, i32_w]
                rfl
              refine pure_ (i := 14) (N := some 26) (v := undef) (a' := ?_) #[true, true, true, true, true, true, true, true, true, true, true, true, true, true, true, false, false, false] rfl rfl (any_of HT_.out (by kernel_rfl)) (fun _ _ _ h => h) (Or.inr ⟨by rfl, rfl⟩) ?_ ?_
              rotate_left
              · simp only [Act.put, List.setIfInBounds_toArray, List.set_cons_zero, List.set_cons_succ, i64_w, i32_w]
                rfl
              refine pure_ (i := 15) (N := some 27) (v := undef) (a' := ?_) #[true, true, true, true, true, true, true, true, true, true, true, true, true, true, true, true, false, false] rfl rfl (any_of HT_.out (by kernel_rfl)) (fun _ _ _ h => h) (Or.inr ⟨by rfl, rfl⟩) ?_ ?_
              rotate_left
              · simp only [Act.put, List.setIfInBounds_toArray, List.set_cons_zero, List.set_cons_succ, i64_w, i32_w]
                rfl
              refine pure_ (i := 16) (N := some 28) (v := undef) (a' := ?_) #[true, true, true, true, true, true, true, true, true, true, true, true, true, true, true, true, true, false] rfl rfl (any_of HT_.out (by kernel_rfl)) (fun _ _ _ h => h) (Or.inr ⟨by rfl, rfl⟩) ?_ ?_
              rotate_left
              · simp only [Act.put, List.setIfInBounds_toArray, List.set_cons_zero, List.set_cons_succ, i64_w, i32_w]
                rfl
              refine pure_ (i := 17) (N := some 29) (v := ?_) (a' := ?_) #[true, true, true, true, true, true, true, true, true, true, true, true, true, true, true, true, true, true] rfl rfl (any_of HT_.out (by kernel_rfl)) (fun _ _ _ h => h) (Or.inl ⟨by rfl, ?_⟩) ?_ ?_
              rotate_left
              · intro w'
                go_simp
                with_reducible rfl
              rotate_left
              · simp only [Act.put, List.setIfInBounds_toArray, List.set_cons_zero, List.set_cons_succ, i64_w, i32_w]
                rfl
              refine done_ (done_of HT_.out (by kernel_rfl)) ?_
              try go_wp2
              go_ret
              exact ⟨by first | rfl | (simp [errW_none, errW_some] <;> rfl) | (simp [*, errW_none, errW_some] <;> rfl), by repeat (first | (with_reducible first | exact HB.out | apply below_alloc | apply pw_below_drewN | apply below_drew1 | refine below_set ?_ GE169.out) | exact HB.out)⟩
          · rw [if_neg c4] at H
            exact absurd H (by simp)
        · rw [if_neg c3] at H
          exact absurd H (by simp)
      · rw [if_neg c2] at H
        have c2b0 : decide (x7_1 < (l0.length : Int)) = false := decide_eq_false c2
        clear c2
        obtain rfl := Option.some.inj H
        go_wp2
        go_ret
        exact ⟨by first | rfl | (simp [errW_none, errW_some] <;> rfl) | (simp [*, errW_none, errW_some] <;> rfl), by repeat (first | (with_reducible first | exact HB.out | apply below_alloc | apply pw_below_drewN | apply below_drew1) | exact HB.out)⟩
end Go.Proofs.Ytehcmedeeaoebaa.PB
end
section
namespace Go.Proofs.Ytehcmedeeaoebaa.PB
open Go.RowKit Go.Proofs.YtehcmedeeaoebaaW.PrintWords Go.Proofs.YtehcmedeeaoebaaW.PrintLast Go.Proofs.YtehcmedeeaoebaaW.PrintMore
set_option linter.unusedVariables false
set_option linter.unusedSimpArgs false
theorem rdT80_get (l : List S80) (i : Nat) (h : i < l.length) : rd_T80 l (i : Int) = l[i] := by
  simp [rd_T80, List.getD_eq_getElem?_getD, h]
set_option maxHeartbeats 2000000 in
set_option maxRecDepth 100000 in
theorem IndexFunc80.calls (A : Option Addr) (c : Nat) (l : List S80) (g : Nat) (lb : Array Value) (p : S80 → Bool) (w : World) (eg : ∀ args w, (callFunc g args).run Try.prog w = .ok (.enter g args) w)
    (hr : Kd.C k80 w A l.length l) (hc : l.length ≤ c)
    (hp : ∀ (W : World) (x : S80), Below w.heap.size w W → Calls Try.prog g (#[.agg #[.int .i64 x.f0, .string x.f1, .bool x.f2]] ++ lb) W fun e w' => e = .returned (.bool (p x)) ∧ Below W.heap.size W w') :
    Calls Try.prog 82 #[.slice A l.length c, .func (.func g) #[] lb] w fun e w' => e = .returned (.int .i64 (idxOf p l)) ∧ Below w.heap.size w w' := by
  have hu80 := Try.underlying80
  have hl := hr.2.1
  have HR := Aside0.mk hr
  have HP := Aside0.mk hp
  clear hr hp
  go_enter Try.func82, Try.ntmps82
  go_wp2
  go_loopg [5, 8] l.length (fun gg _ s8 wr => ∃ kk : Nat, kk ≤ l.length ∧ l.length - kk ≤ gg ∧ s8 = .int .i64 kk ∧ Aside0 (Below w.heap.size w wr) ∧ Aside0 (∀ j, (h : j < kk) → (h' : j < l.length) → p l[j] = false))
  case atStart => exact ⟨0, Nat.zero_le _, by omega, rfl, ⟨Below.refl _ w⟩, ⟨fun j hj => absurd hj (Nat.not_lt_zero _)⟩⟩
  case round =>
    obtain ⟨kk, hkk, hg, rfl, BW, HA⟩ := hrel
    by_cases hlt : kk < l.length
    · have hltz : (kk : Int) < (l.length : Int) := by omega
      obtain ⟨ad, e, h0, h1, h2⟩ := at_T80 HR.out (kk : Int) (by omega) hltz
      cases e
      rw [rdT80_get l kk hlt] at h0 h1 h2
      simp only [Int.toNat_natCast] at h0 h1 h2
      have hcall := HP.out wr l[kk] BW.out
      obtain ⟨y, hy⟩ : ∃ y, y = l[kk] := ⟨_, rfl⟩
      rw [← hy] at h0 h1 h2 hcall
      have HY := Aside0.mk hy
      clear hy
      replace h0 := (BW.out.cell (World.block_lt_of_cell? w _ h0)).trans h0
      replace h1 := (BW.out.cell (World.block_lt_of_cell? w _ h1)).trans h1
      replace h2 := (BW.out.cell (World.block_lt_of_cell? w _ h2)).trans h2
      cases hq : p y with
      | true =>
        rw [hq] at hcall
        go_wp2_with (go_at_fn g; refine hcall.mono ?_; rintro e w' ⟨rfl, hb'⟩)
        go_ret
        refine ⟨?_, below_then BW.out BW.out.size hb'⟩
        rw [idxOf_hit p l kk hlt (by rw [← HY.out]; exact hq) (fun j hj => HA.out j hj (by omega))]
        rfl
      | false =>
        rw [hq] at hcall
        go_wp2_with (go_at_fn g; refine hcall.mono ?_; rintro e w' ⟨rfl, hb'⟩)
        go_roundg (l.length - (kk + 1))
        case measure => omega
        case rel =>
          refine ⟨kk + 1, by omega, by omega, by go_num, ⟨below_then BW.out BW.out.size hb'⟩, ⟨fun j hj h' => ?_⟩⟩
          by_cases e : j = kk
          · subst e
            rw [← HY.out]; exact hq
          · exact HA.out j (by omega) h'
    · have hltz : ¬ (kk : Int) < (l.length : Int) := by omega
      go_wp2
      go_ret
      refine ⟨?_, BW.out⟩
      rw [idxOf_miss p l (fun j hj => HA.out j (by omega) hj)]
      rfl
theorem ContainsFunc80.calls (A : Option Addr) (c : Nat) (l : List S80) (g : Nat) (lb : Array Value) (p : S80 → Bool) (w : World) (eg : ∀ args w, (callFunc g args).run Try.prog w = .ok (.enter g args) w)
    (hr : Kd.C k80 w A l.length l) (hc : l.length ≤ c)
    (hp : ∀ (W : World) (x : S80), Below w.heap.size w W → Calls Try.prog g (#[.agg #[.int .i64 x.f0, .string x.f1, .bool x.f2]] ++ lb) W fun e w' => e = .returned (.bool (p x)) ∧ Below W.heap.size W w') :
    Calls Try.prog 72 #[.slice A l.length c, .func (.func g) #[] lb] w fun e w' => e = .returned (.bool (l.any p)) ∧ Below w.heap.size w w' := by
  have H := IndexFunc80.calls A c l g lb p w eg hr hc hp
  have hge := idxOf_ge p l
  obtain ⟨r, hrr⟩ : ∃ r, idxOf p l = r := ⟨_, rfl⟩
  rw [hrr] at H hge
  clear hp hr
  obtain ⟨b, hbb⟩ : ∃ b, l.any p = b := ⟨_, rfl⟩
  rw [hbb] at hge ⊢
  clear hrr hbb
  go_enter Try.func72, Try.ntmps72
  go_wp2_with (go_at_call 82; refine H.mono ?_; rintro e w' ⟨rfl, hb⟩)
  go_ret
  exact ⟨rfl, hb⟩
end Go.Proofs.Ytehcmedeeaoebaa.PB
end
section
namespace Go.Proofs.Ytehcmedeeaoebaa.PB
open Go.RowKit Go.Proofs.YtehcmedeeaoebaaW.PrintWords Go.Proofs.YtehcmedeeaoebaaW.PrintLast Go.Proofs.YtehcmedeeaoebaaW.PrintMore
set_option linter.unusedVariables false
set_option linter.unusedSimpArgs false
def longV (v : S80) : Bool := decide (199 < v.f1.size)
def batch_may.f (k : Nat) (a0_0 : ByteArray) (l0_1 : List S80) : Option Bool :=
  if a0_0.size ≤ 120 then if 0 < l0_1.length then (chain_Check.f k l0_1).bind fun e => if e = 0 then some (!(l0_1.any longV)) else some false else some false else some false
theorem batch_may.mono : ∀ a0 a1 k, LeO (batch_may.f k a0 a1) (batch_may.f (k + 1) a0 a1) := by
  intro a0 a1 k
  unfold batch_may.f
  exact LeO.ite (LeO.ite (LeO.bind (chain_Check.mono _ _) fun _ => LeO.refl _) (LeO.refl _)) (LeO.refl _)
theorem may1.calls (x : S80) (W : World) :
    Calls Try.prog 70 (#[.agg #[.int .i64 x.f0, .string x.f1, .bool x.f2]] ++ #[]) W fun e w' => e = .returned (.bool (longV x)) ∧ Below W.heap.size W w' := by
  unfold longV
  rw [Array.append_empty]
  go_enter Try.func70, Try.ntmps70
  go_wp2
  go_ret
  exact ⟨by simp; omega, (Below.refl _ _).alloc (Nat.le_refl _) _⟩
set_option maxHeartbeats 4000000 in
set_option maxRecDepth 100000 in
theorem batch_may.calls (k : Nat) (a0_0 : ByteArray) (A0_1 : Option Addr) (c0_1 : Nat) (l0_1 : List (S80)) (r : Bool) (w : World) (hr0_1 : Kd.C k80 w A0_1 l0_1.length l0_1) (hc0_1 : l0_1.length ≤ c0_1) (h : batch_may.f k a0_0 l0_1 = some r) :
    Calls Try.prog 53 #[.agg #[.string a0_0, .slice A0_1 l0_1.length c0_1]] w fun e w' => e = .returned (.bool r) ∧ Below w.heap.size w w' := by
  have hl := hr0_1.2.1
  have HR := Aside0.mk hr0_1
  clear hr0_1
  unfold batch_may.f at h
  by_cases c1 : a0_0.size ≤ 120
  · rw [if_pos c1] at h
    by_cases c2 : 0 < l0_1.length
    · rw [if_pos c2] at h
      obtain ⟨e, he, h⟩ := Option.bind_eq_some_iff.1 h
      have HE := Aside0.mk he
      clear he
      by_cases c3 : e = 0
      · rw [if_pos c3] at h
        subst c3
        have hh : (!(l0_1.any longV)) = r := Option.some.inj h
        clear h
        have HH := Aside0.mk hh
        clear hh
        go_enter Try.func53, Try.ntmps53
        go_wp2_with fail
        refine (chain_Check.calls k A0_1 c0_1 l0_1 0 _ (Kd.C_below HR.out (below_alloc (Below.refl _ _) _)) hc0_1 HE.out).mono ?_
        rintro e w1 ⟨rfl, hb1⟩
        have BK1 : w1.heap[w.heap.size]? = some (.cells #[.string a0_0, .slice A0_1 l0_1.length c0_1] 67 (0, 0)) := (hb1.block _ (by simp)).trans (blk_new w _)
        have BW1 : Below w.heap.size w w1 := below_then ((Below.refl _ _).alloc (Nat.le_refl _) _) (by simp) hb1
        have hbk1 := (blk_cell BK1 1).trans rfl
        have hcon := ContainsFunc80.calls A0_1 c0_1 l0_1 70 #[] longV w1 (enters_of Try.func70 (by kernel_rfl) rfl) (Kd.C_below HR.out BW1) hc0_1 (fun W x hb => may1.calls x W)
        have HBW1 := Aside0.mk BW1
        clear hb1 BK1 BW1
        obtain ⟨q, hq⟩ : ∃ q, l0_1.any longV = q := ⟨_, rfl⟩
        rw [hq] at hcon HH
        go_wp2_with (go_at_call 72; refine hcon.mono ?_; rintro e w2 ⟨rfl, hb2⟩)
        go_ret
        exact ⟨by rw [← HH.out]; rfl, below_then HBW1.out HBW1.out.size hb2⟩
      · rw [if_neg c3] at h
        obtain rfl : false = r := by simpa using h
        clear h
        have c3' : (e == 0) = false := by simpa using c3
        go_enter Try.func53, Try.ntmps53
        go_wp2_with (go_at_call 71; refine (chain_Check.calls k A0_1 c0_1 l0_1 e _ (Kd.C_below HR.out (below_alloc (Below.refl _ _) _)) hc0_1 HE.out).mono ?_; rintro e w1 ⟨rfl, hb1⟩)
        go_ret
        exact ⟨rfl, below_then ((Below.refl _ _).alloc (Nat.le_refl _) _) (by simp) hb1⟩
    · rw [if_neg c2] at h
      obtain rfl : false = r := by simpa using h
      clear h
      have c2' : decide (0 < l0_1.length) = false := by simpa using c2
      go_enter Try.func53, Try.ntmps53
      go_wp2
      go_ret
      exact ⟨rfl, (Below.refl _ _).alloc (Nat.le_refl _) _⟩
  · rw [if_neg c1] at h
    obtain rfl : false = r := by simpa using h
    clear h
    have c1' : decide (a0_0.size ≤ 120) = false := by simpa using c1
    go_enter Try.func53, Try.ntmps53
    go_wp2
    go_ret
    exact ⟨rfl, (Below.refl _ _).alloc (Nat.le_refl _) _⟩
end Go.Proofs.Ytehcmedeeaoebaa.PB
end
section
namespace Go.Proofs.Ytehcmedeeaoebaa.PB
open Go.RowKit Go.Proofs.YtehcmedeeaoebaaW.PrintWords Go.Proofs.YtehcmedeeaoebaaW.PrintLast Go.Proofs.YtehcmedeeaoebaaW.PrintMore
set_option linter.unusedVariables false
set_option linter.unusedSimpArgs false
set_option maxHeartbeats 4000000 in
set_option maxRecDepth 100000 in
theorem version_ok.calls (p : S69) (t : Int) (tail : ByteArray) (w : World) (hk : p.f0.size ≤ 140737488351232) (hv : p.f1.size ≤ 140737488351232) (h8 : 8 ≤ p.f0.size) (hne : 0 < p.f1.size) (hb0 : bt p.f1 0 ≤ 1)
    (htail : p.f0.extract ((p.f0.size : Int) - 8).toNat p.f0.size = tail) (htl : tail.size = 8) (ht : wrap64 (be (bytesOf tail)) = t) (h0 : 0 ≤ t) (h1 : t < 1152921504606846976) :
    Calls Try.prog 59 #[.agg #[.string p.f0, .string p.f1]] w fun e w' => e = .returned (.tuple #[.string (p.f0.extract 0 ((p.f0.size : Int) - 8).toNat), .agg #[.int .i64 (1152921504606846976 - t), .string (p.f1.extract 1 p.f1.size), .bool (bt p.f1 0 == 0)], .bool true]) ∧ Below w.heap.size w w' := by
  have HB := Aside0.mk (Below.refl w.heap.size w)
  have hbt : ((p.f1[0]'hne).toNat : Int) = bt p.f1 0 := bt_at p.f1 0 hne
  have d1 : decide ((p.f0.size : Int) - 8 < 0) = false := decide_eq_false (by omega)
  have d2 : decide (1 < bt p.f1 0) = false := decide_eq_false (by omega)
  have d3 : decide (t < 0) = false := decide_eq_false (by omega)
  have d4 : decide (1152921504606846976 ≤ t) = false := decide_eq_false (by omega)
  have hne2 : (p.f1.toList == ([] : List UInt8)) = false := by
    rw [beq_eq_false_iff_ne]; intro h; have h2 : p.f1.data.toList.length = 0 := by { rw [← Lib.toList_data, h]; rfl }; rw [data_length] at h2; omega
  have HT := Aside0.mk (show wrap64 (be (((bytesOf tail).take ((0 : Int) + 8).toNat).drop (0 : Int).toNat)) = t from by simp only [Int.zero_add, Int.toNat_zero, List.drop_zero]; rw [List.take_of_length_le (by rw [bytesOf_length]; simp; omega)]; exact ht)
  have HTL := Aside0.mk htail
  have kb := fun W => print_bytes (P := Try.prog) 9 72 5 Try.underlying9 Try.underlying72 Try.underlying5 tail W
  have htl1 : tail.size ≤ 8 := by omega
  have htl2 : 8 ≤ tail.size := by omega
  clear htl ht
  go_enter Try.func59, Try.ntmps59
  go_wp2_with (first | ((with_reducible refine gate_dst (N := 1) rfl ?_); refine box_event ?hg (N := 1) ?hd (cs := #[.string p.f0, .string p.f1]) (t := 69) ?hr ?_; (case hd => rfl); (case hg => rfl); (case hr => first | (go_simp; done) | (go_simp; rfl)); intro g1 hg w1 hbox hb; have G1 := Aside0.mk (show w.heap.size ≤ g1 from (by rw [hg]; exact HB.out.size)); have B1 := Aside0.mk hbox; clear hbox hg; have n0_ := Aside0.mk (below_then HB.out HB.out.size hb); clear HB; have HB := n0_; clear n0_; clear hb) | ((with_reducible refine gate_dst (N := 3) rfl ?_); refine box_event ?hg (N := 3) ?hd (cs := #[.int .i64 0, .string ⟨#[]⟩, .bool false]) (t := 80) ?hr ?_; (case hd => rfl); (case hg => rfl); (case hr => first | (go_simp; done) | (go_simp; rfl)); intro g3 hg w2 hbox hb; have G3 := Aside0.mk (show w.heap.size ≤ g3 from (by rw [hg]; exact HB.out.size)); have H13 := Aside0.mk (show g1 ≠ g3 from fun e => absurd (blk_lt B1.out) (by omega)); have B3 := Aside0.mk hbox; clear hbox hg; have n0_ := Aside0.mk (below_then HB.out HB.out.size hb); have n1_ := Aside0.mk ((hb.block _ (blk_lt B1.out)).trans B1.out); clear HB B1; have HB := n0_; have B1 := n1_; clear n0_ n1_; clear hb; have c10 := (blk_cell B1.out 0).trans rfl; have c11 := (blk_cell B1.out 1).trans rfl) | ((with_reducible refine gate_dst (N := 29) rfl ?_); refine conv_event ?hg (N := 29) ?hd tail (by omega) ?hr ?_; (case hd => rfl); (case hg => rfl); (case hr => first | (go_simp; done) | (go_simp; rfl)); intro v29 w3 hv29 hrow hb; have n0_ := Aside0.mk (below_then HB.out HB.out.size hb); have n1_ := Aside0.mk ((hb.block _ (blk_lt B1.out)).trans B1.out); have n2_ := Aside0.mk ((hb.block _ (blk_lt B3.out)).trans B3.out); clear HB B1 B3; have HB := n0_; have B1 := n1_; have B3 := n2_; clear n0_ n1_ n2_; obtain ⟨gv, capv, rfl, _, _, hcv⟩ := hrow.reads; have HCV := Aside0.mk hcv; have c30 := (blk_cell B1.out 0).trans rfl; have c31 := (blk_cell B1.out 1).trans rfl; clear hrow hb hv29 hcv) | (go_at_call 33; go_must (refine (NewReader.calls _ capv (bytesOf tail) w3 HCV.out (by rw [bytesOf_length]; omega)).mono ?_); rintro e w4 ⟨gr, Ar, cr, rfl, hgr, hrd, hb⟩; have LR := Aside0.mk hgr; have LB1 := Aside0.mk (blk_lt B1.out); have LB3 := Aside0.mk (blk_lt B3.out); have LBW := Aside0.mk HB.out.size; have n0_ := Aside0.mk (below_then HB.out HB.out.size hb); have n1_ := Aside0.mk ((hb.block _ (blk_lt B1.out)).trans B1.out); have n2_ := Aside0.mk ((hb.block _ (blk_lt B3.out)).trans B3.out); clear HB B1 B3; have HB := n0_; have B1 := n1_; have B3 := n2_; clear n0_ n1_ n2_; have RD := Aside0.mk hrd; have c40 := (blk_cell B1.out 0).trans rfl; have c41 := (blk_cell B1.out 1).trans rfl; clear hgr hrd hb) | (go_at_call 34; go_must (refine (I64.calls gr Ar cr (bytesOf tail) 0 w4 RD.out (by omega) (by rw [bytesOf_length]; omega)).mono ?_); rintro e w5 ⟨rfl, hb⟩; have n0_ := Aside0.mk (HB.out.trans (hb.mono (Nat.le_trans LBW.out LR.out))); have n1_ := Aside0.mk ((hb.block _ (Nat.lt_of_lt_of_le LB1.out LR.out)).trans B1.out); have n2_ := Aside0.mk ((hb.block _ (Nat.lt_of_lt_of_le LB3.out LR.out)).trans B3.out); clear HB B1 B3 hb; have HB := n0_; have B1 := n1_; have B3 := n2_; clear n0_ n1_ n2_; have c50 := (blk_cell B1.out 0).trans rfl; have c51 := (blk_cell B1.out 1).trans rfl; have c52 := (blk_cell B3.out 0).trans rfl; have c53 := (blk_cell B3.out 1).trans rfl; have c54 := (blk_cell B3.out 2).trans rfl; have f52 := blk_frozen B3.out 0; have f53 := blk_frozen B3.out 1; have f54 := blk_frozen B3.out 2; rw [HT.out]) | ((with_reducible refine gate_store (t := 80) (p := 3) (v := .tmp 38) rfl ?_); go_must (refine sagg_event rfl 80 (.tmp 3) (.tmp 38) rfl rfl g3 #[.int .i64 0, .string ⟨#[]⟩, .bool false] _ _ rfl rfl B3.out (by kernel_rfl) rfl rfl ?_); intro w8 hbk hu; have n0_ := Aside0.mk (hu.below HB.out G3.out); clear HB; have HB := n0_; clear n0_; clear B3; have B3 := Aside0.mk hbk; have c80 := (blk_cell B3.out 0).trans rfl; have c81 := (blk_cell B3.out 1).trans rfl; have c82 := (blk_cell B3.out 2).trans rfl; clear hbk hu))
  go_region
  go_wp2
  refine bodyPost_ret (v := .tuple #[.string (p.f0.extract 0 ((p.f0.size : Int) - 8).toNat), .agg #[.int .i64 (1152921504606846976 - t), .string (p.f1.extract 1 p.f1.size), .bool (bt p.f1 0 == 0)], .bool true]) ?_ rfl ?_
  · simp [results, Try.results59, go_sem, c52, c53, c54]
    rw [show ((p.f0.size : Int) - 8).toNat = p.f0.size - 8 by omega]
  · refine ⟨rfl, ?_⟩
    repeat (first | exact HB.out | refine below_drew ?_ | refine Below.setCell ?_ G3.out _)
def noVersion : Ending := .returned (.tuple #[.string ⟨#[]⟩, .agg #[.int .i64 0, .string ⟨#[]⟩, .bool false], .bool false])
set_option maxHeartbeats 4000000 in
set_option maxRecDepth 100000 in
theorem version_short.calls (p : S69) (w : World) (hk : p.f0.size ≤ 140737488351232) (hv : p.f1.size ≤ 140737488351232) (h8 : p.f0.size < 8 ∨ p.f1.size = 0 ∨ (0 < p.f1.size ∧ 1 < bt p.f1 0)) :
    Calls Try.prog 59 #[.agg #[.string p.f0, .string p.f1]] w fun e w' => e = noVersion ∧ Below w.heap.size w w' := by
  unfold noVersion
  have HB := Aside0.mk (Below.refl w.heap.size w)
  by_cases c1 : p.f0.size < 8
  · have d1 : decide ((p.f0.size : Int) - 8 < 0) = true := decide_eq_true (by omega)
    clear h8
    go_enter Try.func59, Try.ntmps59
    go_wp2_with (first | ((with_reducible refine gate_dst (N := 1) rfl ?_); refine box_event ?hg (N := 1) ?hd (cs := #[.string p.f0, .string p.f1]) (t := 69) ?hr ?_; (case hd => rfl); (case hg => rfl); (case hr => first | (go_simp; done) | (go_simp; rfl)); intro g1 hg w1 hbox hb; have G1 := Aside0.mk (show w.heap.size ≤ g1 from (by rw [hg]; exact HB.out.size)); have B1 := Aside0.mk hbox; clear hbox hg; have n0_ := Aside0.mk (below_then HB.out HB.out.size hb); clear HB; have HB := n0_; clear n0_; clear hb) | ((with_reducible refine gate_dst (N := 3) rfl ?_); refine box_event ?hg (N := 3) ?hd (cs := #[.int .i64 0, .string ⟨#[]⟩, .bool false]) (t := 80) ?hr ?_; (case hd => rfl); (case hg => rfl); (case hr => first | (go_simp; done) | (go_simp; rfl)); intro g3 hg w2 hbox hb; have G3 := Aside0.mk (show w.heap.size ≤ g3 from (by rw [hg]; exact HB.out.size)); have H13 := Aside0.mk (show g1 ≠ g3 from fun e => absurd (blk_lt B1.out) (by omega)); have B3 := Aside0.mk hbox; clear hbox hg; have n0_ := Aside0.mk (below_then HB.out HB.out.size hb); have n1_ := Aside0.mk ((hb.block _ (blk_lt B1.out)).trans B1.out); clear HB B1; have HB := n0_; have B1 := n1_; clear n0_ n1_; clear hb; have c10 := (blk_cell B1.out 0).trans rfl; have c11 := (blk_cell B1.out 1).trans rfl) | ((with_reducible refine gate_store (t := 80) (p := 3) (v := .tmp 24) rfl ?_); go_must (refine sagg_event rfl 80 (.tmp 3) (.tmp 24) rfl rfl g3 #[.int .i64 0, .string ⟨#[]⟩, .bool false] _ _ rfl rfl B3.out (by kernel_rfl) rfl rfl ?_); intro w8 hbk hu; have n0_ := Aside0.mk (hu.below HB.out G3.out); clear HB; have HB := n0_; clear n0_; clear B3; have B3 := Aside0.mk hbk; have c80 := (blk_cell B3.out 0).trans rfl; have c81 := (blk_cell B3.out 1).trans rfl; have c82 := (blk_cell B3.out 2).trans rfl; clear hbk hu))
    refine bodyPost_ret (v := .tuple #[.string ⟨#[]⟩, .agg #[.int .i64 0, .string ⟨#[]⟩, .bool false], .bool false]) ?_ rfl ⟨rfl, HB.out⟩
    simp [results, Try.results59, go_sem, c80, c81, c82]
  have d1 : decide ((p.f0.size : Int) - 8 < 0) = false := decide_eq_false (by omega)
  by_cases c2 : p.f1.size = 0
  · have hne2 : (p.f1.toList == ([] : List UInt8)) = true := by
      rw [beq_iff_eq, Lib.toList_data]; exact List.eq_nil_of_length_eq_zero (by rw [data_length]; exact c2)
    clear h8 c2
    go_enter Try.func59, Try.ntmps59
    go_wp2_with (first | ((with_reducible refine gate_dst (N := 1) rfl ?_); refine box_event ?hg (N := 1) ?hd (cs := #[.string p.f0, .string p.f1]) (t := 69) ?hr ?_; (case hd => rfl); (case hg => rfl); (case hr => first | (go_simp; done) | (go_simp; rfl)); intro g1 hg w1 hbox hb; have G1 := Aside0.mk (show w.heap.size ≤ g1 from (by rw [hg]; exact HB.out.size)); have B1 := Aside0.mk hbox; clear hbox hg; have n0_ := Aside0.mk (below_then HB.out HB.out.size hb); clear HB; have HB := n0_; clear n0_; clear hb) | ((with_reducible refine gate_dst (N := 3) rfl ?_); refine box_event ?hg (N := 3) ?hd (cs := #[.int .i64 0, .string ⟨#[]⟩, .bool false]) (t := 80) ?hr ?_; (case hd => rfl); (case hg => rfl); (case hr => first | (go_simp; done) | (go_simp; rfl)); intro g3 hg w2 hbox hb; have G3 := Aside0.mk (show w.heap.size ≤ g3 from (by rw [hg]; exact HB.out.size)); have H13 := Aside0.mk (show g1 ≠ g3 from fun e => absurd (blk_lt B1.out) (by omega)); have B3 := Aside0.mk hbox; clear hbox hg; have n0_ := Aside0.mk (below_then HB.out HB.out.size hb); have n1_ := Aside0.mk ((hb.block _ (blk_lt B1.out)).trans B1.out); clear HB B1; have HB := n0_; have B1 := n1_; clear n0_ n1_; clear hb; have c10 := (blk_cell B1.out 0).trans rfl; have c11 := (blk_cell B1.out 1).trans rfl) | ((with_reducible refine gate_store (t := 80) (p := 3) (v := .tmp 24) rfl ?_); go_must (refine sagg_event rfl 80 (.tmp 3) (.tmp 24) rfl rfl g3 #[.int .i64 0, .string ⟨#[]⟩, .bool false] _ _ rfl rfl B3.out (by kernel_rfl) rfl rfl ?_); intro w8 hbk hu; have n0_ := Aside0.mk (hu.below HB.out G3.out); clear HB; have HB := n0_; clear n0_; clear B3; have B3 := Aside0.mk hbk; have c80 := (blk_cell B3.out 0).trans rfl; have c81 := (blk_cell B3.out 1).trans rfl; have c82 := (blk_cell B3.out 2).trans rfl; clear hbk hu))
    refine bodyPost_ret (v := .tuple #[.string ⟨#[]⟩, .agg #[.int .i64 0, .string ⟨#[]⟩, .bool false], .bool false]) ?_ rfl ⟨rfl, HB.out⟩
    simp [results, Try.results59, go_sem, c80, c81, c82]
  have hne : 0 < p.f1.size := by omega
  have hbt : ((p.f1[0]'hne).toNat : Int) = bt p.f1 0 := bt_at p.f1 0 hne
  have d2 : decide (1 < bt p.f1 0) = true := decide_eq_true (by omega)
  have hne2 : (p.f1.toList == ([] : List UInt8)) = false := by
    rw [beq_eq_false_iff_ne]; intro h; have h2 : p.f1.data.toList.length = 0 := by { rw [← Lib.toList_data, h]; rfl }; rw [data_length] at h2; omega
  clear h8
  go_enter Try.func59, Try.ntmps59
  go_wp2_with (first | ((with_reducible refine gate_dst (N := 1) rfl ?_); refine box_event ?hg (N := 1) ?hd (cs := #[.string p.f0, .string p.f1]) (t := 69) ?hr ?_; (case hd => rfl); (case hg => rfl); (case hr => first | (go_simp; done) | (go_simp; rfl)); intro g1 hg w1 hbox hb; have G1 := Aside0.mk (show w.heap.size ≤ g1 from (by rw [hg]; exact HB.out.size)); have B1 := Aside0.mk hbox; clear hbox hg; have n0_ := Aside0.mk (below_then HB.out HB.out.size hb); clear HB; have HB := n0_; clear n0_; clear hb) | ((with_reducible refine gate_dst (N := 3) rfl ?_); refine box_event ?hg (N := 3) ?hd (cs := #[.int .i64 0, .string ⟨#[]⟩, .bool false]) (t := 80) ?hr ?_; (case hd => rfl); (case hg => rfl); (case hr => first | (go_simp; done) | (go_simp; rfl)); intro g3 hg w2 hbox hb; have G3 := Aside0.mk (show w.heap.size ≤ g3 from (by rw [hg]; exact HB.out.size)); have H13 := Aside0.mk (show g1 ≠ g3 from fun e => absurd (blk_lt B1.out) (by omega)); have B3 := Aside0.mk hbox; clear hbox hg; have n0_ := Aside0.mk (below_then HB.out HB.out.size hb); have n1_ := Aside0.mk ((hb.block _ (blk_lt B1.out)).trans B1.out); clear HB B1; have HB := n0_; have B1 := n1_; clear n0_ n1_; clear hb; have c10 := (blk_cell B1.out 0).trans rfl; have c11 := (blk_cell B1.out 1).trans rfl) | ((with_reducible refine gate_store (t := 80) (p := 3) (v := .tmp 24) rfl ?_); go_must (refine sagg_event rfl 80 (.tmp 3) (.tmp 24) rfl rfl g3 #[.int .i64 0, .string ⟨#[]⟩, .bool false] _ _ rfl rfl B3.out (by kernel_rfl) rfl rfl ?_); intro w8 hbk hu; have n0_ := Aside0.mk (hu.below HB.out G3.out); clear HB; have HB := n0_; clear n0_; clear B3; have B3 := Aside0.mk hbk; have c80 := (blk_cell B3.out 0).trans rfl; have c81 := (blk_cell B3.out 1).trans rfl; have c82 := (blk_cell B3.out 2).trans rfl; clear hbk hu))
  refine bodyPost_ret (v := .tuple #[.string ⟨#[]⟩, .agg #[.int .i64 0, .string ⟨#[]⟩, .bool false], .bool false]) ?_ rfl ⟨rfl, HB.out⟩
  simp [results, Try.results59, go_sem, c80, c81, c82]
set_option maxHeartbeats 4000000 in
set_option maxRecDepth 100000 in
theorem version_time.calls (p : S69) (t : Int) (tail : ByteArray) (w : World) (hk : p.f0.size ≤ 140737488351232) (hv : p.f1.size ≤ 140737488351232) (h8 : 8 ≤ p.f0.size) (hne : 0 < p.f1.size) (hb0 : bt p.f1 0 ≤ 1)
    (htail : p.f0.extract ((p.f0.size : Int) - 8).toNat p.f0.size = tail) (htl : tail.size = 8) (ht : wrap64 (be (bytesOf tail)) = t) (h1 : t < 0 ∨ 1152921504606846976 ≤ t) :
    Calls Try.prog 59 #[.agg #[.string p.f0, .string p.f1]] w fun e w' => e = noVersion ∧ Below w.heap.size w w' := by
  unfold noVersion
  have HB := Aside0.mk (Below.refl w.heap.size w)
  have hbt : ((p.f1[0]'hne).toNat : Int) = bt p.f1 0 := bt_at p.f1 0 hne
  have d1 : decide ((p.f0.size : Int) - 8 < 0) = false := decide_eq_false (by omega)
  have d2 : decide (1 < bt p.f1 0) = false := decide_eq_false (by omega)
  have hne2 : (p.f1.toList == ([] : List UInt8)) = false := by
    rw [beq_eq_false_iff_ne]; intro h; have h2 : p.f1.data.toList.length = 0 := by { rw [← Lib.toList_data, h]; rfl }; rw [data_length] at h2; omega
  have HT := Aside0.mk (show wrap64 (be (((bytesOf tail).take ((0 : Int) + 8).toNat).drop (0 : Int).toNat)) = t from by simp only [Int.zero_add, Int.toNat_zero, List.drop_zero]; rw [List.take_of_length_le (by rw [bytesOf_length]; simp; omega)]; exact ht)
  have HTL := Aside0.mk htail
  have kb := fun W => print_bytes (P := Try.prog) 9 72 5 Try.underlying9 Try.underlying72 Try.underlying5 tail W
  have htl1 : tail.size ≤ 8 := by omega
  have htl2 : 8 ≤ tail.size := by omega
  clear htl ht
  by_cases c3 : t < 0
  · have d3 : decide (t < 0) = true := decide_eq_true c3
    clear h1
    go_enter Try.func59, Try.ntmps59
    go_wp2_with (first | ((with_reducible refine gate_dst (N := 1) rfl ?_); refine box_event ?hg (N := 1) ?hd (cs := #[.string p.f0, .string p.f1]) (t := 69) ?hr ?_; (case hd => rfl); (case hg => rfl); (case hr => first | (go_simp; done) | (go_simp; rfl)); intro g1 hg w1 hbox hb; have G1 := Aside0.mk (show w.heap.size ≤ g1 from (by rw [hg]; exact HB.out.size)); have B1 := Aside0.mk hbox; clear hbox hg; have n0_ := Aside0.mk (below_then HB.out HB.out.size hb); clear HB; have HB := n0_; clear n0_; clear hb) | ((with_reducible refine gate_dst (N := 3) rfl ?_); refine box_event ?hg (N := 3) ?hd (cs := #[.int .i64 0, .string ⟨#[]⟩, .bool false]) (t := 80) ?hr ?_; (case hd => rfl); (case hg => rfl); (case hr => first | (go_simp; done) | (go_simp; rfl)); intro g3 hg w2 hbox hb; have G3 := Aside0.mk (show w.heap.size ≤ g3 from (by rw [hg]; exact HB.out.size)); have H13 := Aside0.mk (show g1 ≠ g3 from fun e => absurd (blk_lt B1.out) (by omega)); have B3 := Aside0.mk hbox; clear hbox hg; have n0_ := Aside0.mk (below_then HB.out HB.out.size hb); have n1_ := Aside0.mk ((hb.block _ (blk_lt B1.out)).trans B1.out); clear HB B1; have HB := n0_; have B1 := n1_; clear n0_ n1_; clear hb; have c10 := (blk_cell B1.out 0).trans rfl; have c11 := (blk_cell B1.out 1).trans rfl) | ((with_reducible refine gate_dst (N := 29) rfl ?_); refine conv_event ?hg (N := 29) ?hd tail (by omega) ?hr ?_; (case hd => rfl); (case hg => rfl); (case hr => first | (go_simp; done) | (go_simp; rfl)); intro v29 w3 hv29 hrow hb; have n0_ := Aside0.mk (below_then HB.out HB.out.size hb); have n1_ := Aside0.mk ((hb.block _ (blk_lt B1.out)).trans B1.out); have n2_ := Aside0.mk ((hb.block _ (blk_lt B3.out)).trans B3.out); clear HB B1 B3; have HB := n0_; have B1 := n1_; have B3 := n2_; clear n0_ n1_ n2_; obtain ⟨gv, capv, rfl, _, _, hcv⟩ := hrow.reads; have HCV := Aside0.mk hcv; have c30 := (blk_cell B1.out 0).trans rfl; have c31 := (blk_cell B1.out 1).trans rfl; clear hrow hb hv29 hcv) | (go_at_call 33; go_must (refine (NewReader.calls _ capv (bytesOf tail) w3 HCV.out (by rw [bytesOf_length]; omega)).mono ?_); rintro e w4 ⟨gr, Ar, cr, rfl, hgr, hrd, hb⟩; have LR := Aside0.mk hgr; have LB1 := Aside0.mk (blk_lt B1.out); have LB3 := Aside0.mk (blk_lt B3.out); have LBW := Aside0.mk HB.out.size; have n0_ := Aside0.mk (below_then HB.out HB.out.size hb); have n1_ := Aside0.mk ((hb.block _ (blk_lt B1.out)).trans B1.out); have n2_ := Aside0.mk ((hb.block _ (blk_lt B3.out)).trans B3.out); clear HB B1 B3; have HB := n0_; have B1 := n1_; have B3 := n2_; clear n0_ n1_ n2_; have RD := Aside0.mk hrd; have c40 := (blk_cell B1.out 0).trans rfl; have c41 := (blk_cell B1.out 1).trans rfl; clear hgr hrd hb) | (go_at_call 34; go_must (refine (I64.calls gr Ar cr (bytesOf tail) 0 w4 RD.out (by omega) (by rw [bytesOf_length]; omega)).mono ?_); rintro e w5 ⟨rfl, hb⟩; have n0_ := Aside0.mk (HB.out.trans (hb.mono (Nat.le_trans LBW.out LR.out))); have n1_ := Aside0.mk ((hb.block _ (Nat.lt_of_lt_of_le LB1.out LR.out)).trans B1.out); have n2_ := Aside0.mk ((hb.block _ (Nat.lt_of_lt_of_le LB3.out LR.out)).trans B3.out); clear HB B1 B3 hb; have HB := n0_; have B1 := n1_; have B3 := n2_; clear n0_ n1_ n2_; have c50 := (blk_cell B1.out 0).trans rfl; have c51 := (blk_cell B1.out 1).trans rfl; have c52 := (blk_cell B3.out 0).trans rfl; have c53 := (blk_cell B3.out 1).trans rfl; have c54 := (blk_cell B3.out 2).trans rfl; have f52 := blk_frozen B3.out 0; have f53 := blk_frozen B3.out 1; have f54 := blk_frozen B3.out 2; rw [HT.out]) | ((with_reducible refine gate_store (t := 80) (p := 3) (v := .tmp 38) rfl ?_); go_must (refine sagg_event rfl 80 (.tmp 3) (.tmp 38) rfl rfl g3 #[.int .i64 0, .string ⟨#[]⟩, .bool false] _ _ rfl rfl B3.out (by kernel_rfl) rfl rfl ?_); intro w8 hbk hu; have n0_ := Aside0.mk (hu.below HB.out G3.out); clear HB; have HB := n0_; clear n0_; clear B3; have B3 := Aside0.mk hbk; have c80 := (blk_cell B3.out 0).trans rfl; have c81 := (blk_cell B3.out 1).trans rfl; have c82 := (blk_cell B3.out 2).trans rfl; clear hbk hu))
    refine bodyPost_ret (v := .tuple #[.string ⟨#[]⟩, .agg #[.int .i64 0, .string ⟨#[]⟩, .bool false], .bool false]) ?_ rfl ⟨rfl, HB.out⟩
    simp [results, Try.results59, go_sem, c80, c81, c82]
  · have d3 : decide (t < 0) = false := decide_eq_false c3
    have d4 : decide (1152921504606846976 ≤ t) = true := decide_eq_true (by omega)
    clear h1
    go_enter Try.func59, Try.ntmps59
    go_wp2_with (first | ((with_reducible refine gate_dst (N := 1) rfl ?_); refine box_event ?hg (N := 1) ?hd (cs := #[.string p.f0, .string p.f1]) (t := 69) ?hr ?_; (case hd => rfl); (case hg => rfl); (case hr => first | (go_simp; done) | (go_simp; rfl)); intro g1 hg w1 hbox hb; have G1 := Aside0.mk (show w.heap.size ≤ g1 from (by rw [hg]; exact HB.out.size)); have B1 := Aside0.mk hbox; clear hbox hg; have n0_ := Aside0.mk (below_then HB.out HB.out.size hb); clear HB; have HB := n0_; clear n0_; clear hb) | ((with_reducible refine gate_dst (N := 3) rfl ?_); refine box_event ?hg (N := 3) ?hd (cs := #[.int .i64 0, .string ⟨#[]⟩, .bool false]) (t := 80) ?hr ?_; (case hd => rfl); (case hg => rfl); (case hr => first | (go_simp; done) | (go_simp; rfl)); intro g3 hg w2 hbox hb; have G3 := Aside0.mk (show w.heap.size ≤ g3 from (by rw [hg]; exact HB.out.size)); have H13 := Aside0.mk (show g1 ≠ g3 from fun e => absurd (blk_lt B1.out) (by omega)); have B3 := Aside0.mk hbox; clear hbox hg; have n0_ := Aside0.mk (below_then HB.out HB.out.size hb); have n1_ := Aside0.mk ((hb.block _ (blk_lt B1.out)).trans B1.out); clear HB B1; have HB := n0_; have B1 := n1_; clear n0_ n1_; clear hb; have c10 := (blk_cell B1.out 0).trans rfl; have c11 := (blk_cell B1.out 1).trans rfl) | ((with_reducible refine gate_dst (N := 29) rfl ?_); refine conv_event ?hg (N := 29) ?hd tail (by omega) ?hr ?_; (case hd => rfl); (case hg => rfl); (case hr => first | (go_simp; done) | (go_simp; rfl)); intro v29 w3 hv29 hrow hb; have n0_ := Aside0.mk (below_then HB.out HB.out.size hb); have n1_ := Aside0.mk ((hb.block _ (blk_lt B1.out)).trans B1.out); have n2_ := Aside0.mk ((hb.block _ (blk_lt B3.out)).trans B3.out); clear HB B1 B3; have HB := n0_; have B1 := n1_; have B3 := n2_; clear n0_ n1_ n2_; obtain ⟨gv, capv, rfl, _, _, hcv⟩ := hrow.reads; have HCV := Aside0.mk hcv; have c30 := (blk_cell B1.out 0).trans rfl; have c31 := (blk_cell B1.out 1).trans rfl; clear hrow hb hv29 hcv) | (go_at_call 33; go_must (refine (NewReader.calls _ capv (bytesOf tail) w3 HCV.out (by rw [bytesOf_length]; omega)).mono ?_); rintro e w4 ⟨gr, Ar, cr, rfl, hgr, hrd, hb⟩; have LR := Aside0.mk hgr; have LB1 := Aside0.mk (blk_lt B1.out); have LB3 := Aside0.mk (blk_lt B3.out); have LBW := Aside0.mk HB.out.size; have n0_ := Aside0.mk (below_then HB.out HB.out.size hb); have n1_ := Aside0.mk ((hb.block _ (blk_lt B1.out)).trans B1.out); have n2_ := Aside0.mk ((hb.block _ (blk_lt B3.out)).trans B3.out); clear HB B1 B3; have HB := n0_; have B1 := n1_; have B3 := n2_; clear n0_ n1_ n2_; have RD := Aside0.mk hrd; have c40 := (blk_cell B1.out 0).trans rfl; have c41 := (blk_cell B1.out 1).trans rfl; clear hgr hrd hb) | (go_at_call 34; go_must (refine (I64.calls gr Ar cr (bytesOf tail) 0 w4 RD.out (by omega) (by rw [bytesOf_length]; omega)).mono ?_); rintro e w5 ⟨rfl, hb⟩; have n0_ := Aside0.mk (HB.out.trans (hb.mono (Nat.le_trans LBW.out LR.out))); have n1_ := Aside0.mk ((hb.block _ (Nat.lt_of_lt_of_le LB1.out LR.out)).trans B1.out); have n2_ := Aside0.mk ((hb.block _ (Nat.lt_of_lt_of_le LB3.out LR.out)).trans B3.out); clear HB B1 B3 hb; have HB := n0_; have B1 := n1_; have B3 := n2_; clear n0_ n1_ n2_; have c50 := (blk_cell B1.out 0).trans rfl; have c51 := (blk_cell B1.out 1).trans rfl; have c52 := (blk_cell B3.out 0).trans rfl; have c53 := (blk_cell B3.out 1).trans rfl; have c54 := (blk_cell B3.out 2).trans rfl; have f52 := blk_frozen B3.out 0; have f53 := blk_frozen B3.out 1; have f54 := blk_frozen B3.out 2; rw [HT.out]) | ((with_reducible refine gate_store (t := 80) (p := 3) (v := .tmp 38) rfl ?_); go_must (refine sagg_event rfl 80 (.tmp 3) (.tmp 38) rfl rfl g3 #[.int .i64 0, .string ⟨#[]⟩, .bool false] _ _ rfl rfl B3.out (by kernel_rfl) rfl rfl ?_); intro w8 hbk hu; have n0_ := Aside0.mk (hu.below HB.out G3.out); clear HB; have HB := n0_; clear n0_; clear B3; have B3 := Aside0.mk hbk; have c80 := (blk_cell B3.out 0).trans rfl; have c81 := (blk_cell B3.out 1).trans rfl; have c82 := (blk_cell B3.out 2).trans rfl; clear hbk hu))
    refine bodyPost_ret (v := .tuple #[.string ⟨#[]⟩, .agg #[.int .i64 0, .string ⟨#[]⟩, .bool false], .bool false]) ?_ rfl ⟨rfl, HB.out⟩
    simp [results, Try.results59, go_sem, c80, c81, c82]
end Go.Proofs.Ytehcmedeeaoebaa.PB
end
