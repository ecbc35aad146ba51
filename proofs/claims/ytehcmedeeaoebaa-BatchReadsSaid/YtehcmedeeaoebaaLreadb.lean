import Derived.Test.YtehcmedeeaoebaaLread
namespace Go.Proofs.Ytehcmedeeaoebaa.PB
open Go.RowKit Go.Proofs.YtehcmedeeaoebaaW.PrintWords Go.Proofs.YtehcmedeeaoebaaW.PrintLast Go.Proofs.YtehcmedeeaoebaaW.PrintMore
set_option linter.unusedVariables false
def flagB (b : Bool) : UInt8 := if b then 1 else 0
def encC (c : S52) : List UInt8 := flagB c.f2 :: (UInt8.ofNat c.f0.size :: (c.f0.data.toList ++ (UInt8.ofNat c.f1.size :: c.f1.data.toList)))
def encL (l : List S52) : List UInt8 := l.flatMap encC
def smallC (c : S52) : Prop := c.f0.size ≤ 255 ∧ c.f1.size ≤ 255
theorem item_of {s : ByteArray} {p : Nat} {c : S52} {rest : List UInt8} (hc : smallC c) (h : frm s p = encC c ++ rest) :
    ∃ q q' : Nat, p < s.size ∧ bt s (p : Int) ≤ 1 ∧ (bt s (p : Int) == 1) = c.f2 ∧ textP s ((p : Int) + 1) = some (c.f0, (q : Int)) ∧ textP s (q : Int) = some (c.f1, (q' : Int)) ∧ frm s q' = rest ∧ q' ≤ s.size := by
  unfold encC at h
  obtain ⟨hp, hb, h1⟩ := frm_cons h
  have e1 := text_of (x := c.f0) (rest := (UInt8.ofNat c.f1.size :: c.f1.data.toList) ++ rest) hc.1 (by rw [h1]; simp)
  obtain ⟨t1, f1, l1⟩ := e1
  have e2 := text_of (x := c.f1) (rest := rest) hc.2 (by rw [f1]; simp)
  obtain ⟨t2, f2, l2⟩ := e2
  refine ⟨_, _, hp, ?_, ?_, t1, t2, f2, l2⟩
  · rw [hb]; unfold flagB; cases c.f2 <;> decide
  · rw [hb]; unfold flagB; cases c.f2 <;> decide
theorem of_item {s : ByteArray} {p : Nat} {x y : ByteArray} {q q' : Int} (hp : p < s.size) (hb : bt s (p : Int) ≤ 1) (h1 : textP s ((p : Int) + 1) = some (x, q)) (h2 : textP s q = some (y, q')) :
    ∃ m : Nat, q' = (m : Int) ∧ m ≤ s.size ∧ smallC ⟨x, y, bt s (p : Int) == 1⟩ ∧ frm s p = encC ⟨x, y, bt s (p : Int) == 1⟩ ++ frm s m := by
  obtain ⟨b, hfb⟩ := frm_of_lt hp
  have hbb := (frm_cons hfb).2.1
  obtain ⟨a1, a2, a3, a4⟩ := of_text (p := p + 1) h1
  subst a2
  obtain ⟨b1, b2, b3, b4⟩ := of_text h2
  subst b2
  refine ⟨_, rfl, b3, ⟨a1, b1⟩, ?_⟩
  rw [hfb, a4, b4]
  have hr := bt_range s (p : Int)
  have hbf : b = flagB (bt s (p : Int) == 1) := by
    apply UInt8.toNat_inj.1
    rcases (show bt s (p : Int) = 0 ∨ bt s (p : Int) = 1 by omega) with e | e
    · rw [e]; unfold flagB; rw [e] at hbb; simp; omega
    · rw [e]; unfold flagB; rw [e] at hbb; simp; omega
  rw [hbf]
  unfold encC
  simp
theorem read_of (s : ByteArray) (t : Int) : ∀ (l : List S52) (p : Nat) (acc : List S52), p ≤ s.size → (∀ c ∈ l, smallC c) → frm s p = encL l → readLoopP s t l.length (p : Int) acc = readEndP s t s.size (acc ++ l)
  | [], p, acc, hp, _, h => by
    have : p = s.size := (frm_nil_iff s p hp).1 h
    subst this
    simp [readLoopP]
  | c :: l, p, acc, hp, hs, h => by
    obtain ⟨q, q', h1, h2, h3, h4, h5, h6, h7⟩ := item_of (rest := encL l) (hs c (by simp)) (by rw [h]; simp [encL])
    rw [List.length_cons, readLoopP, if_pos (by omega), if_neg (by omega), h4]
    simp only
    rw [h5]
    simp only
    rw [h3, read_of s t l q' _ h7 (fun c hc => hs c (by simp [hc])) h6]
    simp
theorem ref_of (s : ByteArray) (t : Int) : ∀ (l : List S52) (p : Nat) (acc : List S52), p ≤ s.size → (∀ c ∈ l, smallC c) → frm s p = encL l → refLoopP s t l.length (p : Int) acc = refEndP s t s.size (acc ++ l)
  | [], p, acc, hp, _, h => by
    have : p = s.size := (frm_nil_iff s p hp).1 h
    subst this
    simp [refLoopP]
  | c :: l, p, acc, hp, hs, h => by
    obtain ⟨q, q', h1, h2, h3, h4, h5, h6, h7⟩ := item_of (rest := encL l) (hs c (by simp)) (by rw [h]; simp [encL])
    have hpc : pieceP s ((p : Int) + 1) = (c.f0, (q : Int)) := piece_of_text (p := p + 1) h4
    rw [List.length_cons, refLoopP, if_pos (by omega), hpc]
    simp only
    rw [piece_of_text h5]
    simp only
    rw [h3, ref_of s t l q' _ h7 (fun c hc => hs c (by simp [hc])) h6]
    simp
theorem of_read (s : ByteArray) (t : Int) : ∀ (n p : Nat) (acc : List S52), p ≤ s.size → readLoopP s t n (p : Int) acc = badP ∨ ∃ l, l.length = n ∧ (∀ c ∈ l, smallC c) ∧ frm s p = encL l
  | 0, p, acc, hp => by
    rw [readLoopP]
    unfold readEndP
    by_cases c : (p : Int) = s.size
    · right; exact ⟨[], rfl, by simp, (frm_nil_iff s p hp).2 (by omega)⟩
    · left; rw [if_neg c]
  | n + 1, p, acc, hp => by
    rw [readLoopP]
    by_cases c1 : (p : Int) < s.size
    · rw [if_pos c1]
      by_cases c2 : 1 < bt s (p : Int)
      · left; rw [if_pos c2]
      · rw [if_neg c2]
        rcases h1 : textP s ((p : Int) + 1) with _ | ⟨key, at1⟩
        · left; rfl
        simp only
        rcases h2 : textP s at1 with _ | ⟨val, at2⟩
        · left; rfl
        simp only
        obtain ⟨m, rfl, hm, hsm, hf⟩ := of_item (by omega) (by omega) h1 h2
        rcases of_read s t n m (acc ++ [⟨key, val, bt s (p : Int) == 1⟩]) hm with h | ⟨l, hl, hs, hfm⟩
        · left; exact h
        · right
          exact ⟨⟨key, val, bt s (p : Int) == 1⟩ :: l, by simp [hl], by intro c hc; rcases List.mem_cons.1 hc with rfl | hc; exact hsm; exact hs c hc, by rw [hf, hfm]; simp [encL]⟩
    · left; rw [if_neg c1]
theorem of_ref (s : ByteArray) (t : Int) : ∀ (n : Nat) (at_ : Int) (acc : List S52), refLoopP s t n at_ acc = badP ∨ ∃ l, checkP t l = 0 ∧ putP t l = s := by
  have he : ∀ at_ acc, refEndP s t at_ acc = badP ∨ ∃ l, checkP t l = 0 ∧ putP t l = s := by
    intro at_ acc
    unfold refEndP
    by_cases c1 : at_ < 0
    · left; rw [if_pos c1]
    rw [if_neg c1]
    by_cases c2 : checkP t acc = 0
    · rw [if_pos c2]
      by_cases c3 : putP t acc = s
      · right; exact ⟨acc, c2, c3⟩
      · left; rw [if_neg c3]
    · left; rw [if_neg c2]
  intro n
  induction n with
  | zero => intro at_ acc; exact he at_ acc
  | succ n ih =>
    intro at_ acc
    rw [refLoopP]
    by_cases c : 0 ≤ at_ ∧ at_ < s.size
    · rw [if_pos c]; exact ih _ _
    · rw [if_neg c]; exact he at_ acc
theorem u8_mod (n : Nat) : UInt8.ofNat (((n : Int) % 256).toNat) = UInt8.ofNat n := by
  apply UInt8.toNat_inj.1
  rw [UInt8.toNat_ofNat', UInt8.toNat_ofNat']
  omega
theorem F1_list (n : Nat) : (F1 (n : Int)).data.toList = [UInt8.ofNat n] := by
  unfold F1
  rw [strOfNums_data]
  simp only [List.map_cons, List.map_nil]
  rw [u8_mod]
theorem putItem_list (s : ByteArray) (c : S52) : (putItem s c).data.toList = s.data.toList ++ encC c := by
  unfold putItem
  have e : F1 (if c.f2 = true then 1 else 0) = F1 (((if c.f2 = true then 1 else 0 : Nat) : Nat) : Int) := by cases c.f2 <;> rfl
  rw [e]
  simp only [ByteArray.data_append, Array.toList_append, F1_list]
  unfold encC flagB
  cases c.f2 <;> simp
theorem foldl_put_list : ∀ (l : List S52) (s : ByteArray), (l.foldl putItem s).data.toList = s.data.toList ++ encL l
  | [], s => by simp [encL]
  | c :: l, s => by rw [List.foldl_cons, foldl_put_list l, putItem_list]; simp [encL]
def bytesU (t : Int) : List UInt8 := (bytes8 (t % 18446744073709551616)).map fun n => UInt8.ofNat n.toNat
theorem bytesU_length (t : Int) : (bytesU t).length = 8 := by unfold bytesU; rw [List.length_map, bytes8_low, lowBytes_length]
theorem putP_list (t : Int) (l : List S52) : (putP t l).data.toList = 66 :: (bytesU t ++ (UInt8.ofNat l.length :: encL l)) := by
  unfold putP
  rw [foldl_put_list]
  unfold putHead F8
  simp only [ByteArray.data_append, Array.toList_append, F1_list, strOfNums_data]
  rfl
theorem split_list (s : ByteArray) (hs : 10 ≤ s.size) (h66 : bt s 0 = 66) : s.data.toList = 66 :: (bytesU (wrap64 (be (bytesOf (s.extract 1 9)))) ++ (UInt8.ofNat (bt s 9).toNat :: frm s 10)) := by
  obtain ⟨b0, h0⟩ := frm_of_lt (s := s) (p := 0) (by omega)
  obtain ⟨b9, h9⟩ := frm_of_lt (s := s) (p := 9) (by omega)
  have e0 : b0 = 66 := by
    have := (frm_cons h0).2.1
    apply UInt8.toNat_inj.1
    have h66' : bt s ((0 : Nat) : Int) = 66 := h66
    rw [h66'] at this
    show b0.toNat = 66
    omega
  have e9 : b9 = UInt8.ofNat (bt s 9).toNat := by
    have h := (frm_cons h9).2.1
    have h' : bt s 9 = (b9.toNat : Int) := h
    rw [h', Int.toNat_natCast, UInt8.ofNat_toNat]
  have hl : (bytesOf (s.extract 1 9)).length = 8 := by rw [bytesOf_length, ByteArray.size_extract]; omega
  have hb : ∀ b ∈ bytesOf (s.extract 1 9), 0 ≤ b ∧ b < 256 := by
    intro b hb
    unfold bytesOf at hb
    obtain ⟨u, _, rfl⟩ := List.mem_map.1 hb
    have := u.toNat_lt
    omega
  obtain ⟨h1, h2, h3⟩ := bytes8_be _ hl hb
  have ew : wrap64 (be (bytesOf (s.extract 1 9))) % 18446744073709551616 = be (bytesOf (s.extract 1 9)) := by unfold wrap64; omega
  have eu : bytesU (wrap64 (be (bytesOf (s.extract 1 9)))) = (frm s 1).take 8 := by
    unfold bytesU
    rw [ew, h1]
    have := ext_list s 1 8 (by omega)
    rw [← this]
    unfold bytesOf
    rw [List.map_map]
    refine (List.map_congr_left fun b _ => ?_).trans (List.map_id _)
    show UInt8.ofNat ((b.toNat : Int)).toNat = b
    rw [Int.toNat_natCast, UInt8.ofNat_toNat]
  rw [eu]
  have f0 : s.data.toList = frm s 0 := rfl
  rw [f0, h0, e0, ← e9]
  congr 1
  have : frm s 9 = (frm s 1).drop 8 := by unfold frm; rw [List.drop_drop]
  rw [← h9, this, List.take_append_drop]
theorem putP_iff (s : ByteArray) (hs : 10 ≤ s.size) (h66 : bt s 0 = 66) (l : List S52) (hl : l.length = (bt s 9).toNat) (hf : frm s 10 = encL l) : putP (wrap64 (be (bytesOf (s.extract 1 9)))) l = s := by
  apply ByteArray.ext
  apply Array.toList_inj.1
  rw [putP_list, split_list s hs h66, hl, hf]
def batchP (s : ByteArray) : RdV := if 16384 < s.size then badP else readLoopP s (wrap64 (be (bytesOf (s.extract 1 9)))) (bt s 9).toNat 10 []
theorem of_putP {s : ByteArray} {t : Int} {l : List S52} (hc : checkP t l = 0) (h : putP t l = s) : 10 ≤ s.size ∧ bt s 0 = 66 ∧ (bt s 9).toNat = l.length ∧ frm s 10 = encL l ∧ wrap64 (be (bytesOf (s.extract 1 9))) = t ∧ (∀ c ∈ l, smallC c) ∧ s.size ≤ 16384 := by
  have hr := checkP_right hc
  have hz := checkP_size hc
  have hL := putP_list t l
  rw [h] at hL
  have hsz : s.size = sizeP l := by rw [← h, putP_size]
  have h10 : 10 ≤ s.size := by rw [hsz]; unfold sizeP; omega
  have f0 : frm s 0 = 66 :: (bytesU t ++ (UInt8.ofNat l.length :: encL l)) := hL
  obtain ⟨_, b0, f1⟩ := frm_cons f0
  have f9 : frm s 9 = UInt8.ofNat l.length :: encL l := by
    have : frm s 9 = (frm s 1).drop 8 := by unfold frm; rw [List.drop_drop]
    rw [this, f1, List.drop_append_of_le_length (by rw [bytesU_length]; omega), List.drop_eq_nil_of_le (by rw [bytesU_length]; omega)]
    rfl
  obtain ⟨_, b9, f10⟩ := frm_cons f9
  have hl64 := hr.2.2.1
  have h66 : bt s 0 = 66 := b0
  have h9 : (bt s 9).toNat = l.length := by
    have b9' : bt s 9 = _ := b9
    rw [b9', UInt8.toNat_ofNat']
    omega
  refine ⟨h10, h66, h9, f10, ?_, ?_, by omega⟩
  · have hx : (s.extract 1 9).data.toList = bytesU t := by
      have := ext_list s 1 8 (by omega)
      rw [show 1 + 8 = 9 from rfl] at this
      rw [this, f1, List.take_append_of_le_length (by rw [bytesU_length]; omega), List.take_of_length_le (by rw [bytesU_length]; omega)]
    have ht := hr.1
    have ht2 := hr.2.1
    have hb : bytesOf (s.extract 1 9) = bytes8 t := by
      unfold bytesOf
      rw [hx]
      unfold bytesU
      rw [show t % 18446744073709551616 = t by omega, bytes8_list]
      simp only [List.map_cons, List.map_nil, UInt8.toNat_ofNat']
      simp only [List.cons.injEq, and_true]
      refine ⟨by omega, by omega, by omega, by omega, by omega, by omega, by omega, by omega⟩
    rw [hb, be_bytes8 t (by omega) (by omega), w64 (by omega) (by omega)]
  · intro c hc'
    have := okAll_fits hl64 hr.2.2.2
    have := this.2 c hc'
    exact ⟨by omega, by omega⟩
theorem batchP_ref (s : ByteArray) (hs : 10 ≤ s.size) (h66 : bt s 0 = 66) : refLoopP s (wrap64 (be (bytesOf (s.extract 1 9)))) (bt s 9).toNat 10 [] = batchP s := by
  unfold batchP
  obtain ⟨t, ht⟩ : ∃ t, wrap64 (be (bytesOf (s.extract 1 9))) = t := ⟨_, rfl⟩
  rw [ht]
  by_cases hA : ∃ l : List S52, l.length = (bt s 9).toNat ∧ (∀ c ∈ l, smallC c) ∧ frm s 10 = encL l
  · obtain ⟨l, hl, hsm, hf⟩ := hA
    have e1 := read_of s t l 10 [] (by omega) hsm hf
    have e2 := ref_of s t l 10 [] (by omega) hsm hf
    rw [hl] at e1 e2
    have hput := putP_iff s hs h66 l hl hf
    rw [ht] at hput
    have e1' : readLoopP s t (bt s 9).toNat 10 [] = readEndP s t s.size ([] ++ l) := e1
    have e2' : refLoopP s t (bt s 9).toNat 10 [] = refEndP s t s.size ([] ++ l) := e2
    rw [e1', e2', List.nil_append]
    unfold readEndP refEndP
    rw [if_neg (show ¬ ((s.size : Int) < 0) by omega), if_pos rfl, if_pos hput]
    by_cases c : checkP t l = 0
    · have hz := checkP_size c
      have : s.size = sizeP l := by rw [← hput, putP_size]
      rw [if_neg (show ¬ 16384 < s.size by omega)]
    · rw [if_neg c]
      split <;> rfl
  · have e1 : readLoopP s t (bt s 9).toNat 10 [] = badP := by
      rcases of_read s t (bt s 9).toNat 10 [] (by omega) with h | h
      · exact h
      · exact absurd h hA
    have e2 : refLoopP s t (bt s 9).toNat 10 [] = badP := by
      rcases of_ref s t (bt s 9).toNat 10 [] with h | ⟨l, hc, hp⟩
      · exact h
      · obtain ⟨_, _, h9, hf, _, hsm, _⟩ := of_putP hc hp
        exact absurd ⟨l, h9.symm, hsm, hf⟩ hA
    rw [e1, e2]
    by_cases c2 : 16384 < s.size
    · rw [if_pos c2]
    · rw [if_neg c2]
def readP (s : ByteArray) : RdV :=
  if s.size < 9 then badP else if s.size = 9 then if bt s 0 = 77 ∧ 0 ≤ wrap64 (be (bytesOf (s.extract 1 9))) ∧ wrap64 (be (bytesOf (s.extract 1 9))) ≤ 1152921504606846976 then (0, [], wrap64 (be (bytesOf (s.extract 1 9))), 0) else badP
  else if bt s 0 ≠ 66 then badP else batchP s
theorem Read_ev (s : ByteArray) : Ev (fun k => batch_Read.f k s) (readP s) := by
  unfold batch_Read.f readP
  obtain ⟨t, ht⟩ : ∃ t, wrap64 (be (bytesOf (s.extract 1 9))) = t := ⟨_, rfl⟩
  simp only [ht]
  by_cases c1 : s.size < 9
  · simp only [if_pos c1]; exact Ev.const _
  simp only [if_neg c1]
  by_cases c9 : s.size = 9
  · simp only [if_pos c9, if_neg (show ¬ 16384 < s.size by omega)]
    by_cases c2 : bt s 0 = 77 ∧ 0 ≤ t ∧ t ≤ 1152921504606846976
    · simp only [if_pos c2, if_pos (show bt s 0 = 77 ∧ s.size = 9 ∧ 0 ≤ t ∧ t ≤ 1152921504606846976 from ⟨c2.1, c9, c2.2⟩)]; exact Ev.const _
    · simp only [if_neg c2, if_neg (show ¬ (bt s 0 = 77 ∧ s.size = 9 ∧ 0 ≤ t ∧ t ≤ 1152921504606846976) from fun h => c2 ⟨h.1, h.2.2⟩), if_pos (show bt s 0 ≠ 66 ∨ s.size = 9 from Or.inr c9)]; exact Ev.const _
  · simp only [if_neg c9, if_neg (show ¬ (bt s 0 = 77 ∧ s.size = 9 ∧ 0 ≤ t ∧ t ≤ 1152921504606846976) from fun h => c9 h.2.1)]
    by_cases c2 : bt s 0 ≠ 66
    · simp only [if_pos c2, if_pos (show bt s 0 ≠ 66 ∨ s.size = 9 from Or.inl c2)]
      by_cases c3 : 16384 < s.size
      · simp only [if_pos c3]; exact Ev.const _
      · simp only [if_neg c3]; exact Ev.const _
    · simp only [if_neg c2, if_neg (show ¬ (bt s 0 ≠ 66 ∨ s.size = 9) from fun h => h.elim c2 c9)]
      unfold batchP
      rw [ht]
      by_cases c3 : 16384 < s.size
      · simp only [if_pos c3]; exact Ev.const _
      · simp only [if_neg c3]; exact readLoop_ev s t _ _ _
theorem refRead_ev (s : ByteArray) (hs : s.size ≤ 140737488351232) : Ev (fun k => ambryref15_Read.f k s) (readP s) := by
  unfold ambryref15_Read.f readP
  have hr := fun h10 h66 => batchP_ref s h10 h66
  obtain ⟨t, ht⟩ : ∃ t, wrap64 (be (bytesOf (s.extract 1 9))) = t := ⟨_, rfl⟩
  simp only [ht] at hr ⊢
  simp only [if_neg (show ¬ 140737488351232 < s.size by omega)]
  by_cases c1 : s.size < 9
  · simp only [if_pos c1]; exact Ev.const _
  simp only [if_neg c1]
  by_cases c9 : s.size = 9
  · simp only [if_pos c9]
    by_cases c2 : bt s 0 = 77 ∧ 0 ≤ t ∧ t ≤ 1152921504606846976
    · simp only [if_pos c2]; exact Ev.const _
    · simp only [if_neg c2]; exact Ev.const _
  · simp only [if_neg c9]
    by_cases c2 : bt s 0 ≠ 66
    · simp only [if_pos c2]; exact Ev.const _
    · simp only [if_neg c2]
      rw [← hr (by omega) (by omega)]
      exact refLoop_ev s t _ _ _
end Go.Proofs.Ytehcmedeeaoebaa.PB
