import Derived.Test.YtehcmedeeaoebaaM1
import Derived.Test.YtehcmedeeaoebaaM2
import Derived.WalkSpells
import Derived.WalkLawsBesides
import Derived.Shelf.SlSortCmp.WholeK
import Derived.Shelf.Sort.Plain
import Derived.Test.YtehcmedeeaoebaaProg
import Derived.Shelf.SlSortCmp.NoneTotal
import Derived.WalkMore
import Derived.BigQuiet
section
namespace Go.Proofs.Ytehcmedeeaoebaa.PB
open Go.RowKit Go.Proofs.YtehcmedeeaoebaaW.PrintWords Go.Proofs.YtehcmedeeaoebaaW.PrintLast Go.Proofs.YtehcmedeeaoebaaW.PrintMore
set_option linter.unusedVariables false
abbrev RdV := Int × List S52 × Int × Int
def badP : RdV := (0, [], 0, 4)
def readEndP (s : ByteArray) (t at_ : Int) (acc : List S52) : RdV := if at_ = s.size then if checkP t acc = 0 then (t, acc, 0, 0) else badP else badP
def readLoopP (s : ByteArray) (t : Int) : Nat → Int → List S52 → RdV
  | 0, at_, acc => readEndP s t at_ acc
  | n + 1, at_, acc => if at_ < s.size then if 1 < bt s at_ then badP else
      match textP s (at_ + 1) with
      | none => badP
      | some (key, at1) => match textP s at1 with
        | none => badP
        | some (val, at2) => readLoopP s t n at2 (acc ++ [⟨key, val, bt s at_ == 1⟩])
    else badP
def refEndP (s : ByteArray) (t at_ : Int) (acc : List S52) : RdV := if at_ < 0 then badP else if checkP t acc = 0 then if putP t acc = s then (t, acc, 0, 0) else badP else badP
def refLoopP (s : ByteArray) (t : Int) : Nat → Int → List S52 → RdV
  | 0, at_, acc => refEndP s t at_ acc
  | n + 1, at_, acc => if 0 ≤ at_ ∧ at_ < s.size then refLoopP s t n (pieceP s (pieceP s (at_ + 1)).2).2 (acc ++ [⟨(pieceP s (at_ + 1)).1, (pieceP s (pieceP s (at_ + 1)).2).1, bt s at_ == 1⟩]) else refEndP s t at_ acc
theorem readEnd_ev (s : ByteArray) (t at_ : Int) (acc : List S52) : Ev (fun k => readEnd k s t at_ acc) (readEndP s t at_ acc) := by
  unfold readEnd readEndP
  by_cases c : at_ = s.size
  · simp only [if_pos c]
    refine Ev.bind (Check_ev t acc) ?_
    by_cases c2 : checkP t acc = 0
    · simp only [if_pos c2]; exact Ev.const _
    · simp only [if_neg c2]; exact Ev.const _
  · simp only [if_neg c]; exact Ev.const _
theorem readLoop_ev (s : ByteArray) (t : Int) : ∀ n at_ acc, Ev (fun k => readLoop k s t n at_ acc) (readLoopP s t n at_ acc) := by
  intro n
  induction n with
  | zero => intro at_ acc; exact readEnd_ev s t at_ acc
  | succ n ih =>
    intro at_ acc
    simp only [readLoop, readLoopP]
    by_cases c1 : at_ < s.size
    · simp only [if_pos c1]
      by_cases c2 : 1 < bt s at_
      · simp only [if_pos c2]; exact Ev.const _
      · simp only [if_neg c2]
        rcases textP s (at_ + 1) with _ | ⟨key, at1⟩
        · exact Ev.const _
        simp only
        rcases textP s at1 with _ | ⟨val, at2⟩
        · exact Ev.const _
        exact ih _ _
    · simp only [if_neg c1]; exact Ev.const _
theorem toList_iff (a b : ByteArray) : a.toList = b.toList ↔ a = b := by
  rw [Lib.toList_data, Lib.toList_data]
  exact ⟨fun h => ByteArray.ext (Array.toList_inj.1 h), fun h => by rw [h]⟩
theorem checkP_right {t : Int} {l : List S52} (h : checkP t l = 0) : rightP t l := by
  unfold checkP at h
  by_cases c : rightP t l
  · exact c
  · rw [if_neg c] at h; cases h
theorem checkP_size {t : Int} {l : List S52} (h : checkP t l = 0) : sizeP l ≤ 16384 := by
  have hr := checkP_right h
  unfold checkP at h
  rw [if_pos hr] at h
  by_cases c : 16384 < sizeP l
  · rw [if_pos c] at h; cases h
  · omega
theorem refEnd_ev (s : ByteArray) (t at_ : Int) (acc : List S52) : Ev (fun k => refEnd k s t at_ acc) (refEndP s t at_ acc) := by
  unfold refEnd refEndP
  by_cases c : at_ < 0
  · simp only [if_pos c]; exact Ev.const _
  simp only [if_neg c]
  refine Ev.bind (refCheck_ev t acc) ?_
  by_cases c2 : checkP t acc = 0
  · simp only [if_pos c2]
    have hr := checkP_right c2
    refine Ev.bind (put_ev t acc (okAll_fits hr.2.2.1 hr.2.2.2)) ?_
    by_cases c3 : putP t acc = s
    · simp only [if_pos c3, if_pos ((toList_iff _ _).2 c3)]; exact Ev.const _
    · simp only [if_neg c3, if_neg (fun h => c3 ((toList_iff _ _).1 h))]; exact Ev.const _
  · simp only [if_neg c2]; exact Ev.const _
theorem refLoop_ev (s : ByteArray) (t : Int) : ∀ n at_ acc, Ev (fun k => refLoop k s t n at_ acc) (refLoopP s t n at_ acc) := by
  intro n
  induction n with
  | zero => intro at_ acc; exact refEnd_ev s t at_ acc
  | succ n ih =>
    intro at_ acc
    simp only [refLoop, refLoopP]
    by_cases c1 : 0 ≤ at_ ∧ at_ < s.size
    · simp only [if_pos c1]; exact ih _ _
    · simp only [if_neg c1]; exact refEnd_ev s t at_ acc
def frm (s : ByteArray) (p : Nat) : List UInt8 := s.data.toList.drop p
theorem frm_cons {s : ByteArray} {p : Nat} {b : UInt8} {rest : List UInt8} (h : frm s p = b :: rest) : p < s.size ∧ bt s (p : Int) = (b.toNat : Int) ∧ frm s (p + 1) = rest := by
  have hp : p < s.data.toList.length := by
    rcases Nat.lt_or_ge p s.data.toList.length with h1 | h1
    · exact h1
    · unfold frm at h; rw [List.drop_eq_nil_of_le h1] at h; cases h
  have hp' : p < s.size := by simpa using hp
  unfold frm at h ⊢
  rw [List.drop_eq_getElem_cons hp] at h
  injection h with h1 h2
  refine ⟨hp', ?_, h2⟩
  have := bt_at s (p : Int) (by simpa using hp')
  rw [← this, ← h1]
  simp only [Int.toNat_natCast]
  rfl
theorem frm_of_lt {s : ByteArray} {p : Nat} (h : p < s.size) : ∃ b, frm s p = b :: frm s (p + 1) := by
  have hp : p < s.data.toList.length := by simpa using h
  exact ⟨_, List.drop_eq_getElem_cons hp⟩
theorem frm_nil_iff (s : ByteArray) (p : Nat) (h : p ≤ s.size) : frm s p = [] ↔ p = s.size := by
  unfold frm
  rw [List.drop_eq_nil_iff]
  have : s.data.toList.length = s.size := by simp
  omega
theorem ext_list (s : ByteArray) (a n : Nat) (h : a + n ≤ s.size) : (s.extract a (a + n)).data.toList = (frm s a).take n := by
  unfold frm
  rw [ByteArray.data_extract, Array.toList_extract, List.extract_eq_take_drop, show a + n - a = n by omega]
set_option linter.unusedVariables false in
theorem text_of {s : ByteArray} {p : Nat} {x : ByteArray} {rest : List UInt8} (hx : x.size ≤ 255) (h : frm s p = UInt8.ofNat x.size :: (x.data.toList ++ rest)) :
    textP s (p : Int) = some (x, ((p + 1 + x.size : Nat) : Int)) ∧ frm s (p + 1 + x.size) = rest ∧ p + 1 + x.size ≤ s.size := by
  obtain ⟨hp, hb, hr⟩ := frm_cons h
  have hbx : bt s (p : Int) = (x.size : Int) := by rw [hb, UInt8.toNat_ofNat']; omega
  have hlen : x.size + rest.length = s.size - (p + 1) := by
    have := congrArg List.length hr
    simp only [frm, List.length_drop, List.length_append] at this
    have e1 : s.data.toList.length = s.size := by simp
    have e2 : x.data.toList.length = x.size := by simp
    omega
  have hle : p + 1 + x.size ≤ s.size := by omega
  refine ⟨?_, ?_, hle⟩
  · unfold textP
    rw [if_pos (by omega), hbx, if_pos (by omega)]
    have e1 : ((p : Int) + 1).toNat = p + 1 := by omega
    have e2 : ((p : Int) + 1 + (x.size : Int)).toNat = p + 1 + x.size := by omega
    rw [e1, e2]
    have : s.extract (p + 1) (p + 1 + x.size) = x := by
      apply ByteArray.ext
      apply Array.toList_inj.1
      rw [ext_list s _ _ hle, hr, List.take_append_of_le_length (by simp)]
      exact List.take_of_length_le (by simp)
    rw [this]
    simp
  · have : frm s (p + 1 + x.size) = (frm s (p + 1)).drop x.size := by unfold frm; rw [List.drop_drop]
    rw [this, hr, List.drop_append_of_le_length (by simp), List.drop_eq_nil_of_le (by simp)]
    rfl
theorem of_text {s : ByteArray} {p : Nat} {x : ByteArray} {q : Int} (h : textP s (p : Int) = some (x, q)) :
    x.size ≤ 255 ∧ q = ((p + 1 + x.size : Nat) : Int) ∧ p + 1 + x.size ≤ s.size ∧ frm s p = UInt8.ofNat x.size :: (x.data.toList ++ frm s (p + 1 + x.size)) := by
  unfold textP at h
  by_cases c1 : (p : Int) < s.size
  · rw [if_pos c1] at h
    by_cases c2 : (p : Int) + 1 + bt s p ≤ s.size
    · rw [if_pos c2] at h
      have hb := bt_range s (p : Int)
      obtain ⟨n, hn⟩ : ∃ n : Nat, bt s (p : Int) = (n : Int) := ⟨(bt s (p : Int)).toNat, by omega⟩
      rw [hn] at h c2 hb
      have e1 : ((p : Int) + 1).toNat = p + 1 := by omega
      have e2 : ((p : Int) + 1 + (n : Int)).toNat = p + 1 + n := by omega
      rw [e1, e2] at h
      simp only [Option.some.injEq, Prod.mk.injEq] at h
      obtain ⟨rfl, rfl⟩ := h
      have hsz : (s.extract (p + 1) (p + 1 + n)).size = n := by rw [ByteArray.size_extract]; omega
      obtain ⟨b, hfb⟩ := frm_of_lt (s := s) (p := p) (by omega)
      have hbb := (frm_cons hfb).2.1
      have hbn : b = UInt8.ofNat n := by
        apply UInt8.toNat_inj.1
        rw [UInt8.toNat_ofNat']
        omega
      rw [hsz]
      refine ⟨by omega, by omega, by omega, ?_⟩
      rw [hfb, hbn, ext_list s (p + 1) n (by omega)]
      congr 1
      have : frm s (p + 1 + n) = (frm s (p + 1)).drop n := by unfold frm; rw [List.drop_drop]
      rw [this, List.take_append_drop]
    · rw [if_neg c2] at h; cases h
  · rw [if_neg c1] at h; cases h
theorem piece_of_text {s : ByteArray} {p : Nat} {x : ByteArray} {q : Int} (h : textP s (p : Int) = some (x, q)) : pieceP s (p : Int) = (x, q) := by
  unfold textP at h
  unfold pieceP
  by_cases c1 : (p : Int) < s.size
  · rw [if_pos c1] at h
    by_cases c2 : (p : Int) + 1 + bt s p ≤ s.size
    · rw [if_pos c2] at h
      rw [if_neg (by omega), if_neg (by omega), if_neg (by omega)]
      exact Option.some.inj h
    · rw [if_neg c2] at h; cases h
  · rw [if_neg c1] at h; cases h
end Go.Proofs.Ytehcmedeeaoebaa.PB
end
section
namespace Go.Proofs.Ytehcmedeeaoebaa.PB
open Go.RowKit Go.Proofs.YtehcmedeeaoebaaW.PrintWords Go.Proofs.YtehcmedeeaoebaaW.PrintLast Go.Proofs.YtehcmedeeaoebaaW.PrintMore
set_option linter.unusedVariables false
set_option linter.unusedSimpArgs false
def ltS (a b : ByteArray) : Bool := Op.bytesLess a.toList b.toList
def risesP : List S69 → Bool
  | a :: b :: r => ltS a.f0 b.f0 && risesP (b :: r)
  | _ => true
theorem risesP_iff (l : List S69) : risesP l = true ↔ ∀ j, (h : j + 1 < l.length) → ltS (l[j]'(by omega)).f0 l[j + 1].f0 = true := by
  induction l with
  | nil => simp [risesP]
  | cons a r ih =>
    cases r with
    | nil => simp [risesP]
    | cons b r =>
      rw [risesP, Bool.and_eq_true, ih]
      constructor
      · rintro ⟨h0, h1⟩ j h
        cases j with
        | zero => exact h0
        | succ j => exact h1 j (by simpa using h)
      · intro h
        exact ⟨h 0 (by simp), fun j hj => h (j + 1) (by simpa using hj)⟩
theorem rdT69_get (l : List S69) (i : Nat) (h : i < l.length) : rd_T69 l (i : Int) = l[i] := by
  simp [rd_T69, List.getD_eq_getElem?_getD, h]
set_option maxHeartbeats 2000000 in
set_option maxRecDepth 100000 in
theorem rises.calls (A : Option Addr) (c : Nat) (l : List S69) (w : World) (hr : Kd.C k69 w A l.length l) (hc : l.length ≤ c) :
    Calls Try.prog 48 #[.slice A l.length c] w fun e w' => e = .returned (.bool (risesP l)) ∧ Below w.heap.size w w' := by
  have hl := hr.2.1
  have HR := Aside0.mk hr
  clear hr
  go_enter Try.func48, Try.ntmps48
  go_wp2
  go_loopg [6] l.length (fun gg s6 wr => ∃ kk : Nat, kk ≤ l.length ∧ l.length - kk ≤ gg ∧ s6 = .int .i64 kk ∧ Aside0 (Below w.heap.size w wr) ∧ Aside0 (∀ j, (h : j + 1 < l.length) → j + 1 < kk → ltS (l[j]'(by omega)).f0 l[j + 1].f0 = true))
  case atStart => exact ⟨0, Nat.zero_le _, by omega, rfl, ⟨Below.refl _ w⟩, ⟨fun j _ hj => absurd hj (Nat.not_lt_zero _)⟩⟩
  case round =>
    obtain ⟨kk, hkk, hg, rfl, BW, HA⟩ := hrel
    by_cases hlt : kk < l.length
    · have hltz : (kk : Int) < (l.length : Int) := by omega
      cases kk with
      | zero =>
        go_wp2
        go_quiet (fail)
        go_wp2
        go_roundg (l.length - 1)
        case measure => omega
        case rel => exact ⟨1, by omega, by omega, by go_num, ⟨pw_below_drewN BW.out _⟩, ⟨fun j _ hj => absurd hj (by omega)⟩⟩
      | succ m =>
        obtain ⟨ad, e, h0, h1⟩ := at_T69 HR.out (m : Int) (by omega) (by omega)
        cases e
        obtain ⟨ad2, e2, g0, g1⟩ := at_T69 HR.out ((m + 1 : Nat) : Int) (by omega) hltz
        cases e2
        rw [rdT69_get l m (by omega)] at h0 h1
        rw [rdT69_get l (m + 1) hlt] at g0 g1
        simp only [Int.toNat_natCast] at h0 h1 g0 g1
        obtain ⟨q, hq⟩ : ∃ q, ltS (l[m]'(by omega)).f0 l[m + 1].f0 = q := ⟨_, rfl⟩
        have HQ := Aside0.mk hq
        unfold ltS at hq
        obtain ⟨x, hx⟩ : ∃ x, (l[m]'(by omega)).f0 = x := ⟨_, rfl⟩
        obtain ⟨y, hy⟩ : ∃ y, l[m + 1].f0 = y := ⟨_, rfl⟩
        rw [hx] at h0 hq
        rw [hy] at g0 hq
        replace h0 := (BW.out.cell (World.block_lt_of_cell? w _ h0)).trans h0
        replace g0 := (BW.out.cell (World.block_lt_of_cell? w _ g0)).trans g0
        clear hx hy h1 g1
        have p0 : (0 : Int) ≤ (m : Int) := by omega
        have p1 : (m : Int) < (l.length : Int) := by omega
        simp only [Int.natCast_add, Int.cast_ofNat_Int] at hltz ⊢
        cases q with
        | true =>
          go_wp2
          go_quiet (fail)
          go_wp2
          go_roundg (l.length - (m + 2))
          case measure => omega
          case rel =>
            refine ⟨m + 2, by omega, by omega, by go_num, ⟨pw_below_drewN BW.out _⟩, ⟨fun j h hj => ?_⟩⟩
            by_cases e : j = m
            · subst e; exact HQ.out
            · exact HA.out j h (by omega)
        | false =>
          have hno : risesP l = false := by
            rw [← Bool.not_eq_true, risesP_iff]
            intro h
            have := h m hlt
            rw [HQ.out] at this
            cases this
          go_wp2
          go_quiet (fail)
          go_wp2
          go_ret
          exact ⟨by rw [hno]; rfl, pw_below_drewN BW.out _⟩
    · have hltz : ¬ (kk : Int) < (l.length : Int) := by omega
      have hyes : risesP l = true := by
        rw [risesP_iff]
        exact fun j h => HA.out j h (by omega)
      have HY := Aside0.mk hyes
      clear hyes
      go_wp2
      go_ret
      exact ⟨by rw [HY.out]; rfl, BW.out⟩
end Go.Proofs.Ytehcmedeeaoebaa.PB
end
section
namespace Go.Proofs
open Go.Shelf
def Try.sortPair_ren : Go.Shelf.Ren := ⟨fun | 6 => 55 | 15 => 74 | 14 => 73 | 28 => 91 | 29 => 92 | 20 => 83 | 21 => 84 | 22 => 85 | 23 => 86 | 24 => 87 | 25 => 88 | 26 => 89 | 27 => 90 | 46 => 103 | 47 => 104 | 48 => 105 | 49 => 106 | 50 => 107 | 57 => 111 | n => n, fun | 22 => 43 | 24 => 69 | 25 => 95 | 3 => 3 | 39 => 110 | 0 => 0 | 53 => 134 | 55 => 108 | 4 => 4 | 46 => 127 | 45 => 126 | 50 => 131 | 5 => 5 | 9 => 9 | 66 => 140 | 70 => 144 | 76 => 148 | 77 => 149 | n => n, fun | n => n⟩
theorem Try.sortPair : Go.Proofs.SlLaysF0.n6 Try.prog Try.sortPair_ren := {
  mixed := by kernel_rfl
  f6 := ⟨Try.f55.name, by decide, Try.func55.trans (congrArg some (by kernel_rfl))⟩
  f14 := ⟨Try.f73.name, by decide, Try.func73.trans (congrArg some (by kernel_rfl))⟩
  f15 := Try.func74.trans (congrArg some (by kernel_rfl))
  f20 := ⟨Try.f83.name, by decide, Try.func83.trans (congrArg some (by kernel_rfl))⟩
  f21 := ⟨Try.f84.name, by decide, Try.func84.trans (congrArg some (by kernel_rfl))⟩
  f22 := ⟨Try.f85.name, by decide, Try.func85.trans (congrArg some (by kernel_rfl))⟩
  f23 := ⟨Try.f86.name, by decide, Try.func86.trans (congrArg some (by kernel_rfl))⟩
  f24 := ⟨Try.f87.name, by decide, Try.func87.trans (congrArg some (by kernel_rfl))⟩
  f25 := ⟨Try.f88.name, by decide, Try.func88.trans (congrArg some (by kernel_rfl))⟩
  f26 := ⟨Try.f89.name, by decide, Try.func89.trans (congrArg some (by kernel_rfl))⟩
  f27 := ⟨Try.f90.name, by decide, Try.func90.trans (congrArg some (by kernel_rfl))⟩
  f28 := Try.func91.trans (congrArg some (by kernel_rfl))
  f29 := Try.func92.trans (congrArg some (by kernel_rfl))
  f46 := ⟨Try.f103.name, by decide, Try.func103.trans (congrArg some (by kernel_rfl))⟩
  f47 := Try.func104.trans (congrArg some (by kernel_rfl))
  f48 := Try.func105.trans (congrArg some (by kernel_rfl))
  f49 := ⟨Try.f106.name, by decide, Try.func106.trans (congrArg some (by kernel_rfl))⟩
  f50 := ⟨Try.f107.name, by decide, Try.func107.trans (congrArg some (by kernel_rfl))⟩
  f57 := ⟨Try.f111.name, by decide, Try.func111.trans (congrArg some (by kernel_rfl))⟩
  t0 := Try.underlying0
  a0 := Try.isAgg0
  z0 := Try.sizeOf0
  v0 := Try.zeroValue0
  t3 := Try.underlying3
  a3 := Try.isAgg3
  z3 := Try.sizeOf3
  v3 := Try.zeroValue3
  t4 := Try.underlying4
  a4 := Try.isAgg4
  z4 := Try.sizeOf4
  v4 := Try.zeroValue4
  t5 := Try.underlying5
  a5 := Try.isAgg5
  z5 := Try.sizeOf5
  v5 := Try.zeroValue5
  t9 := Try.underlying9
  a9 := Try.isAgg9
  z9 := Try.sizeOf9
  v9 := Try.zeroValue9
  t22 := Try.underlying43
  a22 := Try.isAgg43
  z22 := Try.sizeOf43
  v22 := Try.zeroValue43
  t25 := Try.underlying95
  a25 := Try.isAgg95
  z25 := Try.sizeOf95
  v25 := Try.zeroValue95
  t39 := Try.underlying110
  a39 := Try.isAgg110
  z39 := Try.sizeOf110
  v39 := Try.zeroValue110
  t45 := Try.underlying126
  a45 := Try.isAgg126
  z45 := Try.sizeOf126
  v45 := Try.zeroValue126
  t46 := Try.underlying127
  a46 := Try.isAgg127
  z46 := Try.sizeOf127
  v46 := Try.zeroValue127
  t50 := Try.underlying131
  a50 := Try.isAgg131
  z50 := Try.sizeOf131
  v50 := Try.zeroValue131
  t53 := Try.underlying134
  a53 := Try.isAgg134
  z53 := Try.sizeOf134
  v53 := Try.zeroValue134
  t55 := Try.underlying108
  a55 := Try.isAgg108
  z55 := Try.sizeOf108
  v55 := Try.zeroValue108
  t66 := Try.underlying140
  a66 := Try.isAgg140
  z66 := Try.sizeOf140
  v66 := Try.zeroValue140
  t70 := Try.underlying144
  a70 := Try.isAgg144
  z70 := Try.sizeOf144
  v70 := Try.zeroValue144
  t76 := Try.underlying148
  a76 := Try.isAgg148
  z76 := Try.sizeOf148
  v76 := Try.zeroValue148
  t77 := Try.underlying149
  a77 := Try.isAgg149
  z77 := Try.sizeOf149
  v77 := Try.zeroValue149 }
def Try.sortStr_ren : Go.Shelf.Ren := ⟨fun | 190 => 60 | 125 => 74 | 258 => 77 | 128 => 91 | 129 => 92 | 302 => 94 | 303 => 95 | 304 => 96 | 305 => 97 | 306 => 98 | 307 => 99 | 308 => 100 | 309 => 101 | 310 => 102 | 333 => 108 | 329 => 104 | 330 => 105 | 334 => 109 | 335 => 110 | 336 => 75 | 344 => 112 | n => n, fun | 31 => 97 | 9 => 9 | 3 => 3 | 46 => 110 | 0 => 0 | 51 => 134 | 53 => 108 | 4 => 4 | 183 => 127 | 182 => 126 | 131 => 131 | 5 => 5 | 218 => 140 | 222 => 144 | 228 => 148 | 229 => 149 | n => n, fun | n => n⟩
theorem Try.sortStr : Go.Proofs.Lays.n190 Try.prog Try.sortStr_ren := {
  mixed := by kernel_rfl
  f125 := Try.func74.trans (congrArg some (by kernel_rfl))
  f128 := Try.func91.trans (congrArg some (by kernel_rfl))
  f129 := Try.func92.trans (congrArg some (by kernel_rfl))
  f190 := Try.func60.trans (congrArg some (by kernel_rfl))
  f258 := Try.func77.trans (congrArg some (by kernel_rfl))
  f302 := Try.func94.trans (congrArg some (by kernel_rfl))
  f303 := Try.func95.trans (congrArg some (by kernel_rfl))
  f304 := Try.func96.trans (congrArg some (by kernel_rfl))
  f305 := Try.func97.trans (congrArg some (by kernel_rfl))
  f306 := Try.func98.trans (congrArg some (by kernel_rfl))
  f307 := Try.func99.trans (congrArg some (by kernel_rfl))
  f308 := Try.func100.trans (congrArg some (by kernel_rfl))
  f309 := Try.func101.trans (congrArg some (by kernel_rfl))
  f310 := Try.func102.trans (congrArg some (by kernel_rfl))
  f329 := Try.func104.trans (congrArg some (by kernel_rfl))
  f330 := Try.func105.trans (congrArg some (by kernel_rfl))
  f333 := Try.func108.trans (congrArg some (by kernel_rfl))
  f334 := Try.func109.trans (congrArg some (by kernel_rfl))
  f335 := Try.func110.trans (congrArg some (by kernel_rfl))
  f336 := Try.func75.trans (congrArg some (by kernel_rfl))
  f344 := Try.func112.trans (congrArg some (by kernel_rfl))
  t0 := Try.underlying0
  a0 := Try.isAgg0
  z0 := Try.sizeOf0
  v0 := Try.zeroValue0
  t3 := Try.underlying3
  a3 := Try.isAgg3
  z3 := Try.sizeOf3
  v3 := Try.zeroValue3
  t4 := Try.underlying4
  a4 := Try.isAgg4
  z4 := Try.sizeOf4
  v4 := Try.zeroValue4
  t5 := Try.underlying5
  a5 := Try.isAgg5
  z5 := Try.sizeOf5
  v5 := Try.zeroValue5
  t9 := Try.underlying9
  a9 := Try.isAgg9
  z9 := Try.sizeOf9
  v9 := Try.zeroValue9
  t31 := Try.underlying97
  a31 := Try.isAgg97
  z31 := Try.sizeOf97
  v31 := Try.zeroValue97
  t46 := Try.underlying110
  a46 := Try.isAgg110
  z46 := Try.sizeOf110
  v46 := Try.zeroValue110
  t51 := Try.underlying134
  a51 := Try.isAgg134
  z51 := Try.sizeOf134
  v51 := Try.zeroValue134
  t53 := Try.underlying108
  a53 := Try.isAgg108
  z53 := Try.sizeOf108
  v53 := Try.zeroValue108
  t131 := Try.underlying131
  a131 := Try.isAgg131
  z131 := Try.sizeOf131
  v131 := Try.zeroValue131
  t182 := Try.underlying126
  a182 := Try.isAgg126
  z182 := Try.sizeOf126
  v182 := Try.zeroValue126
  t183 := Try.underlying127
  a183 := Try.isAgg127
  z183 := Try.sizeOf127
  v183 := Try.zeroValue127
  t218 := Try.underlying140
  a218 := Try.isAgg140
  z218 := Try.sizeOf140
  v218 := Try.zeroValue140
  t222 := Try.underlying144
  a222 := Try.isAgg144
  z222 := Try.sizeOf144
  v222 := Try.zeroValue144
  t228 := Try.underlying148
  a228 := Try.isAgg148
  z228 := Try.sizeOf148
  v228 := Try.zeroValue148
  t229 := Try.underlying149
  a229 := Try.isAgg149
  z229 := Try.sizeOf149
  v229 := Try.zeroValue149 }
end Go.Proofs
end
section
namespace Go.Proofs.Ytehcmedeeaoebaa.PB
open Go.RowKit Go.Proofs.YtehcmedeeaoebaaW.PrintWords Go.Proofs.YtehcmedeeaoebaaW.PrintLast Go.Proofs.YtehcmedeeaoebaaW.PrintMore
attribute [local go_sem] max2_int min2_int max_two min_two max_three min_three max_four min_four
set_option linter.unusedVariables false
set_option linter.unusedSimpArgs false
def cmp_isNaN_string.f (a0 : ByteArray) : Option (Bool) := some (a0.toList != a0.toList)
set_option maxHeartbeats 8000000 in
set_option maxRecDepth 100000 in
theorem cmp_isNaN_string.calls (a0 : ByteArray) (r : Bool) (w : World) (h : cmp_isNaN_string.f a0 = some r) :
    Calls Try.prog 75 #[.string a0] w fun e w' => e = .returned (.bool r) ∧ Drawn0 w w' := by
  have H : (some (a0.toList != a0.toList)) = some r := h
  clear h
  obtain rfl := Option.some.inj H
  go_enter Try.func75, Try.ntmps75
  go_wp2
  go_ret
  exact ⟨by first | rfl | (simp; done) | (simp [*]; done), by repeat (first | exact Drawn0.refl _ | apply Drawn0.step)⟩
end Go.Proofs.Ytehcmedeeaoebaa.PB
end
section
namespace Go.Proofs.Ytehcmedeeaoebaa.PB
open Go.RowKit Go.Proofs.YtehcmedeeaoebaaW.PrintWords Go.Proofs.YtehcmedeeaoebaaW.PrintLast Go.Proofs.YtehcmedeeaoebaaW.PrintMore
set_option linter.unusedVariables false
set_option linter.unusedSimpArgs false
instance : Inhabited S69 := ⟨⟨⟨#[]⟩, ⟨#[]⟩⟩⟩
def cmpS (a b : ByteArray) : Int := if ltS a b then -1 else if ltS b a then 1 else 0
theorem ltS_iff (a b : ByteArray) : ltS a b = true ↔ a.data.toList < b.data.toList := by
  unfold ltS; rw [bytesLess_eq, Lib.toList_data, Lib.toList_data]; simp
theorem ltS_false (a b : ByteArray) : ltS a b = false ↔ b.data.toList ≤ a.data.toList := by
  rw [← Bool.not_eq_true, ltS_iff, List.not_lt]
theorem ltS_trans {a b c : ByteArray} (h1 : ltS a b = true) (h2 : ltS b c = true) : ltS a c = true := by
  rw [ltS_iff] at *; exact List.lt_trans h1 h2
theorem ltS_irrefl (a : ByteArray) : ltS a a = false := by rw [ltS_false]; exact List.le_refl _
theorem ltS_asymm {a b : ByteArray} (h : ltS a b = true) : ltS b a = false := by
  rw [ltS_false]; rw [ltS_iff] at h; exact List.le_of_lt h
theorem ltS_ntrans {a b c : ByteArray} (h1 : ltS a b = false) (h2 : ltS b c = false) : ltS a c = false := by
  rw [ltS_false] at *; exact List.le_trans h2 h1
theorem ltS_eq {a b : ByteArray} (h1 : ltS a b = false) (h2 : ltS b a = false) : a = b := by
  rw [ltS_false] at *; exact ByteArray.ext (Array.toList_inj.1 (List.le_antisymm h2 h1))
def cmpP (x y : S69) : Int := cmpS x.f0 y.f0
theorem cmpP_lt (x y : S69) : Go.Proofs.ltOf cmpP x y = ltS x.f0 y.f0 := by
  unfold Go.Proofs.ltOf cmpP cmpS
  cases h1 : ltS x.f0 y.f0
  · cases h2 : ltS y.f0 x.f0 <;> simp
  · simp
theorem swoP : Go.Sort.SWO (Go.Proofs.ltOf cmpP) where
  irrefl x := by rw [cmpP_lt]; exact ltS_irrefl _
  trans x y z h1 h2 := by rw [cmpP_lt] at *; exact ltS_trans h1 h2
  ntrans x y z h1 h2 := by rw [cmpP_lt] at *; exact ltS_ntrans h1 h2
theorem isNaNS.calls (a : ByteArray) (W : World) : Calls Try.prog 75 #[.string a] W fun e w' => e = .returned (.bool false) ∧ w' = W := by
  go_enter Try.func75, Try.ntmps75
  go_wp2
  go_ret
  exact ⟨by simp, rfl⟩
theorem compareS.calls (x y : ByteArray) (W : World) : Calls Try.prog 57 #[.string x, .string y] W fun e w' => e = .returned (.int .i64 (cmpS x y)) ∧ w' = W := by
  have hn := isNaNS.calls
  by_cases h1 : ltS x y = true
  · have e1 : Op.bytesLess x.toList y.toList = true := h1
    go_enter Try.func57, Try.ntmps57
    go_wp2_with (go_at_call 75; refine (hn _ _).mono ?_; rintro e w' ⟨rfl, rfl⟩)
    go_ret
    exact ⟨by simp [cmpS, h1], rfl⟩
  · have h1' : ltS x y = false := by simpa using h1
    have e1 : Op.bytesLess x.toList y.toList = false := h1'
    by_cases h2 : ltS y x = true
    · have hne : (x.toList == y.toList) = false := by
        rw [beq_eq_false_iff_ne]; intro h
        have : Op.bytesLess y.toList x.toList = true := h2
        rw [h] at this e1; rw [this] at e1; cases e1
      go_enter Try.func57, Try.ntmps57
      go_wp2_with (go_at_call 75; refine (hn _ _).mono ?_; rintro e w' ⟨rfl, rfl⟩)
      go_ret
      exact ⟨by simp [cmpS, h1', h2], rfl⟩
    · have h2' : ltS y x = false := by simpa using h2
      have hxy := ltS_eq h1' h2'
      subst hxy
      clear h1 h1' h2 h2'
      go_enter Try.func57, Try.ntmps57
      go_wp2_with (go_at_call 75; refine (hn _ _).mono ?_; rintro e w' ⟨rfl, rfl⟩)
      go_ret
      exact ⟨by simp [cmpS, ltS_irrefl], rfl⟩
def encP (x : S69) : List Value := [.string x.f0, .string x.f1]
set_option maxHeartbeats 1000000 in
theorem pairs1.calls (x y : S69) (W : World) : Calls Try.prog 56 #[.agg #[.string x.f0, .string x.f1], .agg #[.string y.f0, .string y.f1]] W fun e w' => e = .returned (.int .i64 (cmpP x y)) ∧ ∃ q os', w' = Go.Sort.grow (W.drewN q) os' := by
  have hcon := fun W' => compareS.calls x.f0 y.f0 W'
  unfold cmpP
  generalize cmpS x.f0 y.f0 = r at hcon ⊢
  go_enter Try.func56, Try.ntmps56
  go_wp2_with (go_at_call 57; refine (hcon _).mono ?_; rintro e w' ⟨rfl, rfl⟩)
  go_ret
  exact ⟨rfl, 0, _, by rw [Go.Sort.alloc_eq_grow, Go.Sort.alloc_eq_grow, Go.Sort.grow_grow]; rfl⟩
theorem cmpLaysP (blk off size : Nat) (w : World) : Go.Proofs.CmpLays Try.prog 56 #[] encP 2 cmpP blk off size w :=
  fun _ _ _ _ x y => pairs1.calls x y _
def sortP (xs : List S69) : List S69 := if xs = [] then [] else (Go.Sort.pdq (Go.Proofs.ltOf cmpP) xs.toArray 0 xs.toArray.size (Go.Lib.bitLen xs.toArray.size) true true).toList
theorem sortP_spec (xs : List S69) : (sortP xs).Perm xs ∧ (sortP xs).Pairwise fun a b => ltS b.f0 a.f0 = false := by
  unfold sortP
  split
  · next h => subst h; simp
  next hne =>
  have h := Go.Sort.pdq_sorts (Go.Proofs.ltOf cmpP) swoP xs.toArray 0 xs.toArray.size (Go.Lib.bitLen xs.toArray.size) true true (Nat.zero_le _) (Nat.le_refl _) (Or.inl rfl)
  generalize Go.Sort.pdq (Go.Proofs.ltOf cmpP) xs.toArray 0 xs.toArray.size (Go.Lib.bitLen xs.toArray.size) true true = d at h ⊢
  obtain ⟨⟨hs, -, hp⟩, ho⟩ := h
  refine ⟨?_, ?_⟩
  · have : d.extract 0 xs.toArray.size = d := by rw [← hs]; simp
    rw [this] at hp
    simpa using hp
  · rw [List.pairwise_iff_getElem]
    intro i j hi hj hij
    have := ho i j (Nat.zero_le _) hij (by rw [← hs]; simpa using hj)
    rw [cmpP_lt] at this
    rw [getElem!_pos d j (by simpa using hj), getElem!_pos d i (by simpa using hi)] at this
    simpa using this
open Go.Sort in
theorem flat_at (d : Array S69) (t : Nat) (h : t < d.size * 2) : (flatK encP 2 d)[t]! = (encP d[t / 2]!)[t % 2]! := get_flatK encP 2 d t h
open Go.Sort in
theorem R_cells {w : World} {base : Nat} {ok : Nat → Prop} {v : Value} {xs : List S69} (h : Kd.R k69 69 w base ok v xs) (hne : xs ≠ []) :
    ∃ g cap cur, v = .slice (some ⟨g, 0, none⟩) xs.length cap ∧ base ≤ g ∧ w.heap[g]? = some (.cells cur 69 (0, 0)) ∧ xs.length ≤ cap ∧ cap ≤ maxLen ∧ cur.size = cap * 2 ∧ cur.toList.take (xs.length * 2) = (flatK encP 2 xs.toArray).toList ∧ ok g := by
  obtain ⟨hok, inner, ⟨hl, hor⟩, hr⟩ := h
  rcases hor with ⟨_, h0⟩ | ⟨g, cap, cur, rfl, hb, hg, h1, h2, h3, h4⟩
  · exact absurd (List.eq_nil_of_length_eq_zero h0) hne
  refine ⟨g, cap, cur, rfl, hb, hg, h1, h2, h3, ?_, hok g rfl⟩
  rw [show Kd.sz k69 = 2 from rfl] at *
  rw [h4]
  refine List.ext_getElem (by simp [hl]) fun t ht1 ht2 => ?_
  have ht : t < xs.length * 2 := by rw [← hl]; exact ht1
  have hj : t / 2 < xs.length := by omega
  have hp := k69_openM (hr.2 (t / 2) _ (List.getElem?_eq_getElem hj))
  have e1 : inner[t]? = (((inner.drop (t / 2 * 2)).take 2))[t % 2]? := by
    rw [List.getElem?_take, if_pos (by omega), List.getElem?_drop]; congr 1; omega
  have hf := flat_at xs.toArray t (by simpa using ht)
  rw [getElem!_pos (flatK encP 2 xs.toArray) t (by simpa using ht)] at hf
  refine Eq.trans ?_ (show _ = (flatK encP 2 xs.toArray).toList[t] from hf.symm)
  apply Option.some.inj
  rw [← List.getElem?_eq_getElem ht1, e1]
  replace hp : List.take 2 (List.drop (t / 2 * 2) inner) = [.string xs[t / 2].f0, .string xs[t / 2].f1] := hp
  rw [hp]
  rw [getElem!_pos xs.toArray (t / 2) (by simpa using hj)]
  rcases (show t % 2 = 0 ∨ t % 2 = 1 by omega) with e | e <;> rw [e] <;> simp [encP]
open Go.Sort in
theorem R_sorted {w : World} {base : Nat} {ok : Nat → Prop} {xs ys : List S69} {g cap : Nat} (h : Kd.R k69 69 w base ok (.slice (some ⟨g, 0, none⟩) xs.length cap) xs) (hne : xs ≠ []) (hy : ys.length = xs.length) (m : Nat) (os : Array Obj) :
    Kd.R k69 69 (sortWorldK encP 2 w g 0 m ys.toArray os) base ok (.slice (some ⟨g, 0, none⟩) xs.length cap) ys ∧ Below base w (sortWorldK encP 2 w g 0 m ys.toArray os) := by
  obtain ⟨g', cap', cur, hv, hb, hg, h1, h2, h3, h4, h5⟩ := R_cells h hne
  injection hv with ha _ hc
  injection ha with ha; injection ha with ha
  subst ha hc
  have hgl := blk_lt hg
  have hblk : (sortWorldK encP 2 w g 0 m ys.toArray os).heap[g]? = some (.cells (putCells id 0 (flatK encP 2 ys.toArray) cur) 69 (0, 0)) := by
    unfold sortWorldK grow putRowK putRow mapBlock Go.Sort.ahead
    simp only
    rw [Array.getElem?_append_left (by simpa using hgl), Array.getElem?_modify, if_pos rfl, hg]
    rfl
  refine ⟨⟨fun k hk => by simp only [Value.ownBlock, Option.some.injEq] at hk; subst hk; exact h5, (flatK encP 2 ys.toArray).toList, ⟨by simp [hy]; rfl, Or.inr ⟨g, cap, _, by rw [hy], hb, hblk, by omega, h2, by simp [putCells, h3]; rfl, ?_⟩⟩, ⟨by simp; rfl, ?_⟩⟩, ⟨rfl, rfl, rfl, by unfold sortWorldK grow putRowK putRow mapBlock Go.Sort.ahead; simp, fun k hk => ?_⟩⟩
  · rw [hy, show Kd.sz k69 = 2 from rfl]
    refine List.ext_getElem (by simp [putCells, h3, hy]; omega) fun t ht1 ht2 => ?_
    have ht : t < ys.length * 2 := by simpa using ht2
    rw [List.getElem_take, Array.getElem_toList, Array.getElem_toList]
    simp only [putCells, Array.getElem_mapIdx, size_flatK, Nat.zero_le, true_and, Nat.zero_add, Nat.sub_zero, id]
    rw [if_pos (by simpa using ht), getElem!_pos (flatK encP 2 ys.toArray) t (by simpa using ht)]
  · intro j p hj
    have hjl : j < ys.length := (List.getElem?_eq_some_iff.1 hj).1
    have e : ((flatK encP 2 ys.toArray).toList.drop (j * 2)).take 2 = [.string p.f0, .string p.f1] := by
      have hp : ys.toArray[j]! = p := by rw [getElem!_pos ys.toArray j (by simpa using hjl)]; simpa using (List.getElem?_eq_some_iff.1 hj).2
      refine List.ext_getElem (by simp; omega) fun t ht1 ht2 => ?_
      have ht : t < 2 := by simpa using ht2
      rw [List.getElem_take, List.getElem_drop, Array.getElem_toList]
      have hf := flat_at ys.toArray (j * 2 + t) (by simp; omega)
      rw [getElem!_pos (flatK encP 2 ys.toArray) (j * 2 + t) (by simp; omega), show (j * 2 + t) / 2 = j by omega, show (j * 2 + t) % 2 = t by omega, hp] at hf
      rw [hf]
      rcases (show t = 0 ∨ t = 1 by omega) with e | e <;> subst e <;> simp [encP]
    rw [show Kd.sz k69 = 2 from rfl, e]
    exact k69_mkM _ _ _ _
  · unfold sortWorldK grow putRowK putRow mapBlock Go.Sort.ahead
    simp only
    have : k < w.heap.size := by omega
    rw [Array.getElem?_append_left (by simpa using this), Array.getElem?_modify, if_neg (by omega)]
set_option maxHeartbeats 2000000 in
theorem SortFunc69.calls (base : Nat) (ok : Nat → Prop) (v : Value) (xs : List S69) (w : World) (hR : Kd.R k69 69 w base ok v xs) (hn : xs.length < 4611686018427387904) :
    Calls Try.prog 55 #[v, .func (.func 56) #[] #[]] w fun e w' => e = .returned (.tuple #[]) ∧ Kd.R k69 69 w' base ok v (sortP xs) ∧ Below base w w' := by
  by_cases hne : xs = []
  · subst hne
    obtain ⟨A, c, rfl⟩ := Kd.R_slice hR
    refine (Go.Proofs.AnyF.slices_SortFunc_none Try.sortPair A c _ w).mono ?_
    rintro e w' ⟨rfl, rfl⟩
    exact ⟨rfl, by unfold sortP; rw [if_pos rfl]; exact hR, Below.refl _ _⟩
  obtain ⟨g, cap, cur, rfl, hb, hg, h1, h2, h3, h4, h5⟩ := R_cells hR hne
  have hH : Go.Sort.HoldsK encP 2 w g 0 xs.toArray := by
    intro j hj
    have hj' : j < xs.length * 2 := by simpa using hj
    refine ⟨?_, blk_frozen hg _⟩
    rw [Nat.zero_add, blk_cell hg]
    have e : cur[j]? = (cur.toList.take (xs.length * 2))[j]? := by rw [List.getElem?_take, if_pos hj']; simp
    rw [e, h4, Array.getElem?_toList, Array.getElem?_eq_getElem (by simpa using hj), getElem!_pos _ j (by simpa using hj)]; rfl
  have eg : ∀ args w, (callFunc 56 args).run Try.prog w = .ok (.enter 56 args) w := enters_of Try.func56 (by kernel_rfl) rfl
  have hcon := Go.Proofs.AnyQ.slices_SortFunc_eq Try.sortPair 2 Try.isAgg69 Try.sizeOf69 encP (fun _ => rfl) (fun x v hv => by simp [encP] at hv; rcases hv with rfl | rfl <;> rfl) cmpP swoP 56 #[] g 0 cap xs.toArray w eg (cmpLaysP _ _ _ _) hH (blk_lt hg) (by simpa using hn)
  refine Calls.mono (show Calls Try.prog 55 _ _ _ from hcon) ?_
  rintro e w' ⟨rfl, n, os, rfl⟩
  have hy : (sortP xs).length = xs.length := (sortP_spec xs).1.length_eq
  have := R_sorted hR hne hy n os
  have e : (sortP xs).toArray = Go.Sort.pdq (Go.Proofs.ltOf cmpP) xs.toArray 0 xs.toArray.size (Go.Lib.bitLen xs.toArray.size) true true := by unfold sortP; rw [if_neg hne]
  rw [e] at this
  exact ⟨rfl, this⟩
end Go.Proofs.Ytehcmedeeaoebaa.PB
end
section
namespace Go.Proofs.Ytehcmedeeaoebaa.PB
open Go.RowKit Go.Proofs.YtehcmedeeaoebaaW.PrintWords Go.Proofs.YtehcmedeeaoebaaW.PrintLast Go.Proofs.YtehcmedeeaoebaaW.PrintMore
attribute [local go_sem] max2_int min2_int max_two min_two max_three min_three max_four min_four
set_option linter.unusedVariables false
set_option linter.unusedSimpArgs false
mutual
def ambryref02_Below.l0 : Nat → ByteArray → ByteArray → Int → Option (Bool)
  | 0, _, _, _ => none
  | k + 1, x0, x1, x5 => if x5 < (x0.size : Int) then (ambryref02_Below.j1 k x0 x1 x5 (decide (x5 < (x1.size : Int)))) else (ambryref02_Below.j1 k x0 x1 x5 false)
def ambryref02_Below.j1 : Nat → ByteArray → ByteArray → Int → Bool → Option (Bool)
  | 0, _, _, _, _ => none
  | k + 1, x0, x1, x5, x15 => if x15 = true then (if 0 ≤ x5 then (if x5 < (x0.size : Int) then (if x5 < (x1.size : Int) then (if (bt x0 x5) = (bt x1 x5) then (ambryref02_Below.l0 k x0 x1 (wrap64 (x5 + 1))) else (some (decide ((bt x0 x5) < (bt x1 x5))))) else (none)) else (none)) else (none)) else (some (decide ((x0.size : Int) < (x1.size : Int))))
end
def ambryref02_Below.f (k : Nat) (a0 : ByteArray) (a1 : ByteArray) : Option (Bool) := ambryref02_Below.l0 k a0 a1 0
theorem ambryref02_Below.mono_l : ∀ k, (∀ y0 y1 y2, LeO (ambryref02_Below.l0 k y0 y1 y2) (ambryref02_Below.l0 (k + 1) y0 y1 y2)) ∧ (∀ y0 y1 y2 y3, LeO (ambryref02_Below.j1 k y0 y1 y2 y3) (ambryref02_Below.j1 (k + 1) y0 y1 y2 y3))
  | 0 => ⟨fun _ _ _ r h => by simp [ambryref02_Below.l0] at h, fun _ _ _ _ r h => by simp [ambryref02_Below.j1] at h⟩
  | k + 1 => by
    obtain ⟨ih0, ih1⟩ := ambryref02_Below.mono_l k
    refine ⟨?_, ?_⟩
    · intro y0 y1 y2
      unfold ambryref02_Below.l0
      repeat' first
      | (with_reducible exact ih0 _ _ _)
      | (with_reducible exact ih1 _ _ _ _)
      | (with_reducible exact LeO.refl _)
      | (with_reducible exact LeO.none _)
      | (with_reducible refine LeO.ite ?_ ?_)
      | (with_reducible refine LeO.bind ?_ (fun _ => ?_))
      | exact ih0 _ _ _
      | exact ih1 _ _ _ _
      | exact LeO.none _
      | refine LeO.ite ?_ ?_
      | refine LeO.bind ?_ (fun _ => ?_)
    · intro y0 y1 y2 y3
      unfold ambryref02_Below.j1
      repeat' first
      | (with_reducible exact ih0 _ _ _)
      | (with_reducible exact ih1 _ _ _ _)
      | (with_reducible exact LeO.refl _)
      | (with_reducible exact LeO.none _)
      | (with_reducible refine LeO.ite ?_ ?_)
      | (with_reducible refine LeO.bind ?_ (fun _ => ?_))
      | exact ih0 _ _ _
      | exact ih1 _ _ _ _
      | exact LeO.none _
      | refine LeO.ite ?_ ?_
      | refine LeO.bind ?_ (fun _ => ?_)
theorem ambryref02_Below.mono : ∀ a0 a1 k, LeO (ambryref02_Below.f k a0 a1) (ambryref02_Below.f (k + 1) a0 a1) := by
  intro a0 a1 k
  obtain ⟨ih0, ih1⟩ := ambryref02_Below.mono_l k
  unfold ambryref02_Below.f
  repeat' first
      | (with_reducible exact ih0 _ _ _)
      | (with_reducible exact ih1 _ _ _ _)
      | (with_reducible exact LeO.refl _)
      | (with_reducible exact LeO.none _)
      | (with_reducible refine LeO.ite ?_ ?_)
      | (with_reducible refine LeO.bind ?_ (fun _ => ?_))
      | exact ih0 _ _ _
      | exact ih1 _ _ _ _
      | exact LeO.none _
      | refine LeO.ite ?_ ?_
      | refine LeO.bind ?_ (fun _ => ?_)
set_option maxHeartbeats 8000000 in
set_option maxRecDepth 100000 in
theorem ambryref02_Below.calls (k : Nat) (a0 : ByteArray) (a1 : ByteArray) (r : Bool) (w : World) (h : ambryref02_Below.f k a0 a1 = some r) :
    Calls Try.prog 50 #[.string a0, .string a1] w fun e w' => e = .returned (.bool r) ∧ Drawn0 w w' := by
  have H : (ambryref02_Below.l0 k a0 a1 0) = some r := h
  clear h
  have H' := Aside0.mk H
  clear H
  go_enter Try.func50, Try.ntmps50
  go_wp2
  repeat (go_quiet (fail); try go_wp2)
  go_loopg [5] k (fun kq v5 w' => ∃ (x5_1 : Int), v5 = .int .i64 x5_1 ∧ Aside0 (ambryref02_Below.l0 kq a0 a1 x5_1 = some r) ∧ Aside0 (kq ≤ k) ∧ Drawn0 w w')
  case atStart => exact ⟨(0), (by first | rfl | (simp; done) | (simp [*]; done)), H', ⟨Nat.le_refl _⟩, by repeat (first | exact Drawn0.refl _ | apply Drawn0.step)⟩
  case round =>
    clear H'
    try clear p2
    obtain ⟨x5_1, rfl, HA, HK1, ⟨m1, rfl⟩⟩ := hrel
    cases gk with
    | zero => exact absurd HA.out (by simp [ambryref02_Below.l0])
    | succ k1 =>
      have H := HA.out
      clear HA
      simp only [ambryref02_Below.l0] at H
      have HC3 := Aside0.mk H
      clear H
      go_upto_region 2 with (fail)
      repeat (go_quiet (fail); go_upto_region 2 with (fail))
      go_cut [15] (fun v15 wc => ∃ (kq : Nat) (x15_2 : Bool), v15 = .bool x15_2 ∧ Aside0 (ambryref02_Below.j1 kq a0 a1 x5_1 x15_2 = some r) ∧ Aside0 (kq ≤ k1) ∧ Drawn0 w wc)
      case first =>
        have H := HC3.out
        clear HC3
        by_cases c4 : x5_1 < (a0.size : Int)
        · rw [if_pos c4] at H
          have c4b0 : decide (x5_1 < (a0.size : Int)) = true := decide_eq_true c4
          clear c4
          (first | rw [c4b0] | (simp only [i64_w, i32_w]; rw [c4b0]) | skip)
          have H' := Aside0.mk H
          clear H
          go_wp2
          repeat (go_quiet (fail); try go_wp2)
          go_meet
          case rel => exact ⟨_, (decide (x5_1 < (a1.size : Int))), (by first | rfl | (simp; done) | (simp [*]; done)), H', ⟨by have := HK1.out; first | omega | exact Nat.le_refl _⟩, by repeat (first | exact Drawn0.refl _ | apply Drawn0.step)⟩
        · rw [if_neg c4] at H
          have c4b0 : decide (x5_1 < (a0.size : Int)) = false := decide_eq_false c4
          clear c4
          (first | rw [c4b0] | (simp only [i64_w, i32_w]; rw [c4b0]) | skip)
          have H' := Aside0.mk H
          clear H
          go_wp2
          repeat (go_quiet (fail); try go_wp2)
          go_meet
          case rel => exact ⟨_, (false), (by first | rfl | (simp; done) | (simp [*]; done)), H', ⟨by have := HK1.out; first | omega | exact Nat.le_refl _⟩, by repeat (first | exact Drawn0.refl _ | apply Drawn0.step)⟩
      case rest =>
        clear HC3
        try clear p2
        try clear c4
        try clear c4b0
        try clear p2
        obtain ⟨kq, x15_2, rfl, HA, HJ2, ⟨mc2, rfl⟩⟩ := hcut
        cases kq with
        | zero => exact absurd HA.out (by simp [ambryref02_Below.j1])
        | succ kj2 =>
          have H := HA.out
          clear HA
          simp only [ambryref02_Below.j1] at H
          by_cases c5 : x15_2 = true
          · subst c5
            have H1 : (if 0 ≤ x5_1 then (if x5_1 < (a0.size : Int) then (if x5_1 < (a1.size : Int) then (if (bt a0 x5_1) = (bt a1 x5_1) then (ambryref02_Below.l0 kj2 a0 a1 (wrap64 (x5_1 + 1))) else (some (decide ((bt a0 x5_1) < (bt a1 x5_1))))) else (none)) else (none)) else (none)) = some r := by rw [if_pos rfl] at H; exact H
            clear H
            have H := H1
            clear H1
            by_cases c6 : 0 ≤ x5_1
            · rw [if_pos c6] at H
              have c6b0 : decide (0 ≤ x5_1) = true := decide_eq_true c6
              clear c6
              by_cases c7 : x5_1 < (a0.size : Int)
              · rw [if_pos c7] at H
                have c7b0 : decide (x5_1 < (a0.size : Int)) = true := decide_eq_true c7
                clear c7
                by_cases c9 : x5_1 < (a1.size : Int)
                · rw [if_pos c9] at H
                  have c9b0 : decide (x5_1 < (a1.size : Int)) = true := decide_eq_true c9
                  clear c9
                  by_cases c11 : (bt a0 x5_1) = (bt a1 x5_1)
                  · rw [if_pos c11] at H
                    have c11b0 : ((bt a0 x5_1) == (bt a1 x5_1)) = true := beq_iff_eq.mpr c11
                    have c11b1 : ((bt a0 x5_1) != (bt a1 x5_1)) = false := bne_eq_false_iff_eq.mpr c11
                    clear c11
                    have H' := Aside0.mk H
                    clear H
                    have p8 : 0 ≤ (x5_1 : Int) := of_decide_eq_true (by first | (with_reducible assumption) | assumption)
                    have q8 : x5_1 < (a0.size : Int) := of_decide_eq_true (by first | (with_reducible assumption) | assumption)
                    have hx8 := bt_at a0 x5_1
                    replace p8 := eq_true p8
                    replace q8 := eq_true q8
                    have p10 : 0 ≤ (x5_1 : Int) := of_decide_eq_true (by first | (with_reducible assumption) | assumption)
                    have q10 : x5_1 < (a1.size : Int) := of_decide_eq_true (by first | (with_reducible assumption) | assumption)
                    have hx10 := bt_at a1 x5_1
                    replace p10 := eq_true p10
                    replace q10 := eq_true q10
                    go_wp2
                    repeat (go_quiet (fail); try go_wp2)
                    go_roundg kj2
                    case measure => have := HK1.out; have := HJ2.out; omega
                    case rel => exact ⟨(wrap64 (x5_1 + 1)), (by first | rfl | (simp; done) | (simp [*]; done)), H', ⟨by have := HK1.out; have := HJ2.out; omega⟩, by repeat (first | exact Drawn0.refl _ | apply Drawn0.step)⟩
                  · rw [if_neg c11] at H
                    have c11b0 : ((bt a0 x5_1) == (bt a1 x5_1)) = false := beq_eq_false_iff_ne.mpr c11
                    have c11b1 : ((bt a0 x5_1) != (bt a1 x5_1)) = true := bne_iff_ne.mpr c11
                    obtain rfl := Option.some.inj H
                    have p8 : 0 ≤ (x5_1 : Int) := of_decide_eq_true (by first | (with_reducible assumption) | assumption)
                    have q8 : x5_1 < (a0.size : Int) := of_decide_eq_true (by first | (with_reducible assumption) | assumption)
                    have hx8 := bt_at a0 x5_1
                    replace p8 := eq_true p8
                    replace q8 := eq_true q8
                    have p10 : 0 ≤ (x5_1 : Int) := of_decide_eq_true (by first | (with_reducible assumption) | assumption)
                    have q10 : x5_1 < (a1.size : Int) := of_decide_eq_true (by first | (with_reducible assumption) | assumption)
                    have hx10 := bt_at a1 x5_1
                    replace p10 := eq_true p10
                    replace q10 := eq_true q10
                    have p12 : 0 ≤ (x5_1 : Int) := of_decide_eq_true (by first | (with_reducible assumption) | assumption)
                    have q12 : x5_1 < (a0.size : Int) := of_decide_eq_true (by first | (with_reducible assumption) | assumption)
                    have hx12 := bt_at a0 x5_1
                    replace p12 := eq_true p12
                    replace q12 := eq_true q12
                    have p13 : 0 ≤ (x5_1 : Int) := of_decide_eq_true (by first | (with_reducible assumption) | assumption)
                    have q13 : x5_1 < (a1.size : Int) := of_decide_eq_true (by first | (with_reducible assumption) | assumption)
                    have hx13 := bt_at a1 x5_1
                    replace p13 := eq_true p13
                    replace q13 := eq_true q13
                    go_wp2
                    repeat (go_quiet (fail); try go_wp2)
                    go_ret
                    exact ⟨by first | rfl | (simp; done) | (simp [*]; done), by repeat (first | exact Drawn0.refl _ | apply Drawn0.step)⟩
                · rw [if_neg c9] at H
                  exact absurd H (by simp)
              · rw [if_neg c7] at H
                exact absurd H (by simp)
            · rw [if_neg c6] at H
              exact absurd H (by simp)
          · replace c5 := Bool.eq_false_iff.mpr c5
            subst c5
            have H1 : (some (decide ((a0.size : Int) < (a1.size : Int)))) = some r := by rw [if_neg (show ¬ (false = true) by decide)] at H; exact H
            clear H
            have H := H1
            clear H1
            obtain rfl := Option.some.inj H
            go_wp2
            repeat (go_quiet (fail); try go_wp2)
            go_ret
            exact ⟨by first | rfl | (simp; done) | (simp [*]; done), by repeat (first | exact Drawn0.refl _ | apply Drawn0.step)⟩
end Go.Proofs.Ytehcmedeeaoebaa.PB
end
section
namespace Go.Proofs.Ytehcmedeeaoebaa.PB
open Go.RowKit Go.Proofs.YtehcmedeeaoebaaW.PrintWords Go.Proofs.YtehcmedeeaoebaaW.PrintLast Go.Proofs.YtehcmedeeaoebaaW.PrintMore
set_option linter.unusedVariables false
theorem ne_of_beqF {a b : List UInt8} (h : (a == b) = false) : ¬ a = b := fun e => by rw [e, beq_self_eq_true] at h; cases h
theorem frm_end (s : ByteArray) (p : Nat) (h : s.size ≤ p) : frm s p = [] := by
  unfold frm
  rw [List.drop_eq_nil_iff]
  have : s.data.toList.length = s.size := by simp
  omega
theorem below_loop (a b : ByteArray) (ha : a.size ≤ 9223372036854775807 ∨ b.size ≤ 9223372036854775807) : ∀ n i, i + n = a.size → i ≤ b.size → Ev (fun k => ambryref02_Below.l0 k a b (i : Int)) (Op.bytesLess (frm a i) (frm b i)) := by
  intro n
  induction n with
  | zero =>
    intro i hi hb
    refine Ev.step (g := fun k => ambryref02_Below.j1 k a b (i : Int) false) ?_ fun k => ?_
    · refine Ev.step (Ev.of_eq (o := some (decide ((a.size : Int) < (b.size : Int)))) ?_) fun k => by simp only [ambryref02_Below.j1]; rw [if_neg (by simp)]
      congr 1
      rw [frm_end a i (by omega)]
      by_cases c : i = b.size
      · rw [frm_end b i (by omega)]
        simp [Op.bytesLess]
        omega
      · obtain ⟨y, hy⟩ := frm_of_lt (s := b) (p := i) (by omega)
        rw [hy]
        simp [Op.bytesLess]
        omega
    · simp only [ambryref02_Below.l0]
      rw [if_neg (by omega)]
  | succ n ih =>
    intro i hi hb
    obtain ⟨x, hx⟩ := frm_of_lt (s := a) (p := i) (by omega)
    have hxb := (frm_cons hx).2.1
    by_cases c : i = b.size
    · refine Ev.step (g := fun k => ambryref02_Below.j1 k a b (i : Int) false) ?_ fun k => ?_
      · refine Ev.step (Ev.of_eq (o := some (decide ((a.size : Int) < (b.size : Int)))) ?_) fun k => by simp only [ambryref02_Below.j1]; rw [if_neg (by simp)]
        congr 1
        rw [frm_end b i (by omega), hx]
        simp [Op.bytesLess]
        omega
      · simp only [ambryref02_Below.l0]
        rw [if_pos (by omega), decide_eq_false (by omega)]
    · obtain ⟨y, hy⟩ := frm_of_lt (s := b) (p := i) (by omega)
      have hyb := (frm_cons hy).2.1
      refine Ev.step (g := fun k => ambryref02_Below.j1 k a b (i : Int) true) ?_ fun k => ?_
      · by_cases e : x = y
        · have h := ih (i + 1) (by omega) (by omega)
          have hv : Op.bytesLess (frm a i) (frm b i) = Op.bytesLess (frm a (i + 1)) (frm b (i + 1)) := by
            rw [hx, hy, e, Op.bytesLess]
            simp
          rw [hv]
          refine Ev.step h fun k => ?_
          simp only [ambryref02_Below.j1]
          rw [if_pos trivial, if_pos (by omega), if_pos (by omega), if_pos (by omega), if_pos (by rw [hxb, hyb, e]), w64 (by omega) (by omega)]
          rfl
        · have hne : ¬ bt a (i : Int) = bt b (i : Int) := by
            rw [hxb, hyb]
            intro h
            exact e (UInt8.toNat_inj.1 (by omega))
          have hv : Op.bytesLess (frm a i) (frm b i) = decide (bt a (i : Int) < bt b (i : Int)) := by
            rw [hx, hy, hxb, hyb, Op.bytesLess]
            have : (x == y) = false := by simpa using e
            rw [this, Bool.false_and, Bool.or_false]
            rw [Bool.eq_iff_iff]
            simp [UInt8.lt_iff_toNat_lt]
          rw [hv]
          refine Ev.step (Ev.const _) fun k => ?_
          simp only [ambryref02_Below.j1]
          rw [if_pos trivial, if_pos (by omega), if_pos (by omega), if_pos (by omega), if_neg hne]
      · simp only [ambryref02_Below.l0]
        rw [if_pos (by omega), decide_eq_true (by omega)]
theorem Below_ev (a b : ByteArray) (ha : a.size ≤ 9223372036854775807 ∨ b.size ≤ 9223372036854775807) : Ev (fun k => ambryref02_Below.f k a b) (ltS a b) := by
  have h := below_loop a b ha a.size 0 (by omega) (by omega)
  have e : ltS a b = Op.bytesLess (frm a 0) (frm b 0) := by unfold ltS frm; rw [Lib.toList_data, Lib.toList_data, List.drop_zero, List.drop_zero]
  rw [e]
  exact h
end Go.Proofs.Ytehcmedeeaoebaa.PB
end
section
namespace Go.Proofs.Ytehcmedeeaoebaa.PB
open Go.RowKit Go.Proofs.YtehcmedeeaoebaaW.PrintWords Go.Proofs.YtehcmedeeaoebaaW.PrintLast Go.Proofs.YtehcmedeeaoebaaW.PrintMore
set_option linter.unusedVariables false
set_option linter.unusedSimpArgs false
theorem ne_of_beq_false {a b : List UInt8} (h : (a == b) = false) : ¬ a = b := fun e => by rw [e, beq_self_eq_true] at h; cases h
def delOf (p : S69) : S52 := ⟨p.f0, ⟨#[]⟩, true⟩
def chgOf (p : S69) : S52 := ⟨p.f0, p.f1, false⟩
def diffL : List S69 → List S69 → List S52
  | us, [] => us.map delOf
  | [], b :: bs => chgOf b :: diffL [] bs
  | a :: us, b :: bs => if ltS a.f0 b.f0 = true then delOf a :: diffL us (b :: bs)
      else if a.f0.toList = b.f0.toList then if a.f1.toList = b.f1.toList then diffL us bs else chgOf b :: diffL us bs
      else chgOf b :: diffL (a :: us) bs
termination_by us bs => us.length + bs.length
def differP (us bs : List S69) : List S52 := if risesP us = true ∧ risesP bs = true then diffL us bs else []
def batch_Differ.f (k : Nat) (us bs : List S69) : Option (List S52) := if us.length + bs.length ≤ 1000000000000 then some (differP us bs) else none
theorem batch_Differ.mono : ∀ a0 a1 k, LeO (batch_Differ.f k a0 a1) (batch_Differ.f (k + 1) a0 a1) := fun _ _ _ => LeO.refl _
theorem diffL_lt {us bs : List S69} {i m : Nat} (hi : i < us.length) (hm : m < bs.length) (h : ltS us[i].f0 bs[m].f0 = true) : diffL (us.drop i) (bs.drop m) = delOf us[i] :: diffL (us.drop (i + 1)) (bs.drop m) := by
  rw [List.drop_eq_getElem_cons hi, List.drop_eq_getElem_cons hm, diffL, if_pos h]
theorem diffL_same {us bs : List S69} {i m : Nat} (hi : i < us.length) (hm : m < bs.length) (h : ltS us[i].f0 bs[m].f0 = false) (h1 : us[i].f0.toList = bs[m].f0.toList) (h2 : us[i].f1.toList = bs[m].f1.toList) : diffL (us.drop i) (bs.drop m) = diffL (us.drop (i + 1)) (bs.drop (m + 1)) := by
  rw [List.drop_eq_getElem_cons hi, List.drop_eq_getElem_cons hm, diffL, if_neg (by rw [h]; exact Bool.false_ne_true), if_pos h1, if_pos h2]
theorem diffL_chg {us bs : List S69} {i m : Nat} (hi : i < us.length) (hm : m < bs.length) (h : ltS us[i].f0 bs[m].f0 = false) (h1 : us[i].f0.toList = bs[m].f0.toList) (h2 : ¬ us[i].f1.toList = bs[m].f1.toList) : diffL (us.drop i) (bs.drop m) = chgOf bs[m] :: diffL (us.drop (i + 1)) (bs.drop (m + 1)) := by
  rw [List.drop_eq_getElem_cons hi, List.drop_eq_getElem_cons hm, diffL, if_neg (by rw [h]; exact Bool.false_ne_true), if_pos h1, if_neg h2]
theorem diffL_new {us bs : List S69} {i m : Nat} (hi : i < us.length) (hm : m < bs.length) (h : ltS us[i].f0 bs[m].f0 = false) (h1 : ¬ us[i].f0.toList = bs[m].f0.toList) : diffL (us.drop i) (bs.drop m) = chgOf bs[m] :: diffL (us.drop i) (bs.drop (m + 1)) := by
  rw [List.drop_eq_getElem_cons hi, List.drop_eq_getElem_cons hm, diffL, if_neg (by rw [h]; exact Bool.false_ne_true), if_neg h1]
theorem diffL_end {us bs : List S69} {i m : Nat} (hi : us.length ≤ i) (hm : m < bs.length) : diffL (us.drop i) (bs.drop m) = chgOf bs[m] :: diffL (us.drop i) (bs.drop (m + 1)) := by
  rw [List.drop_of_length_le hi, List.drop_eq_getElem_cons hm, diffL]
theorem diffL_nil (us : List S69) : diffL us [] = us.map delOf := by rw [diffL]
theorem delOf_step {us : List S69} {i : Nat} (hi : i < us.length) : (us.drop i).map delOf = delOf us[i] :: (us.drop (i + 1)).map delOf := by
  rw [List.drop_eq_getElem_cons hi, List.map_cons]
set_option maxHeartbeats 8000000 in
set_option maxRecDepth 100000 in
theorem batch_Differ.calls (k : Nat) (A0 : Option Addr) (c0 : Nat) (l0 : List S69) (A1 : Option Addr) (c1 : Nat) (l1 : List S69) (r : List S52) (w : World) (hr0 : Kd.C k69 w A0 l0.length l0) (hc0 : l0.length ≤ c0) (hr1 : Kd.C k69 w A1 l1.length l1) (hc1 : l1.length ≤ c1) (h : batch_Differ.f k l0 l1 = some r) :
    Calls Try.prog 21 #[.slice A0 l0.length c0, .slice A1 l1.length c1] w fun e w' => ∃ v0_ : Value, e = .returned v0_ ∧ Kd.R k52 52 w' w.heap.size (fun _ => True) v0_ r ∧ Below w.heap.size w w' := by
  unfold batch_Differ.f at h
  by_cases hsz : l0.length + l1.length ≤ 1000000000000
  case neg => rw [if_neg hsz] at h; cases h
  rw [if_pos hsz] at h
  obtain rfl : differP l0 l1 = r := Option.some.inj h
  have HC0 := Aside0.mk hr0
  have HC1 := Aside0.mk hr1
  have HL0 := Aside0.mk hc0
  have HL1 := Aside0.mk hc1
  have HB := Aside0.mk (Below.refl w.heap.size w)
  clear hr0 hr1 hc0 hc1 h
  obtain ⟨q0, hq0⟩ : ∃ q, risesP l0 = q := ⟨_, rfl⟩
  obtain ⟨q1, hq1⟩ : ∃ q, risesP l1 = q := ⟨_, rfl⟩
  have HR0 := Aside0.mk hq0
  have HR1 := Aside0.mk hq1
  clear hq0 hq1
  by_cases hb0 : ¬ (q0 = true ∧ q1 = true)
  · have HD := Aside0.mk (show differP l0 l1 = [] by unfold differP; rw [HR0.out, HR1.out, if_neg hb0])
    cases q0 <;> cases q1
    all_goals first | (exact absurd ⟨rfl, rfl⟩ hb0) | skip
    all_goals
      clear hb0
      go_enter Try.func21, Try.ntmps21
      go_wp2_with (first | ((with_reducible refine gate_callee (f := 48) rfl ?_); refine goesL_ (some 12) rfl rfl Try.func48 (by kernel_rfl) rfl #[.slice A0 l0.length c0] rfl (by (try simp only [List.map_toArray, List.map_cons, List.map_nil]); first | done | rfl | (simp only [List.length_drop, List.length_take]; rfl)) ?_; go_must (refine (rises.calls A0 c0 l0 _ (Kd.C_below HC0.out HB.out) HL0.out).mono ?_); rintro e w0 ⟨rfl, hb⟩; have d_ := Aside0.mk (below_then HB.out HB.out.size hb); clear HB; have HB := d_; clear d_ hb; rw [HR0.out]; refine ⟨_, rfl, ?_⟩) | (go_at_call 48; go_must (refine (rises.calls A1 c1 l1 _ (Kd.C_below HC1.out HB.out) HL1.out).mono ?_); rintro e w1 ⟨rfl, hb⟩; have d_ := Aside0.mk (below_then HB.out HB.out.size hb); clear HB; have HB := d_; clear d_ hb; rw [HR1.out]) | go_step3)
      try rw [Exit.noGoto_ret]
      go_ret
      exact ⟨_, rfl, by rw [HD.out]; exact Kd.R_nil _ _ _ _ _, HB.out⟩
  obtain ⟨rfl, rfl⟩ : q0 = true ∧ q1 = true := Classical.not_not.1 hb0
  clear hb0
  obtain ⟨D, hD⟩ : ∃ D, differP l0 l1 = D := ⟨_, rfl⟩
  have HD : Aside0 (diffL l0 l1 = D) := ⟨by rw [← hD]; unfold differP; rw [if_pos ⟨HR0.out, HR1.out⟩]⟩
  rw [hD]
  clear hD
  go_enter Try.func21, Try.ntmps21
  go_wp2_with (first | ((with_reducible refine gate_callee (f := 48) rfl ?_); refine goesL_ (some 12) rfl rfl Try.func48 (by kernel_rfl) rfl #[.slice A0 l0.length c0] rfl (by (try simp only [List.map_toArray, List.map_cons, List.map_nil]); first | done | rfl | (simp only [List.length_drop, List.length_take]; rfl)) ?_; go_must (refine (rises.calls A0 c0 l0 _ (Kd.C_below HC0.out HB.out) HL0.out).mono ?_); rintro e w0 ⟨rfl, hb⟩; have d_ := Aside0.mk (below_then HB.out HB.out.size hb); clear HB; have HB := d_; clear d_ hb; rw [HR0.out]; refine ⟨_, rfl, ?_⟩) | (go_at_call 48; go_must (refine (rises.calls A1 c1 l1 _ (Kd.C_below HC1.out HB.out) HL1.out).mono ?_); rintro e w1 ⟨rfl, hb⟩; have d_ := Aside0.mk (below_then HB.out HB.out.size hb); clear HB; have HB := d_; clear d_ hb; rw [HR1.out]) | go_step3)
  go_loopg [5, 6, 21] l1.length (fun gg s5 s6 s21 wr => ∃ (i m : Nat) (acc : List S52), m ≤ l1.length ∧ i ≤ l0.length ∧ acc.length ≤ i + m ∧ l1.length - m ≤ gg ∧ s6 = .int .i64 i ∧ s21 = .int .i64 m ∧ Aside0 (Below w.heap.size w wr) ∧ Aside0 (Kd.R k52 52 wr w.heap.size (fun _ => True) s5 acc) ∧ Aside0 (acc ++ diffL (l0.drop i) (l1.drop m) = D))
  case atStart => exact ⟨0, 0, [], Nat.zero_le _, Nat.zero_le _, by simp, by omega, rfl, rfl, HB, ⟨Kd.R_nil _ _ _ _ _⟩, ⟨by simpa using HD.out⟩⟩
  case round =>
    obtain ⟨i, m, acc, hm, hi, hacc, hgg, rfl, rfl, HB', HR, HE⟩ := hrel
    clear HB HD
    have HB := HB'
    clear HB'
    have HI := Aside0.mk hi
    have HACC := Aside0.mk hacc
    clear hi hacc
    by_cases hml : m < l1.length
    · have hmz : (m : Int) < (l1.length : Int) := by omega
      obtain ⟨ad1, e1, h0, h1⟩ := at_T69 HC1.out (m : Int) (by omega) hmz
      cases e1
      rw [rdT69_get l1 m hml] at h0 h1
      simp only [Int.toNat_natCast] at h0 h1
      obtain ⟨pk, pv, hp⟩ : ∃ pk pv, l1[m] = ⟨pk, pv⟩ := ⟨_, _, rfl⟩
      rw [hp] at h0 h1
      have HP := Aside0.mk hp
      clear hp
      simp only at h0 h1
      replace h0 := (HB.out.cell (World.block_lt_of_cell? w _ h0)).trans h0
      replace h1 := (HB.out.cell (World.block_lt_of_cell? w _ h1)).trans h1
      go_wp2_with (first | ((with_reducible refine gate_dst (N := 8) rfl ?_); refine box_event ?hg (N := 8) ?hd (cs := #[.string ⟨#[]⟩, .string ⟨#[]⟩]) (t := 69) ?hr ?_; (case hd => rfl); (case hg => rfl); (case hr => first | (go_simp; done) | (go_simp; rfl)); intro g8 hg w2 hbox hb; have G8 := Aside0.mk (show w.heap.size ≤ g8 from (by rw [hg]; exact HB.out.size)); have B8 := Aside0.mk hbox; clear hbox hg; have n0_ := Aside0.mk (below_then HB.out HB.out.size hb); have n1_ := Aside0.mk (Kd.R_below HR.out hb); clear HB HR; have HB := n0_; have HR := n1_; clear n0_ n1_; clear hb) | ((with_reducible refine gate_store (t := 69) (p := 8) (v := .tmp 24) rfl ?_); go_must (refine sagg_event rfl 69 (.tmp 8) (.tmp 24) rfl rfl g8 #[.string pk, .string pv] _ _ rfl rfl B8.out (by kernel_rfl) rfl rfl ?_); intro w3 hbk hu; have nR_ := Aside0.mk (Kd.R_mono (Kd.R_step (Kd.R_types HR.out B8.out (by decide)) (fun k_ hk_ _ => hu.block k_ hk_.2)) (fun _ hk_ => hk_.1)); clear HR; have HR := nR_; clear nR_; have n0_ := Aside0.mk (hu.below HB.out G8.out); clear HB; have HB := n0_; clear n0_; clear B8; have B8 := Aside0.mk hbk; have c80 := (blk_cell B8.out 0).trans rfl; have c81 := (blk_cell B8.out 1).trans rfl; clear hbk hu))
      go_frame
      clear h0 h1
      go_loopg [5, 6] (l0.length - i) (fun gg s5 s6 wr => ∃ (i' : Nat) (acc' : List S52), i' ≤ l0.length ∧ acc'.length ≤ i' + m ∧ l0.length - i' ≤ gg ∧ s6 = .int .i64 i' ∧ Aside0 (Below w.heap.size w wr) ∧ Aside0 (wr.heap[g8]? = some (.cells #[.string pk, .string pv] 69 (0, 0))) ∧ Aside0 (Kd.R k52 52 wr w.heap.size (fun _ => True) s5 acc') ∧ Aside0 (acc' ++ diffL (l0.drop i') (l1.drop m) = D))
      case atStart => exact ⟨i, acc, HI.out, HACC.out, by omega, rfl, HB, B8, HR, HE⟩
      case round =>
        clear HB HR HE B8 HI HACC c80 c81
        obtain ⟨i, acc, hi, hacc, hgi, rfl, HB, B8, HR, HE⟩ := hrel
        have HACC := Aside0.mk hacc
        have hln : (acc.length + 1) * 40 ≤ 140737488355328 := by omega
        have HLN := Aside0.mk hln
        clear hacc hln
        have c80 : wr.cell? ⟨g8, 0, none⟩ = some (.string pk) := (blk_cell B8.out 0).trans rfl
        have c81 : wr.cell? ⟨g8, 1, none⟩ = some (.string pv) := (blk_cell B8.out 1).trans rfl
        have hl0 : (l0.length : Int) ≤ 1000000000000 := by omega
        by_cases hil : i < l0.length
        · have hiz : (i : Int) < (l0.length : Int) := by omega
          have hd : decide ((i : Int) < (l0.length : Int)) = true := decide_eq_true hiz
          obtain ⟨ad0, e0, h0, h1⟩ := at_T69 HC0.out (i : Int) (by omega) hiz
          cases e0
          rw [rdT69_get l0 i hil] at h0 h1
          simp only [Int.toNat_natCast] at h0 h1
          obtain ⟨xk, xv, hx⟩ : ∃ xk xv, l0[i] = ⟨xk, xv⟩ := ⟨_, _, rfl⟩
          rw [hx] at h0 h1
          have HX := Aside0.mk hx
          clear hx
          simp only at h0 h1
          replace h0 := (HB.out.cell (World.block_lt_of_cell? w _ h0)).trans h0
          replace h1 := (HB.out.cell (World.block_lt_of_cell? w _ h1)).trans h1
          obtain ⟨q, hq⟩ : ∃ q, ltS xk pk = q := ⟨_, rfl⟩
          have HQ := Aside0.mk hq
          unfold ltS at hq
          cases q with
          | true =>
            go_wp2
            go_quiet (fail)
            try go_frame
            have d1_ := Aside0.mk (pw_below_drewN HB.out nq)
            have d2_ := Aside0.mk (blk_drewN B8.out nq)
            have d3_ := Aside0.mk (Kd.R_drewN HR.out nq)
            have ec80 : (wr.drewN nq).cell? ⟨g8, 0, none⟩ = some (.string pk) := c80
            have ec81 : (wr.drewN nq).cell? ⟨g8, 1, none⟩ = some (.string pv) := c81
            have eh0 : (wr.drewN nq).cell? (ad0.add (i * 2)) = some (.string xk) := h0
            have eh1 : (wr.drewN nq).cell? ⟨(ad0.add (i * 2)).block, (ad0.add (i * 2)).off + 1, none⟩ = some (.string xv) := h1
            clear HB B8 HR c80 c81 h0 h1
            revert d1_ d2_ d3_ ec80 ec81 eh0 eh1
            generalize wr.drewN nq = x1
            intro HB B8 HR c80 c81 h0 h1
            go_wp2_with (first | ((with_reducible refine gate_builtin (b := .append) (xs := #[.tmp 39, .tmp 46]) rfl ?_); at_builtin; go_must (refine Kd.R_append k52 (w0 := w) w.heap.size rfl (.tmp 39) (.tmp 46) 22 52 (.agg #[(.string ⟨#[]⟩), (.string ⟨#[]⟩), (.bool false)]) 40 rfl Try.underlying22 info52 rfl (by decide) (by decide) u5 acc (⟨xk, ⟨#[]⟩, true⟩ : S52) [.string xk, .string ⟨#[]⟩, .bool true] (fun _ => True) (fun _ => False) rfl rfl (k52_mkM _ _ _ (⟨xk, ⟨#[]⟩, true⟩ : S52)) (fun _ hk => hk.elim) (fun _ _ => trivial) HR.out HB.out HB.out.size HLN.out ?_); intro v5 w5 ho hb hg hat; have n1_ := Aside0.mk (blk_grown B8.out hg (Kd.R_ne HR.out B8.out (by decide))); clear HB B8 HR; have HB := Aside0.mk hb; have B8 := n1_; clear n1_; have HR := Aside0.mk ho; have c80 := (blk_cell B8.out 0).trans rfl; have c81 := (blk_cell B8.out 1).trans rfl; clear ho hb hg hat))
            go_wp2
            go_roundg (l0.length - (i + 1))
            case measure => omega
            case rel => exact ⟨i + 1, acc ++ [⟨xk, ⟨#[]⟩, true⟩], by omega, by have := HACC.out; simp; omega, by omega, by go_num, HB, B8, HR, ⟨by have e := HE.out; rw [diffL_lt hil hml (by rw [HX.out, HP.out]; exact HQ.out), HX.out] at e; rw [List.append_assoc]; exact e⟩⟩
          | false =>
            go_wp2
            go_quiet (fail)
            try go_frame
            have d1_ := Aside0.mk (pw_below_drewN HB.out nq)
            have d2_ := Aside0.mk (blk_drewN B8.out nq)
            have d3_ := Aside0.mk (Kd.R_drewN HR.out nq)
            have ec80 : (wr.drewN nq).cell? ⟨g8, 0, none⟩ = some (.string pk) := c80
            have ec81 : (wr.drewN nq).cell? ⟨g8, 1, none⟩ = some (.string pv) := c81
            have eh0 : (wr.drewN nq).cell? (ad0.add (i * 2)) = some (.string xk) := h0
            have eh1 : (wr.drewN nq).cell? ⟨(ad0.add (i * 2)).block, (ad0.add (i * 2)).off + 1, none⟩ = some (.string xv) := h1
            clear HB B8 HR c80 c81 h0 h1
            revert d1_ d2_ d3_ ec80 ec81 eh0 eh1
            generalize wr.drewN nq = x1
            intro HB B8 HR c80 c81 h0 h1
            obtain ⟨q2, hk⟩ : ∃ q, (xk.toList == pk.toList) = q := ⟨_, rfl⟩
            have HK := Aside0.mk hk
            cases q2 with
            | true =>
              go_wp2
              go_quiet (fail)
              try go_frame
              have d1_ := Aside0.mk (pw_below_drewN HB.out nq)
              have d2_ := Aside0.mk (blk_drewN B8.out nq)
              have d3_ := Aside0.mk (Kd.R_drewN HR.out nq)
              have ec80 : (x1.drewN nq).cell? ⟨g8, 0, none⟩ = some (.string pk) := c80
              have ec81 : (x1.drewN nq).cell? ⟨g8, 1, none⟩ = some (.string pv) := c81
              have eh0 : (x1.drewN nq).cell? (ad0.add (i * 2)) = some (.string xk) := h0
              have eh1 : (x1.drewN nq).cell? ⟨(ad0.add (i * 2)).block, (ad0.add (i * 2)).off + 1, none⟩ = some (.string xv) := h1
              clear HB B8 HR c80 c81 h0 h1
              revert d1_ d2_ d3_ ec80 ec81 eh0 eh1
              generalize x1.drewN nq = x2
              intro HB B8 HR c80 c81 h0 h1
              obtain ⟨q3, hv⟩ : ∃ q, (xv.toList == pv.toList) = q := ⟨_, rfl⟩
              have HV := Aside0.mk hv
              have p0 : (0 : Int) ≤ (i : Int) := by omega
              have p4 : IntKind.i64.wrap (i : Int) = (i : Int) := by simp [IntKind.wrap, IntKind.bits, IntKind.signed]; omega
              cases q3 with
              | true =>
                go_wp2
                go_wp2
                go_quiet (fail)
                try go_frame
                have d1_ := Aside0.mk (pw_below_drewN HB.out nq)
                have d2_ := Aside0.mk (blk_drewN B8.out nq)
                have d3_ := Aside0.mk (Kd.R_drewN HR.out nq)
                have ec80 : (x2.drewN nq).cell? ⟨g8, 0, none⟩ = some (.string pk) := c80
                have ec81 : (x2.drewN nq).cell? ⟨g8, 1, none⟩ = some (.string pv) := c81
                have eh0 : (x2.drewN nq).cell? (ad0.add (i * 2)) = some (.string xk) := h0
                have eh1 : (x2.drewN nq).cell? ⟨(ad0.add (i * 2)).block, (ad0.add (i * 2)).off + 1, none⟩ = some (.string xv) := h1
                clear HB B8 HR c80 c81 h0 h1
                revert d1_ d2_ d3_ ec80 ec81 eh0 eh1
                generalize x2.drewN nq = x3
                intro HB B8 HR c80 c81 h0 h1
                go_wp2
                go_roundg (l1.length - (m + 1))
                case measure => omega
                case rel => exact ⟨i + 1, m + 1, acc, by omega, by omega, by have := HACC.out; omega, by omega, by go_num, by go_num, HB, HR, ⟨by have e := HE.out; rwa [diffL_same hil hml (by rw [HX.out, HP.out]; exact HQ.out) (by rw [HX.out, HP.out]; exact eq_of_beq HK.out) (by rw [HX.out, HP.out]; exact eq_of_beq HV.out)] at e⟩⟩
              | false =>
                go_wp2
                go_wp2
                go_quiet (fail)
                try go_frame
                have d1_ := Aside0.mk (pw_below_drewN HB.out nq)
                have d2_ := Aside0.mk (blk_drewN B8.out nq)
                have d3_ := Aside0.mk (Kd.R_drewN HR.out nq)
                have ec80 : (x2.drewN nq).cell? ⟨g8, 0, none⟩ = some (.string pk) := c80
                have ec81 : (x2.drewN nq).cell? ⟨g8, 1, none⟩ = some (.string pv) := c81
                have eh0 : (x2.drewN nq).cell? (ad0.add (i * 2)) = some (.string xk) := h0
                have eh1 : (x2.drewN nq).cell? ⟨(ad0.add (i * 2)).block, (ad0.add (i * 2)).off + 1, none⟩ = some (.string xv) := h1
                clear HB B8 HR c80 c81 h0 h1
                revert d1_ d2_ d3_ ec80 ec81 eh0 eh1
                generalize x2.drewN nq = x3
                intro HB B8 HR c80 c81 h0 h1
                go_wp2_with (first | ((with_reducible refine gate_builtin (b := .append) (xs := #[.tmp 75, .tmp 81]) rfl ?_); at_builtin; go_must (refine Kd.R_append k52 (w0 := w) w.heap.size rfl (.tmp 75) (.tmp 81) 22 52 (.agg #[(.string ⟨#[]⟩), (.string ⟨#[]⟩), (.bool false)]) 40 rfl Try.underlying22 info52 rfl (by decide) (by decide) u5 acc (⟨pk, pv, false⟩ : S52) [.string pk, .string pv, .bool false] (fun _ => True) (fun _ => False) rfl rfl (k52_mkM _ _ _ (⟨pk, pv, false⟩ : S52)) (fun _ hk => hk.elim) (fun _ _ => trivial) HR.out HB.out HB.out.size HLN.out ?_); intro v5 w5 ho hb hg hat; clear HB HR; have HB := Aside0.mk hb; have HR := Aside0.mk ho; clear ho hb hg hat))
                go_wp2
                go_roundg (l1.length - (m + 1))
                case measure => omega
                case rel => exact ⟨i + 1, m + 1, acc ++ [⟨pk, pv, false⟩], by omega, by omega, by have := HACC.out; simp; omega, by omega, by go_num, by go_num, HB, HR, ⟨by have e := HE.out; rw [diffL_chg hil hml (by rw [HX.out, HP.out]; exact HQ.out) (by rw [HX.out, HP.out]; exact eq_of_beq HK.out) (by rw [HX.out, HP.out]; exact ne_of_beq_false HV.out), HP.out] at e; rw [List.append_assoc]; exact e⟩⟩
            | false =>
              go_wp2
              go_quiet (fail)
              try go_frame
              have d1_ := Aside0.mk (pw_below_drewN HB.out nq)
              have d2_ := Aside0.mk (blk_drewN B8.out nq)
              have d3_ := Aside0.mk (Kd.R_drewN HR.out nq)
              have ec80 : (x1.drewN nq).cell? ⟨g8, 0, none⟩ = some (.string pk) := c80
              have ec81 : (x1.drewN nq).cell? ⟨g8, 1, none⟩ = some (.string pv) := c81
              have eh0 : (x1.drewN nq).cell? (ad0.add (i * 2)) = some (.string xk) := h0
              have eh1 : (x1.drewN nq).cell? ⟨(ad0.add (i * 2)).block, (ad0.add (i * 2)).off + 1, none⟩ = some (.string xv) := h1
              clear HB B8 HR c80 c81 h0 h1
              revert d1_ d2_ d3_ ec80 ec81 eh0 eh1
              generalize x1.drewN nq = x2
              intro HB B8 HR c80 c81 h0 h1
              go_wp2_with (first | ((with_reducible refine gate_builtin (b := .append) (xs := #[.tmp 75, .tmp 81]) rfl ?_); at_builtin; go_must (refine Kd.R_append k52 (w0 := w) w.heap.size rfl (.tmp 75) (.tmp 81) 22 52 (.agg #[(.string ⟨#[]⟩), (.string ⟨#[]⟩), (.bool false)]) 40 rfl Try.underlying22 info52 rfl (by decide) (by decide) u5 acc (⟨pk, pv, false⟩ : S52) [.string pk, .string pv, .bool false] (fun _ => True) (fun _ => False) rfl rfl (k52_mkM _ _ _ (⟨pk, pv, false⟩ : S52)) (fun _ hk => hk.elim) (fun _ _ => trivial) HR.out HB.out HB.out.size HLN.out ?_); intro v5 w5 ho hb hg hat; clear HB HR; have HB := Aside0.mk hb; have HR := Aside0.mk ho; clear ho hb hg hat))
              go_wp2
              go_roundg (l1.length - (m + 1))
              case measure => omega
              case rel => exact ⟨i, m + 1, acc ++ [⟨pk, pv, false⟩], by omega, by omega, by have := HACC.out; simp; omega, by omega, rfl, by go_num, HB, HR, ⟨by have e := HE.out; rw [diffL_new hil hml (by rw [HX.out, HP.out]; exact HQ.out) (by rw [HX.out, HP.out]; exact ne_of_beq_false HK.out), HP.out] at e; rw [List.append_assoc]; exact e⟩⟩
        · have hiz : ¬ (i : Int) < (l0.length : Int) := by omega
          have hd : decide ((i : Int) < (l0.length : Int)) = false := decide_eq_false hiz
          go_wp2
          go_quiet (fail)
          try go_frame
          have d1_ := Aside0.mk (pw_below_drewN HB.out nq)
          have d2_ := Aside0.mk (blk_drewN B8.out nq)
          have d3_ := Aside0.mk (Kd.R_drewN HR.out nq)
          have ec80 : (wr.drewN nq).cell? ⟨g8, 0, none⟩ = some (.string pk) := c80
          have ec81 : (wr.drewN nq).cell? ⟨g8, 1, none⟩ = some (.string pv) := c81
          clear HB B8 HR c80 c81
          revert d1_ d2_ d3_ ec80 ec81
          generalize wr.drewN nq = x1
          intro HB B8 HR c80 c81
          go_wp2
          go_quiet (fail)
          try go_frame
          have d1_ := Aside0.mk (pw_below_drewN HB.out nq)
          have d2_ := Aside0.mk (blk_drewN B8.out nq)
          have d3_ := Aside0.mk (Kd.R_drewN HR.out nq)
          have ec80 : (x1.drewN nq).cell? ⟨g8, 0, none⟩ = some (.string pk) := c80
          have ec81 : (x1.drewN nq).cell? ⟨g8, 1, none⟩ = some (.string pv) := c81
          clear HB B8 HR c80 c81
          revert d1_ d2_ d3_ ec80 ec81
          generalize x1.drewN nq = x2
          intro HB B8 HR c80 c81
          go_wp2_with (first | ((with_reducible refine gate_builtin (b := .append) (xs := #[.tmp 75, .tmp 81]) rfl ?_); at_builtin; go_must (refine Kd.R_append k52 (w0 := w) w.heap.size rfl (.tmp 75) (.tmp 81) 22 52 (.agg #[(.string ⟨#[]⟩), (.string ⟨#[]⟩), (.bool false)]) 40 rfl Try.underlying22 info52 rfl (by decide) (by decide) u5 acc (⟨pk, pv, false⟩ : S52) [.string pk, .string pv, .bool false] (fun _ => True) (fun _ => False) rfl rfl (k52_mkM _ _ _ (⟨pk, pv, false⟩ : S52)) (fun _ hk => hk.elim) (fun _ _ => trivial) HR.out HB.out HB.out.size HLN.out ?_); intro v5 w5 ho hb hg hat; clear HB HR; have HB := Aside0.mk hb; have HR := Aside0.mk ho; clear ho hb hg hat))
          go_wp2
          go_roundg (l1.length - (m + 1))
          case measure => omega
          case rel => exact ⟨i, m + 1, acc ++ [⟨pk, pv, false⟩], by omega, by omega, by have := HACC.out; simp; omega, by omega, rfl, by go_num, HB, HR, ⟨by have e := HE.out; rw [diffL_end (by omega) hml, HP.out] at e; rw [List.append_assoc]; exact e⟩⟩
    · have hmz : ¬ (m : Int) < (l1.length : Int) := by omega
      obtain ⟨ls, hls⟩ : ∃ ls, l0.drop i = ls := ⟨_, rfl⟩
      have hll : ls.length = l0.length - i := by rw [← hls, List.length_drop]
      have HE2 : Aside0 (acc ++ ls.map delOf = D) := ⟨by have e := HE.out; rwa [List.drop_of_length_le (by omega : l1.length ≤ m), diffL_nil, hls] at e⟩
      obtain ⟨ti, hti, _, hts, _⟩ := info_parts info69
      obtain ⟨A2, hA2⟩ : ∃ A2, (if c0 = i then A0 else A0.map (·.add (i * 2))) = A2 := ⟨_, rfl⟩
      have HC2 : Aside0 (Kd.C k69 w A2 ls.length ls) := ⟨by have := Kd.C_drop (c := c0) HC0.out HI.out HL0.out; rw [hls] at this; rw [← hA2]; exact this⟩
      have hcut := cut_from (P := Try.prog) 43 69 .i64 Try.underlying43 hti 2 hts A0 l0.length c0 (i : Int) (by omega) (by have := HI.out; omega)
      simp only [Int.toNat_natCast] at hcut
      rw [hA2, ← hll] at hcut
      have hj0 : acc.length ≤ 1000000000000 - ls.length := by have := HACC.out; have := HI.out; omega
      have HJ := Aside0.mk hj0
      have hi0 : (i : Int) ≤ (l0.length : Int) := by have := HI.out; omega
      have hlz : (ls.length : Int) ≤ 1000000000000 := by omega
      clear HE hls hA2 hti hts HACC hj0 hll
      go_wp2
      clear hcut
      go_loopg [5, 88] ls.length (fun gg s5 s88 wr => ∃ (j : Nat) (acc : List S52), j ≤ ls.length ∧ acc.length + ls.length ≤ 1000000000000 + j ∧ ls.length - j ≤ gg ∧ s88 = .int .i64 j ∧ Aside0 (Below w.heap.size w wr) ∧ Aside0 (Kd.R k52 52 wr w.heap.size (fun _ => True) s5 acc) ∧ Aside0 (acc ++ (ls.drop j).map delOf = D))
      case atStart => exact ⟨0, acc, Nat.zero_le _, by have := HJ.out; omega, by omega, rfl, HB, HR, ⟨by rw [List.drop_zero]; exact HE2.out⟩⟩
      case round =>
        clear HB HR HE2 HI HJ
        obtain ⟨j, acc, hj, hacc, hgj, rfl, HB, HR, HE⟩ := hrel
        have HACC := Aside0.mk hacc
        by_cases hjl : j < ls.length
        · have hjz : (j : Int) < (ls.length : Int) := by omega
          have HLN : Aside0 ((acc.length + 1) * 40 ≤ 140737488355328) := ⟨by omega⟩
          obtain ⟨ad2, e2, h0, h1⟩ := at_T69 HC2.out (j : Int) (by omega) hjz
          cases e2
          rw [rdT69_get ls j hjl] at h0 h1
          simp only [Int.toNat_natCast] at h0 h1
          obtain ⟨pk, pv, hp⟩ : ∃ pk pv, ls[j] = ⟨pk, pv⟩ := ⟨_, _, rfl⟩
          rw [hp] at h0 h1
          have HP := Aside0.mk hp
          clear hp hacc
          simp only at h0 h1
          replace h0 := (HB.out.cell (World.block_lt_of_cell? w _ h0)).trans h0
          replace h1 := (HB.out.cell (World.block_lt_of_cell? w _ h1)).trans h1
          go_wp2_with (first | ((with_reducible refine gate_dst (N := 10) rfl ?_); refine box_event ?hg (N := 10) ?hd (cs := #[.string ⟨#[]⟩, .string ⟨#[]⟩]) (t := 69) ?hr ?_; (case hd => rfl); (case hg => rfl); (case hr => first | (go_simp; done) | (go_simp; rfl)); intro g10 hg w5 hbox hb; have G10 := Aside0.mk (show w.heap.size ≤ g10 from (by rw [hg]; exact HB.out.size)); have B10 := Aside0.mk hbox; clear hbox hg; have n0_ := Aside0.mk (below_then HB.out HB.out.size hb); have n1_ := Aside0.mk (Kd.R_below HR.out hb); clear HB HR; have HB := n0_; have HR := n1_; clear n0_ n1_; clear hb) | ((with_reducible refine gate_store (t := 69) (p := 10) (v := .tmp 91) rfl ?_); go_must (refine sagg_event rfl 69 (.tmp 10) (.tmp 91) rfl rfl g10 #[.string pk, .string pv] _ _ rfl rfl B10.out (by kernel_rfl) rfl rfl ?_); intro w6 hbk hu; have nR_ := Aside0.mk (Kd.R_mono (Kd.R_step (Kd.R_types HR.out B10.out (by decide)) (fun k_ hk_ _ => hu.block k_ hk_.2)) (fun _ hk_ => hk_.1)); clear HR; have HR := nR_; clear nR_; have n0_ := Aside0.mk (hu.below HB.out G10.out); clear HB; have HB := n0_; clear n0_; clear B10; have B10 := Aside0.mk hbk; have c100 := (blk_cell B10.out 0).trans rfl; have c101 := (blk_cell B10.out 1).trans rfl; clear hbk hu) | ((with_reducible refine gate_builtin (b := .append) (xs := #[.tmp 92, .tmp 96]) rfl ?_); at_builtin; go_must (refine Kd.R_append k52 (w0 := w) w.heap.size rfl (.tmp 92) (.tmp 96) 22 52 (.agg #[(.string ⟨#[]⟩), (.string ⟨#[]⟩), (.bool false)]) 40 rfl Try.underlying22 info52 rfl (by decide) (by decide) u5 acc (⟨pk, ⟨#[]⟩, true⟩ : S52) [.string pk, .string ⟨#[]⟩, .bool true] (fun _ => True) (fun _ => False) rfl rfl (k52_mkM _ _ _ (⟨pk, ⟨#[]⟩, true⟩ : S52)) (fun _ hk => hk.elim) (fun _ _ => trivial) HR.out HB.out HB.out.size HLN.out ?_); intro v7 w7 ho hb hg hat; clear HB HR; have HB := Aside0.mk hb; have HR := Aside0.mk ho; clear ho hb hg hat))
          go_wp2
          go_roundg (ls.length - (j + 1))
          case measure => omega
          case rel => exact ⟨j + 1, acc ++ [⟨pk, ⟨#[]⟩, true⟩], by omega, by have := HACC.out; simp; omega, by omega, by go_num, HB, HR, ⟨by have e := HE.out; rw [delOf_step hjl, HP.out] at e; rw [List.append_assoc]; exact e⟩⟩
        · have hjz : ¬ (j : Int) < (ls.length : Int) := by omega
          have HD : Aside0 (Kd.R k52 52 wr w.heap.size (fun _ => True) u5 D) := ⟨by have e := HE.out; rw [List.drop_of_length_le (by omega), List.map_nil, List.append_nil] at e; rw [← e]; exact HR.out⟩
          clear hacc
          go_wp2
          try rw [Exit.noGoto_ret]
          go_ret
          exact ⟨_, rfl, HD.out, HB.out⟩
end Go.Proofs.Ytehcmedeeaoebaa.PB
end
section
namespace Go.Proofs.Ytehcmedeeaoebaa.PB
open Go.RowKit Go.Proofs.YtehcmedeeaoebaaW.PrintWords Go.Proofs.YtehcmedeeaoebaaW.PrintLast Go.Proofs.YtehcmedeeaoebaaW.PrintMore
set_option linter.unusedVariables false
def flagB (b : Bool) : UInt8 := if b then 1 else 0
def encC (c : S52) : List UInt8 := flagB c.f2 :: (UInt8.ofNat c.f0.size :: (c.f0.data.toList ++ (UInt8.ofNat c.f1.size :: c.f1.data.toList)))
def encL (l : List S52) : List UInt8 := l.flatMap encC
def smallC (c : S52) : Prop := c.f0.size ≤ 255 ∧ c.f1.size ≤ 255
theorem item_of {s : ByteArray} {p : Nat} {c : S52} {rest : List UInt8} (hc : smallC c) (h : frm s p = encC c ++ rest) :
    ∃ q q' : Nat, p < s.size ∧ bt s (p : Int) ≤ 1 ∧ (bt s (p : Int) == 1) = c.f2 ∧ textP s ((p : Int) + 1) = some (c.f0, (q : Int)) ∧ textP s (q : Int) = some (c.f1, (q' : Int)) ∧ frm s q' = rest ∧ q' ≤ s.size := by
  unfold encC at h
  obtain ⟨hp, hb, h1⟩ := frm_cons h
  have e1 := text_of (x := c.f0) (rest := (UInt8.ofNat c.f1.size :: c.f1.data.toList) ++ rest) hc.1 (by rw [h1]; simp)
  obtain ⟨t1, f1, l1⟩ := e1
  have e2 := text_of (x := c.f1) (rest := rest) hc.2 (by rw [f1]; simp)
  obtain ⟨t2, f2, l2⟩ := e2
  refine ⟨_, _, hp, ?_, ?_, t1, t2, f2, l2⟩
  · rw [hb]; unfold flagB; cases c.f2 <;> decide
  · rw [hb]; unfold flagB; cases c.f2 <;> decide
theorem of_item {s : ByteArray} {p : Nat} {x y : ByteArray} {q q' : Int} (hp : p < s.size) (hb : bt s (p : Int) ≤ 1) (h1 : textP s ((p : Int) + 1) = some (x, q)) (h2 : textP s q = some (y, q')) :
    ∃ m : Nat, q' = (m : Int) ∧ m ≤ s.size ∧ smallC ⟨x, y, bt s (p : Int) == 1⟩ ∧ frm s p = encC ⟨x, y, bt s (p : Int) == 1⟩ ++ frm s m := by
  obtain ⟨b, hfb⟩ := frm_of_lt hp
  have hbb := (frm_cons hfb).2.1
  obtain ⟨a1, a2, a3, a4⟩ := of_text (p := p + 1) h1
  subst a2
  obtain ⟨b1, b2, b3, b4⟩ := of_text h2
  subst b2
  refine ⟨_, rfl, b3, ⟨a1, b1⟩, ?_⟩
  rw [hfb, a4, b4]
  have hr := bt_range s (p : Int)
  have hbf : b = flagB (bt s (p : Int) == 1) := by
    apply UInt8.toNat_inj.1
    rcases (show bt s (p : Int) = 0 ∨ bt s (p : Int) = 1 by omega) with e | e
    · rw [e]; unfold flagB; rw [e] at hbb; simp; omega
    · rw [e]; unfold flagB; rw [e] at hbb; simp; omega
  rw [hbf]
  unfold encC
  simp
theorem read_of (s : ByteArray) (t : Int) : ∀ (l : List S52) (p : Nat) (acc : List S52), p ≤ s.size → (∀ c ∈ l, smallC c) → frm s p = encL l → readLoopP s t l.length (p : Int) acc = readEndP s t s.size (acc ++ l)
  | [], p, acc, hp, _, h => by
    have : p = s.size := (frm_nil_iff s p hp).1 h
    subst this
    simp [readLoopP]
  | c :: l, p, acc, hp, hs, h => by
    obtain ⟨q, q', h1, h2, h3, h4, h5, h6, h7⟩ := item_of (rest := encL l) (hs c (by simp)) (by rw [h]; simp [encL])
    rw [List.length_cons, readLoopP, if_pos (by omega), if_neg (by omega), h4]
    simp only
    rw [h5]
    simp only
    rw [h3, read_of s t l q' _ h7 (fun c hc => hs c (by simp [hc])) h6]
    simp
theorem ref_of (s : ByteArray) (t : Int) : ∀ (l : List S52) (p : Nat) (acc : List S52), p ≤ s.size → (∀ c ∈ l, smallC c) → frm s p = encL l → refLoopP s t l.length (p : Int) acc = refEndP s t s.size (acc ++ l)
  | [], p, acc, hp, _, h => by
    have : p = s.size := (frm_nil_iff s p hp).1 h
    subst this
    simp [refLoopP]
  | c :: l, p, acc, hp, hs, h => by
    obtain ⟨q, q', h1, h2, h3, h4, h5, h6, h7⟩ := item_of (rest := encL l) (hs c (by simp)) (by rw [h]; simp [encL])
    have hpc : pieceP s ((p : Int) + 1) = (c.f0, (q : Int)) := piece_of_text (p := p + 1) h4
    rw [List.length_cons, refLoopP, if_pos (by omega), hpc]
    simp only
    rw [piece_of_text h5]
    simp only
    rw [h3, ref_of s t l q' _ h7 (fun c hc => hs c (by simp [hc])) h6]
    simp
theorem of_read (s : ByteArray) (t : Int) : ∀ (n p : Nat) (acc : List S52), p ≤ s.size → readLoopP s t n (p : Int) acc = badP ∨ ∃ l, l.length = n ∧ (∀ c ∈ l, smallC c) ∧ frm s p = encL l
  | 0, p, acc, hp => by
    rw [readLoopP]
    unfold readEndP
    by_cases c : (p : Int) = s.size
    · right; exact ⟨[], rfl, by simp, (frm_nil_iff s p hp).2 (by omega)⟩
    · left; rw [if_neg c]
  | n + 1, p, acc, hp => by
    rw [readLoopP]
    by_cases c1 : (p : Int) < s.size
    · rw [if_pos c1]
      by_cases c2 : 1 < bt s (p : Int)
      · left; rw [if_pos c2]
      · rw [if_neg c2]
        rcases h1 : textP s ((p : Int) + 1) with _ | ⟨key, at1⟩
        · left; rfl
        simp only
        rcases h2 : textP s at1 with _ | ⟨val, at2⟩
        · left; rfl
        simp only
        obtain ⟨m, rfl, hm, hsm, hf⟩ := of_item (by omega) (by omega) h1 h2
        rcases of_read s t n m (acc ++ [⟨key, val, bt s (p : Int) == 1⟩]) hm with h | ⟨l, hl, hs, hfm⟩
        · left; exact h
        · right
          exact ⟨⟨key, val, bt s (p : Int) == 1⟩ :: l, by simp [hl], by intro c hc; rcases List.mem_cons.1 hc with rfl | hc; exact hsm; exact hs c hc, by rw [hf, hfm]; simp [encL]⟩
    · left; rw [if_neg c1]
theorem of_ref (s : ByteArray) (t : Int) : ∀ (n : Nat) (at_ : Int) (acc : List S52), refLoopP s t n at_ acc = badP ∨ ∃ l, checkP t l = 0 ∧ putP t l = s := by
  have he : ∀ at_ acc, refEndP s t at_ acc = badP ∨ ∃ l, checkP t l = 0 ∧ putP t l = s := by
    intro at_ acc
    unfold refEndP
    by_cases c1 : at_ < 0
    · left; rw [if_pos c1]
    rw [if_neg c1]
    by_cases c2 : checkP t acc = 0
    · rw [if_pos c2]
      by_cases c3 : putP t acc = s
      · right; exact ⟨acc, c2, c3⟩
      · left; rw [if_neg c3]
    · left; rw [if_neg c2]
  intro n
  induction n with
  | zero => intro at_ acc; exact he at_ acc
  | succ n ih =>
    intro at_ acc
    rw [refLoopP]
    by_cases c : 0 ≤ at_ ∧ at_ < s.size
    · rw [if_pos c]; exact ih _ _
    · rw [if_neg c]; exact he at_ acc
theorem u8_mod (n : Nat) : UInt8.ofNat (((n : Int) % 256).toNat) = UInt8.ofNat n := by
  apply UInt8.toNat_inj.1
  rw [UInt8.toNat_ofNat', UInt8.toNat_ofNat']
  omega
theorem F1_list (n : Nat) : (F1 (n : Int)).data.toList = [UInt8.ofNat n] := by
  unfold F1
  rw [strOfNums_data]
  simp only [List.map_cons, List.map_nil]
  rw [u8_mod]
theorem putItem_list (s : ByteArray) (c : S52) : (putItem s c).data.toList = s.data.toList ++ encC c := by
  unfold putItem
  have e : F1 (if c.f2 = true then 1 else 0) = F1 (((if c.f2 = true then 1 else 0 : Nat) : Nat) : Int) := by cases c.f2 <;> rfl
  rw [e]
  simp only [ByteArray.data_append, Array.toList_append, F1_list]
  unfold encC flagB
  cases c.f2 <;> simp
theorem foldl_put_list : ∀ (l : List S52) (s : ByteArray), (l.foldl putItem s).data.toList = s.data.toList ++ encL l
  | [], s => by simp [encL]
  | c :: l, s => by rw [List.foldl_cons, foldl_put_list l, putItem_list]; simp [encL]
def bytesU (t : Int) : List UInt8 := (bytes8 (t % 18446744073709551616)).map fun n => UInt8.ofNat n.toNat
theorem bytesU_length (t : Int) : (bytesU t).length = 8 := by unfold bytesU; rw [List.length_map, bytes8_low, lowBytes_length]
theorem putP_list (t : Int) (l : List S52) : (putP t l).data.toList = 66 :: (bytesU t ++ (UInt8.ofNat l.length :: encL l)) := by
  unfold putP
  rw [foldl_put_list]
  unfold putHead F8
  simp only [ByteArray.data_append, Array.toList_append, F1_list, strOfNums_data]
  rfl
theorem split_list (s : ByteArray) (hs : 10 ≤ s.size) (h66 : bt s 0 = 66) : s.data.toList = 66 :: (bytesU (wrap64 (be (bytesOf (s.extract 1 9)))) ++ (UInt8.ofNat (bt s 9).toNat :: frm s 10)) := by
  obtain ⟨b0, h0⟩ := frm_of_lt (s := s) (p := 0) (by omega)
  obtain ⟨b9, h9⟩ := frm_of_lt (s := s) (p := 9) (by omega)
  have e0 : b0 = 66 := by
    have := (frm_cons h0).2.1
    apply UInt8.toNat_inj.1
    have h66' : bt s ((0 : Nat) : Int) = 66 := h66
    rw [h66'] at this
    show b0.toNat = 66
    omega
  have e9 : b9 = UInt8.ofNat (bt s 9).toNat := by
    have h := (frm_cons h9).2.1
    have h' : bt s 9 = (b9.toNat : Int) := h
    rw [h', Int.toNat_natCast, UInt8.ofNat_toNat]
  have hl : (bytesOf (s.extract 1 9)).length = 8 := by rw [bytesOf_length, ByteArray.size_extract]; omega
  have hb : ∀ b ∈ bytesOf (s.extract 1 9), 0 ≤ b ∧ b < 256 := by
    intro b hb
    unfold bytesOf at hb
    obtain ⟨u, _, rfl⟩ := List.mem_map.1 hb
    have := u.toNat_lt
    omega
  obtain ⟨h1, h2, h3⟩ := bytes8_be _ hl hb
  have ew : wrap64 (be (bytesOf (s.extract 1 9))) % 18446744073709551616 = be (bytesOf (s.extract 1 9)) := by unfold wrap64; omega
  have eu : bytesU (wrap64 (be (bytesOf (s.extract 1 9)))) = (frm s 1).take 8 := by
    unfold bytesU
    rw [ew, h1]
    have := ext_list s 1 8 (by omega)
    rw [← this]
    unfold bytesOf
    rw [List.map_map]
    refine (List.map_congr_left fun b _ => ?_).trans (List.map_id _)
    show UInt8.ofNat ((b.toNat : Int)).toNat = b
    rw [Int.toNat_natCast, UInt8.ofNat_toNat]
  rw [eu]
  have f0 : s.data.toList = frm s 0 := rfl
  rw [f0, h0, e0, ← e9]
  congr 1
  have : frm s 9 = (frm s 1).drop 8 := by unfold frm; rw [List.drop_drop]
  rw [← h9, this, List.take_append_drop]
theorem putP_iff (s : ByteArray) (hs : 10 ≤ s.size) (h66 : bt s 0 = 66) (l : List S52) (hl : l.length = (bt s 9).toNat) (hf : frm s 10 = encL l) : putP (wrap64 (be (bytesOf (s.extract 1 9)))) l = s := by
  apply ByteArray.ext
  apply Array.toList_inj.1
  rw [putP_list, split_list s hs h66, hl, hf]
def batchP (s : ByteArray) : RdV := if 16384 < s.size then badP else readLoopP s (wrap64 (be (bytesOf (s.extract 1 9)))) (bt s 9).toNat 10 []
theorem of_putP {s : ByteArray} {t : Int} {l : List S52} (hc : checkP t l = 0) (h : putP t l = s) : 10 ≤ s.size ∧ bt s 0 = 66 ∧ (bt s 9).toNat = l.length ∧ frm s 10 = encL l ∧ wrap64 (be (bytesOf (s.extract 1 9))) = t ∧ (∀ c ∈ l, smallC c) ∧ s.size ≤ 16384 := by
  have hr := checkP_right hc
  have hz := checkP_size hc
  have hL := putP_list t l
  rw [h] at hL
  have hsz : s.size = sizeP l := by rw [← h, putP_size]
  have h10 : 10 ≤ s.size := by rw [hsz]; unfold sizeP; omega
  have f0 : frm s 0 = 66 :: (bytesU t ++ (UInt8.ofNat l.length :: encL l)) := hL
  obtain ⟨_, b0, f1⟩ := frm_cons f0
  have f9 : frm s 9 = UInt8.ofNat l.length :: encL l := by
    have : frm s 9 = (frm s 1).drop 8 := by unfold frm; rw [List.drop_drop]
    rw [this, f1, List.drop_append_of_le_length (by rw [bytesU_length]; omega), List.drop_eq_nil_of_le (by rw [bytesU_length]; omega)]
    rfl
  obtain ⟨_, b9, f10⟩ := frm_cons f9
  have hl64 := hr.2.2.1
  have h66 : bt s 0 = 66 := b0
  have h9 : (bt s 9).toNat = l.length := by
    have b9' : bt s 9 = _ := b9
    rw [b9', UInt8.toNat_ofNat']
    omega
  refine ⟨h10, h66, h9, f10, ?_, ?_, by omega⟩
  · have hx : (s.extract 1 9).data.toList = bytesU t := by
      have := ext_list s 1 8 (by omega)
      rw [show 1 + 8 = 9 from rfl] at this
      rw [this, f1, List.take_append_of_le_length (by rw [bytesU_length]; omega), List.take_of_length_le (by rw [bytesU_length]; omega)]
    have ht := hr.1
    have ht2 := hr.2.1
    have hb : bytesOf (s.extract 1 9) = bytes8 t := by
      unfold bytesOf
      rw [hx]
      unfold bytesU
      rw [show t % 18446744073709551616 = t by omega, bytes8_list]
      simp only [List.map_cons, List.map_nil, UInt8.toNat_ofNat']
      simp only [List.cons.injEq, and_true]
      refine ⟨by omega, by omega, by omega, by omega, by omega, by omega, by omega, by omega⟩
    rw [hb, be_bytes8 t (by omega) (by omega), w64 (by omega) (by omega)]
  · intro c hc'
    have := okAll_fits hl64 hr.2.2.2
    have := this.2 c hc'
    exact ⟨by omega, by omega⟩
theorem batchP_ref (s : ByteArray) (hs : 10 ≤ s.size) (h66 : bt s 0 = 66) : refLoopP s (wrap64 (be (bytesOf (s.extract 1 9)))) (bt s 9).toNat 10 [] = batchP s := by
  unfold batchP
  obtain ⟨t, ht⟩ : ∃ t, wrap64 (be (bytesOf (s.extract 1 9))) = t := ⟨_, rfl⟩
  rw [ht]
  by_cases hA : ∃ l : List S52, l.length = (bt s 9).toNat ∧ (∀ c ∈ l, smallC c) ∧ frm s 10 = encL l
  · obtain ⟨l, hl, hsm, hf⟩ := hA
    have e1 := read_of s t l 10 [] (by omega) hsm hf
    have e2 := ref_of s t l 10 [] (by omega) hsm hf
    rw [hl] at e1 e2
    have hput := putP_iff s hs h66 l hl hf
    rw [ht] at hput
    have e1' : readLoopP s t (bt s 9).toNat 10 [] = readEndP s t s.size ([] ++ l) := e1
    have e2' : refLoopP s t (bt s 9).toNat 10 [] = refEndP s t s.size ([] ++ l) := e2
    rw [e1', e2', List.nil_append]
    unfold readEndP refEndP
    rw [if_neg (show ¬ ((s.size : Int) < 0) by omega), if_pos rfl, if_pos hput]
    by_cases c : checkP t l = 0
    · have hz := checkP_size c
      have : s.size = sizeP l := by rw [← hput, putP_size]
      rw [if_neg (show ¬ 16384 < s.size by omega)]
    · rw [if_neg c]
      split <;> rfl
  · have e1 : readLoopP s t (bt s 9).toNat 10 [] = badP := by
      rcases of_read s t (bt s 9).toNat 10 [] (by omega) with h | h
      · exact h
      · exact absurd h hA
    have e2 : refLoopP s t (bt s 9).toNat 10 [] = badP := by
      rcases of_ref s t (bt s 9).toNat 10 [] with h | ⟨l, hc, hp⟩
      · exact h
      · obtain ⟨_, _, h9, hf, _, hsm, _⟩ := of_putP hc hp
        exact absurd ⟨l, h9.symm, hsm, hf⟩ hA
    rw [e1, e2]
    by_cases c2 : 16384 < s.size
    · rw [if_pos c2]
    · rw [if_neg c2]
def readP (s : ByteArray) : RdV :=
  if s.size < 9 then badP else if s.size = 9 then if bt s 0 = 77 ∧ 0 ≤ wrap64 (be (bytesOf (s.extract 1 9))) ∧ wrap64 (be (bytesOf (s.extract 1 9))) ≤ 1152921504606846976 then (0, [], wrap64 (be (bytesOf (s.extract 1 9))), 0) else badP
  else if bt s 0 ≠ 66 then badP else batchP s
theorem Read_ev (s : ByteArray) : Ev (fun k => batch_Read.f k s) (readP s) := by
  unfold batch_Read.f readP
  obtain ⟨t, ht⟩ : ∃ t, wrap64 (be (bytesOf (s.extract 1 9))) = t := ⟨_, rfl⟩
  simp only [ht]
  by_cases c1 : s.size < 9
  · simp only [if_pos c1]; exact Ev.const _
  simp only [if_neg c1]
  by_cases c9 : s.size = 9
  · simp only [if_pos c9, if_neg (show ¬ 16384 < s.size by omega)]
    by_cases c2 : bt s 0 = 77 ∧ 0 ≤ t ∧ t ≤ 1152921504606846976
    · simp only [if_pos c2, if_pos (show bt s 0 = 77 ∧ s.size = 9 ∧ 0 ≤ t ∧ t ≤ 1152921504606846976 from ⟨c2.1, c9, c2.2⟩)]; exact Ev.const _
    · simp only [if_neg c2, if_neg (show ¬ (bt s 0 = 77 ∧ s.size = 9 ∧ 0 ≤ t ∧ t ≤ 1152921504606846976) from fun h => c2 ⟨h.1, h.2.2⟩), if_pos (show bt s 0 ≠ 66 ∨ s.size = 9 from Or.inr c9)]; exact Ev.const _
  · simp only [if_neg c9, if_neg (show ¬ (bt s 0 = 77 ∧ s.size = 9 ∧ 0 ≤ t ∧ t ≤ 1152921504606846976) from fun h => c9 h.2.1)]
    by_cases c2 : bt s 0 ≠ 66
    · simp only [if_pos c2, if_pos (show bt s 0 ≠ 66 ∨ s.size = 9 from Or.inl c2)]
      by_cases c3 : 16384 < s.size
      · simp only [if_pos c3]; exact Ev.const _
      · simp only [if_neg c3]; exact Ev.const _
    · simp only [if_neg c2, if_neg (show ¬ (bt s 0 ≠ 66 ∨ s.size = 9) from fun h => h.elim c2 c9)]
      unfold batchP
      rw [ht]
      by_cases c3 : 16384 < s.size
      · simp only [if_pos c3]; exact Ev.const _
      · simp only [if_neg c3]; exact readLoop_ev s t _ _ _
theorem refRead_ev (s : ByteArray) (hs : s.size ≤ 140737488351232) : Ev (fun k => ambryref15_Read.f k s) (readP s) := by
  unfold ambryref15_Read.f readP
  have hr := fun h10 h66 => batchP_ref s h10 h66
  obtain ⟨t, ht⟩ : ∃ t, wrap64 (be (bytesOf (s.extract 1 9))) = t := ⟨_, rfl⟩
  simp only [ht] at hr ⊢
  simp only [if_neg (show ¬ 140737488351232 < s.size by omega)]
  by_cases c1 : s.size < 9
  · simp only [if_pos c1]; exact Ev.const _
  simp only [if_neg c1]
  by_cases c9 : s.size = 9
  · simp only [if_pos c9]
    by_cases c2 : bt s 0 = 77 ∧ 0 ≤ t ∧ t ≤ 1152921504606846976
    · simp only [if_pos c2]; exact Ev.const _
    · simp only [if_neg c2]; exact Ev.const _
  · simp only [if_neg c9]
    by_cases c2 : bt s 0 ≠ 66
    · simp only [if_pos c2]; exact Ev.const _
    · simp only [if_neg c2]
      rw [← hr (by omega) (by omega)]
      exact refLoop_ev s t _ _ _
end Go.Proofs.Ytehcmedeeaoebaa.PB
end
section
namespace Go.Proofs.Ytehcmedeeaoebaa.PB
open Go.RowKit Go.Proofs.YtehcmedeeaoebaaW.PrintWords Go.Proofs.YtehcmedeeaoebaaW.PrintLast Go.Proofs.YtehcmedeeaoebaaW.PrintMore
attribute [local go_sem] max2_int min2_int max_two min_two max_three min_three max_four min_four
set_option linter.unusedVariables false
set_option linter.unusedSimpArgs false
def chain_right.f (a0_0 : Int) (a0_1 : ByteArray) (a0_2 : Bool) : Option (Bool) := if a0_0 ≥ 1 then (if a0_0 ≤ 1152921504606846976 then (if (a0_1.size : Int) ≤ 200 then (if a0_2 = true then (some (a0_1.toList == ([] : List UInt8))) else (some true)) else (some false)) else (some false)) else (some false)
set_option maxHeartbeats 8000000 in
set_option maxRecDepth 100000 in
theorem chain_right.calls (a0_0 : Int) (a0_1 : ByteArray) (a0_2 : Bool) (r : Bool) (w : World) (h : chain_right.f a0_0 a0_1 a0_2 = some r) :
    Calls Try.prog 81 #[.agg #[.int .i64 a0_0, .string a0_1, .bool a0_2]] w fun e w' => e = .returned (.bool r) ∧ Below w.heap.size w w' := by
  have hu80 := Try.underlying80
  have HB := Aside0.mk (Below.refl w.heap.size w)
  have H : (if a0_0 ≥ 1 then (if a0_0 ≤ 1152921504606846976 then (if (a0_1.size : Int) ≤ 200 then (if a0_2 = true then (some (a0_1.toList == ([] : List UInt8))) else (some true)) else (some false)) else (some false)) else (some false)) = some r := h
  clear h
  by_cases c2 : a0_0 ≥ 1
  · rw [if_pos c2] at H
    have c2b0 : decide (1 ≤ a0_0) = true := decide_eq_true c2
    clear c2
    by_cases c3 : a0_0 ≤ 1152921504606846976
    · rw [if_pos c3] at H
      have c3b0 : decide (a0_0 ≤ 1152921504606846976) = true := decide_eq_true c3
      clear c3
      by_cases c4 : (a0_1.size : Int) ≤ 200
      · rw [if_pos c4] at H
        have c4b0 : decide ((a0_1.size : Int) ≤ 200) = true := decide_eq_true c4
        have c4b1 : decide (a0_1.size ≤ 200) = true := decide_eq_true (by omega)
        clear c4
        by_cases c5 : a0_2 = true
        · subst c5
          have H1 : (some (a0_1.toList == ([] : List UInt8))) = some r := by rw [if_pos rfl] at H; exact H
          clear H
          have H := H1
          clear H1
          obtain rfl := Option.some.inj H
          go_enter Try.func81, Try.ntmps81
          go_wp2_with (first | ((with_reducible refine gate_dst (N := 1) rfl ?_); (try (refine gate_guard (by rfl) ?_; dsimp only)); refine box_event ?hg (N := 1) ?hd (cs := #[.int .i64 a0_0, .string a0_1, .bool true]) (t := 80) ?hr ?_; (case hd => rfl); (case hg => rfl); (case hr => first | (go_simp; done) | (go_simp; rfl)); intro gb167 hg w6 hbox hb; have n0_ := Aside0.mk (below_step (by repeat (first | (with_reducible first | exact HB.out | apply below_alloc | apply pw_below_drewN | apply below_drew1) | exact HB.out)) hb); have n1_ := Aside0.mk (hbox); have n2_ := Aside0.mk ((by rw [hg]; exact (below_size (by repeat (first | (with_reducible first | exact HB.out | apply below_alloc | apply pw_below_drewN | apply below_drew1) | exact HB.out))) : w.heap.size ≤ gb167)); have n3_ := Aside0.mk ((by rw [hg]; exact (below_size (by repeat (first | (with_reducible first | exact HB.out | apply below_alloc | apply pw_below_drewN | apply below_drew1) | exact HB.out))) : w.heap.size ≤ gb167)); clear HB; have HB := n0_; have BK167 := n1_; have GW167 := n2_; have GE167 := n3_; clear n0_ n1_ n2_ n3_; clear hb hbox hg; have hcz7_0 : w6.cell? ⟨gb167, 0, none⟩ = some (.int .i64 a0_0) := (blk_cell BK167.out 0).trans rfl; have hcz7_1 : w6.cell? ⟨gb167, 1, none⟩ = some (.string a0_1) := (blk_cell BK167.out 1).trans rfl; have hcz7_2 : w6.cell? ⟨gb167, 2, none⟩ = some (.bool true) := (blk_cell BK167.out 2).trans rfl; have hfz7_0 := blk_frozen BK167.out 0; have hfz7_1 := blk_frozen BK167.out 1; have hfz7_2 := blk_frozen BK167.out 2))
          go_ret
          exact ⟨by first | rfl | (simp [errW_none, errW_some] <;> rfl) | (simp [*, errW_none, errW_some] <;> rfl), by repeat (first | (with_reducible first | exact HB.out | apply below_alloc | apply pw_below_drewN | apply below_drew1 | refine below_set ?_ GE167.out) | exact HB.out)⟩
        · replace c5 := Bool.eq_false_iff.mpr c5
          subst c5
          have H1 : (some true) = some r := by rw [if_neg (show ¬ (false = true) by decide)] at H; exact H
          clear H
          have H := H1
          clear H1
          obtain rfl := Option.some.inj H
          go_enter Try.func81, Try.ntmps81
          go_wp2_with (first | ((with_reducible refine gate_dst (N := 1) rfl ?_); (try (refine gate_guard (by rfl) ?_; dsimp only)); refine box_event ?hg (N := 1) ?hd (cs := #[.int .i64 a0_0, .string a0_1, .bool false]) (t := 80) ?hr ?_; (case hd => rfl); (case hg => rfl); (case hr => first | (go_simp; done) | (go_simp; rfl)); intro gb167 hg w8 hbox hb; have n0_ := Aside0.mk (below_step (by repeat (first | (with_reducible first | exact HB.out | apply below_alloc | apply pw_below_drewN | apply below_drew1) | exact HB.out)) hb); have n1_ := Aside0.mk (hbox); have n2_ := Aside0.mk ((by rw [hg]; exact (below_size (by repeat (first | (with_reducible first | exact HB.out | apply below_alloc | apply pw_below_drewN | apply below_drew1) | exact HB.out))) : w.heap.size ≤ gb167)); have n3_ := Aside0.mk ((by rw [hg]; exact (below_size (by repeat (first | (with_reducible first | exact HB.out | apply below_alloc | apply pw_below_drewN | apply below_drew1) | exact HB.out))) : w.heap.size ≤ gb167)); clear HB; have HB := n0_; have BK167 := n1_; have GW167 := n2_; have GE167 := n3_; clear n0_ n1_ n2_ n3_; clear hb hbox hg; have hcz9_0 : w8.cell? ⟨gb167, 0, none⟩ = some (.int .i64 a0_0) := (blk_cell BK167.out 0).trans rfl; have hcz9_1 : w8.cell? ⟨gb167, 1, none⟩ = some (.string a0_1) := (blk_cell BK167.out 1).trans rfl; have hcz9_2 : w8.cell? ⟨gb167, 2, none⟩ = some (.bool false) := (blk_cell BK167.out 2).trans rfl; have hfz9_0 := blk_frozen BK167.out 0; have hfz9_1 := blk_frozen BK167.out 1; have hfz9_2 := blk_frozen BK167.out 2))
          go_ret
          exact ⟨by first | rfl | (simp [errW_none, errW_some] <;> rfl) | (simp [*, errW_none, errW_some] <;> rfl), by repeat (first | (with_reducible first | exact HB.out | apply below_alloc | apply pw_below_drewN | apply below_drew1 | refine below_set ?_ GE167.out) | exact HB.out)⟩
      · rw [if_neg c4] at H
        have c4b0 : decide ((a0_1.size : Int) ≤ 200) = false := decide_eq_false c4
        have c4b1 : decide (a0_1.size ≤ 200) = false := decide_eq_false (by omega)
        clear c4
        obtain rfl := Option.some.inj H
        go_enter Try.func81, Try.ntmps81
        go_wp2_with (first | ((with_reducible refine gate_dst (N := 1) rfl ?_); (try (refine gate_guard (by rfl) ?_; dsimp only)); refine box_event ?hg (N := 1) ?hd (cs := #[.int .i64 a0_0, .string a0_1, .bool a0_2]) (t := 80) ?hr ?_; (case hd => rfl); (case hg => rfl); (case hr => first | (go_simp; done) | (go_simp; rfl)); intro gb167 hg w10 hbox hb; have n0_ := Aside0.mk (below_step (by repeat (first | (with_reducible first | exact HB.out | apply below_alloc | apply pw_below_drewN | apply below_drew1) | exact HB.out)) hb); have n1_ := Aside0.mk (hbox); have n2_ := Aside0.mk ((by rw [hg]; exact (below_size (by repeat (first | (with_reducible first | exact HB.out | apply below_alloc | apply pw_below_drewN | apply below_drew1) | exact HB.out))) : w.heap.size ≤ gb167)); have n3_ := Aside0.mk ((by rw [hg]; exact (below_size (by repeat (first | (with_reducible first | exact HB.out | apply below_alloc | apply pw_below_drewN | apply below_drew1) | exact HB.out))) : w.heap.size ≤ gb167)); clear HB; have HB := n0_; have BK167 := n1_; have GW167 := n2_; have GE167 := n3_; clear n0_ n1_ n2_ n3_; clear hb hbox hg; have hcz11_0 : w10.cell? ⟨gb167, 0, none⟩ = some (.int .i64 a0_0) := (blk_cell BK167.out 0).trans rfl; have hcz11_1 : w10.cell? ⟨gb167, 1, none⟩ = some (.string a0_1) := (blk_cell BK167.out 1).trans rfl; have hcz11_2 : w10.cell? ⟨gb167, 2, none⟩ = some (.bool a0_2) := (blk_cell BK167.out 2).trans rfl; have hfz11_0 := blk_frozen BK167.out 0; have hfz11_1 := blk_frozen BK167.out 1; have hfz11_2 := blk_frozen BK167.out 2))
        go_ret
        exact ⟨by first | rfl | (simp [errW_none, errW_some] <;> rfl) | (simp [*, errW_none, errW_some] <;> rfl), by repeat (first | (with_reducible first | exact HB.out | apply below_alloc | apply pw_below_drewN | apply below_drew1 | refine below_set ?_ GE167.out) | exact HB.out)⟩
    · rw [if_neg c3] at H
      have c3b0 : decide (a0_0 ≤ 1152921504606846976) = false := decide_eq_false c3
      clear c3
      obtain rfl := Option.some.inj H
      go_enter Try.func81, Try.ntmps81
      go_wp2_with (first | ((with_reducible refine gate_dst (N := 1) rfl ?_); (try (refine gate_guard (by rfl) ?_; dsimp only)); refine box_event ?hg (N := 1) ?hd (cs := #[.int .i64 a0_0, .string a0_1, .bool a0_2]) (t := 80) ?hr ?_; (case hd => rfl); (case hg => rfl); (case hr => first | (go_simp; done) | (go_simp; rfl)); intro gb167 hg w12 hbox hb; have n0_ := Aside0.mk (below_step (by repeat (first | (with_reducible first | exact HB.out | apply below_alloc | apply pw_below_drewN | apply below_drew1) | exact HB.out)) hb); have n1_ := Aside0.mk (hbox); have n2_ := Aside0.mk ((by rw [hg]; exact (below_size (by repeat (first | (with_reducible first | exact HB.out | apply below_alloc | apply pw_below_drewN | apply below_drew1) | exact HB.out))) : w.heap.size ≤ gb167)); have n3_ := Aside0.mk ((by rw [hg]; exact (below_size (by repeat (first | (with_reducible first | exact HB.out | apply below_alloc | apply pw_below_drewN | apply below_drew1) | exact HB.out))) : w.heap.size ≤ gb167)); clear HB; have HB := n0_; have BK167 := n1_; have GW167 := n2_; have GE167 := n3_; clear n0_ n1_ n2_ n3_; clear hb hbox hg; have hcz13_0 : w12.cell? ⟨gb167, 0, none⟩ = some (.int .i64 a0_0) := (blk_cell BK167.out 0).trans rfl; have hcz13_1 : w12.cell? ⟨gb167, 1, none⟩ = some (.string a0_1) := (blk_cell BK167.out 1).trans rfl; have hcz13_2 : w12.cell? ⟨gb167, 2, none⟩ = some (.bool a0_2) := (blk_cell BK167.out 2).trans rfl; have hfz13_0 := blk_frozen BK167.out 0; have hfz13_1 := blk_frozen BK167.out 1; have hfz13_2 := blk_frozen BK167.out 2))
      go_ret
      exact ⟨by first | rfl | (simp [errW_none, errW_some] <;> rfl) | (simp [*, errW_none, errW_some] <;> rfl), by repeat (first | (with_reducible first | exact HB.out | apply below_alloc | apply pw_below_drewN | apply below_drew1 | refine below_set ?_ GE167.out) | exact HB.out)⟩
  · rw [if_neg c2] at H
    have c2b0 : decide (1 ≤ a0_0) = false := decide_eq_false c2
    clear c2
    obtain rfl := Option.some.inj H
    go_enter Try.func81, Try.ntmps81
    go_wp2_with (first | ((with_reducible refine gate_dst (N := 1) rfl ?_); (try (refine gate_guard (by rfl) ?_; dsimp only)); refine box_event ?hg (N := 1) ?hd (cs := #[.int .i64 a0_0, .string a0_1, .bool a0_2]) (t := 80) ?hr ?_; (case hd => rfl); (case hg => rfl); (case hr => first | (go_simp; done) | (go_simp; rfl)); intro gb167 hg w14 hbox hb; have n0_ := Aside0.mk (below_step (by repeat (first | (with_reducible first | exact HB.out | apply below_alloc | apply pw_below_drewN | apply below_drew1) | exact HB.out)) hb); have n1_ := Aside0.mk (hbox); have n2_ := Aside0.mk ((by rw [hg]; exact (below_size (by repeat (first | (with_reducible first | exact HB.out | apply below_alloc | apply pw_below_drewN | apply below_drew1) | exact HB.out))) : w.heap.size ≤ gb167)); have n3_ := Aside0.mk ((by rw [hg]; exact (below_size (by repeat (first | (with_reducible first | exact HB.out | apply below_alloc | apply pw_below_drewN | apply below_drew1) | exact HB.out))) : w.heap.size ≤ gb167)); clear HB; have HB := n0_; have BK167 := n1_; have GW167 := n2_; have GE167 := n3_; clear n0_ n1_ n2_ n3_; clear hb hbox hg; have hcz15_0 : w14.cell? ⟨gb167, 0, none⟩ = some (.int .i64 a0_0) := (blk_cell BK167.out 0).trans rfl; have hcz15_1 : w14.cell? ⟨gb167, 1, none⟩ = some (.string a0_1) := (blk_cell BK167.out 1).trans rfl; have hcz15_2 : w14.cell? ⟨gb167, 2, none⟩ = some (.bool a0_2) := (blk_cell BK167.out 2).trans rfl; have hfz15_0 := blk_frozen BK167.out 0; have hfz15_1 := blk_frozen BK167.out 1; have hfz15_2 := blk_frozen BK167.out 2))
    go_ret
    exact ⟨by first | rfl | (simp [errW_none, errW_some] <;> rfl) | (simp [*, errW_none, errW_some] <;> rfl), by repeat (first | (with_reducible first | exact HB.out | apply below_alloc | apply pw_below_drewN | apply below_drew1 | refine below_set ?_ GE167.out) | exact HB.out)⟩
end Go.Proofs.Ytehcmedeeaoebaa.PB
end
section
namespace Go.Proofs.Ytehcmedeeaoebaa.PB
open Go.RowKit Go.Proofs.YtehcmedeeaoebaaW.PrintWords Go.Proofs.YtehcmedeeaoebaaW.PrintLast Go.Proofs.YtehcmedeeaoebaaW.PrintMore
attribute [local go_sem] max2_int min2_int max_two min_two max_three min_three max_four min_four
set_option linter.unusedVariables false
set_option linter.unusedSimpArgs false
def chain_Check.l0 : Nat → List (S80) → List (S80) → Int → Int → Option (Int)
  | 0, _, _, _, _ => none
  | k + 1, x0, x5, x6, x7 => if x7 < x6 then (if 0 ≤ x7 then (if x7 < (x5.length : Int) then ((chain_right.f ((rd_T80 x5 x7).f0) ((rd_T80 x5 x7).f1) ((rd_T80 x5 x7).f2)).bind fun t170 => (if t170 = true then (if x7 > 0 then (if 0 ≤ (wrap64 (x7 - 1)) then (if (wrap64 (x7 - 1)) < (x0.length : Int) then (if ((rd_T80 x5 x7).f0) ≥ ((rd_T80 x0 (wrap64 (x7 - 1))).f0) then (some 4) else (chain_Check.l0 k x0 x5 x6 (wrap64 (x7 + 1)))) else (none)) else (none)) else (chain_Check.l0 k x0 x5 x6 (wrap64 (x7 + 1)))) else (some 4))) else (none)) else (none)) else (some 0)
def chain_Check.f (k : Nat) (l0 : List (S80)) : Option (Int) := chain_Check.l0 k l0 l0 (l0.length : Int) 0
theorem chain_Check.mono_l : ∀ k, (∀ y0 y1 y2 y3, LeO (chain_Check.l0 k y0 y1 y2 y3) (chain_Check.l0 (k + 1) y0 y1 y2 y3))
  | 0 => fun _ _ _ _ r h => by simp [chain_Check.l0] at h
  | k + 1 => by
    have ih0 := chain_Check.mono_l k
    · intro y0 y1 y2 y3
      unfold chain_Check.l0
      repeat' first
      | (with_reducible exact ih0 _ _ _ _)
      | (with_reducible exact LeO.refl _)
      | (with_reducible exact LeO.none _)
      | (with_reducible refine LeO.ite ?_ ?_)
      | (with_reducible refine LeO.bind ?_ (fun _ => ?_))
      | exact ih0 _ _ _ _
      | exact LeO.none _
      | refine LeO.ite ?_ ?_
      | refine LeO.bind ?_ (fun _ => ?_)
theorem chain_Check.mono : ∀ a0 k, LeO (chain_Check.f k a0) (chain_Check.f (k + 1) a0) := by
  intro a0 k
  have ih0 := chain_Check.mono_l k
  unfold chain_Check.f
  repeat' first
      | (with_reducible exact ih0 _ _ _ _)
      | (with_reducible exact LeO.refl _)
      | (with_reducible exact LeO.none _)
      | (with_reducible refine LeO.ite ?_ ?_)
      | (with_reducible refine LeO.bind ?_ (fun _ => ?_))
      | exact ih0 _ _ _ _
      | exact LeO.none _
      | refine LeO.ite ?_ ?_
      | refine LeO.bind ?_ (fun _ => ?_)
def chain_Check.T4 : Bool × List (List Nat × List Nat) := (true, [([], []), ([0], [0]), ([1], [1]), ([2, 1], [2]), ([3], [3]), ([4, 3], [3, 4]), ([5, 3, 3], [3, 5]), ([6], [6]), ([7, 6], [6, 7]), ([6], [6]), ([6], [6]), ([10, 6], [6, 10]), ([9, 11, 6], [6, 9, 11]), ([12, 6], [6, 12]), ([13, 6], [6, 13]), ([8, 14, 6], [6, 8, 14]), ([6, 15, 3], [3, 6, 15]), ([3, 16], [3, 16])])
def chain_Check.B4 : List Nat := [0, 1, 3, 7, 15, 31, 63, 127, 255, 127, 127, 1151, 3711, 7807, 15999, 32767, 65535, 131071]
theorem chain_Check.tab4 : rtab .any (opsOf Try.f71 4) = chain_Check.T4 := by kernel_rfl
theorem chain_Check.bits4 : waitsOk chain_Check.T4.2 chain_Check.B4 = true := by kernel_rfl
set_option maxHeartbeats 8000000 in
set_option maxRecDepth 100000 in
theorem chain_Check.calls (k : Nat) (A0 : Option Addr) (c0 : Nat) (l0 : List (S80)) (r : Int) (w : World) (hr0 : Kd.C k80 w A0 l0.length l0) (hc0 : l0.length ≤ c0) (h : chain_Check.f k l0 = some r) :
    Calls Try.prog 71 #[.slice A0 l0.length c0] w fun e w' => e = .returned (.int .i64 r) ∧ Below w.heap.size w w' := by
  have hu80 := Try.underlying80
  have HR0 := Aside0.mk hr0
  have HC0 := Aside0.mk hc0
  clear hr0 hc0
  have HB := Aside0.mk (Below.refl w.heap.size w)
  have H : (chain_Check.l0 k l0 l0 (l0.length : Int) 0) = some r := h
  clear h
  have H' := Aside0.mk H
  clear H
  go_enter Try.func71, Try.ntmps71
  go_wp2
  go_loopg [7] k (fun kq v7 w' => ∃ (x7_1 : Int), v7 = .int .i64 x7_1 ∧ Aside0 (chain_Check.l0 kq l0 l0 (l0.length : Int) x7_1 = some r) ∧ Aside0 (kq ≤ k) ∧ Aside0 (Below w.heap.size w w'))
  case atStart => exact ⟨(0), (by first | rfl | (simp; done) | (simp [*]; done)), H', ⟨Nat.le_refl _⟩, ⟨by repeat (first | (with_reducible first | exact HB.out | apply below_alloc | apply pw_below_drewN | apply below_drew1) | exact HB.out)⟩⟩
  case round =>
    clear H'
    obtain ⟨x7_1, rfl, HA, HK1, HB⟩ := hrel
    cases gk with
    | zero => exact absurd HA.out (by simp [chain_Check.l0])
    | succ k1 =>
      have H := HA.out
      clear HA
      simp only [chain_Check.l0] at H
      by_cases c2 : x7_1 < (l0.length : Int)
      · rw [if_pos c2] at H
        have c2b0 : decide (x7_1 < (l0.length : Int)) = true := decide_eq_true c2
        clear c2
        by_cases c3 : 0 ≤ x7_1
        · rw [if_pos c3] at H
          have c3b0 : decide (0 ≤ x7_1) = true := decide_eq_true c3
          clear c3
          by_cases c4 : x7_1 < (l0.length : Int)
          · rw [if_pos c4] at H
            have c4b0 : decide (x7_1 < (l0.length : Int)) = true := decide_eq_true c4
            clear c4
            replace H := Option.bind_eq_some_iff.mp H
            obtain ⟨t170, A50, H⟩ := H
            replace H : (if t170 = true then (if x7_1 > 0 then (if 0 ≤ (wrap64 (x7_1 - 1)) then (if (wrap64 (x7_1 - 1)) < (l0.length : Int) then (if ((rd_T80 l0 x7_1).f0) ≥ ((rd_T80 l0 (wrap64 (x7_1 - 1))).f0) then (some 4) else (chain_Check.l0 k1 l0 l0 (l0.length : Int) (wrap64 (x7_1 + 1)))) else (none)) else (none)) else (chain_Check.l0 k1 l0 l0 (l0.length : Int) (wrap64 (x7_1 + 1)))) else (some 4)) = some r := H
            have A5 := Aside0.mk A50
            clear A50
            by_cases c6 : t170 = true
            · subst c6
              have H1 : (if x7_1 > 0 then (if 0 ≤ (wrap64 (x7_1 - 1)) then (if (wrap64 (x7_1 - 1)) < (l0.length : Int) then (if ((rd_T80 l0 x7_1).f0) ≥ ((rd_T80 l0 (wrap64 (x7_1 - 1))).f0) then (some 4) else (chain_Check.l0 k1 l0 l0 (l0.length : Int) (wrap64 (x7_1 + 1)))) else (none)) else (none)) else (chain_Check.l0 k1 l0 l0 (l0.length : Int) (wrap64 (x7_1 + 1)))) = some r := by rw [if_pos rfl] at H; exact H
              clear H
              have H := H1
              clear H1
              by_cases c7 : x7_1 > 0
              · rw [if_pos c7] at H
                have c7b0 : decide (0 < x7_1) = true := decide_eq_true c7
                clear c7
                obtain ⟨ji8, hji8⟩ : ∃ j_ : Int, (wrap64 (x7_1 - 1)) = j_ := ⟨_, rfl⟩
                replace H : (if 0 ≤ (ji8) then (if (ji8) < (l0.length : Int) then (if ((rd_T80 l0 x7_1).f0) ≥ ((rd_T80 l0 (ji8)).f0) then (some 4) else (chain_Check.l0 k1 l0 l0 (l0.length : Int) (wrap64 (x7_1 + 1)))) else (none)) else (none)) = some r := by first | (rw [hji8] at H; exact H) | (simp only [hji8] at H ⊢; exact H)
                (try rw [hji8] at A5)
                have hji8w : (IntKind.i64.wrap (x7_1 - 1)) = ji8 := (i64_w _).trans hji8
                by_cases c9 : 0 ≤ (ji8)
                · rw [if_pos c9] at H
                  have c9b0 : decide (0 ≤ (ji8)) = true := decide_eq_true c9
                  clear c9
                  by_cases c10 : (ji8) < (l0.length : Int)
                  · rw [if_pos c10] at H
                    have c10b0 : decide ((ji8) < (l0.length : Int)) = true := decide_eq_true c10
                    clear c10
                    by_cases c11 : ((rd_T80 l0 x7_1).f0) ≥ ((rd_T80 l0 (ji8)).f0)
                    · rw [if_pos c11] at H
                      have c11b0 : decide (((rd_T80 l0 (ji8)).f0) ≤ ((rd_T80 l0 x7_1).f0)) = true := decide_eq_true c11
                      clear c11
                      obtain rfl := Option.some.inj H
                      have p168 : 0 ≤ (x7_1 : Int) := of_decide_eq_true (by first | (with_reducible assumption) | assumption)
                      have q168 : x7_1 < (l0.length : Int) := of_decide_eq_true (by first | (with_reducible assumption) | assumption)
                      obtain ⟨ad168, e168, hx168_0, hx168_1, hx168_2⟩ := at_T80 HR0.out x7_1 p168 q168
                      cases e168
                      replace hx168_0 := (HB.out.cell (World.block_lt_of_cell? w _ hx168_0)).trans hx168_0
                      replace hx168_1 := (HB.out.cell (World.block_lt_of_cell? w _ hx168_1)).trans hx168_1
                      replace hx168_2 := (HB.out.cell (World.block_lt_of_cell? w _ hx168_2)).trans hx168_2
                      replace p168 := eq_true p168
                      replace q168 := eq_true q168
                      try go_wp2_with (first | ((with_reducible refine gate_dst (N := 4) rfl ?_); refine box_event ?hg (N := 4) ?hd (cs := #[.int .i64 0, .string (⟨#[]⟩ : ByteArray), .bool false]) (t := 80) ?hr ?_; (case hd => rfl); (case hg => rfl); (case hr => first | (go_simp; done) | (go_simp; rfl)); intro gb169 hg w12 hbox hb; have n0_ := Aside0.mk (below_step (by repeat (first | (with_reducible first | exact HB.out | apply below_alloc | apply pw_below_drewN | apply below_drew1) | exact HB.out)) hb); have n1_ := Aside0.mk (hbox); have n2_ := Aside0.mk ((by rw [hg]; exact (below_size (by repeat (first | (with_reducible first | exact HB.out | apply below_alloc | apply pw_below_drewN | apply below_drew1) | exact HB.out))) : w.heap.size ≤ gb169)); have n3_ := Aside0.mk ((by rw [hg]; exact (below_size (by repeat (first | (with_reducible first | exact HB.out | apply below_alloc | apply pw_below_drewN | apply below_drew1) | exact HB.out))) : w.heap.size ≤ gb169)); clear HB; have HB := n0_; have BK169 := n1_; have GW169 := n2_; have GE169 := n3_; clear n0_ n1_ n2_ n3_; clear hb hbox hg; have hcz13_0 : w12.cell? ⟨gb169, 0, none⟩ = some (.int .i64 0) := (blk_cell BK169.out 0).trans rfl; have hcz13_1 : w12.cell? ⟨gb169, 1, none⟩ = some (.string (⟨#[]⟩ : ByteArray)) := (blk_cell BK169.out 1).trans rfl; have hcz13_2 : w12.cell? ⟨gb169, 2, none⟩ = some (.bool false) := (blk_cell BK169.out 2).trans rfl; have hfz13_0 := blk_frozen BK169.out 0; have hfz13_1 := blk_frozen BK169.out 1; have hfz13_2 := blk_frozen BK169.out 2))
                      have n0_ : Aside0 ((((w12.setCell ⟨gb169, 0, none⟩ (.int .i64 ((rd_T80 l0 x7_1).f0))).setCell ⟨gb169, 1, none⟩ (.string ((rd_T80 l0 x7_1).f1))).setCell ⟨gb169, 2, none⟩ (.bool ((rd_T80 l0 x7_1).f2))).heap[gb169]? = some (.cells #[.int .i64 ((rd_T80 l0 x7_1).f0), .string ((rd_T80 l0 x7_1).f1), .bool ((rd_T80 l0 x7_1).f2)] 80 (0, 0))) := ⟨by (with_reducible repeat (first | refine blk_drewN ?_ _ | refine blk_drew ?_ | refine blk_alloc ?_ _)); refine blk_put (cs := #[.int .i64 ((rd_T80 l0 x7_1).f0), .string ((rd_T80 l0 x7_1).f1), .bool false]) ?_ 2 _ rfl; (with_reducible repeat (first | refine blk_drewN ?_ _ | refine blk_drew ?_ | refine blk_alloc ?_ _)); refine blk_put (cs := #[.int .i64 ((rd_T80 l0 x7_1).f0), .string (⟨#[]⟩ : ByteArray), .bool false]) ?_ 1 _ rfl; (with_reducible repeat (first | refine blk_drewN ?_ _ | refine blk_drew ?_ | refine blk_alloc ?_ _)); refine blk_put (cs := #[.int .i64 0, .string (⟨#[]⟩ : ByteArray), .bool false]) ?_ 0 _ rfl; (with_reducible repeat (first | refine blk_drewN ?_ _ | refine blk_drew ?_ | refine blk_alloc ?_ _)); exact BK169.out⟩
                      have n1_ : Aside0 (Below w.heap.size w (((w12.setCell ⟨gb169, 0, none⟩ (.int .i64 ((rd_T80 l0 x7_1).f0))).setCell ⟨gb169, 1, none⟩ (.string ((rd_T80 l0 x7_1).f1))).setCell ⟨gb169, 2, none⟩ (.bool ((rd_T80 l0 x7_1).f2)))) := ⟨by repeat (first | (with_reducible first | exact HB.out | apply below_alloc | apply pw_below_drewN | apply below_drew1 | refine below_set ?_ GE169.out) | exact HB.out)⟩
                      (try clear BK169)
                      (try clear HB)
                      generalize (((w12.setCell ⟨gb169, 0, none⟩ (.int .i64 ((rd_T80 l0 x7_1).f0))).setCell ⟨gb169, 1, none⟩ (.string ((rd_T80 l0 x7_1).f1))).setCell ⟨gb169, 2, none⟩ (.bool ((rd_T80 l0 x7_1).f2))) = w14 at n0_ n1_ ⊢
                      have BK169 := n0_
                      have HB := n1_
                      clear n0_ n1_
                      have n0_ := Aside0.mk (blk_drew BK169.out)
                      have n1_ := Aside0.mk (below_drew1 HB.out)
                      clear BK169
                      clear HB
                      have BK169 := n0_
                      have HB := n1_
                      clear n0_ n1_
                      have p171 : 0 ≤ ((ji8) : Int) := of_decide_eq_true (by first | (with_reducible assumption) | assumption)
                      have q171 : (ji8) < (l0.length : Int) := of_decide_eq_true (by first | (with_reducible assumption) | assumption)
                      obtain ⟨ad171, e171, hx171_0, hx171_1, hx171_2⟩ := at_T80 HR0.out (ji8) p171 q171
                      have hw171_2 := hx171_2
                      have hw171_1 := hx171_1
                      have hw171_0 := hx171_0
                      obtain rfl : ad168 = ad171 := (by injection e171)
                      replace hx171_0 := (HB.out.cell (World.block_lt_of_cell? w _ hx171_0)).trans hx171_0
                      replace hx171_1 := (HB.out.cell (World.block_lt_of_cell? w _ hx171_1)).trans hx171_1
                      replace hx171_2 := (HB.out.cell (World.block_lt_of_cell? w _ hx171_2)).trans hx171_2
                      replace p171 := eq_true p171
                      replace q171 := eq_true q171
                      refine start_ (n := 18) (S := fun w' => w'.cell? ⟨gb169, 0, none⟩ = some (.int .i64 ((rd_T80 l0 x7_1).f0)) ∧ w'.cell? ⟨gb169, 1, none⟩ = some (.string ((rd_T80 l0 x7_1).f1)) ∧ w'.cell? ⟨gb169, 2, none⟩ = some (.bool ((rd_T80 l0 x7_1).f2)) ∧ w'.cell? (ad168.add (((ji8)).toNat * 3)) = some (.int .i64 ((rd_T80 l0 (ji8)).f0)) ∧ w'.cell? ⟨(ad168.add (((ji8)).toNat * 3)).block, (ad168.add (((ji8)).toNat * 3)).off + 1, none⟩ = some (.string ((rd_T80 l0 (ji8)).f1)) ∧ w'.cell? ⟨(ad168.add (((ji8)).toNat * 3)).block, (ad168.add (((ji8)).toNat * 3)).off + 2, none⟩ = some (.bool ((rd_T80 l0 (ji8)).f2))) (ds := []) #[false, false, false, false, false, false, false, false, false, false, false, false, false, false, false, false, false, false] (by kernel_rfl) rfl rfl ⟨(blk_cell BK169.out 0).trans rfl, (blk_cell BK169.out 1).trans rfl, (blk_cell BK169.out 2).trans rfl, ((HB.out.cell (World.block_lt_of_cell? w _ hw171_0)).trans hw171_0), ((HB.out.cell (World.block_lt_of_cell? w _ hw171_1)).trans hw171_1), ((HB.out.cell (World.block_lt_of_cell? w _ hw171_2)).trans hw171_2)⟩ (fun hHeld => ?_); refine with_tabW chain_Check.tab4 chain_Check.bits4 (fun HT_ HW_ => ?_)
                      generalize w14.drew = w15 at BK169 HB hx171_0 hx171_1 hx171_2 hHeld ⊢
                      refine take_ (i := 0) (N := some 12) (v := ?_) (a' := ?_) #[true, false, false, false, false, false, false, false, false, false, false, false, false, false, false, false, false, false] rfl rfl (take_ofW HT_.out HW_.out (by kernel_rfl)) (fun _ _ _ h => h) (Or.inl ⟨by rfl, ?_⟩) hHeld ?_ ?_
                      rotate_left
                      · rintro w' ⟨s0, s1, s2, s3, s4, s5⟩
                        go_simp
                        with_reducible rfl
                      rotate_left
                      · simp only [Act.put, List.setIfInBounds_toArray, List.set_cons_zero, List.set_cons_succ, i64_w, i32_w]
                        rfl
                      refine one_ (i := 1) (N := some 13) #[true, true, false, false, false, false, false, false, false, false, false, false, false, false, false, false, false, false] rfl rfl (one_of HT_.out (by kernel_rfl)) (by decide) (fun K hK => ?_)
                      refine goes_ Try.func81 (by kernel_rfl) rfl #[.agg #[.int .i64 ((rd_T80 l0 x7_1).f0), .string ((rd_T80 l0 x7_1).f1), .bool ((rd_T80 l0 x7_1).f2)]] (by rfl) rfl rfl (by (try simp only [List.map_toArray, List.map_cons, List.map_nil]); first | done | rfl | (simp only [List.length_drop, List.length_take]; rfl)) ?_
                      with_reducible refine (chain_right.calls ((rd_T80 l0 x7_1).f0) ((rd_T80 l0 x7_1).f1) ((rd_T80 l0 x7_1).f2) true _ A5.out).mono ?_
                      rintro e w16 ⟨rfl, hb⟩
                      refine ⟨_, rfl, ?_⟩
                      have n0_ := Aside0.mk (blk_below (g := gb169) (o := .cells #[.int .i64 ((rd_T80 l0 x7_1).f0), .string ((rd_T80 l0 x7_1).f1), .bool ((rd_T80 l0 x7_1).f2)] 80 (0, 0)) (by (with_reducible repeat (first | refine blk_drewN ?_ _ | refine blk_drew ?_ | refine blk_alloc ?_ _)); exact BK169.out) hb)
                      have n1_ := Aside0.mk (below_step (by repeat (first | (with_reducible first | exact HB.out | apply below_alloc | apply pw_below_drewN | apply below_drew1 | refine below_set ?_ GE169.out) | exact HB.out)) hb)
                      clear BK169
                      clear HB
                      have BK169 := n0_
                      have HB := n1_
                      clear n0_ n1_
                      (try clear hb)
                      (try clear hb2)
                      (try clear hk)
                      (try clear hi)
                      refine hK.out _ _ ⟨(blk_cell BK169.out 0).trans rfl, (blk_cell BK169.out 1).trans rfl, (blk_cell BK169.out 2).trans rfl, ((HB.out.cell (World.block_lt_of_cell? w _ hw171_0)).trans hw171_0), ((HB.out.cell (World.block_lt_of_cell? w _ hw171_1)).trans hw171_1), ((HB.out.cell (World.block_lt_of_cell? w _ hw171_2)).trans hw171_2)⟩ (fun hHeld => ?_)
                      clear hK K
                      refine norm_ (a' := ?_) ?_ ?_
                      rotate_left
                      · show Act.put _ (some 13) _ = _
                        simp only [Act.put, List.setIfInBounds_toArray, List.set_cons_zero, List.set_cons_succ, i64_w, i32_w]
                        rfl
                      refine pure_ (i := 2) (N := some 14) (v := ?_) (a' := ?_) #[true, true, true, false, false, false, false, false, false, false, false, false, false, false, false, false, false, false] rfl rfl (any_of HT_.out (by kernel_rfl)) (fun _ _ _ h => h) (Or.inl ⟨by rfl, ?_⟩) ?_ ?_
                      rotate_left
                      · intro w'
                        go_simp
                        with_reducible rfl
                      rotate_left
                      · simp only [Act.put, List.setIfInBounds_toArray, List.set_cons_zero, List.set_cons_succ, i64_w, i32_w]
                        rfl
                      refine pure_ (i := 3) (N := some 15) (v := ?_) (a' := ?_) #[true, true, true, true, false, false, false, false, false, false, false, false, false, false, false, false, false, false] rfl rfl (any_of HT_.out (by kernel_rfl)) (fun _ _ _ h => h) (Or.inl ⟨by rfl, ?_⟩) ?_ ?_
                      rotate_left
                      · intro w'
                        go_simp
                        with_reducible rfl
                      rotate_left
                      · simp only [Act.put, List.setIfInBounds_toArray, List.set_cons_zero, List.set_cons_succ, i64_w, i32_w]
                        rfl
                      refine pure_ (i := 4) (N := some 16) (v := ?_) (a' := ?_) #[true, true, true, true, true, false, false, false, false, false, false, false, false, false, false, false, false, false] rfl rfl (any_of HT_.out (by kernel_rfl)) (fun _ _ _ h => h) (Or.inl ⟨by rfl, ?_⟩) ?_ ?_
                      rotate_left
                      · intro w'
                        go_simp
                        with_reducible rfl
                      rotate_left
                      · simp only [Act.put, List.setIfInBounds_toArray, List.set_cons_zero, List.set_cons_succ, i64_w, i32_w]
                        rfl
                      refine pure_ (i := 5) (N := some 17) (v := ?_) (a' := ?_) #[true, true, true, true, true, true, false, false, false, false, false, false, false, false, false, false, false, false] rfl rfl (any_of HT_.out (by kernel_rfl)) (fun _ _ _ h => h) (Or.inl ⟨by rfl, ?_⟩) ?_ ?_
                      rotate_left
                      · intro w'
                        go_simp
                        with_reducible rfl
                      rotate_left
                      · simp only [Act.put, List.setIfInBounds_toArray, List.set_cons_zero, List.set_cons_succ, i64_w, i32_w]
                        rfl
                      refine pure_ (i := 6) (N := some 18) (v := ?_) (a' := ?_) #[true, true, true, true, true, true, true, false, false, false, false, false, false, false, false, false, false, false] rfl rfl (any_of HT_.out (by kernel_rfl)) (fun _ _ _ h => h) (Or.inl ⟨by rfl, ?_⟩) ?_ ?_
                      rotate_left
                      · intro w'
                        go_simp
                        with_reducible rfl
                      rotate_left
                      · simp only [Act.put, List.setIfInBounds_toArray, List.set_cons_zero, List.set_cons_succ, i64_w, i32_w]
                        rfl
                      refine pure_ (i := 7) (N := some 19) (v := ?_) (a' := ?_) #[true, true, true, true, true, true, true, true, false, false, false, false, false, false, false, false, false, false] rfl rfl (any_of HT_.out (by kernel_rfl)) (fun _ _ _ h => h) (Or.inl ⟨by rfl, ?_⟩) ?_ ?_
                      rotate_left
                      · intro w'
                        go_simp
                        with_reducible rfl
                      rotate_left
                      · simp only [Act.put, List.setIfInBounds_toArray, List.set_cons_zero, List.set_cons_succ, i64_w, i32_w]
                        rfl
                      refine pure_ (i := 9) (N := some 21) (v := ?_) (a' := ?_) #[true, true, true, true, true, true, true, true, false, true, false, false, false, false, false, false, false, false] rfl rfl (any_of HT_.out (by kernel_rfl)) (fun _ _ _ h => h) (Or.inl ⟨by rfl, ?_⟩) ?_ ?_
                      rotate_left
                      · intro w'
                        go_simp
                        with_reducible rfl
                      rotate_left
                      · simp only [Act.put, List.setIfInBounds_toArray, List.set_cons_zero, List.set_cons_succ, i64_w, i32_w]
                        rfl
                      refine pure_ (i := 10) (N := some 22) (v := ?_) (a' := ?_) #[true, true, true, true, true, true, true, true, false, true, true, false, false, false, false, false, false, false] rfl rfl (any_of HT_.out (by kernel_rfl)) (fun _ _ _ h => h) (Or.inl ⟨by rfl, ?_⟩) ?_ ?_
                      rotate_left
                      · intro w'
                        go_simp
                        with_reducible rfl
                      rotate_left
                      · simp only [Act.put, List.setIfInBounds_toArray, List.set_cons_zero, List.set_cons_succ, i64_w, i32_w]
                        rfl
                      refine pure_ (i := 11) (N := some 23) (v := ?_) (a' := ?_) #[true, true, true, true, true, true, true, true, false, true, true, true, false, false, false, false, false, false] rfl rfl (any_of HT_.out (by kernel_rfl)) (fun _ _ _ h => h) (Or.inl ⟨by rfl, ?_⟩) ?_ ?_
                      rotate_left
                      · intro w'
                        go_simp
                        with_reducible rfl
                      rotate_left
                      · simp only [Act.put, List.setIfInBounds_toArray, List.set_cons_zero, List.set_cons_succ, i64_w, i32_w]
                        rfl
                      refine pure_ (i := 12) (N := some 24) (v := ?_) (a' := ?_) #[true, true, true, true, true, true, true, true, false, true, true, true, true, false, false, false, false, false] rfl rfl (any_of HT_.out (by kernel_rfl)) (fun _ _ _ h => h) (Or.inl ⟨by rfl, ?_⟩) ?_ ?_
                      rotate_left
                      · intro w'
                        go_simp
                        with_reducible rfl
                      rotate_left
                      · simp only [Act.put, List.setIfInBounds_toArray, List.set_cons_zero, List.set_cons_succ, i64_w, i32_w]
                        rfl
                      refine pure_ (i := 13) (N := some 25) (v := ?_) (a' := ?_) #[true, true, true, true, true, true, true, true, false, true, true, true, true, true, false, false, false, false] rfl rfl (any_of HT_.out (by kernel_rfl)) (fun _ _ _ h => h) (Or.inl ⟨by rfl, ?_⟩) ?_ ?_
                      rotate_left
                      · intro w'
                        go_simp
                        with_reducible rfl
                      rotate_left
                      · simp only [Act.put, List.setIfInBounds_toArray, List.set_cons_zero, List.set_cons_succ, i64_w, i32_w]
                        rfl
                      refine take_ (i := 8) (N := some 20) (v := ?_) (a' := ?_) #[true, true, true, true, true, true, true, true, true, true, true, true, true, true, false, false, false, false] rfl rfl (take_ofW HT_.out HW_.out (by kernel_rfl)) (fun _ _ _ h => h) (Or.inl ⟨by rfl, ?_⟩) hHeld ?_ ?_
                      rotate_left
                      · rintro w' ⟨s0, s1, s2, s3, s4, s5⟩
                        go_simp
                        with_reducible rfl
                      rotate_left
                      · simp only [Act.put, List.setIfInBounds_toArray, List.set_cons_zero, List.set_cons_succ, i64_w, i32_w]
                        rfl
                      refine take_ (i := 14) (N := some 26) (v := ?_) (a' := ?_) #[true, true, true, true, true, true, true, true, true, true, true, true, true, true, true, false, false, false] rfl rfl (take_ofW HT_.out HW_.out (by kernel_rfl)) (fun _ _ _ h => h) (Or.inl ⟨by rfl, ?_⟩) hHeld ?_ ?_
                      rotate_left
                      · rintro w' ⟨s0, s1, s2, s3, s4, s5⟩
                        go_simp
                        with_reducible rfl
                      rotate_left
                      · simp only [Act.put, List.setIfInBounds_toArray, List.set_cons_zero, List.set_cons_succ, i64_w, i32_w]
                        rfl
                      refine pure_ (i := 15) (N := some 27) (v := ?_) (a' := ?_) #[true, true, true, true, true, true, true, true, true, true, true, true, true, true, true, true, false, false] rfl rfl (any_of HT_.out (by kernel_rfl)) (fun _ _ _ h => h) (Or.inl ⟨by rfl, ?_⟩) ?_ ?_
                      rotate_left
                      · intro w'
                        go_simp
                        with_reducible rfl
                      rotate_left
                      · simp only [Act.put, List.setIfInBounds_toArray, List.set_cons_zero, List.set_cons_succ, i64_w, i32_w]
                        rfl
                      refine pure_ (i := 16) (N := some 28) (v := ?_) (a' := ?_) #[true, true, true, true, true, true, true, true, true, true, true, true, true, true, true, true, true, false] rfl rfl (any_of HT_.out (by kernel_rfl)) (fun _ _ _ h => h) (Or.inl ⟨by rfl, ?_⟩) ?_ ?_
                      rotate_left
                      · intro w'
                        go_simp
                        with_reducible rfl
                      rotate_left
                      · simp only [Act.put, List.setIfInBounds_toArray, List.set_cons_zero, List.set_cons_succ, i64_w, i32_w]
                        rfl
                      refine pure_ (i := 17) (N := some 29) (v := ?_) (a' := ?_) #[true, true, true, true, true, true, true, true, true, true, true, true, true, true, true, true, true, true] rfl rfl (any_of HT_.out (by kernel_rfl)) (fun _ _ _ h => h) (Or.inl ⟨by rfl, ?_⟩) ?_ ?_
                      rotate_left
                      · intro w'
                        go_simp
                        with_reducible rfl
                      rotate_left
                      · simp only [Act.put, List.setIfInBounds_toArray, List.set_cons_zero, List.set_cons_succ, i64_w, i32_w]
                        rfl
                      refine done_ (done_of HT_.out (by kernel_rfl)) ?_
                      try go_wp2
                      go_ret
                      exact ⟨by first | rfl | (simp [errW_none, errW_some] <;> rfl) | (simp only [← hji8]; first | rfl | (simp [errW_none, errW_some] <;> rfl)) | (simp [*, errW_none, errW_some] <;> rfl), by repeat (first | (with_reducible first | exact HB.out | apply below_alloc | apply pw_below_drewN | apply below_drew1 | refine below_set ?_ GE169.out) | exact HB.out)⟩
                    · rw [if_neg c11] at H
                      have c11b0 : decide (((rd_T80 l0 (ji8)).f0) ≤ ((rd_T80 l0 x7_1).f0)) = false := decide_eq_false c11
                      clear c11
                      have H' := Aside0.mk H
                      clear H
                      have p168 : 0 ≤ (x7_1 : Int) := of_decide_eq_true (by first | (with_reducible assumption) | assumption)
                      have q168 : x7_1 < (l0.length : Int) := of_decide_eq_true (by first | (with_reducible assumption) | assumption)
                      obtain ⟨ad168, e168, hx168_0, hx168_1, hx168_2⟩ := at_T80 HR0.out x7_1 p168 q168
                      cases e168
                      replace hx168_0 := (HB.out.cell (World.block_lt_of_cell? w _ hx168_0)).trans hx168_0
                      replace hx168_1 := (HB.out.cell (World.block_lt_of_cell? w _ hx168_1)).trans hx168_1
                      replace hx168_2 := (HB.out.cell (World.block_lt_of_cell? w _ hx168_2)).trans hx168_2
                      replace p168 := eq_true p168
                      replace q168 := eq_true q168
                      try go_wp2_with (first | ((with_reducible refine gate_dst (N := 4) rfl ?_); refine box_event ?hg (N := 4) ?hd (cs := #[.int .i64 0, .string (⟨#[]⟩ : ByteArray), .bool false]) (t := 80) ?hr ?_; (case hd => rfl); (case hg => rfl); (case hr => first | (go_simp; done) | (go_simp; rfl)); intro gb169 hg w17 hbox hb; have n0_ := Aside0.mk (below_step (by repeat (first | (with_reducible first | exact HB.out | apply below_alloc | apply pw_below_drewN | apply below_drew1) | exact HB.out)) hb); have n1_ := Aside0.mk (hbox); have n2_ := Aside0.mk ((by rw [hg]; exact (below_size (by repeat (first | (with_reducible first | exact HB.out | apply below_alloc | apply pw_below_drewN | apply below_drew1) | exact HB.out))) : w.heap.size ≤ gb169)); have n3_ := Aside0.mk ((by rw [hg]; exact (below_size (by repeat (first | (with_reducible first | exact HB.out | apply below_alloc | apply pw_below_drewN | apply below_drew1) | exact HB.out))) : w.heap.size ≤ gb169)); clear HB; have HB := n0_; have BK169 := n1_; have GW169 := n2_; have GE169 := n3_; clear n0_ n1_ n2_ n3_; clear hb hbox hg; have hcz18_0 : w17.cell? ⟨gb169, 0, none⟩ = some (.int .i64 0) := (blk_cell BK169.out 0).trans rfl; have hcz18_1 : w17.cell? ⟨gb169, 1, none⟩ = some (.string (⟨#[]⟩ : ByteArray)) := (blk_cell BK169.out 1).trans rfl; have hcz18_2 : w17.cell? ⟨gb169, 2, none⟩ = some (.bool false) := (blk_cell BK169.out 2).trans rfl; have hfz18_0 := blk_frozen BK169.out 0; have hfz18_1 := blk_frozen BK169.out 1; have hfz18_2 := blk_frozen BK169.out 2))
                      have n0_ : Aside0 ((((w17.setCell ⟨gb169, 0, none⟩ (.int .i64 ((rd_T80 l0 x7_1).f0))).setCell ⟨gb169, 1, none⟩ (.string ((rd_T80 l0 x7_1).f1))).setCell ⟨gb169, 2, none⟩ (.bool ((rd_T80 l0 x7_1).f2))).heap[gb169]? = some (.cells #[.int .i64 ((rd_T80 l0 x7_1).f0), .string ((rd_T80 l0 x7_1).f1), .bool ((rd_T80 l0 x7_1).f2)] 80 (0, 0))) := ⟨by (with_reducible repeat (first | refine blk_drewN ?_ _ | refine blk_drew ?_ | refine blk_alloc ?_ _)); refine blk_put (cs := #[.int .i64 ((rd_T80 l0 x7_1).f0), .string ((rd_T80 l0 x7_1).f1), .bool false]) ?_ 2 _ rfl; (with_reducible repeat (first | refine blk_drewN ?_ _ | refine blk_drew ?_ | refine blk_alloc ?_ _)); refine blk_put (cs := #[.int .i64 ((rd_T80 l0 x7_1).f0), .string (⟨#[]⟩ : ByteArray), .bool false]) ?_ 1 _ rfl; (with_reducible repeat (first | refine blk_drewN ?_ _ | refine blk_drew ?_ | refine blk_alloc ?_ _)); refine blk_put (cs := #[.int .i64 0, .string (⟨#[]⟩ : ByteArray), .bool false]) ?_ 0 _ rfl; (with_reducible repeat (first | refine blk_drewN ?_ _ | refine blk_drew ?_ | refine blk_alloc ?_ _)); exact BK169.out⟩
                      have n1_ : Aside0 (Below w.heap.size w (((w17.setCell ⟨gb169, 0, none⟩ (.int .i64 ((rd_T80 l0 x7_1).f0))).setCell ⟨gb169, 1, none⟩ (.string ((rd_T80 l0 x7_1).f1))).setCell ⟨gb169, 2, none⟩ (.bool ((rd_T80 l0 x7_1).f2)))) := ⟨by repeat (first | (with_reducible first | exact HB.out | apply below_alloc | apply pw_below_drewN | apply below_drew1 | refine below_set ?_ GE169.out) | exact HB.out)⟩
                      (try clear BK169)
                      (try clear HB)
                      generalize (((w17.setCell ⟨gb169, 0, none⟩ (.int .i64 ((rd_T80 l0 x7_1).f0))).setCell ⟨gb169, 1, none⟩ (.string ((rd_T80 l0 x7_1).f1))).setCell ⟨gb169, 2, none⟩ (.bool ((rd_T80 l0 x7_1).f2))) = w19 at n0_ n1_ ⊢
                      have BK169 := n0_
                      have HB := n1_
                      clear n0_ n1_
                      have n0_ := Aside0.mk (blk_drew BK169.out)
                      have n1_ := Aside0.mk (below_drew1 HB.out)
                      clear BK169
                      clear HB
                      have BK169 := n0_
                      have HB := n1_
                      clear n0_ n1_
                      have p171 : 0 ≤ ((ji8) : Int) := of_decide_eq_true (by first | (with_reducible assumption) | assumption)
                      have q171 : (ji8) < (l0.length : Int) := of_decide_eq_true (by first | (with_reducible assumption) | assumption)
                      obtain ⟨ad171, e171, hx171_0, hx171_1, hx171_2⟩ := at_T80 HR0.out (ji8) p171 q171
                      have hw171_2 := hx171_2
                      have hw171_1 := hx171_1
                      have hw171_0 := hx171_0
                      obtain rfl : ad168 = ad171 := (by injection e171)
                      replace hx171_0 := (HB.out.cell (World.block_lt_of_cell? w _ hx171_0)).trans hx171_0
                      replace hx171_1 := (HB.out.cell (World.block_lt_of_cell? w _ hx171_1)).trans hx171_1
                      replace hx171_2 := (HB.out.cell (World.block_lt_of_cell? w _ hx171_2)).trans hx171_2
                      replace p171 := eq_true p171
                      replace q171 := eq_true q171
                      refine start_ (n := 18) (S := fun w' => w'.cell? ⟨gb169, 0, none⟩ = some (.int .i64 ((rd_T80 l0 x7_1).f0)) ∧ w'.cell? ⟨gb169, 1, none⟩ = some (.string ((rd_T80 l0 x7_1).f1)) ∧ w'.cell? ⟨gb169, 2, none⟩ = some (.bool ((rd_T80 l0 x7_1).f2)) ∧ w'.cell? (ad168.add (((ji8)).toNat * 3)) = some (.int .i64 ((rd_T80 l0 (ji8)).f0)) ∧ w'.cell? ⟨(ad168.add (((ji8)).toNat * 3)).block, (ad168.add (((ji8)).toNat * 3)).off + 1, none⟩ = some (.string ((rd_T80 l0 (ji8)).f1)) ∧ w'.cell? ⟨(ad168.add (((ji8)).toNat * 3)).block, (ad168.add (((ji8)).toNat * 3)).off + 2, none⟩ = some (.bool ((rd_T80 l0 (ji8)).f2))) (ds := []) #[false, false, false, false, false, false, false, false, false, false, false, false, false, false, false, false, false, false] (by kernel_rfl) rfl rfl ⟨(blk_cell BK169.out 0).trans rfl, (blk_cell BK169.out 1).trans rfl, (blk_cell BK169.out 2).trans rfl, ((HB.out.cell (World.block_lt_of_cell? w _ hw171_0)).trans hw171_0), ((HB.out.cell (World.block_lt_of_cell? w _ hw171_1)).trans hw171_1), ((HB.out.cell (World.block_lt_of_cell? w _ hw171_2)).trans hw171_2)⟩ (fun hHeld => ?_); refine with_tabW chain_Check.tab4 chain_Check.bits4 (fun HT_ HW_ => ?_)
                      generalize w19.drew = w20 at BK169 HB hx171_0 hx171_1 hx171_2 hHeld ⊢
                      refine take_ (i := 0) (N := some 12) (v := ?_) (a' := ?_) #[true, false, false, false, false, false, false, false, false, false, false, false, false, false, false, false, false, false] rfl rfl (take_ofW HT_.out HW_.out (by kernel_rfl)) (fun _ _ _ h => h) (Or.inl ⟨by rfl, ?_⟩) hHeld ?_ ?_
                      rotate_left
                      · rintro w' ⟨s0, s1, s2, s3, s4, s5⟩
                        go_simp
                        with_reducible rfl
                      rotate_left
                      · simp only [Act.put, List.setIfInBounds_toArray, List.set_cons_zero, List.set_cons_succ, i64_w, i32_w]
                        rfl
                      refine one_ (i := 1) (N := some 13) #[true, true, false, false, false, false, false, false, false, false, false, false, false, false, false, false, false, false] rfl rfl (one_of HT_.out (by kernel_rfl)) (by decide) (fun K hK => ?_)
                      refine goes_ Try.func81 (by kernel_rfl) rfl #[.agg #[.int .i64 ((rd_T80 l0 x7_1).f0), .string ((rd_T80 l0 x7_1).f1), .bool ((rd_T80 l0 x7_1).f2)]] (by rfl) rfl rfl (by (try simp only [List.map_toArray, List.map_cons, List.map_nil]); first | done | rfl | (simp only [List.length_drop, List.length_take]; rfl)) ?_
                      with_reducible refine (chain_right.calls ((rd_T80 l0 x7_1).f0) ((rd_T80 l0 x7_1).f1) ((rd_T80 l0 x7_1).f2) true _ A5.out).mono ?_
                      rintro e w21 ⟨rfl, hb⟩
                      refine ⟨_, rfl, ?_⟩
                      have n0_ := Aside0.mk (blk_below (g := gb169) (o := .cells #[.int .i64 ((rd_T80 l0 x7_1).f0), .string ((rd_T80 l0 x7_1).f1), .bool ((rd_T80 l0 x7_1).f2)] 80 (0, 0)) (by (with_reducible repeat (first | refine blk_drewN ?_ _ | refine blk_drew ?_ | refine blk_alloc ?_ _)); exact BK169.out) hb)
                      have n1_ := Aside0.mk (below_step (by repeat (first | (with_reducible first | exact HB.out | apply below_alloc | apply pw_below_drewN | apply below_drew1 | refine below_set ?_ GE169.out) | exact HB.out)) hb)
                      clear BK169
                      clear HB
                      have BK169 := n0_
                      have HB := n1_
                      clear n0_ n1_
                      (try clear hb)
                      (try clear hb2)
                      (try clear hk)
                      (try clear hi)
                      refine hK.out _ _ ⟨(blk_cell BK169.out 0).trans rfl, (blk_cell BK169.out 1).trans rfl, (blk_cell BK169.out 2).trans rfl, ((HB.out.cell (World.block_lt_of_cell? w _ hw171_0)).trans hw171_0), ((HB.out.cell (World.block_lt_of_cell? w _ hw171_1)).trans hw171_1), ((HB.out.cell (World.block_lt_of_cell? w _ hw171_2)).trans hw171_2)⟩ (fun hHeld => ?_)
                      clear hK K
                      refine norm_ (a' := ?_) ?_ ?_
                      rotate_left
                      · show Act.put _ (some 13) _ = _
                        simp only [Act.put, List.setIfInBounds_toArray, List.set_cons_zero, List.set_cons_succ, i64_w, i32_w]
                        rfl
                      refine pure_ (i := 2) (N := some 14) (v := ?_) (a' := ?_) #[true, true, true, false, false, false, false, false, false, false, false, false, false, false, false, false, false, false] rfl rfl (any_of HT_.out (by kernel_rfl)) (fun _ _ _ h => h) (Or.inl ⟨by rfl, ?_⟩) ?_ ?_
                      rotate_left
                      · intro w'
                        go_simp
                        with_reducible rfl
                      rotate_left
                      · simp only [Act.put, List.setIfInBounds_toArray, List.set_cons_zero, List.set_cons_succ, i64_w, i32_w]
                        rfl
                      refine pure_ (i := 3) (N := some 15) (v := ?_) (a' := ?_) #[true, true, true, true, false, false, false, false, false, false, false, false, false, false, false, false, false, false] rfl rfl (any_of HT_.out (by kernel_rfl)) (fun _ _ _ h => h) (Or.inl ⟨by rfl, ?_⟩) ?_ ?_
                      rotate_left
                      · intro w'
                        go_simp
                        with_reducible rfl
                      rotate_left
                      · simp only [Act.put, List.setIfInBounds_toArray, List.set_cons_zero, List.set_cons_succ, i64_w, i32_w]
                        rfl
                      refine pure_ (i := 4) (N := some 16) (v := ?_) (a' := ?_) #[true, true, true, true, true, false, false, false, false, false, false, false, false, false, false, false, false, false] rfl rfl (any_of HT_.out (by kernel_rfl)) (fun _ _ _ h => h) (Or.inl ⟨by rfl, ?_⟩) ?_ ?_
                      rotate_left
                      · intro w'
                        go_simp
                        with_reducible rfl
                      rotate_left
                      · simp only [Act.put, List.setIfInBounds_toArray, List.set_cons_zero, List.set_cons_succ, i64_w, i32_w]
                        rfl
                      refine pure_ (i := 5) (N := some 17) (v := ?_) (a' := ?_) #[true, true, true, true, true, true, false, false, false, false, false, false, false, false, false, false, false, false] rfl rfl (any_of HT_.out (by kernel_rfl)) (fun _ _ _ h => h) (Or.inl ⟨by rfl, ?_⟩) ?_ ?_
                      rotate_left
                      · intro w'
                        go_simp
                        with_reducible rfl
                      rotate_left
                      · simp only [Act.put, List.setIfInBounds_toArray, List.set_cons_zero, List.set_cons_succ, i64_w, i32_w]
                        rfl
                      refine pure_ (i := 6) (N := some 18) (v := ?_) (a' := ?_) #[true, true, true, true, true, true, true, false, false, false, false, false, false, false, false, false, false, false] rfl rfl (any_of HT_.out (by kernel_rfl)) (fun _ _ _ h => h) (Or.inl ⟨by rfl, ?_⟩) ?_ ?_
                      rotate_left
                      · intro w'
                        go_simp
                        with_reducible rfl
                      rotate_left
                      · simp only [Act.put, List.setIfInBounds_toArray, List.set_cons_zero, List.set_cons_succ, i64_w, i32_w]
                        rfl
                      refine pure_ (i := 7) (N := some 19) (v := ?_) (a' := ?_) #[true, true, true, true, true, true, true, true, false, false, false, false, false, false, false, false, false, false] rfl rfl (any_of HT_.out (by kernel_rfl)) (fun _ _ _ h => h) (Or.inl ⟨by rfl, ?_⟩) ?_ ?_
                      rotate_left
                      · intro w'
                        go_simp
                        with_reducible rfl
                      rotate_left
                      · simp only [Act.put, List.setIfInBounds_toArray, List.set_cons_zero, List.set_cons_succ, i64_w, i32_w]
                        rfl
                      refine pure_ (i := 9) (N := some 21) (v := ?_) (a' := ?_) #[true, true, true, true, true, true, true, true, false, true, false, false, false, false, false, false, false, false] rfl rfl (any_of HT_.out (by kernel_rfl)) (fun _ _ _ h => h) (Or.inl ⟨by rfl, ?_⟩) ?_ ?_
                      rotate_left
                      · intro w'
                        go_simp
                        with_reducible rfl
                      rotate_left
                      · simp only [Act.put, List.setIfInBounds_toArray, List.set_cons_zero, List.set_cons_succ, i64_w, i32_w]
                        rfl
                      refine pure_ (i := 10) (N := some 22) (v := ?_) (a' := ?_) #[true, true, true, true, true, true, true, true, false, true, true, false, false, false, false, false, false, false] rfl rfl (any_of HT_.out (by kernel_rfl)) (fun _ _ _ h => h) (Or.inl ⟨by rfl, ?_⟩) ?_ ?_
                      rotate_left
                      · intro w'
                        go_simp
                        with_reducible rfl
                      rotate_left
                      · simp only [Act.put, List.setIfInBounds_toArray, List.set_cons_zero, List.set_cons_succ, i64_w, i32_w]
                        rfl
                      refine pure_ (i := 11) (N := some 23) (v := ?_) (a' := ?_) #[true, true, true, true, true, true, true, true, false, true, true, true, false, false, false, false, false, false] rfl rfl (any_of HT_.out (by kernel_rfl)) (fun _ _ _ h => h) (Or.inl ⟨by rfl, ?_⟩) ?_ ?_
                      rotate_left
                      · intro w'
                        go_simp
                        with_reducible rfl
                      rotate_left
                      · simp only [Act.put, List.setIfInBounds_toArray, List.set_cons_zero, List.set_cons_succ, i64_w, i32_w]
                        rfl
                      refine pure_ (i := 12) (N := some 24) (v := ?_) (a' := ?_) #[true, true, true, true, true, true, true, true, false, true, true, true, true, false, false, false, false, false] rfl rfl (any_of HT_.out (by kernel_rfl)) (fun _ _ _ h => h) (Or.inl ⟨by rfl, ?_⟩) ?_ ?_
                      rotate_left
                      · intro w'
                        go_simp
                        with_reducible rfl
                      rotate_left
                      · simp only [Act.put, List.setIfInBounds_toArray, List.set_cons_zero, List.set_cons_succ, i64_w, i32_w]
                        rfl
                      refine pure_ (i := 13) (N := some 25) (v := ?_) (a' := ?_) #[true, true, true, true, true, true, true, true, false, true, true, true, true, true, false, false, false, false] rfl rfl (any_of HT_.out (by kernel_rfl)) (fun _ _ _ h => h) (Or.inl ⟨by rfl, ?_⟩) ?_ ?_
                      rotate_left
                      · intro w'
                        go_simp
                        with_reducible rfl
                      rotate_left
                      · simp only [Act.put, List.setIfInBounds_toArray, List.set_cons_zero, List.set_cons_succ, i64_w, i32_w]
                        rfl
                      refine take_ (i := 8) (N := some 20) (v := ?_) (a' := ?_) #[true, true, true, true, true, true, true, true, true, true, true, true, true, true, false, false, false, false] rfl rfl (take_ofW HT_.out HW_.out (by kernel_rfl)) (fun _ _ _ h => h) (Or.inl ⟨by rfl, ?_⟩) hHeld ?_ ?_
                      rotate_left
                      · rintro w' ⟨s0, s1, s2, s3, s4, s5⟩
                        go_simp
                        with_reducible rfl
                      rotate_left
                      · simp only [Act.put, List.setIfInBounds_toArray, List.set_cons_zero, List.set_cons_succ, i64_w, i32_w]
                        rfl
                      refine take_ (i := 14) (N := some 26) (v := ?_) (a' := ?_) #[true, true, true, true, true, true, true, true, true, true, true, true, true, true, true, false, false, false] rfl rfl (take_ofW HT_.out HW_.out (by kernel_rfl)) (fun _ _ _ h => h) (Or.inl ⟨by rfl, ?_⟩) hHeld ?_ ?_
                      rotate_left
                      · rintro w' ⟨s0, s1, s2, s3, s4, s5⟩
                        go_simp
                        with_reducible rfl
                      rotate_left
                      · simp only [Act.put, List.setIfInBounds_toArray, List.set_cons_zero, List.set_cons_succ, i64_w, i32_w]
                        rfl
                      refine pure_ (i := 15) (N := some 27) (v := ?_) (a' := ?_) #[true, true, true, true, true, true, true, true, true, true, true, true, true, true, true, true, false, false] rfl rfl (any_of HT_.out (by kernel_rfl)) (fun _ _ _ h => h) (Or.inl ⟨by rfl, ?_⟩) ?_ ?_
                      rotate_left
                      · intro w'
                        go_simp
                        with_reducible rfl
                      rotate_left
                      · simp only [Act.put, List.setIfInBounds_toArray, List.set_cons_zero, List.set_cons_succ, i64_w, i32_w]
                        rfl
                      refine pure_ (i := 16) (N := some 28) (v := ?_) (a' := ?_) #[true, true, true, true, true, true, true, true, true, true, true, true, true, true, true, true, true, false] rfl rfl (any_of HT_.out (by kernel_rfl)) (fun _ _ _ h => h) (Or.inl ⟨by rfl, ?_⟩) ?_ ?_
                      rotate_left
                      · intro w'
                        go_simp
                        with_reducible rfl
                      rotate_left
                      · simp only [Act.put, List.setIfInBounds_toArray, List.set_cons_zero, List.set_cons_succ, i64_w, i32_w]
                        rfl
                      refine pure_ (i := 17) (N := some 29) (v := ?_) (a' := ?_) #[true, true, true, true, true, true, true, true, true, true, true, true, true, true, true, true, true, true] rfl rfl (any_of HT_.out (by kernel_rfl)) (fun _ _ _ h => h) (Or.inl ⟨by rfl, ?_⟩) ?_ ?_
                      rotate_left
                      · intro w'
                        go_simp
                        with_reducible rfl
                      rotate_left
                      · simp only [Act.put, List.setIfInBounds_toArray, List.set_cons_zero, List.set_cons_succ, i64_w, i32_w]
                        rfl
                      refine done_ (done_of HT_.out (by kernel_rfl)) ?_
                      try go_wp2
                      go_roundg k1
                      case measure => have := HK1.out; omega
                      case rel => exact ⟨(wrap64 (x7_1 + 1)), (by first | rfl | (simp; done) | (simp [*]; done)), H', ⟨by have := HK1.out; omega⟩, ⟨by repeat (first | (with_reducible first | exact HB.out | apply below_alloc | apply pw_below_drewN | apply below_drew1 | refine below_set ?_ GE169.out) | exact HB.out)⟩⟩
                  · rw [if_neg c10] at H
                    exact absurd H (by simp)
                · rw [if_neg c9] at H
                  exact absurd H (by simp)
              · rw [if_neg c7] at H
                have c7b0 : decide (0 < x7_1) = false := decide_eq_false c7
                clear c7
                have H' := Aside0.mk H
                clear H
                have p168 : 0 ≤ (x7_1 : Int) := of_decide_eq_true (by first | (with_reducible assumption) | assumption)
                have q168 : x7_1 < (l0.length : Int) := of_decide_eq_true (by first | (with_reducible assumption) | assumption)
                obtain ⟨ad168, e168, hx168_0, hx168_1, hx168_2⟩ := at_T80 HR0.out x7_1 p168 q168
                cases e168
                replace hx168_0 := (HB.out.cell (World.block_lt_of_cell? w _ hx168_0)).trans hx168_0
                replace hx168_1 := (HB.out.cell (World.block_lt_of_cell? w _ hx168_1)).trans hx168_1
                replace hx168_2 := (HB.out.cell (World.block_lt_of_cell? w _ hx168_2)).trans hx168_2
                replace p168 := eq_true p168
                replace q168 := eq_true q168
                try go_wp2_with (first | ((with_reducible refine gate_dst (N := 4) rfl ?_); refine box_event ?hg (N := 4) ?hd (cs := #[.int .i64 0, .string (⟨#[]⟩ : ByteArray), .bool false]) (t := 80) ?hr ?_; (case hd => rfl); (case hg => rfl); (case hr => first | (go_simp; done) | (go_simp; rfl)); intro gb169 hg w22 hbox hb; have n0_ := Aside0.mk (below_step (by repeat (first | (with_reducible first | exact HB.out | apply below_alloc | apply pw_below_drewN | apply below_drew1) | exact HB.out)) hb); have n1_ := Aside0.mk (hbox); have n2_ := Aside0.mk ((by rw [hg]; exact (below_size (by repeat (first | (with_reducible first | exact HB.out | apply below_alloc | apply pw_below_drewN | apply below_drew1) | exact HB.out))) : w.heap.size ≤ gb169)); have n3_ := Aside0.mk ((by rw [hg]; exact (below_size (by repeat (first | (with_reducible first | exact HB.out | apply below_alloc | apply pw_below_drewN | apply below_drew1) | exact HB.out))) : w.heap.size ≤ gb169)); clear HB; have HB := n0_; have BK169 := n1_; have GW169 := n2_; have GE169 := n3_; clear n0_ n1_ n2_ n3_; clear hb hbox hg; have hcz23_0 : w22.cell? ⟨gb169, 0, none⟩ = some (.int .i64 0) := (blk_cell BK169.out 0).trans rfl; have hcz23_1 : w22.cell? ⟨gb169, 1, none⟩ = some (.string (⟨#[]⟩ : ByteArray)) := (blk_cell BK169.out 1).trans rfl; have hcz23_2 : w22.cell? ⟨gb169, 2, none⟩ = some (.bool false) := (blk_cell BK169.out 2).trans rfl; have hfz23_0 := blk_frozen BK169.out 0; have hfz23_1 := blk_frozen BK169.out 1; have hfz23_2 := blk_frozen BK169.out 2))
                have n0_ : Aside0 ((((w22.setCell ⟨gb169, 0, none⟩ (.int .i64 ((rd_T80 l0 x7_1).f0))).setCell ⟨gb169, 1, none⟩ (.string ((rd_T80 l0 x7_1).f1))).setCell ⟨gb169, 2, none⟩ (.bool ((rd_T80 l0 x7_1).f2))).heap[gb169]? = some (.cells #[.int .i64 ((rd_T80 l0 x7_1).f0), .string ((rd_T80 l0 x7_1).f1), .bool ((rd_T80 l0 x7_1).f2)] 80 (0, 0))) := ⟨by (with_reducible repeat (first | refine blk_drewN ?_ _ | refine blk_drew ?_ | refine blk_alloc ?_ _)); refine blk_put (cs := #[.int .i64 ((rd_T80 l0 x7_1).f0), .string ((rd_T80 l0 x7_1).f1), .bool false]) ?_ 2 _ rfl; (with_reducible repeat (first | refine blk_drewN ?_ _ | refine blk_drew ?_ | refine blk_alloc ?_ _)); refine blk_put (cs := #[.int .i64 ((rd_T80 l0 x7_1).f0), .string (⟨#[]⟩ : ByteArray), .bool false]) ?_ 1 _ rfl; (with_reducible repeat (first | refine blk_drewN ?_ _ | refine blk_drew ?_ | refine blk_alloc ?_ _)); refine blk_put (cs := #[.int .i64 0, .string (⟨#[]⟩ : ByteArray), .bool false]) ?_ 0 _ rfl; (with_reducible repeat (first | refine blk_drewN ?_ _ | refine blk_drew ?_ | refine blk_alloc ?_ _)); exact BK169.out⟩
                have n1_ : Aside0 (Below w.heap.size w (((w22.setCell ⟨gb169, 0, none⟩ (.int .i64 ((rd_T80 l0 x7_1).f0))).setCell ⟨gb169, 1, none⟩ (.string ((rd_T80 l0 x7_1).f1))).setCell ⟨gb169, 2, none⟩ (.bool ((rd_T80 l0 x7_1).f2)))) := ⟨by repeat (first | (with_reducible first | exact HB.out | apply below_alloc | apply pw_below_drewN | apply below_drew1 | refine below_set ?_ GE169.out) | exact HB.out)⟩
                (try clear BK169)
                (try clear HB)
                generalize (((w22.setCell ⟨gb169, 0, none⟩ (.int .i64 ((rd_T80 l0 x7_1).f0))).setCell ⟨gb169, 1, none⟩ (.string ((rd_T80 l0 x7_1).f1))).setCell ⟨gb169, 2, none⟩ (.bool ((rd_T80 l0 x7_1).f2))) = w24 at n0_ n1_ ⊢
                have BK169 := n0_
                have HB := n1_
                clear n0_ n1_
                have n0_ := Aside0.mk (blk_drew BK169.out)
                have n1_ := Aside0.mk (below_drew1 HB.out)
                clear BK169
                clear HB
                have BK169 := n0_
                have HB := n1_
                clear n0_ n1_
                refine start_ (n := 18) (S := fun w' => w'.cell? ⟨gb169, 0, none⟩ = some (.int .i64 ((rd_T80 l0 x7_1).f0)) ∧ w'.cell? ⟨gb169, 1, none⟩ = some (.string ((rd_T80 l0 x7_1).f1)) ∧ w'.cell? ⟨gb169, 2, none⟩ = some (.bool ((rd_T80 l0 x7_1).f2))) (ds := []) #[false, false, false, false, false, false, false, false, false, false, false, false, false, false, false, false, false, false] (by kernel_rfl) rfl rfl ⟨(blk_cell BK169.out 0).trans rfl, (blk_cell BK169.out 1).trans rfl, (blk_cell BK169.out 2).trans rfl⟩ (fun hHeld => ?_); refine with_tabW chain_Check.tab4 chain_Check.bits4 (fun HT_ HW_ => ?_)
                generalize w24.drew = w25 at BK169 HB hHeld ⊢
                refine take_ (i := 0) (N := some 12) (v := ?_) (a' := ?_) #[true, false, false, false, false, false, false, false, false, false, false, false, false, false, false, false, false, false] rfl rfl (take_ofW HT_.out HW_.out (by kernel_rfl)) (fun _ _ _ h => h) (Or.inl ⟨by rfl, ?_⟩) hHeld ?_ ?_
                rotate_left
                · rintro w' ⟨s0, s1, s2⟩
                  go_simp
                  with_reducible rfl
                rotate_left
                · simp only [Act.put, List.setIfInBounds_toArray, List.set_cons_zero, List.set_cons_succ, i64_w, i32_w]
                  rfl
                refine one_ (i := 1) (N := some 13) #[true, true, false, false, false, false, false, false, false, false, false, false, false, false, false, false, false, false] rfl rfl (one_of HT_.out (by kernel_rfl)) (by decide) (fun K hK => ?_)
                refine goes_ Try.func81 (by kernel_rfl) rfl #[.agg #[.int .i64 ((rd_T80 l0 x7_1).f0), .string ((rd_T80 l0 x7_1).f1), .bool ((rd_T80 l0 x7_1).f2)]] (by rfl) rfl rfl (by (try simp only [List.map_toArray, List.map_cons, List.map_nil]); first | done | rfl | (simp only [List.length_drop, List.length_take]; rfl)) ?_
                with_reducible refine (chain_right.calls ((rd_T80 l0 x7_1).f0) ((rd_T80 l0 x7_1).f1) ((rd_T80 l0 x7_1).f2) true _ A5.out).mono ?_
                rintro e w26 ⟨rfl, hb⟩
                refine ⟨_, rfl, ?_⟩
                have n0_ := Aside0.mk (blk_below (g := gb169) (o := .cells #[.int .i64 ((rd_T80 l0 x7_1).f0), .string ((rd_T80 l0 x7_1).f1), .bool ((rd_T80 l0 x7_1).f2)] 80 (0, 0)) (by (with_reducible repeat (first | refine blk_drewN ?_ _ | refine blk_drew ?_ | refine blk_alloc ?_ _)); exact BK169.out) hb)
                have n1_ := Aside0.mk (below_step (by repeat (first | (with_reducible first | exact HB.out | apply below_alloc | apply pw_below_drewN | apply below_drew1 | refine below_set ?_ GE169.out) | exact HB.out)) hb)
                clear BK169
                clear HB
                have BK169 := n0_
                have HB := n1_
                clear n0_ n1_
                (try clear hb)
                (try clear hb2)
                (try clear hk)
                (try clear hi)
                refine hK.out _ _ ⟨(blk_cell BK169.out 0).trans rfl, (blk_cell BK169.out 1).trans rfl, (blk_cell BK169.out 2).trans rfl⟩ (fun hHeld => ?_)
                clear hK K
                refine norm_ (a' := ?_) ?_ ?_
                rotate_left
                · show Act.put _ (some 13) _ = _
                  simp only [Act.put, List.setIfInBounds_toArray, List.set_cons_zero, List.set_cons_succ, i64_w, i32_w]
                  rfl
                refine pure_ (i := 2) (N := some 14) (v := ?_) (a' := ?_) #[true, true, true, false, false, false, false, false, false, false, false, false, false, false, false, false, false, false] rfl rfl (any_of HT_.out (by kernel_rfl)) (fun _ _ _ h => h) (Or.inl ⟨by rfl, ?_⟩) ?_ ?_
                rotate_left
                · intro w'
                  go_simp
                  with_reducible rfl
                rotate_left
                · simp only [Act.put, List.setIfInBounds_toArray, List.set_cons_zero, List.set_cons_succ, i64_w, i32_w]
                  rfl
                refine pure_ (i := 3) (N := some 15) (v := ?_) (a' := ?_) #[true, true, true, true, false, false, false, false, false, false, false, false, false, false, false, false, false, false] rfl rfl (any_of HT_.out (by kernel_rfl)) (fun _ _ _ h => h) (Or.inl ⟨by rfl, ?_⟩) ?_ ?_
                rotate_left
                · intro w'
                  go_simp
                  with_reducible rfl
                rotate_left
                · simp only [Act.put, List.setIfInBounds_toArray, List.set_cons_zero, List.set_cons_succ, i64_w, i32_w]
                  rfl
                refine pure_ (i := 4) (N := some 16) (v := ?_) (a' := ?_) #[true, true, true, true, true, false, false, false, false, false, false, false, false, false, false, false, false, false] rfl rfl (any_of HT_.out (by kernel_rfl)) (fun _ _ _ h => h) (Or.inl ⟨by rfl, ?_⟩) ?_ ?_
                rotate_left
                · intro w'
                  go_simp
                  with_reducible rfl
                rotate_left
                · simp only [Act.put, List.setIfInBounds_toArray, List.set_cons_zero, List.set_cons_succ, i64_w, i32_w]
                  rfl
                refine pure_ (i := 5) (N := some 17) (v := ?_) (a' := ?_) #[true, true, true, true, true, true, false, false, false, false, false, false, false, false, false, false, false, false] rfl rfl (any_of HT_.out (by kernel_rfl)) (fun _ _ _ h => h) (Or.inl ⟨by rfl, ?_⟩) ?_ ?_
                rotate_left
                · intro w'
                  go_simp
                  with_reducible rfl
                rotate_left
                · simp only [Act.put, List.setIfInBounds_toArray, List.set_cons_zero, List.set_cons_succ, i64_w, i32_w]
                  rfl
                refine pure_ (i := 6) (N := some 18) (v := ?_) (a' := ?_) #[true, true, true, true, true, true, true, false, false, false, false, false, false, false, false, false, false, false] rfl rfl (any_of HT_.out (by kernel_rfl)) (fun _ _ _ h => h) (Or.inl ⟨by rfl, ?_⟩) ?_ ?_
                rotate_left
                · intro w'
                  go_simp
                  with_reducible rfl
                rotate_left
                · simp only [Act.put, List.setIfInBounds_toArray, List.set_cons_zero, List.set_cons_succ, i64_w, i32_w]
                  rfl
                refine pure_ (i := 7) (N := some 19) (v := undef) (a' := ?_) #[true, true, true, true, true, true, true, true, false, false, false, false, false, false, false, false, false, false] rfl rfl (any_of HT_.out (by kernel_rfl)) (fun _ _ _ h => h) (Or.inr ⟨by rfl, rfl⟩) ?_ ?_
                rotate_left
                · simp only [Act.put, List.setIfInBounds_toArray, List.set_cons_zero, List.set_cons_succ, i64_w, i32_w]
                  rfl
                refine pure_ (i := 8) (N := some 20) (v := undef) (a' := ?_) #[true, true, true, true, true, true, true, true, true, false, false, false, false, false, false, false, false, false] rfl rfl (any_of HT_.out (by kernel_rfl)) (fun _ _ _ h => h) (Or.inr ⟨by rfl, rfl⟩) ?_ ?_
                rotate_left
                · simp only [Act.put, List.setIfInBounds_toArray, List.set_cons_zero, List.set_cons_succ, i64_w, i32_w]
                  rfl
                refine pure_ (i := 9) (N := some 21) (v := undef) (a' := ?_) #[true, true, true, true, true, true, true, true, true, true, false, false, false, false, false, false, false, false] rfl rfl (any_of HT_.out (by kernel_rfl)) (fun _ _ _ h => h) (Or.inr ⟨by rfl, rfl⟩) ?_ ?_
                rotate_left
                · simp only [Act.put, List.setIfInBounds_toArray, List.set_cons_zero, List.set_cons_succ, i64_w, i32_w]
                  rfl
                refine pure_ (i := 10) (N := some 22) (v := undef) (a' := ?_) #[true, true, true, true, true, true, true, true, true, true, true, false, false, false, false, false, false, false] rfl rfl (any_of HT_.out (by kernel_rfl)) (fun _ _ _ h => h) (Or.inr ⟨by rfl, rfl⟩) ?_ ?_
                rotate_left
                · simp only [Act.put, List.setIfInBounds_toArray, List.set_cons_zero, List.set_cons_succ, i64_w, i32_w]
                  rfl
                refine pure_ (i := 11) (N := some 23) (v := undef) (a' := ?_) #[true, true, true, true, true, true, true, true, true, true, true, true, false, false, false, false, false, false] rfl rfl (any_of HT_.out (by kernel_rfl)) (fun _ _ _ h => h) (Or.inr ⟨by rfl, rfl⟩) ?_ ?_
                rotate_left
                · simp only [Act.put, List.setIfInBounds_toArray, List.set_cons_zero, List.set_cons_succ, i64_w, i32_w]
                  rfl
                refine pure_ (i := 12) (N := some 24) (v := undef) (a' := ?_) #[true, true, true, true, true, true, true, true, true, true, true, true, true, false, false, false, false, false] rfl rfl (any_of HT_.out (by kernel_rfl)) (fun _ _ _ h => h) (Or.inr ⟨by rfl, rfl⟩) ?_ ?_
                rotate_left
                · simp only [Act.put, List.setIfInBounds_toArray, List.set_cons_zero, List.set_cons_succ, i64_w, i32_w]
                  rfl
                refine pure_ (i := 13) (N := some 25) (v := undef) (a' := ?_) #[true, true, true, true, true, true, true, true, true, true, true, true, true, true, false, false, false, false] rfl rfl (any_of HT_.out (by kernel_rfl)) (fun _ _ _ h => h) (Or.inr ⟨by rfl, rfl⟩) ?_ ?_
                rotate_left
                · simp only [Act.put, List.setIfInBounds_toArray, List.set_cons_zero, List.set_cons_succ, i64_w, i32_w]
                  rfl
                refine pure_ (i := 14) (N := some 26) (v := undef) (a' := ?_) #[true, true, true, true, true, true, true, true, true, true, true, true, true, true, true, false, false, false] rfl rfl (any_of HT_.out (by kernel_rfl)) (fun _ _ _ h => h) (Or.inr ⟨by rfl, rfl⟩) ?_ ?_
                rotate_left
                · simp only [Act.put, List.setIfInBounds_toArray, List.set_cons_zero, List.set_cons_succ, i64_w, i32_w]
                  rfl
                refine pure_ (i := 15) (N := some 27) (v := undef) (a' := ?_) #[true, true, true, true, true, true, true, true, true, true, true, true, true, true, true, true, false, false] rfl rfl (any_of HT_.out (by kernel_rfl)) (fun _ _ _ h => h) (Or.inr ⟨by rfl, rfl⟩) ?_ ?_
                rotate_left
                · simp only [Act.put, List.setIfInBounds_toArray, List.set_cons_zero, List.set_cons_succ, i64_w, i32_w]
                  rfl
                refine pure_ (i := 16) (N := some 28) (v := ?_) (a' := ?_) #[true, true, true, true, true, true, true, true, true, true, true, true, true, true, true, true, true, false] rfl rfl (any_of HT_.out (by kernel_rfl)) (fun _ _ _ h => h) (Or.inl ⟨by rfl, ?_⟩) ?_ ?_
                rotate_left
                · intro w'
                  go_simp
                  with_reducible rfl
                rotate_left
                · simp only [Act.put, List.setIfInBounds_toArray, List.set_cons_zero, List.set_cons_succ, i64_w, i32_w]
                  rfl
                refine pure_ (i := 17) (N := some 29) (v := ?_) (a' := ?_) #[true, true, true, true, true, true, true, true, true, true, true, true, true, true, true, true, true, true] rfl rfl (any_of HT_.out (by kernel_rfl)) (fun _ _ _ h => h) (Or.inl ⟨by rfl, ?_⟩) ?_ ?_
                rotate_left
                · intro w'
                  go_simp
                  with_reducible rfl
                rotate_left
                · simp only [Act.put, List.setIfInBounds_toArray, List.set_cons_zero, List.set_cons_succ, i64_w, i32_w]
                  rfl
                refine done_ (done_of HT_.out (by kernel_rfl)) ?_
                try go_wp2
                go_roundg k1
                case measure => have := HK1.out; omega
                case rel => exact ⟨(wrap64 (x7_1 + 1)), (by first | rfl | (simp; done) | (simp [*]; done)), H', ⟨by have := HK1.out; omega⟩, ⟨by repeat (first | (with_reducible first | exact HB.out | apply below_alloc | apply pw_below_drewN | apply below_drew1 | refine below_set ?_ GE169.out) | exact HB.out)⟩⟩
            · replace c6 := Bool.eq_false_iff.mpr c6
              subst c6
              have H1 : (some 4) = some r := by rw [if_neg (show ¬ (false = true) by decide)] at H; exact H
              clear H
              have H := H1
              clear H1
              obtain rfl := Option.some.inj H
              have p168 : 0 ≤ (x7_1 : Int) := of_decide_eq_true (by first | (with_reducible assumption) | assumption)
              have q168 : x7_1 < (l0.length : Int) := of_decide_eq_true (by first | (with_reducible assumption) | assumption)
              obtain ⟨ad168, e168, hx168_0, hx168_1, hx168_2⟩ := at_T80 HR0.out x7_1 p168 q168
              cases e168
              replace hx168_0 := (HB.out.cell (World.block_lt_of_cell? w _ hx168_0)).trans hx168_0
              replace hx168_1 := (HB.out.cell (World.block_lt_of_cell? w _ hx168_1)).trans hx168_1
              replace hx168_2 := (HB.out.cell (World.block_lt_of_cell? w _ hx168_2)).trans hx168_2
              replace p168 := eq_true p168
              replace q168 := eq_true q168
              try go_wp2_with (first | ((with_reducible refine gate_dst (N := 4) rfl ?_); refine box_event ?hg (N := 4) ?hd (cs := #[.int .i64 0, .string (⟨#[]⟩ : ByteArray), .bool false]) (t := 80) ?hr ?_; (case hd => rfl); (case hg => rfl); (case hr => first | (go_simp; done) | (go_simp; rfl)); intro gb169 hg w27 hbox hb; have n0_ := Aside0.mk (below_step (by repeat (first | (with_reducible first | exact HB.out | apply below_alloc | apply pw_below_drewN | apply below_drew1) | exact HB.out)) hb); have n1_ := Aside0.mk (hbox); have n2_ := Aside0.mk ((by rw [hg]; exact (below_size (by repeat (first | (with_reducible first | exact HB.out | apply below_alloc | apply pw_below_drewN | apply below_drew1) | exact HB.out))) : w.heap.size ≤ gb169)); have n3_ := Aside0.mk ((by rw [hg]; exact (below_size (by repeat (first | (with_reducible first | exact HB.out | apply below_alloc | apply pw_below_drewN | apply below_drew1) | exact HB.out))) : w.heap.size ≤ gb169)); clear HB; have HB := n0_; have BK169 := n1_; have GW169 := n2_; have GE169 := n3_; clear n0_ n1_ n2_ n3_; clear hb hbox hg; have hcz28_0 : w27.cell? ⟨gb169, 0, none⟩ = some (.int .i64 0) := (blk_cell BK169.out 0).trans rfl; have hcz28_1 : w27.cell? ⟨gb169, 1, none⟩ = some (.string (⟨#[]⟩ : ByteArray)) := (blk_cell BK169.out 1).trans rfl; have hcz28_2 : w27.cell? ⟨gb169, 2, none⟩ = some (.bool false) := (blk_cell BK169.out 2).trans rfl; have hfz28_0 := blk_frozen BK169.out 0; have hfz28_1 := blk_frozen BK169.out 1; have hfz28_2 := blk_frozen BK169.out 2))
              have n0_ : Aside0 ((((w27.setCell ⟨gb169, 0, none⟩ (.int .i64 ((rd_T80 l0 x7_1).f0))).setCell ⟨gb169, 1, none⟩ (.string ((rd_T80 l0 x7_1).f1))).setCell ⟨gb169, 2, none⟩ (.bool ((rd_T80 l0 x7_1).f2))).heap[gb169]? = some (.cells #[.int .i64 ((rd_T80 l0 x7_1).f0), .string ((rd_T80 l0 x7_1).f1), .bool ((rd_T80 l0 x7_1).f2)] 80 (0, 0))) := ⟨by (with_reducible repeat (first | refine blk_drewN ?_ _ | refine blk_drew ?_ | refine blk_alloc ?_ _)); refine blk_put (cs := #[.int .i64 ((rd_T80 l0 x7_1).f0), .string ((rd_T80 l0 x7_1).f1), .bool false]) ?_ 2 _ rfl; (with_reducible repeat (first | refine blk_drewN ?_ _ | refine blk_drew ?_ | refine blk_alloc ?_ _)); refine blk_put (cs := #[.int .i64 ((rd_T80 l0 x7_1).f0), .string (⟨#[]⟩ : ByteArray), .bool false]) ?_ 1 _ rfl; (with_reducible repeat (first | refine blk_drewN ?_ _ | refine blk_drew ?_ | refine blk_alloc ?_ _)); refine blk_put (cs := #[.int .i64 0, .string (⟨#[]⟩ : ByteArray), .bool false]) ?_ 0 _ rfl; (with_reducible repeat (first | refine blk_drewN ?_ _ | refine blk_drew ?_ | refine blk_alloc ?_ _)); exact BK169.out⟩
              have n1_ : Aside0 (Below w.heap.size w (((w27.setCell ⟨gb169, 0, none⟩ (.int .i64 ((rd_T80 l0 x7_1).f0))).setCell ⟨gb169, 1, none⟩ (.string ((rd_T80 l0 x7_1).f1))).setCell ⟨gb169, 2, none⟩ (.bool ((rd_T80 l0 x7_1).f2)))) := ⟨by repeat (first | (with_reducible first | exact HB.out | apply below_alloc | apply pw_below_drewN | apply below_drew1 | refine below_set ?_ GE169.out) | exact HB.out)⟩
              (try clear BK169)
              (try clear HB)
              generalize (((w27.setCell ⟨gb169, 0, none⟩ (.int .i64 ((rd_T80 l0 x7_1).f0))).setCell ⟨gb169, 1, none⟩ (.string ((rd_T80 l0 x7_1).f1))).setCell ⟨gb169, 2, none⟩ (.bool ((rd_T80 l0 x7_1).f2))) = w29 at n0_ n1_ ⊢
              have BK169 := n0_
              have HB := n1_
              clear n0_ n1_
              have n0_ := Aside0.mk (blk_drew BK169.out)
              have n1_ := Aside0.mk (below_drew1 HB.out)
              clear BK169
              clear HB
              have BK169 := n0_
              have HB := n1_
              clear n0_ n1_
              refine start_ (n := 18) (S := fun w' => w'.cell? ⟨gb169, 0, none⟩ = some (.int .i64 ((rd_T80 l0 x7_1).f0)) ∧ w'.cell? ⟨gb169, 1, none⟩ = some (.string ((rd_T80 l0 x7_1).f1)) ∧ w'.cell? ⟨gb169, 2, none⟩ = some (.bool ((rd_T80 l0 x7_1).f2))) (ds := []) #[false, false, false, false, false, false, false, false, false, false, false, false, false, false, false, false, false, false] (by kernel_rfl) rfl rfl ⟨(blk_cell BK169.out 0).trans rfl, (blk_cell BK169.out 1).trans rfl, (blk_cell BK169.out 2).trans rfl⟩ (fun hHeld => ?_); refine with_tabW chain_Check.tab4 chain_Check.bits4 (fun HT_ HW_ => ?_)
              generalize w29.drew = w30 at BK169 HB hHeld ⊢
              refine take_ (i := 0) (N := some 12) (v := ?_) (a' := ?_) #[true, false, false, false, false, false, false, false, false, false, false, false, false, false, false, false, false, false] rfl rfl (take_ofW HT_.out HW_.out (by kernel_rfl)) (fun _ _ _ h => h) (Or.inl ⟨by rfl, ?_⟩) hHeld ?_ ?_
              rotate_left
              · rintro w' ⟨s0, s1, s2⟩
                go_simp
                with_reducible rfl
              rotate_left
              · simp only [Act.put, List.setIfInBounds_toArray, List.set_cons_zero, List.set_cons_succ, i64_w, i32_w]
                rfl
              refine one_ (i := 1) (N := some 13) #[true, true, false, false, false, false, false, false, false, false, false, false, false, false, false, false, false, false] rfl rfl (one_of HT_.out (by kernel_rfl)) (by decide) (fun K hK => ?_)
              refine goes_ Try.func81 (by kernel_rfl) rfl #[.agg #[.int .i64 ((rd_T80 l0 x7_1).f0), .string ((rd_T80 l0 x7_1).f1), .bool ((rd_T80 l0 x7_1).f2)]] (by rfl) rfl rfl (by (try simp only [List.map_toArray, List.map_cons, List.map_nil]); first | done | rfl | (simp only [List.length_drop, List.length_take]; rfl)) ?_
              with_reducible refine (chain_right.calls ((rd_T80 l0 x7_1).f0) ((rd_T80 l0 x7_1).f1) ((rd_T80 l0 x7_1).f2) false _ A5.out).mono ?_
              rintro e w31 ⟨rfl, hb⟩
              refine ⟨_, rfl, ?_⟩
              have n0_ := Aside0.mk (blk_below (g := gb169) (o := .cells #[.int .i64 ((rd_T80 l0 x7_1).f0), .string ((rd_T80 l0 x7_1).f1), .bool ((rd_T80 l0 x7_1).f2)] 80 (0, 0)) (by (with_reducible repeat (first | refine blk_drewN ?_ _ | refine blk_drew ?_ | refine blk_alloc ?_ _)); exact BK169.out) hb)
              have n1_ := Aside0.mk (below_step (by repeat (first | (with_reducible first | exact HB.out | apply below_alloc | apply pw_below_drewN | apply below_drew1 | refine below_set ?_ GE169.out) | exact HB.out)) hb)
              clear BK169
              clear HB
              have BK169 := n0_
              have HB := n1_
              clear n0_ n1_
              (try clear hb)
              (try clear hb2)
              (try clear hk)
              (try clear hi)
              refine hK.out _ _ ⟨(blk_cell BK169.out 0).trans rfl, (blk_cell BK169.out 1).trans rfl, (blk_cell BK169.out 2).trans rfl⟩ (fun hHeld => ?_)
              clear hK K
              refine norm_ (a' := ?_) ?_ ?_
              rotate_left
              · show Act.put _ (some 13) _ = _
                simp only [Act.put, List.setIfInBounds_toArray, List.set_cons_zero, List.set_cons_succ, i64_w, i32_w]
                rfl
              refine pure_ (i := 2) (N := some 14) (v := ?_) (a' := ?_) #[true, true, true, false, false, false, false, false, false, false, false, false, false, false, false, false, false, false] rfl rfl (any_of HT_.out (by kernel_rfl)) (fun _ _ _ h => h) (Or.inl ⟨by rfl, ?_⟩) ?_ ?_
              rotate_left
              · intro w'
                go_simp
                with_reducible rfl
              rotate_left
              · simp only [Act.put, List.setIfInBounds_toArray, List.set_cons_zero, List.set_cons_succ, i64_w, i32_w]
                rfl
              refine pure_ (i := 3) (N := some 15) (v := ?_) (a' := ?_) #[true, true, true, true, false, false, false, false, false, false, false, false, false, false, false, false, false, false] rfl rfl (any_of HT_.out (by kernel_rfl)) (fun _ _ _ h => h) (Or.inl ⟨by rfl, ?_⟩) ?_ ?_
              rotate_left
              · intro w'
                go_simp
                with_reducible rfl
              rotate_left
              · simp only [Act.put, List.setIfInBounds_toArray, List.set_cons_zero, List.set_cons_succ, i64_w, i32_w]
                rfl
              refine pure_ (i := 4) (N := some 16) (v := undef) (a' := ?_) #[true, true, true, true, true, false, false, false, false, false, false, false, false, false, false, false, false, false] rfl rfl (any_of HT_.out (by kernel_rfl)) (fun _ _ _ h => h) (Or.inr ⟨by rfl, rfl⟩) ?_ ?_
              rotate_left
              · simp only [Act.put, List.setIfInBounds_toArray, List.set_cons_zero, List.set_cons_succ, i64_w, i32_w]
                rfl
              refine pure_ (i := 5) (N := some 17) (v := undef) (a' := ?_) #[true, true, true, true, true, true, false, false, false, false, false, false, false, false, false, false, false, false] rfl rfl (any_of HT_.out (by kernel_rfl)) (fun _ _ _ h => h) (Or.inr ⟨by rfl, rfl⟩) ?_ ?_
              rotate_left
              · simp only [Act.put, List.setIfInBounds_toArray, List.set_cons_zero, List.set_cons_succ, i64_w, i32_w]
                rfl
              refine pure_ (i := 6) (N := some 18) (v := undef) (a' := ?_) #[true, true, true, true, true, true, true, false, false, false, false, false, false, false, false, false, false, false] rfl rfl (any_of HT_.out (by kernel_rfl)) (fun _ _ _ h => h) (Or.inr ⟨by rfl, rfl⟩) ?_ ?_
              rotate_left
              · simp only [Act.put, List.setIfInBounds_toArray, List.set_cons_zero, List.set_cons_succ, i64_w, i32_w]
                rfl
              refine pure_ (i := 7) (N := some 19) (v := undef) (a' := ?_) #[true, true, true, true, true, true, true, true, false, false, false, false, false, false, false, false, false, false] rfl rfl (any_of HT_.out (by kernel_rfl)) (fun _ _ _ h => h) (Or.inr ⟨by rfl, rfl⟩) ?_ ?_
              rotate_left
              · simp only [Act.put, List.setIfInBounds_toArray, List.set_cons_zero, List.set_cons_succ, i64_w, i32_w]
                rfl
              refine pure_ (i := 8) (N := some 20) (v := undef) (a' := ?_) #[true, true, true, true, true, true, true, true, true, false, false, false, false, false, false, false, false, false] rfl rfl (any_of HT_.out (by kernel_rfl)) (fun _ _ _ h => h) (Or.inr ⟨by rfl, rfl⟩) ?_ ?_
              rotate_left
              · simp only [Act.put, List.setIfInBounds_toArray, List.set_cons_zero, List.set_cons_succ, i64_w, i32_w]
                rfl
              refine pure_ (i := 9) (N := some 21) (v := undef) (a' := ?_) #[true, true, true, true, true, true, true, true, true, true, false, false, false, false, false, false, false, false] rfl rfl (any_of HT_.out (by kernel_rfl)) (fun _ _ _ h => h) (Or.inr ⟨by rfl, rfl⟩) ?_ ?_
              rotate_left
              · simp only [Act.put, List.setIfInBounds_toArray, List.set_cons_zero, List.set_cons_succ, i64_w, i32_w]
                rfl
              refine pure_ (i := 10) (N := some 22) (v := undef) (a' := ?_) #[true, true, true, true, true, true, true, true, true, true, true, false, false, false, false, false, false, false] rfl rfl (any_of HT_.out (by kernel_rfl)) (fun _ _ _ h => h) (Or.inr ⟨by rfl, rfl⟩) ?_ ?_
              rotate_left
              · simp only [Act.put, List.setIfInBounds_toArray, List.set_cons_zero, List.set_cons_succ, i64_w, i32_w]
                rfl
              refine pure_ (i := 11) (N := some 23) (v := undef) (a' := ?_) #[true, true, true, true, true, true, true, true, true, true, true, true, false, false, false, false, false, false] rfl rfl (any_of HT_.out (by kernel_rfl)) (fun _ _ _ h => h) (Or.inr ⟨by rfl, rfl⟩) ?_ ?_
              rotate_left
              · simp only [Act.put, List.setIfInBounds_toArray, List.set_cons_zero, List.set_cons_succ, i64_w, i32_w]
                rfl
              refine pure_ (i := 12) (N := some 24) (v := undef) (a' := ?_) #[true, true, true, true, true, true, true, true, true, true, true, true, true, false, false, false, false, false] rfl rfl (any_of HT_.out (by kernel_rfl)) (fun _ _ _ h => h) (Or.inr ⟨by rfl, rfl⟩) ?_ ?_
              rotate_left
              · simp only [Act.put, List.setIfInBounds_toArray, List.set_cons_zero, List.set_cons_succ, i64_w, i32_w]
                rfl
              refine pure_ (i := 13) (N := some 25) (v := undef) (a' := ?_) #[true, true, true, true, true, true, true, true, true, true, true, true, true, true, false, false, false, false] rfl rfl (any_of HT_.out (by kernel_rfl)) (fun _ _ _ h => h) (Or.inr ⟨by rfl, rfl⟩) ?_ ?_
              rotate_left
              · simp only [Act.put, List.setIfInBounds_toArray, List.set_cons_zero, List.set_cons_succ, i64_w, i32_w]
                rfl
              refine pure_ (i := 14) (N := some 26) (v := undef) (a' := ?_) #[true, true, true, true, true, true, true, true, true, true, true, true, true, true, true, false, false, false] rfl rfl (any_of HT_.out (by kernel_rfl)) (fun _ _ _ h => h) (Or.inr ⟨by rfl, rfl⟩) ?_ ?_
              rotate_left
              · simp only [Act.put, List.setIfInBounds_toArray, List.set_cons_zero, List.set_cons_succ, i64_w, i32_w]
                rfl
              refine pure_ (i := 15) (N := some 27) (v := undef) (a' := ?_) #[true, true, true, true, true, true, true, true, true, true, true, true, true, true, true, true, false, false] rfl rfl (any_of HT_.out (by kernel_rfl)) (fun _ _ _ h => h) (Or.inr ⟨by rfl, rfl⟩) ?_ ?_
              rotate_left
              · simp only [Act.put, List.setIfInBounds_toArray, List.set_cons_zero, List.set_cons_succ, i64_w, i32_w]
                rfl
              refine pure_ (i := 16) (N := some 28) (v := undef) (a' := ?_) #[true, true, true, true, true, true, true, true, true, true, true, true, true, true, true, true, true, false] rfl rfl (any_of HT_.out (by kernel_rfl)) (fun _ _ _ h => h) (Or.inr ⟨by rfl, rfl⟩) ?_ ?_
              rotate_left
              · simp only [Act.put, List.setIfInBounds_toArray, List.set_cons_zero, List.set_cons_succ, i64_w, i32_w]
                rfl
              refine pure_ (i := 17) (N := some 29) (v := ?_) (a' := ?_) #[true, true, true, true, true, true, true, true, true, true, true, true, true, true, true, true, true, true] rfl rfl (any_of HT_.out (by kernel_rfl)) (fun _ _ _ h => h) (Or.inl ⟨by rfl, ?_⟩) ?_ ?_
              rotate_left
              · intro w'
                go_simp
                with_reducible rfl
              rotate_left
              · simp only [Act.put, List.setIfInBounds_toArray, List.set_cons_zero, List.set_cons_succ, i64_w, i32_w]
                rfl
              refine done_ (done_of HT_.out (by kernel_rfl)) ?_
              try go_wp2
              go_ret
              exact ⟨by first | rfl | (simp [errW_none, errW_some] <;> rfl) | (simp [*, errW_none, errW_some] <;> rfl), by repeat (first | (with_reducible first | exact HB.out | apply below_alloc | apply pw_below_drewN | apply below_drew1 | refine below_set ?_ GE169.out) | exact HB.out)⟩
          · rw [if_neg c4] at H
            exact absurd H (by simp)
        · rw [if_neg c3] at H
          exact absurd H (by simp)
      · rw [if_neg c2] at H
        have c2b0 : decide (x7_1 < (l0.length : Int)) = false := decide_eq_false c2
        clear c2
        obtain rfl := Option.some.inj H
        go_wp2
        go_ret
        exact ⟨by first | rfl | (simp [errW_none, errW_some] <;> rfl) | (simp [*, errW_none, errW_some] <;> rfl), by repeat (first | (with_reducible first | exact HB.out | apply below_alloc | apply pw_below_drewN | apply below_drew1) | exact HB.out)⟩
end Go.Proofs.Ytehcmedeeaoebaa.PB
end
section
namespace Go.Proofs.Ytehcmedeeaoebaa.PB
open Go.RowKit Go.Proofs.YtehcmedeeaoebaaW.PrintWords Go.Proofs.YtehcmedeeaoebaaW.PrintLast Go.Proofs.YtehcmedeeaoebaaW.PrintMore
set_option linter.unusedVariables false
set_option linter.unusedSimpArgs false
theorem rdT80_get (l : List S80) (i : Nat) (h : i < l.length) : rd_T80 l (i : Int) = l[i] := by
  simp [rd_T80, List.getD_eq_getElem?_getD, h]
set_option maxHeartbeats 2000000 in
set_option maxRecDepth 100000 in
theorem IndexFunc80.calls (A : Option Addr) (c : Nat) (l : List S80) (g : Nat) (lb : Array Value) (p : S80 → Bool) (w : World) (eg : ∀ args w, (callFunc g args).run Try.prog w = .ok (.enter g args) w)
    (hr : Kd.C k80 w A l.length l) (hc : l.length ≤ c)
    (hp : ∀ (W : World) (x : S80), Below w.heap.size w W → Calls Try.prog g (#[.agg #[.int .i64 x.f0, .string x.f1, .bool x.f2]] ++ lb) W fun e w' => e = .returned (.bool (p x)) ∧ Below W.heap.size W w') :
    Calls Try.prog 82 #[.slice A l.length c, .func (.func g) #[] lb] w fun e w' => e = .returned (.int .i64 (idxOf p l)) ∧ Below w.heap.size w w' := by
  have hu80 := Try.underlying80
  have hl := hr.2.1
  have HR := Aside0.mk hr
  have HP := Aside0.mk hp
  clear hr hp
  go_enter Try.func82, Try.ntmps82
  go_wp2
  go_loopg [5, 8] l.length (fun gg _ s8 wr => ∃ kk : Nat, kk ≤ l.length ∧ l.length - kk ≤ gg ∧ s8 = .int .i64 kk ∧ Aside0 (Below w.heap.size w wr) ∧ Aside0 (∀ j, (h : j < kk) → (h' : j < l.length) → p l[j] = false))
  case atStart => exact ⟨0, Nat.zero_le _, by omega, rfl, ⟨Below.refl _ w⟩, ⟨fun j hj => absurd hj (Nat.not_lt_zero _)⟩⟩
  case round =>
    obtain ⟨kk, hkk, hg, rfl, BW, HA⟩ := hrel
    by_cases hlt : kk < l.length
    · have hltz : (kk : Int) < (l.length : Int) := by omega
      obtain ⟨ad, e, h0, h1, h2⟩ := at_T80 HR.out (kk : Int) (by omega) hltz
      cases e
      rw [rdT80_get l kk hlt] at h0 h1 h2
      simp only [Int.toNat_natCast] at h0 h1 h2
      have hcall := HP.out wr l[kk] BW.out
      obtain ⟨y, hy⟩ : ∃ y, y = l[kk] := ⟨_, rfl⟩
      rw [← hy] at h0 h1 h2 hcall
      have HY := Aside0.mk hy
      clear hy
      replace h0 := (BW.out.cell (World.block_lt_of_cell? w _ h0)).trans h0
      replace h1 := (BW.out.cell (World.block_lt_of_cell? w _ h1)).trans h1
      replace h2 := (BW.out.cell (World.block_lt_of_cell? w _ h2)).trans h2
      cases hq : p y with
      | true =>
        rw [hq] at hcall
        go_wp2_with (go_at_fn g; refine hcall.mono ?_; rintro e w' ⟨rfl, hb'⟩)
        go_ret
        refine ⟨?_, below_then BW.out BW.out.size hb'⟩
        rw [idxOf_hit p l kk hlt (by rw [← HY.out]; exact hq) (fun j hj => HA.out j hj (by omega))]
        rfl
      | false =>
        rw [hq] at hcall
        go_wp2_with (go_at_fn g; refine hcall.mono ?_; rintro e w' ⟨rfl, hb'⟩)
        go_roundg (l.length - (kk + 1))
        case measure => omega
        case rel =>
          refine ⟨kk + 1, by omega, by omega, by go_num, ⟨below_then BW.out BW.out.size hb'⟩, ⟨fun j hj h' => ?_⟩⟩
          by_cases e : j = kk
          · subst e
            rw [← HY.out]; exact hq
          · exact HA.out j (by omega) h'
    · have hltz : ¬ (kk : Int) < (l.length : Int) := by omega
      go_wp2
      go_ret
      refine ⟨?_, BW.out⟩
      rw [idxOf_miss p l (fun j hj => HA.out j (by omega) hj)]
      rfl
theorem ContainsFunc80.calls (A : Option Addr) (c : Nat) (l : List S80) (g : Nat) (lb : Array Value) (p : S80 → Bool) (w : World) (eg : ∀ args w, (callFunc g args).run Try.prog w = .ok (.enter g args) w)
    (hr : Kd.C k80 w A l.length l) (hc : l.length ≤ c)
    (hp : ∀ (W : World) (x : S80), Below w.heap.size w W → Calls Try.prog g (#[.agg #[.int .i64 x.f0, .string x.f1, .bool x.f2]] ++ lb) W fun e w' => e = .returned (.bool (p x)) ∧ Below W.heap.size W w') :
    Calls Try.prog 72 #[.slice A l.length c, .func (.func g) #[] lb] w fun e w' => e = .returned (.bool (l.any p)) ∧ Below w.heap.size w w' := by
  have H := IndexFunc80.calls A c l g lb p w eg hr hc hp
  have hge := idxOf_ge p l
  obtain ⟨r, hrr⟩ : ∃ r, idxOf p l = r := ⟨_, rfl⟩
  rw [hrr] at H hge
  clear hp hr
  obtain ⟨b, hbb⟩ : ∃ b, l.any p = b := ⟨_, rfl⟩
  rw [hbb] at hge ⊢
  clear hrr hbb
  go_enter Try.func72, Try.ntmps72
  go_wp2_with (go_at_call 82; refine H.mono ?_; rintro e w' ⟨rfl, hb⟩)
  go_ret
  exact ⟨rfl, hb⟩
end Go.Proofs.Ytehcmedeeaoebaa.PB
end
