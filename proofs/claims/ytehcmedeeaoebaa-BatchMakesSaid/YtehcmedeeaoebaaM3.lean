import Derived.Test.YtehcmedeeaoebaaM1
import Derived.Test.YtehcmedeeaoebaaM2
import Derived.WalkSpells
import Derived.WalkLawsBesides
import Derived.Shelf.SlSortCmp.WholeK
import Derived.Shelf.Sort.Plain
import Derived.Test.YtehcmedeeaoebaaProg
import Derived.Shelf.SlSortCmp.NoneTotal
import Derived.BigQuiet
import Derived.StillTailTactics
import Derived.WalkMore
section
namespace Go.Proofs.Ytehcmedeeaoebaa.PB
open Go.RowKit Go.Proofs.YtehcmedeeaoebaaW.PrintWords Go.Proofs.YtehcmedeeaoebaaW.PrintLast Go.Proofs.YtehcmedeeaoebaaW.PrintMore
set_option linter.unusedVariables false
abbrev RdV := Int × List S52 × Int × Int
def badP : RdV := (0, [], 0, 4)
def readEndP (s : ByteArray) (t at_ : Int) (acc : List S52) : RdV := if at_ = s.size then if checkP t acc = 0 then (t, acc, 0, 0) else badP else badP
def readLoopP (s : ByteArray) (t : Int) : Nat → Int → List S52 → RdV
  | 0, at_, acc => readEndP s t at_ acc
  | n + 1, at_, acc => if at_ < s.size then if 1 < bt s at_ then badP else
      match textP s (at_ + 1) with
      | none => badP
      | some (key, at1) => match textP s at1 with
        | none => badP
        | some (val, at2) => readLoopP s t n at2 (acc ++ [⟨key, val, bt s at_ == 1⟩])
    else badP
def refEndP (s : ByteArray) (t at_ : Int) (acc : List S52) : RdV := if at_ < 0 then badP else if checkP t acc = 0 then if putP t acc = s then (t, acc, 0, 0) else badP else badP
def refLoopP (s : ByteArray) (t : Int) : Nat → Int → List S52 → RdV
  | 0, at_, acc => refEndP s t at_ acc
  | n + 1, at_, acc => if 0 ≤ at_ ∧ at_ < s.size then refLoopP s t n (pieceP s (pieceP s (at_ + 1)).2).2 (acc ++ [⟨(pieceP s (at_ + 1)).1, (pieceP s (pieceP s (at_ + 1)).2).1, bt s at_ == 1⟩]) else refEndP s t at_ acc
theorem readEnd_ev (s : ByteArray) (t at_ : Int) (acc : List S52) : Ev (fun k => readEnd k s t at_ acc) (readEndP s t at_ acc) := by
  unfold readEnd readEndP
  by_cases c : at_ = s.size
  · simp only [if_pos c]
    refine Ev.bind (Check_ev t acc) ?_
    by_cases c2 : checkP t acc = 0
    · simp only [if_pos c2]; exact Ev.const _
    · simp only [if_neg c2]; exact Ev.const _
  · simp only [if_neg c]; exact Ev.const _
theorem readLoop_ev (s : ByteArray) (t : Int) : ∀ n at_ acc, Ev (fun k => readLoop k s t n at_ acc) (readLoopP s t n at_ acc) := by
  intro n
  induction n with
  | zero => intro at_ acc; exact readEnd_ev s t at_ acc
  | succ n ih =>
    intro at_ acc
    simp only [readLoop, readLoopP]
    by_cases c1 : at_ < s.size
    · simp only [if_pos c1]
      by_cases c2 : 1 < bt s at_
      · simp only [if_pos c2]; exact Ev.const _
      · simp only [if_neg c2]
        rcases textP s (at_ + 1) with _ | ⟨key, at1⟩
        · exact Ev.const _
        simp only
        rcases textP s at1 with _ | ⟨val, at2⟩
        · exact Ev.const _
        exact ih _ _
    · simp only [if_neg c1]; exact Ev.const _
theorem toList_iff (a b : ByteArray) : a.toList = b.toList ↔ a = b := by
  rw [Lib.toList_data, Lib.toList_data]
  exact ⟨fun h => ByteArray.ext (Array.toList_inj.1 h), fun h => by rw [h]⟩
theorem checkP_right {t : Int} {l : List S52} (h : checkP t l = 0) : rightP t l := by
  unfold checkP at h
  by_cases c : rightP t l
  · exact c
  · rw [if_neg c] at h; cases h
theorem checkP_size {t : Int} {l : List S52} (h : checkP t l = 0) : sizeP l ≤ 16384 := by
  have hr := checkP_right h
  unfold checkP at h
  rw [if_pos hr] at h
  by_cases c : 16384 < sizeP l
  · rw [if_pos c] at h; cases h
  · omega
theorem refEnd_ev (s : ByteArray) (t at_ : Int) (acc : List S52) : Ev (fun k => refEnd k s t at_ acc) (refEndP s t at_ acc) := by
  unfold refEnd refEndP
  by_cases c : at_ < 0
  · simp only [if_pos c]; exact Ev.const _
  simp only [if_neg c]
  refine Ev.bind (refCheck_ev t acc) ?_
  by_cases c2 : checkP t acc = 0
  · simp only [if_pos c2]
    have hr := checkP_right c2
    refine Ev.bind (put_ev t acc (okAll_fits hr.2.2.1 hr.2.2.2)) ?_
    by_cases c3 : putP t acc = s
    · simp only [if_pos c3, if_pos ((toList_iff _ _).2 c3)]; exact Ev.const _
    · simp only [if_neg c3, if_neg (fun h => c3 ((toList_iff _ _).1 h))]; exact Ev.const _
  · simp only [if_neg c2]; exact Ev.const _
theorem refLoop_ev (s : ByteArray) (t : Int) : ∀ n at_ acc, Ev (fun k => refLoop k s t n at_ acc) (refLoopP s t n at_ acc) := by
  intro n
  induction n with
  | zero => intro at_ acc; exact refEnd_ev s t at_ acc
  | succ n ih =>
    intro at_ acc
    simp only [refLoop, refLoopP]
    by_cases c1 : 0 ≤ at_ ∧ at_ < s.size
    · simp only [if_pos c1]; exact ih _ _
    · simp only [if_neg c1]; exact refEnd_ev s t at_ acc
def frm (s : ByteArray) (p : Nat) : List UInt8 := s.data.toList.drop p
theorem frm_cons {s : ByteArray} {p : Nat} {b : UInt8} {rest : List UInt8} (h : frm s p = b :: rest) : p < s.size ∧ bt s (p : Int) = (b.toNat : Int) ∧ frm s (p + 1) = rest := by
  have hp : p < s.data.toList.length := by
    rcases Nat.lt_or_ge p s.data.toList.length with h1 | h1
    · exact h1
    · unfold frm at h; rw [List.drop_eq_nil_of_le h1] at h; cases h
  have hp' : p < s.size := by simpa using hp
  unfold frm at h ⊢
  rw [List.drop_eq_getElem_cons hp] at h
  injection h with h1 h2
  refine ⟨hp', ?_, h2⟩
  have := bt_at s (p : Int) (by simpa using hp')
  rw [← this, ← h1]
  simp only [Int.toNat_natCast]
  rfl
theorem frm_of_lt {s : ByteArray} {p : Nat} (h : p < s.size) : ∃ b, frm s p = b :: frm s (p + 1) := by
  have hp : p < s.data.toList.length := by simpa using h
  exact ⟨_, List.drop_eq_getElem_cons hp⟩
theorem frm_nil_iff (s : ByteArray) (p : Nat) (h : p ≤ s.size) : frm s p = [] ↔ p = s.size := by
  unfold frm
  rw [List.drop_eq_nil_iff]
  have : s.data.toList.length = s.size := by simp
  omega
theorem ext_list (s : ByteArray) (a n : Nat) (h : a + n ≤ s.size) : (s.extract a (a + n)).data.toList = (frm s a).take n := by
  unfold frm
  rw [ByteArray.data_extract, Array.toList_extract, List.extract_eq_take_drop, show a + n - a = n by omega]
set_option linter.unusedVariables false in
theorem text_of {s : ByteArray} {p : Nat} {x : ByteArray} {rest : List UInt8} (hx : x.size ≤ 255) (h : frm s p = UInt8.ofNat x.size :: (x.data.toList ++ rest)) :
    textP s (p : Int) = some (x, ((p + 1 + x.size : Nat) : Int)) ∧ frm s (p + 1 + x.size) = rest ∧ p + 1 + x.size ≤ s.size := by
  obtain ⟨hp, hb, hr⟩ := frm_cons h
  have hbx : bt s (p : Int) = (x.size : Int) := by rw [hb, UInt8.toNat_ofNat']; omega
  have hlen : x.size + rest.length = s.size - (p + 1) := by
    have := congrArg List.length hr
    simp only [frm, List.length_drop, List.length_append] at this
    have e1 : s.data.toList.length = s.size := by simp
    have e2 : x.data.toList.length = x.size := by simp
    omega
  have hle : p + 1 + x.size ≤ s.size := by omega
  refine ⟨?_, ?_, hle⟩
  · unfold textP
    rw [if_pos (by omega), hbx, if_pos (by omega)]
    have e1 : ((p : Int) + 1).toNat = p + 1 := by omega
    have e2 : ((p : Int) + 1 + (x.size : Int)).toNat = p + 1 + x.size := by omega
    rw [e1, e2]
    have : s.extract (p + 1) (p + 1 + x.size) = x := by
      apply ByteArray.ext
      apply Array.toList_inj.1
      rw [ext_list s _ _ hle, hr, List.take_append_of_le_length (by simp)]
      exact List.take_of_length_le (by simp)
    rw [this]
    simp
  · have : frm s (p + 1 + x.size) = (frm s (p + 1)).drop x.size := by unfold frm; rw [List.drop_drop]
    rw [this, hr, List.drop_append_of_le_length (by simp), List.drop_eq_nil_of_le (by simp)]
    rfl
theorem of_text {s : ByteArray} {p : Nat} {x : ByteArray} {q : Int} (h : textP s (p : Int) = some (x, q)) :
    x.size ≤ 255 ∧ q = ((p + 1 + x.size : Nat) : Int) ∧ p + 1 + x.size ≤ s.size ∧ frm s p = UInt8.ofNat x.size :: (x.data.toList ++ frm s (p + 1 + x.size)) := by
  unfold textP at h
  by_cases c1 : (p : Int) < s.size
  · rw [if_pos c1] at h
    by_cases c2 : (p : Int) + 1 + bt s p ≤ s.size
    · rw [if_pos c2] at h
      have hb := bt_range s (p : Int)
      obtain ⟨n, hn⟩ : ∃ n : Nat, bt s (p : Int) = (n : Int) := ⟨(bt s (p : Int)).toNat, by omega⟩
      rw [hn] at h c2 hb
      have e1 : ((p : Int) + 1).toNat = p + 1 := by omega
      have e2 : ((p : Int) + 1 + (n : Int)).toNat = p + 1 + n := by omega
      rw [e1, e2] at h
      simp only [Option.some.injEq, Prod.mk.injEq] at h
      obtain ⟨rfl, rfl⟩ := h
      have hsz : (s.extract (p + 1) (p + 1 + n)).size = n := by rw [ByteArray.size_extract]; omega
      obtain ⟨b, hfb⟩ := frm_of_lt (s := s) (p := p) (by omega)
      have hbb := (frm_cons hfb).2.1
      have hbn : b = UInt8.ofNat n := by
        apply UInt8.toNat_inj.1
        rw [UInt8.toNat_ofNat']
        omega
      rw [hsz]
      refine ⟨by omega, by omega, by omega, ?_⟩
      rw [hfb, hbn, ext_list s (p + 1) n (by omega)]
      congr 1
      have : frm s (p + 1 + n) = (frm s (p + 1)).drop n := by unfold frm; rw [List.drop_drop]
      rw [this, List.take_append_drop]
    · rw [if_neg c2] at h; cases h
  · rw [if_neg c1] at h; cases h
theorem piece_of_text {s : ByteArray} {p : Nat} {x : ByteArray} {q : Int} (h : textP s (p : Int) = some (x, q)) : pieceP s (p : Int) = (x, q) := by
  unfold textP at h
  unfold pieceP
  by_cases c1 : (p : Int) < s.size
  · rw [if_pos c1] at h
    by_cases c2 : (p : Int) + 1 + bt s p ≤ s.size
    · rw [if_pos c2] at h
      rw [if_neg (by omega), if_neg (by omega), if_neg (by omega)]
      exact Option.some.inj h
    · rw [if_neg c2] at h; cases h
  · rw [if_neg c1] at h; cases h
end Go.Proofs.Ytehcmedeeaoebaa.PB
end
section
namespace Go.Proofs.Ytehcmedeeaoebaa.PB
open Go.RowKit Go.Proofs.YtehcmedeeaoebaaW.PrintWords Go.Proofs.YtehcmedeeaoebaaW.PrintLast Go.Proofs.YtehcmedeeaoebaaW.PrintMore
set_option linter.unusedVariables false
set_option linter.unusedSimpArgs false
def ltS (a b : ByteArray) : Bool := Op.bytesLess a.toList b.toList
def risesP : List S69 → Bool
  | a :: b :: r => ltS a.f0 b.f0 && risesP (b :: r)
  | _ => true
theorem risesP_iff (l : List S69) : risesP l = true ↔ ∀ j, (h : j + 1 < l.length) → ltS (l[j]'(by omega)).f0 l[j + 1].f0 = true := by
  induction l with
  | nil => simp [risesP]
  | cons a r ih =>
    cases r with
    | nil => simp [risesP]
    | cons b r =>
      rw [risesP, Bool.and_eq_true, ih]
      constructor
      · rintro ⟨h0, h1⟩ j h
        cases j with
        | zero => exact h0
        | succ j => exact h1 j (by simpa using h)
      · intro h
        exact ⟨h 0 (by simp), fun j hj => h (j + 1) (by simpa using hj)⟩
theorem rdT69_get (l : List S69) (i : Nat) (h : i < l.length) : rd_T69 l (i : Int) = l[i] := by
  simp [rd_T69, List.getD_eq_getElem?_getD, h]
set_option maxHeartbeats 2000000 in
set_option maxRecDepth 100000 in
theorem rises.calls (A : Option Addr) (c : Nat) (l : List S69) (w : World) (hr : Kd.C k69 w A l.length l) (hc : l.length ≤ c) :
    Calls Try.prog 48 #[.slice A l.length c] w fun e w' => e = .returned (.bool (risesP l)) ∧ Below w.heap.size w w' := by
  have hl := hr.2.1
  have HR := Aside0.mk hr
  clear hr
  go_enter Try.func48, Try.ntmps48
  go_wp2
  go_loopg [6] l.length (fun gg s6 wr => ∃ kk : Nat, kk ≤ l.length ∧ l.length - kk ≤ gg ∧ s6 = .int .i64 kk ∧ Aside0 (Below w.heap.size w wr) ∧ Aside0 (∀ j, (h : j + 1 < l.length) → j + 1 < kk → ltS (l[j]'(by omega)).f0 l[j + 1].f0 = true))
  case atStart => exact ⟨0, Nat.zero_le _, by omega, rfl, ⟨Below.refl _ w⟩, ⟨fun j _ hj => absurd hj (Nat.not_lt_zero _)⟩⟩
  case round =>
    obtain ⟨kk, hkk, hg, rfl, BW, HA⟩ := hrel
    by_cases hlt : kk < l.length
    · have hltz : (kk : Int) < (l.length : Int) := by omega
      cases kk with
      | zero =>
        go_wp2
        go_quiet (fail)
        go_wp2
        go_roundg (l.length - 1)
        case measure => omega
        case rel => exact ⟨1, by omega, by omega, by go_num, ⟨pw_below_drewN BW.out _⟩, ⟨fun j _ hj => absurd hj (by omega)⟩⟩
      | succ m =>
        obtain ⟨ad, e, h0, h1⟩ := at_T69 HR.out (m : Int) (by omega) (by omega)
        cases e
        obtain ⟨ad2, e2, g0, g1⟩ := at_T69 HR.out ((m + 1 : Nat) : Int) (by omega) hltz
        cases e2
        rw [rdT69_get l m (by omega)] at h0 h1
        rw [rdT69_get l (m + 1) hlt] at g0 g1
        simp only [Int.toNat_natCast] at h0 h1 g0 g1
        obtain ⟨q, hq⟩ : ∃ q, ltS (l[m]'(by omega)).f0 l[m + 1].f0 = q := ⟨_, rfl⟩
        have HQ := Aside0.mk hq
        unfold ltS at hq
        obtain ⟨x, hx⟩ : ∃ x, (l[m]'(by omega)).f0 = x := ⟨_, rfl⟩
        obtain ⟨y, hy⟩ : ∃ y, l[m + 1].f0 = y := ⟨_, rfl⟩
        rw [hx] at h0 hq
        rw [hy] at g0 hq
        replace h0 := (BW.out.cell (World.block_lt_of_cell? w _ h0)).trans h0
        replace g0 := (BW.out.cell (World.block_lt_of_cell? w _ g0)).trans g0
        clear hx hy h1 g1
        have p0 : (0 : Int) ≤ (m : Int) := by omega
        have p1 : (m : Int) < (l.length : Int) := by omega
        simp only [Int.natCast_add, Int.cast_ofNat_Int] at hltz ⊢
        cases q with
        | true =>
          go_wp2
          go_quiet (fail)
          go_wp2
          go_roundg (l.length - (m + 2))
          case measure => omega
          case rel =>
            refine ⟨m + 2, by omega, by omega, by go_num, ⟨pw_below_drewN BW.out _⟩, ⟨fun j h hj => ?_⟩⟩
            by_cases e : j = m
            · subst e; exact HQ.out
            · exact HA.out j h (by omega)
        | false =>
          have hno : risesP l = false := by
            rw [← Bool.not_eq_true, risesP_iff]
            intro h
            have := h m hlt
            rw [HQ.out] at this
            cases this
          go_wp2
          go_quiet (fail)
          go_wp2
          go_ret
          exact ⟨by rw [hno]; rfl, pw_below_drewN BW.out _⟩
    · have hltz : ¬ (kk : Int) < (l.length : Int) := by omega
      have hyes : risesP l = true := by
        rw [risesP_iff]
        exact fun j h => HA.out j h (by omega)
      have HY := Aside0.mk hyes
      clear hyes
      go_wp2
      go_ret
      exact ⟨by rw [HY.out]; rfl, BW.out⟩
end Go.Proofs.Ytehcmedeeaoebaa.PB
end
section
namespace Go.Proofs
open Go.Shelf
def Try.sortPair_ren : Go.Shelf.Ren := ⟨fun | 6 => 55 | 15 => 74 | 14 => 73 | 28 => 91 | 29 => 92 | 20 => 83 | 21 => 84 | 22 => 85 | 23 => 86 | 24 => 87 | 25 => 88 | 26 => 89 | 27 => 90 | 46 => 103 | 47 => 104 | 48 => 105 | 49 => 106 | 50 => 107 | 57 => 111 | n => n, fun | 22 => 43 | 24 => 69 | 25 => 95 | 3 => 3 | 39 => 110 | 0 => 0 | 53 => 134 | 55 => 108 | 4 => 4 | 46 => 127 | 45 => 126 | 50 => 131 | 5 => 5 | 9 => 9 | 66 => 140 | 70 => 144 | 76 => 148 | 77 => 149 | n => n, fun | n => n⟩
theorem Try.sortPair : Go.Proofs.SlLaysF0.n6 Try.prog Try.sortPair_ren := {
  mixed := by kernel_rfl
  f6 := ⟨Try.f55.name, by decide, Try.func55.trans (congrArg some (by kernel_rfl))⟩
  f14 := ⟨Try.f73.name, by decide, Try.func73.trans (congrArg some (by kernel_rfl))⟩
  f15 := Try.func74.trans (congrArg some (by kernel_rfl))
  f20 := ⟨Try.f83.name, by decide, Try.func83.trans (congrArg some (by kernel_rfl))⟩
  f21 := ⟨Try.f84.name, by decide, Try.func84.trans (congrArg some (by kernel_rfl))⟩
  f22 := ⟨Try.f85.name, by decide, Try.func85.trans (congrArg some (by kernel_rfl))⟩
  f23 := ⟨Try.f86.name, by decide, Try.func86.trans (congrArg some (by kernel_rfl))⟩
  f24 := ⟨Try.f87.name, by decide, Try.func87.trans (congrArg some (by kernel_rfl))⟩
  f25 := ⟨Try.f88.name, by decide, Try.func88.trans (congrArg some (by kernel_rfl))⟩
  f26 := ⟨Try.f89.name, by decide, Try.func89.trans (congrArg some (by kernel_rfl))⟩
  f27 := ⟨Try.f90.name, by decide, Try.func90.trans (congrArg some (by kernel_rfl))⟩
  f28 := Try.func91.trans (congrArg some (by kernel_rfl))
  f29 := Try.func92.trans (congrArg some (by kernel_rfl))
  f46 := ⟨Try.f103.name, by decide, Try.func103.trans (congrArg some (by kernel_rfl))⟩
  f47 := Try.func104.trans (congrArg some (by kernel_rfl))
  f48 := Try.func105.trans (congrArg some (by kernel_rfl))
  f49 := ⟨Try.f106.name, by decide, Try.func106.trans (congrArg some (by kernel_rfl))⟩
  f50 := ⟨Try.f107.name, by decide, Try.func107.trans (congrArg some (by kernel_rfl))⟩
  f57 := ⟨Try.f111.name, by decide, Try.func111.trans (congrArg some (by kernel_rfl))⟩
  t0 := Try.underlying0
  a0 := Try.isAgg0
  z0 := Try.sizeOf0
  v0 := Try.zeroValue0
  t3 := Try.underlying3
  a3 := Try.isAgg3
  z3 := Try.sizeOf3
  v3 := Try.zeroValue3
  t4 := Try.underlying4
  a4 := Try.isAgg4
  z4 := Try.sizeOf4
  v4 := Try.zeroValue4
  t5 := Try.underlying5
  a5 := Try.isAgg5
  z5 := Try.sizeOf5
  v5 := Try.zeroValue5
  t9 := Try.underlying9
  a9 := Try.isAgg9
  z9 := Try.sizeOf9
  v9 := Try.zeroValue9
  t22 := Try.underlying43
  a22 := Try.isAgg43
  z22 := Try.sizeOf43
  v22 := Try.zeroValue43
  t25 := Try.underlying95
  a25 := Try.isAgg95
  z25 := Try.sizeOf95
  v25 := Try.zeroValue95
  t39 := Try.underlying110
  a39 := Try.isAgg110
  z39 := Try.sizeOf110
  v39 := Try.zeroValue110
  t45 := Try.underlying126
  a45 := Try.isAgg126
  z45 := Try.sizeOf126
  v45 := Try.zeroValue126
  t46 := Try.underlying127
  a46 := Try.isAgg127
  z46 := Try.sizeOf127
  v46 := Try.zeroValue127
  t50 := Try.underlying131
  a50 := Try.isAgg131
  z50 := Try.sizeOf131
  v50 := Try.zeroValue131
  t53 := Try.underlying134
  a53 := Try.isAgg134
  z53 := Try.sizeOf134
  v53 := Try.zeroValue134
  t55 := Try.underlying108
  a55 := Try.isAgg108
  z55 := Try.sizeOf108
  v55 := Try.zeroValue108
  t66 := Try.underlying140
  a66 := Try.isAgg140
  z66 := Try.sizeOf140
  v66 := Try.zeroValue140
  t70 := Try.underlying144
  a70 := Try.isAgg144
  z70 := Try.sizeOf144
  v70 := Try.zeroValue144
  t76 := Try.underlying148
  a76 := Try.isAgg148
  z76 := Try.sizeOf148
  v76 := Try.zeroValue148
  t77 := Try.underlying149
  a77 := Try.isAgg149
  z77 := Try.sizeOf149
  v77 := Try.zeroValue149 }
def Try.sortStr_ren : Go.Shelf.Ren := ⟨fun | 190 => 60 | 125 => 74 | 258 => 77 | 128 => 91 | 129 => 92 | 302 => 94 | 303 => 95 | 304 => 96 | 305 => 97 | 306 => 98 | 307 => 99 | 308 => 100 | 309 => 101 | 310 => 102 | 333 => 108 | 329 => 104 | 330 => 105 | 334 => 109 | 335 => 110 | 336 => 75 | 344 => 112 | n => n, fun | 31 => 97 | 9 => 9 | 3 => 3 | 46 => 110 | 0 => 0 | 51 => 134 | 53 => 108 | 4 => 4 | 183 => 127 | 182 => 126 | 131 => 131 | 5 => 5 | 218 => 140 | 222 => 144 | 228 => 148 | 229 => 149 | n => n, fun | n => n⟩
theorem Try.sortStr : Go.Proofs.Lays.n190 Try.prog Try.sortStr_ren := {
  mixed := by kernel_rfl
  f125 := Try.func74.trans (congrArg some (by kernel_rfl))
  f128 := Try.func91.trans (congrArg some (by kernel_rfl))
  f129 := Try.func92.trans (congrArg some (by kernel_rfl))
  f190 := Try.func60.trans (congrArg some (by kernel_rfl))
  f258 := Try.func77.trans (congrArg some (by kernel_rfl))
  f302 := Try.func94.trans (congrArg some (by kernel_rfl))
  f303 := Try.func95.trans (congrArg some (by kernel_rfl))
  f304 := Try.func96.trans (congrArg some (by kernel_rfl))
  f305 := Try.func97.trans (congrArg some (by kernel_rfl))
  f306 := Try.func98.trans (congrArg some (by kernel_rfl))
  f307 := Try.func99.trans (congrArg some (by kernel_rfl))
  f308 := Try.func100.trans (congrArg some (by kernel_rfl))
  f309 := Try.func101.trans (congrArg some (by kernel_rfl))
  f310 := Try.func102.trans (congrArg some (by kernel_rfl))
  f329 := Try.func104.trans (congrArg some (by kernel_rfl))
  f330 := Try.func105.trans (congrArg some (by kernel_rfl))
  f333 := Try.func108.trans (congrArg some (by kernel_rfl))
  f334 := Try.func109.trans (congrArg some (by kernel_rfl))
  f335 := Try.func110.trans (congrArg some (by kernel_rfl))
  f336 := Try.func75.trans (congrArg some (by kernel_rfl))
  f344 := Try.func112.trans (congrArg some (by kernel_rfl))
  t0 := Try.underlying0
  a0 := Try.isAgg0
  z0 := Try.sizeOf0
  v0 := Try.zeroValue0
  t3 := Try.underlying3
  a3 := Try.isAgg3
  z3 := Try.sizeOf3
  v3 := Try.zeroValue3
  t4 := Try.underlying4
  a4 := Try.isAgg4
  z4 := Try.sizeOf4
  v4 := Try.zeroValue4
  t5 := Try.underlying5
  a5 := Try.isAgg5
  z5 := Try.sizeOf5
  v5 := Try.zeroValue5
  t9 := Try.underlying9
  a9 := Try.isAgg9
  z9 := Try.sizeOf9
  v9 := Try.zeroValue9
  t31 := Try.underlying97
  a31 := Try.isAgg97
  z31 := Try.sizeOf97
  v31 := Try.zeroValue97
  t46 := Try.underlying110
  a46 := Try.isAgg110
  z46 := Try.sizeOf110
  v46 := Try.zeroValue110
  t51 := Try.underlying134
  a51 := Try.isAgg134
  z51 := Try.sizeOf134
  v51 := Try.zeroValue134
  t53 := Try.underlying108
  a53 := Try.isAgg108
  z53 := Try.sizeOf108
  v53 := Try.zeroValue108
  t131 := Try.underlying131
  a131 := Try.isAgg131
  z131 := Try.sizeOf131
  v131 := Try.zeroValue131
  t182 := Try.underlying126
  a182 := Try.isAgg126
  z182 := Try.sizeOf126
  v182 := Try.zeroValue126
  t183 := Try.underlying127
  a183 := Try.isAgg127
  z183 := Try.sizeOf127
  v183 := Try.zeroValue127
  t218 := Try.underlying140
  a218 := Try.isAgg140
  z218 := Try.sizeOf140
  v218 := Try.zeroValue140
  t222 := Try.underlying144
  a222 := Try.isAgg144
  z222 := Try.sizeOf144
  v222 := Try.zeroValue144
  t228 := Try.underlying148
  a228 := Try.isAgg148
  z228 := Try.sizeOf148
  v228 := Try.zeroValue148
  t229 := Try.underlying149
  a229 := Try.isAgg149
  z229 := Try.sizeOf149
  v229 := Try.zeroValue149 }
end Go.Proofs
end
section
namespace Go.Proofs.Ytehcmedeeaoebaa.PB
open Go.RowKit Go.Proofs.YtehcmedeeaoebaaW.PrintWords Go.Proofs.YtehcmedeeaoebaaW.PrintLast Go.Proofs.YtehcmedeeaoebaaW.PrintMore
attribute [local go_sem] max2_int min2_int max_two min_two max_three min_three max_four min_four
set_option linter.unusedVariables false
set_option linter.unusedSimpArgs false
def cmp_isNaN_string.f (a0 : ByteArray) : Option (Bool) := some (a0.toList != a0.toList)
set_option maxHeartbeats 8000000 in
set_option maxRecDepth 100000 in
theorem cmp_isNaN_string.calls (a0 : ByteArray) (r : Bool) (w : World) (h : cmp_isNaN_string.f a0 = some r) :
    Calls Try.prog 75 #[.string a0] w fun e w' => e = .returned (.bool r) ∧ Drawn0 w w' := by
  have H : (some (a0.toList != a0.toList)) = some r := h
  clear h
  obtain rfl := Option.some.inj H
  go_enter Try.func75, Try.ntmps75
  go_wp2
  go_ret
  exact ⟨by first | rfl | (simp; done) | (simp [*]; done), by repeat (first | exact Drawn0.refl _ | apply Drawn0.step)⟩
end Go.Proofs.Ytehcmedeeaoebaa.PB
end
section
namespace Go.Proofs.Ytehcmedeeaoebaa.PB
open Go.RowKit Go.Proofs.YtehcmedeeaoebaaW.PrintWords Go.Proofs.YtehcmedeeaoebaaW.PrintLast Go.Proofs.YtehcmedeeaoebaaW.PrintMore
set_option linter.unusedVariables false
set_option linter.unusedSimpArgs false
instance : Inhabited S69 := ⟨⟨⟨#[]⟩, ⟨#[]⟩⟩⟩
def cmpS (a b : ByteArray) : Int := if ltS a b then -1 else if ltS b a then 1 else 0
theorem ltS_iff (a b : ByteArray) : ltS a b = true ↔ a.data.toList < b.data.toList := by
  unfold ltS; rw [bytesLess_eq, Lib.toList_data, Lib.toList_data]; simp
theorem ltS_false (a b : ByteArray) : ltS a b = false ↔ b.data.toList ≤ a.data.toList := by
  rw [← Bool.not_eq_true, ltS_iff, List.not_lt]
theorem ltS_trans {a b c : ByteArray} (h1 : ltS a b = true) (h2 : ltS b c = true) : ltS a c = true := by
  rw [ltS_iff] at *; exact List.lt_trans h1 h2
theorem ltS_irrefl (a : ByteArray) : ltS a a = false := by rw [ltS_false]; exact List.le_refl _
theorem ltS_asymm {a b : ByteArray} (h : ltS a b = true) : ltS b a = false := by
  rw [ltS_false]; rw [ltS_iff] at h; exact List.le_of_lt h
theorem ltS_ntrans {a b c : ByteArray} (h1 : ltS a b = false) (h2 : ltS b c = false) : ltS a c = false := by
  rw [ltS_false] at *; exact List.le_trans h2 h1
theorem ltS_eq {a b : ByteArray} (h1 : ltS a b = false) (h2 : ltS b a = false) : a = b := by
  rw [ltS_false] at *; exact ByteArray.ext (Array.toList_inj.1 (List.le_antisymm h2 h1))
def cmpP (x y : S69) : Int := cmpS x.f0 y.f0
theorem cmpP_lt (x y : S69) : Go.Proofs.ltOf cmpP x y = ltS x.f0 y.f0 := by
  unfold Go.Proofs.ltOf cmpP cmpS
  cases h1 : ltS x.f0 y.f0
  · cases h2 : ltS y.f0 x.f0 <;> simp
  · simp
theorem swoP : Go.Sort.SWO (Go.Proofs.ltOf cmpP) where
  irrefl x := by rw [cmpP_lt]; exact ltS_irrefl _
  trans x y z h1 h2 := by rw [cmpP_lt] at *; exact ltS_trans h1 h2
  ntrans x y z h1 h2 := by rw [cmpP_lt] at *; exact ltS_ntrans h1 h2
theorem isNaNS.calls (a : ByteArray) (W : World) : Calls Try.prog 75 #[.string a] W fun e w' => e = .returned (.bool false) ∧ w' = W := by
  go_enter Try.func75, Try.ntmps75
  go_wp2
  go_ret
  exact ⟨by simp, rfl⟩
theorem compareS.calls (x y : ByteArray) (W : World) : Calls Try.prog 57 #[.string x, .string y] W fun e w' => e = .returned (.int .i64 (cmpS x y)) ∧ w' = W := by
  have hn := isNaNS.calls
  by_cases h1 : ltS x y = true
  · have e1 : Op.bytesLess x.toList y.toList = true := h1
    go_enter Try.func57, Try.ntmps57
    go_wp2_with (go_at_call 75; refine (hn _ _).mono ?_; rintro e w' ⟨rfl, rfl⟩)
    go_ret
    exact ⟨by simp [cmpS, h1], rfl⟩
  · have h1' : ltS x y = false := by simpa using h1
    have e1 : Op.bytesLess x.toList y.toList = false := h1'
    by_cases h2 : ltS y x = true
    · have hne : (x.toList == y.toList) = false := by
        rw [beq_eq_false_iff_ne]; intro h
        have : Op.bytesLess y.toList x.toList = true := h2
        rw [h] at this e1; rw [this] at e1; cases e1
      go_enter Try.func57, Try.ntmps57
      go_wp2_with (go_at_call 75; refine (hn _ _).mono ?_; rintro e w' ⟨rfl, rfl⟩)
      go_ret
      exact ⟨by simp [cmpS, h1', h2], rfl⟩
    · have h2' : ltS y x = false := by simpa using h2
      have hxy := ltS_eq h1' h2'
      subst hxy
      clear h1 h1' h2 h2'
      go_enter Try.func57, Try.ntmps57
      go_wp2_with (go_at_call 75; refine (hn _ _).mono ?_; rintro e w' ⟨rfl, rfl⟩)
      go_ret
      exact ⟨by simp [cmpS, ltS_irrefl], rfl⟩
def encP (x : S69) : List Value := [.string x.f0, .string x.f1]
set_option maxHeartbeats 1000000 in
theorem pairs1.calls (x y : S69) (W : World) : Calls Try.prog 56 #[.agg #[.string x.f0, .string x.f1], .agg #[.string y.f0, .string y.f1]] W fun e w' => e = .returned (.int .i64 (cmpP x y)) ∧ ∃ q os', w' = Go.Sort.grow (W.drewN q) os' := by
  have hcon := fun W' => compareS.calls x.f0 y.f0 W'
  unfold cmpP
  generalize cmpS x.f0 y.f0 = r at hcon ⊢
  go_enter Try.func56, Try.ntmps56
  go_wp2_with (go_at_call 57; refine (hcon _).mono ?_; rintro e w' ⟨rfl, rfl⟩)
  go_ret
  exact ⟨rfl, 0, _, by rw [Go.Sort.alloc_eq_grow, Go.Sort.alloc_eq_grow, Go.Sort.grow_grow]; rfl⟩
theorem cmpLaysP (blk off size : Nat) (w : World) : Go.Proofs.CmpLays Try.prog 56 #[] encP 2 cmpP blk off size w :=
  fun _ _ _ _ x y => pairs1.calls x y _
def sortP (xs : List S69) : List S69 := if xs = [] then [] else (Go.Sort.pdq (Go.Proofs.ltOf cmpP) xs.toArray 0 xs.toArray.size (Go.Lib.bitLen xs.toArray.size) true true).toList
theorem sortP_spec (xs : List S69) : (sortP xs).Perm xs ∧ (sortP xs).Pairwise fun a b => ltS b.f0 a.f0 = false := by
  unfold sortP
  split
  · next h => subst h; simp
  next hne =>
  have h := Go.Sort.pdq_sorts (Go.Proofs.ltOf cmpP) swoP xs.toArray 0 xs.toArray.size (Go.Lib.bitLen xs.toArray.size) true true (Nat.zero_le _) (Nat.le_refl _) (Or.inl rfl)
  generalize Go.Sort.pdq (Go.Proofs.ltOf cmpP) xs.toArray 0 xs.toArray.size (Go.Lib.bitLen xs.toArray.size) true true = d at h ⊢
  obtain ⟨⟨hs, -, hp⟩, ho⟩ := h
  refine ⟨?_, ?_⟩
  · have : d.extract 0 xs.toArray.size = d := by rw [← hs]; simp
    rw [this] at hp
    simpa using hp
  · rw [List.pairwise_iff_getElem]
    intro i j hi hj hij
    have := ho i j (Nat.zero_le _) hij (by rw [← hs]; simpa using hj)
    rw [cmpP_lt] at this
    rw [getElem!_pos d j (by simpa using hj), getElem!_pos d i (by simpa using hi)] at this
    simpa using this
open Go.Sort in
theorem flat_at (d : Array S69) (t : Nat) (h : t < d.size * 2) : (flatK encP 2 d)[t]! = (encP d[t / 2]!)[t % 2]! := get_flatK encP 2 d t h
open Go.Sort in
theorem R_cells {w : World} {base : Nat} {ok : Nat → Prop} {v : Value} {xs : List S69} (h : Kd.R k69 69 w base ok v xs) (hne : xs ≠ []) :
    ∃ g cap cur, v = .slice (some ⟨g, 0, none⟩) xs.length cap ∧ base ≤ g ∧ w.heap[g]? = some (.cells cur 69 (0, 0)) ∧ xs.length ≤ cap ∧ cap ≤ maxLen ∧ cur.size = cap * 2 ∧ cur.toList.take (xs.length * 2) = (flatK encP 2 xs.toArray).toList ∧ ok g := by
  obtain ⟨hok, inner, ⟨hl, hor⟩, hr⟩ := h
  rcases hor with ⟨_, h0⟩ | ⟨g, cap, cur, rfl, hb, hg, h1, h2, h3, h4⟩
  · exact absurd (List.eq_nil_of_length_eq_zero h0) hne
  refine ⟨g, cap, cur, rfl, hb, hg, h1, h2, h3, ?_, hok g rfl⟩
  rw [show Kd.sz k69 = 2 from rfl] at *
  rw [h4]
  refine List.ext_getElem (by simp [hl]) fun t ht1 ht2 => ?_
  have ht : t < xs.length * 2 := by rw [← hl]; exact ht1
  have hj : t / 2 < xs.length := by omega
  have hp := k69_openM (hr.2 (t / 2) _ (List.getElem?_eq_getElem hj))
  have e1 : inner[t]? = (((inner.drop (t / 2 * 2)).take 2))[t % 2]? := by
    rw [List.getElem?_take, if_pos (by omega), List.getElem?_drop]; congr 1; omega
  have hf := flat_at xs.toArray t (by simpa using ht)
  rw [getElem!_pos (flatK encP 2 xs.toArray) t (by simpa using ht)] at hf
  refine Eq.trans ?_ (show _ = (flatK encP 2 xs.toArray).toList[t] from hf.symm)
  apply Option.some.inj
  rw [← List.getElem?_eq_getElem ht1, e1]
  replace hp : List.take 2 (List.drop (t / 2 * 2) inner) = [.string xs[t / 2].f0, .string xs[t / 2].f1] := hp
  rw [hp]
  rw [getElem!_pos xs.toArray (t / 2) (by simpa using hj)]
  rcases (show t % 2 = 0 ∨ t % 2 = 1 by omega) with e | e <;> rw [e] <;> simp [encP]
open Go.Sort in
theorem R_sorted {w : World} {base : Nat} {ok : Nat → Prop} {xs ys : List S69} {g cap : Nat} (h : Kd.R k69 69 w base ok (.slice (some ⟨g, 0, none⟩) xs.length cap) xs) (hne : xs ≠ []) (hy : ys.length = xs.length) (m : Nat) (os : Array Obj) :
    Kd.R k69 69 (sortWorldK encP 2 w g 0 m ys.toArray os) base ok (.slice (some ⟨g, 0, none⟩) xs.length cap) ys ∧ Below base w (sortWorldK encP 2 w g 0 m ys.toArray os) := by
  obtain ⟨g', cap', cur, hv, hb, hg, h1, h2, h3, h4, h5⟩ := R_cells h hne
  injection hv with ha _ hc
  injection ha with ha; injection ha with ha
  subst ha hc
  have hgl := blk_lt hg
  have hblk : (sortWorldK encP 2 w g 0 m ys.toArray os).heap[g]? = some (.cells (putCells id 0 (flatK encP 2 ys.toArray) cur) 69 (0, 0)) := by
    unfold sortWorldK grow putRowK putRow mapBlock Go.Sort.ahead
    simp only
    rw [Array.getElem?_append_left (by simpa using hgl), Array.getElem?_modify, if_pos rfl, hg]
    rfl
  refine ⟨⟨fun k hk => by simp only [Value.ownBlock, Option.some.injEq] at hk; subst hk; exact h5, (flatK encP 2 ys.toArray).toList, ⟨by simp [hy]; rfl, Or.inr ⟨g, cap, _, by rw [hy], hb, hblk, by omega, h2, by simp [putCells, h3]; rfl, ?_⟩⟩, ⟨by simp; rfl, ?_⟩⟩, ⟨rfl, rfl, rfl, by unfold sortWorldK grow putRowK putRow mapBlock Go.Sort.ahead; simp, fun k hk => ?_⟩⟩
  · rw [hy, show Kd.sz k69 = 2 from rfl]
    refine List.ext_getElem (by simp [putCells, h3, hy]; omega) fun t ht1 ht2 => ?_
    have ht : t < ys.length * 2 := by simpa using ht2
    rw [List.getElem_take, Array.getElem_toList, Array.getElem_toList]
    simp only [putCells, Array.getElem_mapIdx, size_flatK, Nat.zero_le, true_and, Nat.zero_add, Nat.sub_zero, id]
    rw [if_pos (by simpa using ht), getElem!_pos (flatK encP 2 ys.toArray) t (by simpa using ht)]
  · intro j p hj
    have hjl : j < ys.length := (List.getElem?_eq_some_iff.1 hj).1
    have e : ((flatK encP 2 ys.toArray).toList.drop (j * 2)).take 2 = [.string p.f0, .string p.f1] := by
      have hp : ys.toArray[j]! = p := by rw [getElem!_pos ys.toArray j (by simpa using hjl)]; simpa using (List.getElem?_eq_some_iff.1 hj).2
      refine List.ext_getElem (by simp; omega) fun t ht1 ht2 => ?_
      have ht : t < 2 := by simpa using ht2
      rw [List.getElem_take, List.getElem_drop, Array.getElem_toList]
      have hf := flat_at ys.toArray (j * 2 + t) (by simp; omega)
      rw [getElem!_pos (flatK encP 2 ys.toArray) (j * 2 + t) (by simp; omega), show (j * 2 + t) / 2 = j by omega, show (j * 2 + t) % 2 = t by omega, hp] at hf
      rw [hf]
      rcases (show t = 0 ∨ t = 1 by omega) with e | e <;> subst e <;> simp [encP]
    rw [show Kd.sz k69 = 2 from rfl, e]
    exact k69_mkM _ _ _ _
  · unfold sortWorldK grow putRowK putRow mapBlock Go.Sort.ahead
    simp only
    have : k < w.heap.size := by omega
    rw [Array.getElem?_append_left (by simpa using this), Array.getElem?_modify, if_neg (by omega)]
set_option maxHeartbeats 2000000 in
theorem SortFunc69.calls (base : Nat) (ok : Nat → Prop) (v : Value) (xs : List S69) (w : World) (hR : Kd.R k69 69 w base ok v xs) (hn : xs.length < 4611686018427387904) :
    Calls Try.prog 55 #[v, .func (.func 56) #[] #[]] w fun e w' => e = .returned (.tuple #[]) ∧ Kd.R k69 69 w' base ok v (sortP xs) ∧ Below base w w' := by
  by_cases hne : xs = []
  · subst hne
    obtain ⟨A, c, rfl⟩ := Kd.R_slice hR
    refine (Go.Proofs.AnyF.slices_SortFunc_none Try.sortPair A c _ w).mono ?_
    rintro e w' ⟨rfl, rfl⟩
    exact ⟨rfl, by unfold sortP; rw [if_pos rfl]; exact hR, Below.refl _ _⟩
  obtain ⟨g, cap, cur, rfl, hb, hg, h1, h2, h3, h4, h5⟩ := R_cells hR hne
  have hH : Go.Sort.HoldsK encP 2 w g 0 xs.toArray := by
    intro j hj
    have hj' : j < xs.length * 2 := by simpa using hj
    refine ⟨?_, blk_frozen hg _⟩
    rw [Nat.zero_add, blk_cell hg]
    have e : cur[j]? = (cur.toList.take (xs.length * 2))[j]? := by rw [List.getElem?_take, if_pos hj']; simp
    rw [e, h4, Array.getElem?_toList, Array.getElem?_eq_getElem (by simpa using hj), getElem!_pos _ j (by simpa using hj)]; rfl
  have eg : ∀ args w, (callFunc 56 args).run Try.prog w = .ok (.enter 56 args) w := enters_of Try.func56 (by kernel_rfl) rfl
  have hcon := Go.Proofs.AnyQ.slices_SortFunc_eq Try.sortPair 2 Try.isAgg69 Try.sizeOf69 encP (fun _ => rfl) (fun x v hv => by simp [encP] at hv; rcases hv with rfl | rfl <;> rfl) cmpP swoP 56 #[] g 0 cap xs.toArray w eg (cmpLaysP _ _ _ _) hH (blk_lt hg) (by simpa using hn)
  refine Calls.mono (show Calls Try.prog 55 _ _ _ from hcon) ?_
  rintro e w' ⟨rfl, n, os, rfl⟩
  have hy : (sortP xs).length = xs.length := (sortP_spec xs).1.length_eq
  have := R_sorted hR hne hy n os
  have e : (sortP xs).toArray = Go.Sort.pdq (Go.Proofs.ltOf cmpP) xs.toArray 0 xs.toArray.size (Go.Lib.bitLen xs.toArray.size) true true := by unfold sortP; rw [if_neg hne]
  rw [e] at this
  exact ⟨rfl, this⟩
end Go.Proofs.Ytehcmedeeaoebaa.PB
end
section
namespace Go.Proofs.Ytehcmedeeaoebaa.PB
open Go.RowKit Go.Proofs.YtehcmedeeaoebaaW.PrintWords Go.Proofs.YtehcmedeeaoebaaW.PrintLast Go.Proofs.YtehcmedeeaoebaaW.PrintMore
attribute [local go_sem] max2_int min2_int max_two min_two max_three min_three max_four min_four
set_option linter.unusedVariables false
set_option linter.unusedSimpArgs false
mutual
def ambryref02_Below.l0 : Nat → ByteArray → ByteArray → Int → Option (Bool)
  | 0, _, _, _ => none
  | k + 1, x0, x1, x5 => if x5 < (x0.size : Int) then (ambryref02_Below.j1 k x0 x1 x5 (decide (x5 < (x1.size : Int)))) else (ambryref02_Below.j1 k x0 x1 x5 false)
def ambryref02_Below.j1 : Nat → ByteArray → ByteArray → Int → Bool → Option (Bool)
  | 0, _, _, _, _ => none
  | k + 1, x0, x1, x5, x15 => if x15 = true then (if 0 ≤ x5 then (if x5 < (x0.size : Int) then (if x5 < (x1.size : Int) then (if (bt x0 x5) = (bt x1 x5) then (ambryref02_Below.l0 k x0 x1 (wrap64 (x5 + 1))) else (some (decide ((bt x0 x5) < (bt x1 x5))))) else (none)) else (none)) else (none)) else (some (decide ((x0.size : Int) < (x1.size : Int))))
end
def ambryref02_Below.f (k : Nat) (a0 : ByteArray) (a1 : ByteArray) : Option (Bool) := ambryref02_Below.l0 k a0 a1 0
theorem ambryref02_Below.mono_l : ∀ k, (∀ y0 y1 y2, LeO (ambryref02_Below.l0 k y0 y1 y2) (ambryref02_Below.l0 (k + 1) y0 y1 y2)) ∧ (∀ y0 y1 y2 y3, LeO (ambryref02_Below.j1 k y0 y1 y2 y3) (ambryref02_Below.j1 (k + 1) y0 y1 y2 y3))
  | 0 => ⟨fun _ _ _ r h => by simp [ambryref02_Below.l0] at h, fun _ _ _ _ r h => by simp [ambryref02_Below.j1] at h⟩
  | k + 1 => by
    obtain ⟨ih0, ih1⟩ := ambryref02_Below.mono_l k
    refine ⟨?_, ?_⟩
    · intro y0 y1 y2
      unfold ambryref02_Below.l0
      repeat' first
      | (with_reducible exact ih0 _ _ _)
      | (with_reducible exact ih1 _ _ _ _)
      | (with_reducible exact LeO.refl _)
      | (with_reducible exact LeO.none _)
      | (with_reducible refine LeO.ite ?_ ?_)
      | (with_reducible refine LeO.bind ?_ (fun _ => ?_))
      | exact ih0 _ _ _
      | exact ih1 _ _ _ _
      | exact LeO.none _
      | refine LeO.ite ?_ ?_
      | refine LeO.bind ?_ (fun _ => ?_)
    · intro y0 y1 y2 y3
      unfold ambryref02_Below.j1
      repeat' first
      | (with_reducible exact ih0 _ _ _)
      | (with_reducible exact ih1 _ _ _ _)
      | (with_reducible exact LeO.refl _)
      | (with_reducible exact LeO.none _)
      | (with_reducible refine LeO.ite ?_ ?_)
      | (with_reducible refine LeO.bind ?_ (fun _ => ?_))
      | exact ih0 _ _ _
      | exact ih1 _ _ _ _
      | exact LeO.none _
      | refine LeO.ite ?_ ?_
      | refine LeO.bind ?_ (fun _ => ?_)
theorem ambryref02_Below.mono : ∀ a0 a1 k, LeO (ambryref02_Below.f k a0 a1) (ambryref02_Below.f (k + 1) a0 a1) := by
  intro a0 a1 k
  obtain ⟨ih0, ih1⟩ := ambryref02_Below.mono_l k
  unfold ambryref02_Below.f
  repeat' first
      | (with_reducible exact ih0 _ _ _)
      | (with_reducible exact ih1 _ _ _ _)
      | (with_reducible exact LeO.refl _)
      | (with_reducible exact LeO.none _)
      | (with_reducible refine LeO.ite ?_ ?_)
      | (with_reducible refine LeO.bind ?_ (fun _ => ?_))
      | exact ih0 _ _ _
      | exact ih1 _ _ _ _
      | exact LeO.none _
      | refine LeO.ite ?_ ?_
      | refine LeO.bind ?_ (fun _ => ?_)
set_option maxHeartbeats 8000000 in
set_option maxRecDepth 100000 in
theorem ambryref02_Below.calls (k : Nat) (a0 : ByteArray) (a1 : ByteArray) (r : Bool) (w : World) (h : ambryref02_Below.f k a0 a1 = some r) :
    Calls Try.prog 50 #[.string a0, .string a1] w fun e w' => e = .returned (.bool r) ∧ Drawn0 w w' := by
  have H : (ambryref02_Below.l0 k a0 a1 0) = some r := h
  clear h
  have H' := Aside0.mk H
  clear H
  go_enter Try.func50, Try.ntmps50
  go_wp2
  repeat (go_quiet (fail); try go_wp2)
  go_loopg [5] k (fun kq v5 w' => ∃ (x5_1 : Int), v5 = .int .i64 x5_1 ∧ Aside0 (ambryref02_Below.l0 kq a0 a1 x5_1 = some r) ∧ Aside0 (kq ≤ k) ∧ Drawn0 w w')
  case atStart => exact ⟨(0), (by first | rfl | (simp; done) | (simp [*]; done)), H', ⟨Nat.le_refl _⟩, by repeat (first | exact Drawn0.refl _ | apply Drawn0.step)⟩
  case round =>
    clear H'
    try clear p2
    obtain ⟨x5_1, rfl, HA, HK1, ⟨m1, rfl⟩⟩ := hrel
    cases gk with
    | zero => exact absurd HA.out (by simp [ambryref02_Below.l0])
    | succ k1 =>
      have H := HA.out
      clear HA
      simp only [ambryref02_Below.l0] at H
      have HC3 := Aside0.mk H
      clear H
      go_upto_region 2 with (fail)
      repeat (go_quiet (fail); go_upto_region 2 with (fail))
      go_cut [15] (fun v15 wc => ∃ (kq : Nat) (x15_2 : Bool), v15 = .bool x15_2 ∧ Aside0 (ambryref02_Below.j1 kq a0 a1 x5_1 x15_2 = some r) ∧ Aside0 (kq ≤ k1) ∧ Drawn0 w wc)
      case first =>
        have H := HC3.out
        clear HC3
        by_cases c4 : x5_1 < (a0.size : Int)
        · rw [if_pos c4] at H
          have c4b0 : decide (x5_1 < (a0.size : Int)) = true := decide_eq_true c4
          clear c4
          (first | rw [c4b0] | (simp only [i64_w, i32_w]; rw [c4b0]) | skip)
          have H' := Aside0.mk H
          clear H
          go_wp2
          repeat (go_quiet (fail); try go_wp2)
          go_meet
          case rel => exact ⟨_, (decide (x5_1 < (a1.size : Int))), (by first | rfl | (simp; done) | (simp [*]; done)), H', ⟨by have := HK1.out; first | omega | exact Nat.le_refl _⟩, by repeat (first | exact Drawn0.refl _ | apply Drawn0.step)⟩
        · rw [if_neg c4] at H
          have c4b0 : decide (x5_1 < (a0.size : Int)) = false := decide_eq_false c4
          clear c4
          (first | rw [c4b0] | (simp only [i64_w, i32_w]; rw [c4b0]) | skip)
          have H' := Aside0.mk H
          clear H
          go_wp2
          repeat (go_quiet (fail); try go_wp2)
          go_meet
          case rel => exact ⟨_, (false), (by first | rfl | (simp; done) | (simp [*]; done)), H', ⟨by have := HK1.out; first | omega | exact Nat.le_refl _⟩, by repeat (first | exact Drawn0.refl _ | apply Drawn0.step)⟩
      case rest =>
        clear HC3
        try clear p2
        try clear c4
        try clear c4b0
        try clear p2
        obtain ⟨kq, x15_2, rfl, HA, HJ2, ⟨mc2, rfl⟩⟩ := hcut
        cases kq with
        | zero => exact absurd HA.out (by simp [ambryref02_Below.j1])
        | succ kj2 =>
          have H := HA.out
          clear HA
          simp only [ambryref02_Below.j1] at H
          by_cases c5 : x15_2 = true
          · subst c5
            have H1 : (if 0 ≤ x5_1 then (if x5_1 < (a0.size : Int) then (if x5_1 < (a1.size : Int) then (if (bt a0 x5_1) = (bt a1 x5_1) then (ambryref02_Below.l0 kj2 a0 a1 (wrap64 (x5_1 + 1))) else (some (decide ((bt a0 x5_1) < (bt a1 x5_1))))) else (none)) else (none)) else (none)) = some r := by rw [if_pos rfl] at H; exact H
            clear H
            have H := H1
            clear H1
            by_cases c6 : 0 ≤ x5_1
            · rw [if_pos c6] at H
              have c6b0 : decide (0 ≤ x5_1) = true := decide_eq_true c6
              clear c6
              by_cases c7 : x5_1 < (a0.size : Int)
              · rw [if_pos c7] at H
                have c7b0 : decide (x5_1 < (a0.size : Int)) = true := decide_eq_true c7
                clear c7
                by_cases c9 : x5_1 < (a1.size : Int)
                · rw [if_pos c9] at H
                  have c9b0 : decide (x5_1 < (a1.size : Int)) = true := decide_eq_true c9
                  clear c9
                  by_cases c11 : (bt a0 x5_1) = (bt a1 x5_1)
                  · rw [if_pos c11] at H
                    have c11b0 : ((bt a0 x5_1) == (bt a1 x5_1)) = true := beq_iff_eq.mpr c11
                    have c11b1 : ((bt a0 x5_1) != (bt a1 x5_1)) = false := bne_eq_false_iff_eq.mpr c11
                    clear c11
                    have H' := Aside0.mk H
                    clear H
                    have p8 : 0 ≤ (x5_1 : Int) := of_decide_eq_true (by first | (with_reducible assumption) | assumption)
                    have q8 : x5_1 < (a0.size : Int) := of_decide_eq_true (by first | (with_reducible assumption) | assumption)
                    have hx8 := bt_at a0 x5_1
                    replace p8 := eq_true p8
                    replace q8 := eq_true q8
                    have p10 : 0 ≤ (x5_1 : Int) := of_decide_eq_true (by first | (with_reducible assumption) | assumption)
                    have q10 : x5_1 < (a1.size : Int) := of_decide_eq_true (by first | (with_reducible assumption) | assumption)
                    have hx10 := bt_at a1 x5_1
                    replace p10 := eq_true p10
                    replace q10 := eq_true q10
                    go_wp2
                    repeat (go_quiet (fail); try go_wp2)
                    go_roundg kj2
                    case measure => have := HK1.out; have := HJ2.out; omega
                    case rel => exact ⟨(wrap64 (x5_1 + 1)), (by first | rfl | (simp; done) | (simp [*]; done)), H', ⟨by have := HK1.out; have := HJ2.out; omega⟩, by repeat (first | exact Drawn0.refl _ | apply Drawn0.step)⟩
                  · rw [if_neg c11] at H
                    have c11b0 : ((bt a0 x5_1) == (bt a1 x5_1)) = false := beq_eq_false_iff_ne.mpr c11
                    have c11b1 : ((bt a0 x5_1) != (bt a1 x5_1)) = true := bne_iff_ne.mpr c11
                    obtain rfl := Option.some.inj H
                    have p8 : 0 ≤ (x5_1 : Int) := of_decide_eq_true (by first | (with_reducible assumption) | assumption)
                    have q8 : x5_1 < (a0.size : Int) := of_decide_eq_true (by first | (with_reducible assumption) | assumption)
                    have hx8 := bt_at a0 x5_1
                    replace p8 := eq_true p8
                    replace q8 := eq_true q8
                    have p10 : 0 ≤ (x5_1 : Int) := of_decide_eq_true (by first | (with_reducible assumption) | assumption)
                    have q10 : x5_1 < (a1.size : Int) := of_decide_eq_true (by first | (with_reducible assumption) | assumption)
                    have hx10 := bt_at a1 x5_1
                    replace p10 := eq_true p10
                    replace q10 := eq_true q10
                    have p12 : 0 ≤ (x5_1 : Int) := of_decide_eq_true (by first | (with_reducible assumption) | assumption)
                    have q12 : x5_1 < (a0.size : Int) := of_decide_eq_true (by first | (with_reducible assumption) | assumption)
                    have hx12 := bt_at a0 x5_1
                    replace p12 := eq_true p12
                    replace q12 := eq_true q12
                    have p13 : 0 ≤ (x5_1 : Int) := of_decide_eq_true (by first | (with_reducible assumption) | assumption)
                    have q13 : x5_1 < (a1.size : Int) := of_decide_eq_true (by first | (with_reducible assumption) | assumption)
                    have hx13 := bt_at a1 x5_1
                    replace p13 := eq_true p13
                    replace q13 := eq_true q13
                    go_wp2
                    repeat (go_quiet (fail); try go_wp2)
                    go_ret
                    exact ⟨by first | rfl | (simp; done) | (simp [*]; done), by repeat (first | exact Drawn0.refl _ | apply Drawn0.step)⟩
                · rw [if_neg c9] at H
                  exact absurd H (by simp)
              · rw [if_neg c7] at H
                exact absurd H (by simp)
            · rw [if_neg c6] at H
              exact absurd H (by simp)
          · replace c5 := Bool.eq_false_iff.mpr c5
            subst c5
            have H1 : (some (decide ((a0.size : Int) < (a1.size : Int)))) = some r := by rw [if_neg (show ¬ (false = true) by decide)] at H; exact H
            clear H
            have H := H1
            clear H1
            obtain rfl := Option.some.inj H
            go_wp2
            repeat (go_quiet (fail); try go_wp2)
            go_ret
            exact ⟨by first | rfl | (simp; done) | (simp [*]; done), by repeat (first | exact Drawn0.refl _ | apply Drawn0.step)⟩
end Go.Proofs.Ytehcmedeeaoebaa.PB
end
section
namespace Go.Proofs.Ytehcmedeeaoebaa.PB
open Go.RowKit Go.Proofs.YtehcmedeeaoebaaW.PrintWords Go.Proofs.YtehcmedeeaoebaaW.PrintLast Go.Proofs.YtehcmedeeaoebaaW.PrintMore
set_option linter.unusedVariables false
theorem ne_of_beqF {a b : List UInt8} (h : (a == b) = false) : ¬ a = b := fun e => by rw [e, beq_self_eq_true] at h; cases h
theorem frm_end (s : ByteArray) (p : Nat) (h : s.size ≤ p) : frm s p = [] := by
  unfold frm
  rw [List.drop_eq_nil_iff]
  have : s.data.toList.length = s.size := by simp
  omega
theorem below_loop (a b : ByteArray) (ha : a.size ≤ 9223372036854775807 ∨ b.size ≤ 9223372036854775807) : ∀ n i, i + n = a.size → i ≤ b.size → Ev (fun k => ambryref02_Below.l0 k a b (i : Int)) (Op.bytesLess (frm a i) (frm b i)) := by
  intro n
  induction n with
  | zero =>
    intro i hi hb
    refine Ev.step (g := fun k => ambryref02_Below.j1 k a b (i : Int) false) ?_ fun k => ?_
    · refine Ev.step (Ev.of_eq (o := some (decide ((a.size : Int) < (b.size : Int)))) ?_) fun k => by simp only [ambryref02_Below.j1]; rw [if_neg (by simp)]
      congr 1
      rw [frm_end a i (by omega)]
      by_cases c : i = b.size
      · rw [frm_end b i (by omega)]
        simp [Op.bytesLess]
        omega
      · obtain ⟨y, hy⟩ := frm_of_lt (s := b) (p := i) (by omega)
        rw [hy]
        simp [Op.bytesLess]
        omega
    · simp only [ambryref02_Below.l0]
      rw [if_neg (by omega)]
  | succ n ih =>
    intro i hi hb
    obtain ⟨x, hx⟩ := frm_of_lt (s := a) (p := i) (by omega)
    have hxb := (frm_cons hx).2.1
    by_cases c : i = b.size
    · refine Ev.step (g := fun k => ambryref02_Below.j1 k a b (i : Int) false) ?_ fun k => ?_
      · refine Ev.step (Ev.of_eq (o := some (decide ((a.size : Int) < (b.size : Int)))) ?_) fun k => by simp only [ambryref02_Below.j1]; rw [if_neg (by simp)]
        congr 1
        rw [frm_end b i (by omega), hx]
        simp [Op.bytesLess]
        omega
      · simp only [ambryref02_Below.l0]
        rw [if_pos (by omega), decide_eq_false (by omega)]
    · obtain ⟨y, hy⟩ := frm_of_lt (s := b) (p := i) (by omega)
      have hyb := (frm_cons hy).2.1
      refine Ev.step (g := fun k => ambryref02_Below.j1 k a b (i : Int) true) ?_ fun k => ?_
      · by_cases e : x = y
        · have h := ih (i + 1) (by omega) (by omega)
          have hv : Op.bytesLess (frm a i) (frm b i) = Op.bytesLess (frm a (i + 1)) (frm b (i + 1)) := by
            rw [hx, hy, e, Op.bytesLess]
            simp
          rw [hv]
          refine Ev.step h fun k => ?_
          simp only [ambryref02_Below.j1]
          rw [if_pos trivial, if_pos (by omega), if_pos (by omega), if_pos (by omega), if_pos (by rw [hxb, hyb, e]), w64 (by omega) (by omega)]
          rfl
        · have hne : ¬ bt a (i : Int) = bt b (i : Int) := by
            rw [hxb, hyb]
            intro h
            exact e (UInt8.toNat_inj.1 (by omega))
          have hv : Op.bytesLess (frm a i) (frm b i) = decide (bt a (i : Int) < bt b (i : Int)) := by
            rw [hx, hy, hxb, hyb, Op.bytesLess]
            have : (x == y) = false := by simpa using e
            rw [this, Bool.false_and, Bool.or_false]
            rw [Bool.eq_iff_iff]
            simp [UInt8.lt_iff_toNat_lt]
          rw [hv]
          refine Ev.step (Ev.const _) fun k => ?_
          simp only [ambryref02_Below.j1]
          rw [if_pos trivial, if_pos (by omega), if_pos (by omega), if_pos (by omega), if_neg hne]
      · simp only [ambryref02_Below.l0]
        rw [if_pos (by omega), decide_eq_true (by omega)]
theorem Below_ev (a b : ByteArray) (ha : a.size ≤ 9223372036854775807 ∨ b.size ≤ 9223372036854775807) : Ev (fun k => ambryref02_Below.f k a b) (ltS a b) := by
  have h := below_loop a b ha a.size 0 (by omega) (by omega)
  have e : ltS a b = Op.bytesLess (frm a 0) (frm b 0) := by unfold ltS frm; rw [Lib.toList_data, Lib.toList_data, List.drop_zero, List.drop_zero]
  rw [e]
  exact h
end Go.Proofs.Ytehcmedeeaoebaa.PB
end
section
namespace Go.Proofs.Ytehcmedeeaoebaa.PB
open Go.RowKit Go.Proofs.YtehcmedeeaoebaaW.PrintWords Go.Proofs.YtehcmedeeaoebaaW.PrintLast Go.Proofs.YtehcmedeeaoebaaW.PrintMore
attribute [local go_sem] max2_int min2_int max_two min_two max_three min_three max_four min_four
set_option linter.unusedVariables false
set_option linter.unusedSimpArgs false
def ambryref10_Get.l0 : Nat → List (S69) → ByteArray → Int → Option (ByteArray × Int)
  | 0, _, _, _ => none
  | k + 1, x0, x1, x6 => if x6 < (x0.length : Int) then (if 0 ≤ x6 then (if ((rd_T69 x0 x6).f0).toList = x1.toList then (some ((rd_T69 x0 x6).f1, 0)) else (ambryref10_Get.l0 k x0 x1 (wrap64 (x6 + 1)))) else (none)) else (some ((⟨#[]⟩ : ByteArray), 7))
def ambryref10_Get.f (k : Nat) (l0 : List (S69)) (a1 : ByteArray) : Option (ByteArray × Int) := ambryref10_Get.l0 k l0 a1 0
theorem ambryref10_Get.mono_l : ∀ k, (∀ y0 y1 y2, LeO (ambryref10_Get.l0 k y0 y1 y2) (ambryref10_Get.l0 (k + 1) y0 y1 y2))
  | 0 => fun _ _ _ r h => by simp [ambryref10_Get.l0] at h
  | k + 1 => by
    have ih0 := ambryref10_Get.mono_l k
    · intro y0 y1 y2
      unfold ambryref10_Get.l0
      repeat' first
      | (with_reducible exact ih0 _ _ _)
      | (with_reducible exact LeO.refl _)
      | (with_reducible exact LeO.none _)
      | (with_reducible refine LeO.ite ?_ ?_)
      | (with_reducible refine LeO.bind ?_ (fun _ => ?_))
      | exact ih0 _ _ _
      | exact LeO.none _
      | refine LeO.ite ?_ ?_
      | refine LeO.bind ?_ (fun _ => ?_)
theorem ambryref10_Get.mono : ∀ a0 a1 k, LeO (ambryref10_Get.f k a0 a1) (ambryref10_Get.f (k + 1) a0 a1) := by
  intro a0 a1 k
  have ih0 := ambryref10_Get.mono_l k
  unfold ambryref10_Get.f
  repeat' first
      | (with_reducible exact ih0 _ _ _)
      | (with_reducible exact LeO.refl _)
      | (with_reducible exact LeO.none _)
      | (with_reducible refine LeO.ite ?_ ?_)
      | (with_reducible refine LeO.bind ?_ (fun _ => ?_))
      | exact ih0 _ _ _
      | exact LeO.none _
      | refine LeO.ite ?_ ?_
      | refine LeO.bind ?_ (fun _ => ?_)
set_option maxHeartbeats 8000000 in
set_option maxRecDepth 100000 in
theorem ambryref10_Get.calls (k : Nat) (A0 : Option Addr) (c0 : Nat) (l0 : List (S69)) (a1 : ByteArray) (r1 : ByteArray) (r2 : Int) (w : World) (hr0 : Kd.C k69 w A0 l0.length l0) (hc0 : l0.length ≤ c0) (h : ambryref10_Get.f k l0 a1 = some (r1, r2)) :
    Calls Try.prog 26 #[.slice A0 l0.length c0, .string a1] w fun e w' => e = .returned (.tuple #[.string r1, .int .i64 r2]) ∧ Drawn0 w w' := by
  have HR0 := Aside0.mk hr0
  have HC0 := Aside0.mk hc0
  clear hr0 hc0
  have H : (ambryref10_Get.l0 k l0 a1 0) = some (r1, r2) := h
  clear h
  have H' := Aside0.mk H
  clear H
  go_enter Try.func26, Try.ntmps26
  go_wp2
  go_loopg [6] k (fun kq v6 w' => ∃ (x6_1 : Int), v6 = .int .i64 x6_1 ∧ Aside0 (ambryref10_Get.l0 kq l0 a1 x6_1 = some (r1, r2)) ∧ Aside0 (kq ≤ k) ∧ Drawn0 w w')
  case atStart => exact ⟨(0), (by first | rfl | (simp; done) | (simp [*]; done)), H', ⟨Nat.le_refl _⟩, by repeat (first | exact Drawn0.refl _ | apply Drawn0.step)⟩
  case round =>
    clear H'
    try clear c2
    try clear p2
    obtain ⟨x6_1, rfl, HA, HK1, ⟨m1, rfl⟩⟩ := hrel
    cases gk with
    | zero => exact absurd HA.out (by simp [ambryref10_Get.l0])
    | succ k1 =>
      have H := HA.out
      clear HA
      simp only [ambryref10_Get.l0] at H
      by_cases c3 : x6_1 < (l0.length : Int)
      · rw [if_pos c3] at H
        have c3b0 : decide (x6_1 < (l0.length : Int)) = true := decide_eq_true c3
        clear c3
        by_cases c4 : 0 ≤ x6_1
        · rw [if_pos c4] at H
          have c4b0 : decide (0 ≤ x6_1) = true := decide_eq_true c4
          clear c4
          by_cases c5 : ((rd_T69 l0 x6_1).f0).toList = a1.toList
          · rw [if_pos c5] at H
            have c5b0 : (((rd_T69 l0 x6_1).f0).toList == a1.toList) = true := beq_iff_eq.mpr c5
            have c5b1 : (((rd_T69 l0 x6_1).f0).toList != a1.toList) = false := bne_eq_false_iff_eq.mpr c5
            clear c5
            simp only [Option.some.injEq, Prod.mk.injEq] at H
            obtain ⟨rfl, rfl⟩ := H
            have p336 : 0 ≤ (x6_1 : Int) := of_decide_eq_true (by first | (with_reducible assumption) | assumption)
            have q336 : x6_1 < (l0.length : Int) := of_decide_eq_true (by first | (with_reducible assumption) | assumption)
            obtain ⟨ad336, e336, hx336_0, hx336_1⟩ := at_T69 HR0.out x6_1 p336 q336
            cases e336
            replace p336 := eq_true p336
            replace q336 := eq_true q336
            have p337 : 0 ≤ (x6_1 : Int) := of_decide_eq_true (by first | (with_reducible assumption) | assumption)
            have q337 : x6_1 < (l0.length : Int) := of_decide_eq_true (by first | (with_reducible assumption) | assumption)
            obtain ⟨ad337, e337, hx337_0, hx337_1⟩ := at_T69 HR0.out x6_1 p337 q337
            obtain rfl : ad336 = ad337 := (by injection e337)
            replace p337 := eq_true p337
            replace q337 := eq_true q337
            go_wp2
            go_ret2
            exact ⟨by first | rfl | (simp; done) | (simp [*]; done), by repeat (first | exact Drawn0.refl _ | apply Drawn0.step)⟩
          · rw [if_neg c5] at H
            have c5b0 : (((rd_T69 l0 x6_1).f0).toList == a1.toList) = false := beq_eq_false_iff_ne.mpr c5
            have c5b1 : (((rd_T69 l0 x6_1).f0).toList != a1.toList) = true := bne_iff_ne.mpr c5
            have H' := Aside0.mk H
            clear H
            have p336 : 0 ≤ (x6_1 : Int) := of_decide_eq_true (by first | (with_reducible assumption) | assumption)
            have q336 : x6_1 < (l0.length : Int) := of_decide_eq_true (by first | (with_reducible assumption) | assumption)
            obtain ⟨ad336, e336, hx336_0, hx336_1⟩ := at_T69 HR0.out x6_1 p336 q336
            cases e336
            replace p336 := eq_true p336
            replace q336 := eq_true q336
            go_wp2
            go_roundg k1
            case measure => have := HK1.out; omega
            case rel => exact ⟨(wrap64 (x6_1 + 1)), (by first | rfl | (simp; done) | (simp [*]; done)), H', ⟨by have := HK1.out; omega⟩, by repeat (first | exact Drawn0.refl _ | apply Drawn0.step)⟩
        · rw [if_neg c4] at H
          exact absurd H (by simp)
      · rw [if_neg c3] at H
        have c3b0 : decide (x6_1 < (l0.length : Int)) = false := decide_eq_false c3
        clear c3
        simp only [Option.some.injEq, Prod.mk.injEq] at H
        obtain ⟨rfl, rfl⟩ := H
        go_wp2
        go_ret2
        exact ⟨by first | rfl | (simp; done) | (simp [*]; done), by repeat (first | exact Drawn0.refl _ | apply Drawn0.step)⟩
end Go.Proofs.Ytehcmedeeaoebaa.PB
end
section
namespace Go.Proofs.Ytehcmedeeaoebaa.PB
open Go.RowKit Go.Proofs.YtehcmedeeaoebaaW.PrintWords Go.Proofs.YtehcmedeeaoebaaW.PrintLast Go.Proofs.YtehcmedeeaoebaaW.PrintMore
set_option linter.unusedVariables false
set_option linter.unusedSimpArgs false
def Rd {α : Type} (d : Kd α) (w : World) (v : Value) (xs : List α) : Prop := ∃ A c, v = .slice A xs.length c ∧ xs.length ≤ c ∧ Kd.C d w A xs.length xs
theorem Rd.below {α : Type} {d : Kd α} {w w1 : World} {v : Value} {xs : List α} (h : Rd d w v xs) (hb : Below w.heap.size w w1) : Rd d w1 v xs := by
  obtain ⟨A, c, e, hc, h⟩ := h
  exact ⟨A, c, e, hc, Kd.C_below h hb⟩
theorem Rd.of_R {α : Type} {d : Kd α} {e base : Nat} {ok : Nat → Prop} {w : World} {v : Value} {xs : List α} (h : d.R e w base ok v xs) : Rd d w v xs := Kd.R_reads h
theorem Rd.nil {α : Type} (d : Kd α) (w : World) : Rd d w (.slice none 0 0) [] := ⟨none, 0, rfl, Nat.le_refl _, rfl, by simp, fun h => absurd h (by simp)⟩
theorem Below50.calls (a b : ByteArray) (w : World) (h : a.size ≤ 9223372036854775807 ∨ b.size ≤ 9223372036854775807) :
    Calls Try.prog 50 #[.string a, .string b] w fun e w' => e = .returned (.bool (ltS a b)) ∧ Below w.heap.size w w' := by
  obtain ⟨k, hk⟩ := (Below_ev a b h).get
  exact (ambryref02_Below.calls k a b _ w hk).mono fun e w' ⟨he, n, hn⟩ => ⟨he, by subst hn; exact pw_below_drewN (Below.refl _ _) n⟩
def putGo (k v : ByteArray) : List S69 → Bool → List S69
  | [], laid => if laid = true then [] else [⟨k, v⟩]
  | x :: r, laid => (if laid = false ∧ ltS x.f0 k = false then [⟨k, v⟩] else []) ++ ((if x.f0.toList = k.toList then [] else [x]) ++ putGo k v r (laid || !ltS x.f0 k))
def put10 (l : List S69) (k v : ByteArray) : List S69 × Int := if 128 < k.size ∨ 200 < v.size then (l, 2) else (putGo k v l false, 0)
def dropGo (k : ByteArray) (l : List S69) : List S69 := l.filter fun x => !(x.f0.toList == k.toList)
def get10 : List S69 → ByteArray → ByteArray × Int
  | [], _ => (⟨#[]⟩, 7)
  | x :: r, k => if x.f0.toList = k.toList then (x.f1, 0) else get10 r k
def drop10 (l : List S69) (k : ByteArray) : List S69 × Int := if (get10 l k).2 = 0 then (dropGo k l, 0) else (l, 7)
theorem putGo_step {l : List S69} {i : Nat} (hi : i < l.length) (k v : ByteArray) (laid : Bool) : putGo k v (l.drop i) laid = (if laid = false ∧ ltS l[i].f0 k = false then [⟨k, v⟩] else []) ++ ((if l[i].f0.toList = k.toList then [] else [l[i]]) ++ putGo k v (l.drop (i + 1)) (laid || !ltS l[i].f0 k)) := by
  rw [List.drop_eq_getElem_cons hi, putGo]
theorem dropGo_step {l : List S69} {i : Nat} (hi : i < l.length) (k : ByteArray) : dropGo k (l.drop i) = (if (l[i].f0.toList == k.toList) = true then [] else [l[i]]) ++ dropGo k (l.drop (i + 1)) := by
  rw [List.drop_eq_getElem_cons hi]
  unfold dropGo
  rw [List.filter_cons]
  by_cases h : (l[i].f0.toList == k.toList) = true
  · rw [if_pos h, h]; simp
  · rw [if_neg h]; simp [h]
theorem get10_err (k : ByteArray) : ∀ l : List S69, (get10 l k).2 = 0 ∨ (get10 l k).2 = 7
  | [] => Or.inr rfl
  | x :: r => by
    rw [get10]
    split
    · exact Or.inl rfl
    · exact get10_err k r
theorem Get10_loop (l : List S69) (k : ByteArray) (hl : l.length ≤ 9223372036854775806) : ∀ n i, i + n = l.length → Ev (fun q => ambryref10_Get.l0 q l k (i : Int)) (get10 (l.drop i) k) := by
  intro n
  induction n with
  | zero =>
    intro i hi
    rw [List.drop_of_length_le (by omega)]
    exact Ev.step (Ev.const _) fun q => by simp only [ambryref10_Get.l0]; rw [if_neg (by omega)]; rfl
  | succ n ih =>
    intro i hi
    have hil : i < l.length := by omega
    rw [List.drop_eq_getElem_cons hil, get10]
    by_cases h : l[i].f0.toList = k.toList
    · rw [if_pos h]
      exact Ev.step (Ev.const _) fun q => by simp only [ambryref10_Get.l0]; rw [if_pos (by omega), if_pos (by omega), rdT69_get l i hil, if_pos h]
    · rw [if_neg h]
      exact Ev.step (ih (i + 1) (by omega)) fun q => by
        simp only [ambryref10_Get.l0]; rw [if_pos (by omega), if_pos (by omega), rdT69_get l i hil, if_neg h, w64 (by omega) (by omega)]; rfl
theorem Get10.calls (l : List S69) (k : ByteArray) (r : ByteArray) (e0 : Int) (h : get10 l k = (r, e0)) (A : Option Addr) (c : Nat) (w : World) (hl : l.length ≤ 9223372036854775806) (hC : Kd.C k69 w A l.length l) (hc : l.length ≤ c) :
    Calls Try.prog 26 #[.slice A l.length c, .string k] w fun e w' => e = .returned (.tuple #[.string r, .int .i64 e0]) ∧ Below w.heap.size w w' := by
  have hr := Get10_loop l k hl l.length 0 (by omega)
  rw [List.drop_zero, h] at hr
  obtain ⟨q, hq⟩ := hr.get
  exact (ambryref10_Get.calls q A c l k _ _ w hC hc hq).mono fun e w' ⟨he, n, hn⟩ => ⟨he, by subst hn; exact pw_below_drewN (Below.refl _ _) n⟩
set_option maxHeartbeats 8000000 in
set_option maxRecDepth 100000 in
theorem Put10.calls (l : List S69) (k v : ByteArray) (r1 : List S69) (r2 : Int) (h : put10 l k v = (r1, r2)) (A : Option Addr) (c : Nat) (w : World) (hl : l.length ≤ 1000000000000) (hC : Kd.C k69 w A l.length l) (hc : l.length ≤ c) :
    Calls Try.prog 51 #[.slice A l.length c, .string k, .string v] w fun e w' => ∃ v0, e = .returned (.tuple #[v0, .int .i64 r2]) ∧ Rd k69 w' v0 r1 ∧ Below w.heap.size w w' := by
  have HC := Aside0.mk hC
  have HCC := Aside0.mk hc
  have HB := Aside0.mk (Below.refl w.heap.size w)
  clear hC hc
  by_cases h1 : (128 : Int) < (k.size : Int)
  · obtain ⟨rfl, rfl⟩ : l = r1 ∧ (2 : Int) = r2 := by unfold put10 at h; rw [if_pos (Or.inl (by omega))] at h; simpa using h
    clear h
    go_enter Try.func51, Try.ntmps51
    go_wp2
    go_ret2
    exact ⟨_, rfl, ⟨A, c, rfl, HCC.out, HC.out⟩, HB.out⟩
  by_cases h2 : (200 : Int) < (v.size : Int)
  · obtain ⟨rfl, rfl⟩ : l = r1 ∧ (2 : Int) = r2 := by unfold put10 at h; rw [if_pos (Or.inr (by omega))] at h; simpa using h
    clear h
    go_enter Try.func51, Try.ntmps51
    go_wp2
    go_ret2
    exact ⟨_, rfl, ⟨A, c, rfl, HCC.out, HC.out⟩, HB.out⟩
  obtain ⟨D, rfl, hD⟩ : ∃ D, D = r1 ∧ putGo k v l false = D := ⟨r1, rfl, by unfold put10 at h; rw [if_neg (by omega)] at h; exact (Prod.mk.inj h).1⟩
  obtain rfl : (0 : Int) = r2 := by unfold put10 at h; rw [if_neg (by omega)] at h; exact (Prod.mk.inj h).2
  have HD := Aside0.mk hD
  clear hD h
  go_enter Try.func51, Try.ntmps51
  go_wp2
  go_loopg [8, 9, 10] l.length (fun gg s8 s9 s10 wr => ∃ (i : Nat) (laid : Bool) (acc : List S69), i ≤ l.length ∧ acc.length ≤ i + 1 ∧ (laid = false → acc.length ≤ i) ∧ l.length - i ≤ gg ∧ s9 = .bool laid ∧ s10 = .int .i64 i ∧ Aside0 (Below w.heap.size w wr) ∧ Aside0 (Kd.R k69 69 wr w.heap.size (fun _ => True) s8 acc) ∧ Aside0 (acc ++ putGo k v (l.drop i) laid = D))
  case atStart => exact ⟨0, false, [], Nat.zero_le _, by simp, by simp, by omega, rfl, rfl, HB, ⟨Kd.R_nil _ _ _ _ _⟩, ⟨by simpa using HD.out⟩⟩
  case round =>
    clear HB
    obtain ⟨i, laid, acc, hi, hacc, hla, hgg, rfl, rfl, HB, HR, HE⟩ := hrel
    have HLA := Aside0.mk hla
    have HACC := Aside0.mk hacc
    have hlz : (l.length : Int) ≤ 1000000000000 := by omega
    clear hla hacc
    by_cases hil : i < l.length
    · have hiz : (i : Int) < (l.length : Int) := by omega
      obtain ⟨ad, e, g0, g1⟩ := at_T69 HC.out (i : Int) (by omega) hiz
      cases e
      rw [rdT69_get l i hil] at g0 g1
      simp only [Int.toNat_natCast] at g0 g1
      have hst := putGo_step hil k v laid
      obtain ⟨xk, xv, hx⟩ : ∃ xk xv, l[i] = ⟨xk, xv⟩ := ⟨_, _, rfl⟩
      rw [hx] at g0 g1 hst
      simp only at g0 g1 hst
      have G0 := Aside0.mk g0
      have G1 := Aside0.mk g1
      have HST := Aside0.mk hst
      clear g0 g1 hst hx
      have h0 := (HB.out.cell (World.block_lt_of_cell? w _ G0.out)).trans G0.out
      have h1 := (HB.out.cell (World.block_lt_of_cell? w _ G1.out)).trans G1.out
      obtain ⟨q, hq⟩ : ∃ q, ltS xk k = q := ⟨_, rfl⟩
      have HQ := Aside0.mk hq
      clear hq
      obtain ⟨q2, hk⟩ : ∃ q, (xk.toList == k.toList) = q := ⟨_, rfl⟩
      have HK := Aside0.mk hk
      have HSZ : Aside0 (xk.size ≤ 9223372036854775807 ∨ k.size ≤ 9223372036854775807) := ⟨Or.inr (by omega)⟩
      have HLN : Aside0 ((acc.length + 1) * 32 ≤ 140737488355328) := ⟨by have := HACC.out; omega⟩
      have HLN1 : Aside0 (laid = false → ((acc ++ [(⟨k, v⟩ : S69)]).length + 1) * 32 ≤ 140737488355328) := ⟨fun e => by have := HLA.out e; simp; omega⟩
      cases laid with
      | true =>
        cases q2 with
        | true =>
          go_wp2
          go_roundg (l.length - (i + 1))
          case measure => omega
          case rel => exact ⟨i + 1, true, acc, by omega, by have := HACC.out; omega, by simp, by omega, rfl, by go_num, HB, HR, ⟨by have e := HE.out; rw [HST.out, if_neg (by simp), if_pos (eq_of_beq HK.out)] at e; simpa using e⟩⟩
        | false =>
          go_wp2_with (first | ((with_reducible refine gate_builtin (b := .append) (xs := #[.tmp 51, .tmp 56]) rfl ?_); at_builtin; go_must (refine Kd.R_append k69 (w0 := w) w.heap.size rfl (.tmp 51) (.tmp 56) 43 69 (.agg #[(.string ⟨#[]⟩), (.string ⟨#[]⟩)]) 32 rfl Try.underlying43 info69 rfl (by decide) (by decide) u8 acc (⟨xk, xv⟩ : S69) [.string xk, .string xv] (fun _ => True) (fun _ => False) rfl rfl (k69_mkM _ _ _ (⟨xk, xv⟩ : S69)) (fun _ hk => hk.elim) (fun _ _ => trivial) HR.out HB.out HB.out.size HLN.out ?_); intro v4 w4 ho hb hg hat; clear HB HR ; have HB := Aside0.mk hb; have HR := Aside0.mk ho; clear h0 h1; have h0 := (HB.out.cell (World.block_lt_of_cell? w _ G0.out)).trans G0.out; have h1 := (HB.out.cell (World.block_lt_of_cell? w _ G1.out)).trans G1.out; clear ho hb hg hat))
          go_wp2
          go_roundg (l.length - (i + 1))
          case measure => omega
          case rel => exact ⟨i + 1, true, acc ++ [⟨xk, xv⟩], by omega, by have := HACC.out; simp; omega, by simp, by omega, rfl, by go_num, HB, HR, ⟨by have e := HE.out; rw [HST.out, if_neg (by simp), if_neg (ne_of_beqF HK.out)] at e; simpa using e⟩⟩
      | false =>
        cases q with
        | true =>
          cases q2 with
          | true =>
            go_wp2_with (first | ((with_reducible refine gate_callee (f := 50) rfl ?_); refine goesL_ (some 35) rfl rfl Try.func50 (by kernel_rfl) rfl #[.string xk, .string k] rfl (by (try simp only [List.map_toArray, List.map_cons, List.map_nil]); first | done | rfl) ?_; go_must (refine (Below50.calls xk k _ HSZ.out).mono ?_); rintro e w5 ⟨rfl, hb⟩; have d_ := Aside0.mk (below_then HB.out HB.out.size hb); have d2_ := Aside0.mk (Kd.R_below HR.out hb); clear HR; have HR := d2_; clear d2_; clear HB; have HB := d_; clear d_; clear h0 h1; have h0 := (HB.out.cell (World.block_lt_of_cell? w _ G0.out)).trans G0.out; have h1 := (HB.out.cell (World.block_lt_of_cell? w _ G1.out)).trans G1.out; clear hb; rw [HQ.out]; refine ⟨_, rfl, ?_⟩) | (go_at_call 50; go_must (refine (Below50.calls xk k _ HSZ.out).mono ?_); rintro e w5 ⟨rfl, hb⟩; have d_ := Aside0.mk (below_then HB.out HB.out.size hb); have d2_ := Aside0.mk (Kd.R_below HR.out hb); clear HR; have HR := d2_; clear d2_; clear HB; have HB := d_; clear d_; clear h0 h1; have h0 := (HB.out.cell (World.block_lt_of_cell? w _ G0.out)).trans G0.out; have h1 := (HB.out.cell (World.block_lt_of_cell? w _ G1.out)).trans G1.out; clear hb; rw [HQ.out]))
            go_wp2
            go_roundg (l.length - (i + 1))
            case measure => omega
            case rel => exact ⟨i + 1, false, acc, by omega, by have := HACC.out; omega, fun _ => by have := HLA.out (by trivial); omega, by omega, rfl, by go_num, HB, HR, ⟨by have e := HE.out; rw [HST.out, HQ.out, if_neg (by simp), if_pos (eq_of_beq HK.out)] at e; simpa using e⟩⟩
          | false =>
            go_wp2_with (first | ((with_reducible refine gate_callee (f := 50) rfl ?_); refine goesL_ (some 35) rfl rfl Try.func50 (by kernel_rfl) rfl #[.string xk, .string k] rfl (by (try simp only [List.map_toArray, List.map_cons, List.map_nil]); first | done | rfl) ?_; go_must (refine (Below50.calls xk k _ HSZ.out).mono ?_); rintro e w5 ⟨rfl, hb⟩; have d_ := Aside0.mk (below_then HB.out HB.out.size hb); have d2_ := Aside0.mk (Kd.R_below HR.out hb); clear HR; have HR := d2_; clear d2_; clear HB; have HB := d_; clear d_; clear h0 h1; have h0 := (HB.out.cell (World.block_lt_of_cell? w _ G0.out)).trans G0.out; have h1 := (HB.out.cell (World.block_lt_of_cell? w _ G1.out)).trans G1.out; clear hb; rw [HQ.out]; refine ⟨_, rfl, ?_⟩) | (go_at_call 50; go_must (refine (Below50.calls xk k _ HSZ.out).mono ?_); rintro e w5 ⟨rfl, hb⟩; have d_ := Aside0.mk (below_then HB.out HB.out.size hb); have d2_ := Aside0.mk (Kd.R_below HR.out hb); clear HR; have HR := d2_; clear d2_; clear HB; have HB := d_; clear d_; clear h0 h1; have h0 := (HB.out.cell (World.block_lt_of_cell? w _ G0.out)).trans G0.out; have h1 := (HB.out.cell (World.block_lt_of_cell? w _ G1.out)).trans G1.out; clear hb; rw [HQ.out]) | ((with_reducible refine gate_builtin (b := .append) (xs := #[.tmp 51, .tmp 56]) rfl ?_); at_builtin; go_must (refine Kd.R_append k69 (w0 := w) w.heap.size rfl (.tmp 51) (.tmp 56) 43 69 (.agg #[(.string ⟨#[]⟩), (.string ⟨#[]⟩)]) 32 rfl Try.underlying43 info69 rfl (by decide) (by decide) u8 acc (⟨xk, xv⟩ : S69) [.string xk, .string xv] (fun _ => True) (fun _ => False) rfl rfl (k69_mkM _ _ _ (⟨xk, xv⟩ : S69)) (fun _ hk => hk.elim) (fun _ _ => trivial) HR.out HB.out HB.out.size HLN.out ?_); intro v4 w4 ho hb hg hat; clear HB HR ; have HB := Aside0.mk hb; have HR := Aside0.mk ho; clear h0 h1; have h0 := (HB.out.cell (World.block_lt_of_cell? w _ G0.out)).trans G0.out; have h1 := (HB.out.cell (World.block_lt_of_cell? w _ G1.out)).trans G1.out; clear ho hb hg hat))
            go_wp2
            go_roundg (l.length - (i + 1))
            case measure => omega
            case rel => exact ⟨i + 1, false, acc ++ [⟨xk, xv⟩], by omega, by have := HACC.out; simp; omega, fun _ => by have := HLA.out (by trivial); simp; omega, by omega, rfl, by go_num, HB, HR, ⟨by have e := HE.out; rw [HST.out, HQ.out, if_neg (by simp), if_neg (ne_of_beqF HK.out)] at e; simpa using e⟩⟩
        | false =>
          cases q2 with
          | true =>
            go_wp2_with (first | ((with_reducible refine gate_callee (f := 50) rfl ?_); refine goesL_ (some 35) rfl rfl Try.func50 (by kernel_rfl) rfl #[.string xk, .string k] rfl (by (try simp only [List.map_toArray, List.map_cons, List.map_nil]); first | done | rfl) ?_; go_must (refine (Below50.calls xk k _ HSZ.out).mono ?_); rintro e w5 ⟨rfl, hb⟩; have d_ := Aside0.mk (below_then HB.out HB.out.size hb); have d2_ := Aside0.mk (Kd.R_below HR.out hb); clear HR; have HR := d2_; clear d2_; clear HB; have HB := d_; clear d_; clear h0 h1; have h0 := (HB.out.cell (World.block_lt_of_cell? w _ G0.out)).trans G0.out; have h1 := (HB.out.cell (World.block_lt_of_cell? w _ G1.out)).trans G1.out; clear hb; rw [HQ.out]; refine ⟨_, rfl, ?_⟩) | (go_at_call 50; go_must (refine (Below50.calls xk k _ HSZ.out).mono ?_); rintro e w5 ⟨rfl, hb⟩; have d_ := Aside0.mk (below_then HB.out HB.out.size hb); have d2_ := Aside0.mk (Kd.R_below HR.out hb); clear HR; have HR := d2_; clear d2_; clear HB; have HB := d_; clear d_; clear h0 h1; have h0 := (HB.out.cell (World.block_lt_of_cell? w _ G0.out)).trans G0.out; have h1 := (HB.out.cell (World.block_lt_of_cell? w _ G1.out)).trans G1.out; clear hb; rw [HQ.out]) | ((with_reducible refine gate_builtin (b := .append) (xs := #[.tmp 38, .tmp 42]) rfl ?_); at_builtin; go_must (refine Kd.R_append k69 (w0 := w) w.heap.size rfl (.tmp 38) (.tmp 42) 43 69 (.agg #[(.string ⟨#[]⟩), (.string ⟨#[]⟩)]) 32 rfl Try.underlying43 info69 rfl (by decide) (by decide) u8 acc (⟨k, v⟩ : S69) [.string k, .string v] (fun _ => True) (fun _ => False) rfl rfl (k69_mkM _ _ _ (⟨k, v⟩ : S69)) (fun _ hk => hk.elim) (fun _ _ => trivial) HR.out HB.out HB.out.size HLN.out ?_); intro v3 w3 ho hb hg hat; clear HB HR ; have HB := Aside0.mk hb; have HR := Aside0.mk ho; clear h0 h1; have h0 := (HB.out.cell (World.block_lt_of_cell? w _ G0.out)).trans G0.out; have h1 := (HB.out.cell (World.block_lt_of_cell? w _ G1.out)).trans G1.out; clear ho hb hg hat))
            go_wp2
            go_roundg (l.length - (i + 1))
            case measure => omega
            case rel => exact ⟨i + 1, true, acc ++ [⟨k, v⟩], by omega, by have := HLA.out (by trivial); simp; omega, by simp, by omega, rfl, by go_num, HB, HR, ⟨by have e := HE.out; rw [HST.out, HQ.out, if_pos (by trivial), if_pos (eq_of_beq HK.out)] at e; simpa using e⟩⟩
          | false =>
            go_wp2_with (first | ((with_reducible refine gate_callee (f := 50) rfl ?_); refine goesL_ (some 35) rfl rfl Try.func50 (by kernel_rfl) rfl #[.string xk, .string k] rfl (by (try simp only [List.map_toArray, List.map_cons, List.map_nil]); first | done | rfl) ?_; go_must (refine (Below50.calls xk k _ HSZ.out).mono ?_); rintro e w5 ⟨rfl, hb⟩; have d_ := Aside0.mk (below_then HB.out HB.out.size hb); have d2_ := Aside0.mk (Kd.R_below HR.out hb); clear HR; have HR := d2_; clear d2_; clear HB; have HB := d_; clear d_; clear h0 h1; have h0 := (HB.out.cell (World.block_lt_of_cell? w _ G0.out)).trans G0.out; have h1 := (HB.out.cell (World.block_lt_of_cell? w _ G1.out)).trans G1.out; clear hb; rw [HQ.out]; refine ⟨_, rfl, ?_⟩) | (go_at_call 50; go_must (refine (Below50.calls xk k _ HSZ.out).mono ?_); rintro e w5 ⟨rfl, hb⟩; have d_ := Aside0.mk (below_then HB.out HB.out.size hb); have d2_ := Aside0.mk (Kd.R_below HR.out hb); clear HR; have HR := d2_; clear d2_; clear HB; have HB := d_; clear d_; clear h0 h1; have h0 := (HB.out.cell (World.block_lt_of_cell? w _ G0.out)).trans G0.out; have h1 := (HB.out.cell (World.block_lt_of_cell? w _ G1.out)).trans G1.out; clear hb; rw [HQ.out]) | ((with_reducible refine gate_builtin (b := .append) (xs := #[.tmp 38, .tmp 42]) rfl ?_); at_builtin; go_must (refine Kd.R_append k69 (w0 := w) w.heap.size rfl (.tmp 38) (.tmp 42) 43 69 (.agg #[(.string ⟨#[]⟩), (.string ⟨#[]⟩)]) 32 rfl Try.underlying43 info69 rfl (by decide) (by decide) u8 acc (⟨k, v⟩ : S69) [.string k, .string v] (fun _ => True) (fun _ => False) rfl rfl (k69_mkM _ _ _ (⟨k, v⟩ : S69)) (fun _ hk => hk.elim) (fun _ _ => trivial) HR.out HB.out HB.out.size HLN.out ?_); intro v3 w3 ho hb hg hat; clear HB HR ; have HB := Aside0.mk hb; have HR := Aside0.mk ho; clear h0 h1; have h0 := (HB.out.cell (World.block_lt_of_cell? w _ G0.out)).trans G0.out; have h1 := (HB.out.cell (World.block_lt_of_cell? w _ G1.out)).trans G1.out; clear ho hb hg hat) | ((with_reducible refine gate_builtin (b := .append) (xs := #[.tmp 51, .tmp 56]) rfl ?_); at_builtin; go_must (refine Kd.R_append k69 (w0 := w) w.heap.size rfl (.tmp 51) (.tmp 56) 43 69 (.agg #[(.string ⟨#[]⟩), (.string ⟨#[]⟩)]) 32 rfl Try.underlying43 info69 rfl (by decide) (by decide) v3 (acc ++ [(⟨k, v⟩ : S69)]) (⟨xk, xv⟩ : S69) [.string xk, .string xv] (fun _ => True) (fun _ => False) rfl rfl (k69_mkM _ _ _ (⟨xk, xv⟩ : S69)) (fun _ hk => hk.elim) (fun _ _ => trivial) HR.out HB.out HB.out.size (HLN1.out (by trivial)) ?_); intro v4 w4 ho hb hg hat; clear HB HR ; have HB := Aside0.mk hb; have HR := Aside0.mk ho; clear h0 h1; have h0 := (HB.out.cell (World.block_lt_of_cell? w _ G0.out)).trans G0.out; have h1 := (HB.out.cell (World.block_lt_of_cell? w _ G1.out)).trans G1.out; clear ho hb hg hat))
            go_wp2
            go_roundg (l.length - (i + 1))
            case measure => omega
            case rel => exact ⟨i + 1, true, acc ++ [⟨k, v⟩] ++ [⟨xk, xv⟩], by omega, by have := HLA.out (by trivial); simp; omega, by simp, by omega, rfl, by go_num, HB, HR, ⟨by have e := HE.out; rw [HST.out, HQ.out, if_pos (by trivial), if_neg (ne_of_beqF HK.out)] at e; simpa using e⟩⟩
    · have hiz : ¬ (i : Int) < (l.length : Int) := by omega
      have HLN : Aside0 ((acc.length + 1) * 32 ≤ 140737488355328) := ⟨by have := HACC.out; omega⟩
      cases laid with
      | true =>
        have HF : Aside0 (acc = D) := ⟨by have e := HE.out; rw [List.drop_of_length_le (by omega)] at e; simpa [putGo] using e⟩
        go_wp2
        go_ret2
        exact ⟨_, rfl, by rw [← HF.out]; exact Rd.of_R HR.out, HB.out⟩
      | false =>
        have HF : Aside0 (acc ++ [⟨k, v⟩] = D) := ⟨by have e := HE.out; rw [List.drop_of_length_le (by omega)] at e; simpa [putGo] using e⟩
        go_wp2_with (first | ((with_reducible refine gate_builtin (b := .append) (xs := #[.tmp 60, .tmp 64]) rfl ?_); at_builtin; go_must (refine Kd.R_append k69 (w0 := w) w.heap.size rfl (.tmp 60) (.tmp 64) 43 69 (.agg #[(.string ⟨#[]⟩), (.string ⟨#[]⟩)]) 32 rfl Try.underlying43 info69 rfl (by decide) (by decide) u8 acc (⟨k, v⟩ : S69) [.string k, .string v] (fun _ => True) (fun _ => False) rfl rfl (k69_mkM _ _ _ (⟨k, v⟩ : S69)) (fun _ hk => hk.elim) (fun _ _ => trivial) HR.out HB.out HB.out.size HLN.out ?_); intro v5 w5 ho hb hg hat; clear HB HR ; have HB := Aside0.mk hb; have HR := Aside0.mk ho; clear ho hb hg hat))
        go_ret2
        exact ⟨_, rfl, by rw [← HF.out]; exact Rd.of_R HR.out, HB.out⟩
set_option maxHeartbeats 8000000 in
set_option maxRecDepth 100000 in
theorem Drop10.calls (l : List S69) (k : ByteArray) (r1 : List S69) (r2 : Int) (h : drop10 l k = (r1, r2)) (A : Option Addr) (c : Nat) (w : World) (hl : l.length ≤ 1000000000000) (hC : Kd.C k69 w A l.length l) (hc : l.length ≤ c) :
    Calls Try.prog 52 #[.slice A l.length c, .string k] w fun e w' => ∃ v0, e = .returned (.tuple #[v0, .int .i64 r2]) ∧ Rd k69 w' v0 r1 ∧ Below w.heap.size w w' := by
  have HC := Aside0.mk hC
  have HCC := Aside0.mk hc
  have HB := Aside0.mk (Below.refl w.heap.size w)
  obtain ⟨r, e0, hge⟩ : ∃ r e0, get10 l k = (r, e0) := ⟨_, _, rfl⟩
  have hg := Get10.calls l k r e0 hge A c w (by omega) hC hc
  have HHB := Aside0.mk (show (get10 l k).2 = e0 by rw [hge])
  have he0 : e0 = 0 ∨ e0 = 7 := by rw [← HHB.out]; exact get10_err k l
  clear hC hc hge
  rcases he0 with rfl | rfl
  rotate_left
  · have HG := Aside0.mk hg
    obtain ⟨rfl, rfl⟩ : l = r1 ∧ (7 : Int) = r2 := by unfold drop10 at h; rw [HHB.out, if_neg (by omega)] at h; simpa using h
    clear hg h
    go_enter Try.func52, Try.ntmps52
    go_wp2_with (first | (go_at_call 26; go_must (refine (HG.out).mono ?_); rintro e w2 ⟨rfl, hb⟩; have d_ := Aside0.mk (below_then HB.out HB.out.size hb); clear HB; have HB := d_; clear d_; clear hb))
    go_ret2
    exact ⟨_, rfl, ⟨A, c, rfl, HCC.out, Kd.C_below HC.out HB.out⟩, HB.out⟩
  · have HG := Aside0.mk hg
    obtain ⟨D, rfl, hD⟩ : ∃ D, D = r1 ∧ dropGo k l = D := ⟨r1, rfl, by unfold drop10 at h; rw [HHB.out, if_pos rfl] at h; exact (Prod.mk.inj h).1⟩
    obtain rfl : (0 : Int) = r2 := by unfold drop10 at h; rw [HHB.out, if_pos rfl] at h; exact (Prod.mk.inj h).2
    have HD := Aside0.mk hD
    clear hg hD h
    go_enter Try.func52, Try.ntmps52
    go_wp2_with (first | (go_at_call 26; go_must (refine (HG.out).mono ?_); rintro e w2 ⟨rfl, hb⟩; have d_ := Aside0.mk (below_then HB.out HB.out.size hb); clear HB; have HB := d_; clear d_; clear hb))
    go_loopg [8, 9] l.length (fun gg s8 s9 wr => ∃ (i : Nat) (acc : List S69), i ≤ l.length ∧ acc.length ≤ i ∧ l.length - i ≤ gg ∧ s9 = .int .i64 i ∧ Aside0 (Below w.heap.size w wr) ∧ Aside0 (Kd.R k69 69 wr w.heap.size (fun _ => True) s8 acc) ∧ Aside0 (acc ++ dropGo k (l.drop i) = D))
    case atStart => exact ⟨0, [], Nat.zero_le _, by simp, by omega, rfl, HB, ⟨Kd.R_nil _ _ _ _ _⟩, ⟨by simpa using HD.out⟩⟩
    case round =>
      clear HB
      obtain ⟨i, acc, hi, hacc, hgg, rfl, HB, HR, HE⟩ := hrel
      have HACC := Aside0.mk hacc
      have hlz : (l.length : Int) ≤ 1000000000000 := by omega
      clear hacc
      by_cases hil : i < l.length
      · have hiz : (i : Int) < (l.length : Int) := by omega
        obtain ⟨ad, e, g0, g1⟩ := at_T69 HC.out (i : Int) (by omega) hiz
        cases e
        rw [rdT69_get l i hil] at g0 g1
        simp only [Int.toNat_natCast] at g0 g1
        have hst := dropGo_step hil k
        obtain ⟨xk, xv, hx⟩ : ∃ xk xv, l[i] = ⟨xk, xv⟩ := ⟨_, _, rfl⟩
        rw [hx] at g0 g1 hst
        simp only at g0 g1 hst
        have h0 := (HB.out.cell (World.block_lt_of_cell? w _ g0)).trans g0
        have h1 := (HB.out.cell (World.block_lt_of_cell? w _ g1)).trans g1
        obtain ⟨q2, hk⟩ : ∃ q, (xk.toList == k.toList) = q := ⟨_, rfl⟩
        rw [hk] at hst
        have HST := Aside0.mk hst
        have HLN : Aside0 ((acc.length + 1) * 32 ≤ 140737488355328) := ⟨by have := HACC.out; omega⟩
        clear g0 g1 hst hx
        cases q2 with
        | true =>
          go_wp2
          go_roundg (l.length - (i + 1))
          case measure => omega
          case rel => exact ⟨i + 1, acc, by omega, by have := HACC.out; omega, by omega, by go_num, HB, HR, ⟨by have e := HE.out; rw [HST.out, if_pos (by trivial)] at e; simpa using e⟩⟩
        | false =>
          go_wp2_with (first | ((with_reducible refine gate_builtin (b := .append) (xs := #[.tmp 32, .tmp 37]) rfl ?_); at_builtin; go_must (refine Kd.R_append k69 (w0 := w) w.heap.size rfl (.tmp 32) (.tmp 37) 43 69 (.agg #[(.string ⟨#[]⟩), (.string ⟨#[]⟩)]) 32 rfl Try.underlying43 info69 rfl (by decide) (by decide) u8 acc (⟨xk, xv⟩ : S69) [.string xk, .string xv] (fun _ => True) (fun _ => False) rfl rfl (k69_mkM _ _ _ (⟨xk, xv⟩ : S69)) (fun _ hk => hk.elim) (fun _ _ => trivial) HR.out HB.out HB.out.size HLN.out ?_); intro v4 w4 ho hb hg hat; clear HB HR ; have HB := Aside0.mk hb; have HR := Aside0.mk ho; clear ho hb hg hat))
          go_wp2
          go_roundg (l.length - (i + 1))
          case measure => omega
          case rel => exact ⟨i + 1, acc ++ [⟨xk, xv⟩], by omega, by have := HACC.out; simp; omega, by omega, by go_num, HB, HR, ⟨by have e := HE.out; rw [HST.out, if_neg (by simp)] at e; simpa using e⟩⟩
      · have hiz : ¬ (i : Int) < (l.length : Int) := by omega
        have HF : Aside0 (acc = D) := ⟨by have e := HE.out; rw [List.drop_of_length_le (by omega)] at e; simpa [dropGo] using e⟩
        go_wp2
        go_ret2
        exact ⟨_, rfl, by rw [← HF.out]; exact Rd.of_R HR.out, HB.out⟩
end Go.Proofs.Ytehcmedeeaoebaa.PB
end
section
namespace Go.Proofs.Ytehcmedeeaoebaa.PB
open Go.RowKit Go.Proofs.YtehcmedeeaoebaaW.PrintWords Go.Proofs.YtehcmedeeaoebaaW.PrintLast Go.Proofs.YtehcmedeeaoebaaW.PrintMore
set_option linter.unusedVariables false
set_option linter.unusedSimpArgs false
theorem putGo_length (k v : ByteArray) : ∀ (l : List S69) (b : Bool), (putGo k v l b).length ≤ l.length + 1 ∧ (b = true → (putGo k v l b).length ≤ l.length)
  | [], b => by cases b <;> simp [putGo]
  | x :: r, b => by
    have h1 := putGo_length k v r (b || !ltS x.f0 k)
    rw [putGo]
    cases b with
    | true =>
      simp only [Bool.true_or] at h1
      have := h1.2 (by trivial)
      simp only [List.length_append, List.length_cons, Bool.true_or]
      refine ⟨?_, fun _ => ?_⟩ <;> split <;> split <;> simp_all <;> omega
    | false =>
      simp only [Bool.false_or] at h1
      refine ⟨?_, fun h => by cases h⟩
      cases hq : ltS x.f0 k with
      | true =>
        rw [hq] at h1
        have := h1.1
        simp only [List.length_append, List.length_cons]
        split <;> split <;> simp_all <;> omega
      | false =>
        rw [hq] at h1
        have := h1.2 (by simp)
        simp only [List.length_append, List.length_cons]
        split <;> split <;> simp_all <;> omega
theorem put10_length (l : List S69) (k v : ByteArray) : (put10 l k v).1.length ≤ l.length + 1 := by
  unfold put10
  split
  · simp
  · exact (putGo_length k v l false).1
theorem drop10_length (l : List S69) (k : ByteArray) : (drop10 l k).1.length ≤ l.length := by
  unfold drop10
  split
  · exact List.length_filter_le _ _
  · exact Nat.le_refl _
def sortGo (acc : List S69) (l : List S69) : List S69 := l.foldl (fun a x => (put10 a x.f0 x.f1).1) acc
def sorted15 (l : List S69) : List S69 := sortGo [] l
def turn12 (a : List S69) (x : S52) : List S69 := if x.f2 = true then (drop10 a x.f0).1 else (put10 a x.f0 x.f1).1
def fits12 (x : S52) : Bool := !(decide (128 < x.f0.size) || decide (200 < x.f1.size))
def changed12 (l : List S69) (c : List S52) : List S69 × Bool := if c.all fits12 = true then (c.foldl turn12 l, true) else ([], false)
set_option maxHeartbeats 8000000 in
set_option maxRecDepth 100000 in
theorem sorted15.calls (l : List S69) (D : List S69) (h : sorted15 l = D) (A : Option Addr) (c : Nat) (w : World) (hl : l.length ≤ 100000000000) (hC : Kd.C k69 w A l.length l) (hc : l.length ≤ c) :
    Calls Try.prog 23 #[.slice A l.length c] w fun e w' => ∃ v0, e = .returned v0 ∧ Rd k69 w' v0 D ∧ Below w.heap.size w w' := by
  have HC := Aside0.mk hC
  have HB := Aside0.mk (Below.refl w.heap.size w)
  have HD := Aside0.mk (show sortGo [] l = D from h)
  clear hC hc h
  go_enter Try.func23, Try.ntmps23
  go_wp2
  go_loopg [3, 4] l.length (fun gg s3 s4 wr => ∃ (i : Nat) (acc : List S69), i ≤ l.length ∧ acc.length ≤ i ∧ l.length - i ≤ gg ∧ s4 = .int .i64 i ∧ Aside0 (Below w.heap.size w wr) ∧ Aside0 (Rd k69 wr s3 acc) ∧ Aside0 (sortGo acc (l.drop i) = D))
  case atStart => exact ⟨0, [], Nat.zero_le _, by simp, by omega, rfl, HB, ⟨Rd.nil _ _⟩, ⟨by simpa using HD.out⟩⟩
  case round =>
    clear HB
    obtain ⟨i, acc, hi, hacc, hgg, rfl, HB, HR, HE⟩ := hrel
    have hlz : (l.length : Int) ≤ 100000000000 := by omega
    have HACC := Aside0.mk hacc
    have HRD := HR
    obtain ⟨Aa, ca, rfl, hca, hCa⟩ := HR.out
    have HCA := Aside0.mk hca
    have HCaa := Aside0.mk hCa
    clear hca hCa HR hacc
    by_cases hil : i < l.length
    · have hiz : (i : Int) < (l.length : Int) := by omega
      obtain ⟨ad, e, g0, g1⟩ := at_T69 HC.out (i : Int) (by omega) hiz
      cases e
      rw [rdT69_get l i hil] at g0 g1
      simp only [Int.toNat_natCast] at g0 g1
      obtain ⟨xk, xv, hx⟩ : ∃ xk xv, l[i] = ⟨xk, xv⟩ := ⟨_, _, rfl⟩
      have HST : Aside0 (∀ a, sortGo a (l.drop i) = sortGo (put10 a xk xv).1 (l.drop (i + 1))) := ⟨fun a => by rw [List.drop_eq_getElem_cons hil, hx]; rfl⟩
      rw [hx] at g0 g1
      simp only at g0 g1
      have G0 := Aside0.mk g0
      have G1 := Aside0.mk g1
      clear g0 g1 hx
      have h0 := (HB.out.cell (World.block_lt_of_cell? w _ G0.out)).trans G0.out
      have h1 := (HB.out.cell (World.block_lt_of_cell? w _ G1.out)).trans G1.out
      obtain ⟨acc2, e2, hp⟩ : ∃ a2 e2, put10 acc xk xv = (a2, e2) := ⟨_, _, rfl⟩
      have HP := Aside0.mk hp
      have HLE : Aside0 (acc2.length ≤ i + 1) := ⟨by have := put10_length acc xk xv; have := HACC.out; rw [hp] at *; simp at *; omega⟩
      clear hp
      go_wp2
      have hB1 := HB.out
      have hC1 := HCaa.out
      clear HRD
      go_region_held3 (fun w' => w'.cell? (ad.add (i * 2)) = some (.string xk) ∧ w'.cell? ⟨(ad.add (i * 2)).block, (ad.add (i * 2)).off + 1, none⟩ = some (.string xv) ∧ Kd.C k69 w' Aa acc.length acc ∧ Below w.heap.size w w')
        (first
          | exact ⟨h0, h1, Kd.C_drew hC1, below_drew hB1⟩
          | (go_split_ands
             refine ⟨?_, ?_, ?_, ?_⟩
             · exact pw_cell_below hb (by assumption)
             · exact pw_cell_below hb (by assumption)
             · exact Kd.C_below (by assumption) hb
             · exact below_then (by assumption) (Below.size (by assumption)) hb))
        (first
          | (go_at_call 51; go_must (refine (Put10.calls acc xk xv acc2 e2 HP.out Aa ca _ (by have := HACC.out; omega) (by assumption) HCA.out).mono ?_); rintro e w' ⟨v3, rfl, hr, hb⟩))
      have hH : w'.cell? (ad.add (i * 2)) = some (.string xk) ∧ w'.cell? ⟨(ad.add (i * 2)).block, (ad.add (i * 2)).off + 1, none⟩ = some (.string xv) ∧ Kd.C k69 w' Aa acc.length acc ∧ Below w.heap.size w w' := by assumption
      have HR := Aside0.mk (show Rd k69 w' v3 acc2 by assumption)
      have HB3 := Aside0.mk hH.2.2.2
      clear hH
      go_wp2
      go_roundg (l.length - (i + 1))
      case measure => omega
      case rel => exact ⟨i + 1, acc2, by omega, HLE.out, by omega, by go_num, HB3, HR, ⟨by have e := HE.out; rw [HST.out, HP.out] at e; exact e⟩⟩
    · have hiz : ¬ (i : Int) < (l.length : Int) := by omega
      have HF : Aside0 (acc = D) := ⟨by have e := HE.out; rw [List.drop_of_length_le (by omega)] at e; exact e⟩
      go_wp2
      go_ret
      exact ⟨_, rfl, by rw [← HF.out]; exact HRD.out, HB.out⟩
theorem fits_all {c : List S52} {i : Nat} (hi : i < c.length) (h : fits12 c[i] = false) : c.all fits12 = false := by
  rw [← Bool.not_eq_true, List.all_eq_true]
  intro ha
  rw [ha _ (List.getElem_mem hi)] at h
  cases h
set_option maxHeartbeats 8000000 in
set_option maxRecDepth 100000 in
theorem changed12.calls (l : List S69) (cs : List S52) (r1 : List S69) (r2 : Bool) (h : changed12 l cs = (r1, r2)) (A : Option Addr) (c : Nat) (A1 : Option Addr) (c1 : Nat) (w : World) (hl : l.length ≤ 100000000000) (hl1 : cs.length ≤ 100000000000) (hC : Kd.C k69 w A l.length l) (hc : l.length ≤ c) (hC1 : Kd.C k52 w A1 cs.length cs) (hc1 : cs.length ≤ c1) :
    Calls Try.prog 24 #[.slice A l.length c, .slice A1 cs.length c1] w fun e w' => ∃ v0, e = .returned (.tuple #[v0, .bool r2]) ∧ Rd k69 w' v0 r1 ∧ Below w.heap.size w w' := by
  have HC := Aside0.mk (show Rd k69 w (.slice A l.length c) l from ⟨A, c, rfl, hc, hC⟩)
  have HC1 := Aside0.mk hC1
  have HB := Aside0.mk (Below.refl w.heap.size w)
  have HH := Aside0.mk h
  clear hC hc hC1 hc1 h
  have hlz : (cs.length : Int) ≤ 100000000000 := by omega
  go_enter Try.func24, Try.ntmps24
  go_wp2
  go_loopg [6] cs.length (fun gg s6 wr => ∃ (i : Nat), i ≤ cs.length ∧ cs.length - i ≤ gg ∧ s6 = .int .i64 i ∧ Aside0 (Below w.heap.size w wr) ∧ Aside0 (∀ j, (hj : j < cs.length) → j < i → fits12 cs[j] = true))
  case atStart => exact ⟨0, Nat.zero_le _, by omega, rfl, HB, ⟨fun j _ hj => absurd hj (Nat.not_lt_zero _)⟩⟩
  case round =>
    clear HB
    obtain ⟨i, hi, hgg, rfl, HB, HA⟩ := hrel
    by_cases hil : i < cs.length
    · have hiz : (i : Int) < (cs.length : Int) := by omega
      obtain ⟨ad, e, g0, g1, g2⟩ := at_T52 HC1.out (i : Int) (by omega) hiz
      cases e
      rw [rdT52_get cs i hil] at g0 g1 g2
      simp only [Int.toNat_natCast] at g0 g1 g2
      obtain ⟨xk, xv, xd, hx⟩ : ∃ xk xv xd, cs[i] = ⟨xk, xv, xd⟩ := ⟨_, _, _, rfl⟩
      have HX := Aside0.mk hx
      rw [hx] at g0 g1 g2
      simp only at g0 g1 g2
      have h0 := (HB.out.cell (World.block_lt_of_cell? w _ g0)).trans g0
      have h1 := (HB.out.cell (World.block_lt_of_cell? w _ g1)).trans g1
      clear g0 g1 g2 hx
      by_cases c1 : (128 : Int) < (xk.size : Int)
      · have HF : Aside0 ([] = r1 ∧ false = r2) := ⟨by
          have e := HH.out
          unfold changed12 at e
          rw [fits_all hil (by rw [HX.out]; unfold fits12; simp; omega), if_neg (by simp)] at e
          exact ⟨(Prod.mk.inj e).1, (Prod.mk.inj e).2⟩⟩
        go_wp2
        go_ret2
        exact ⟨.slice none 0 0, by rw [← HF.out.2] <;> rfl, by rw [← HF.out.1]; exact Rd.nil _ _, HB.out⟩
      by_cases c2 : (200 : Int) < (xv.size : Int)
      · have HF : Aside0 ([] = r1 ∧ false = r2) := ⟨by
          have e := HH.out
          unfold changed12 at e
          rw [fits_all hil (by rw [HX.out]; unfold fits12; simp; omega), if_neg (by simp)] at e
          exact ⟨(Prod.mk.inj e).1, (Prod.mk.inj e).2⟩⟩
        go_wp2
        go_ret2
        exact ⟨.slice none 0 0, by rw [← HF.out.2] <;> rfl, by rw [← HF.out.1]; exact Rd.nil _ _, HB.out⟩
      have HF : Aside0 (fits12 cs[i] = true) := ⟨by rw [HX.out]; unfold fits12; simp; omega⟩
      go_wp2
      go_roundg (cs.length - (i + 1))
      case measure => omega
      case rel =>
        refine ⟨i + 1, by omega, by omega, by go_num, HB, ⟨fun j hj hlt => ?_⟩⟩
        by_cases e : j = i
        · subst e; exact HF.out
        · exact HA.out j hj (by omega)
    · have hiz : ¬ (i : Int) < (cs.length : Int) := by omega
      have HD : Aside0 (cs.foldl turn12 l = r1 ∧ true = r2) := ⟨by
        have e := HH.out
        unfold changed12 at e
        rw [if_pos (by rw [List.all_eq_true]; intro x hx; obtain ⟨j, hj, rfl⟩ := List.getElem_of_mem hx; exact HA.out j hj (by omega))] at e
        exact ⟨(Prod.mk.inj e).1, (Prod.mk.inj e).2⟩⟩
      clear HA HH
      go_wp2
      go_loopg [0, 7] cs.length (fun gg s0 s7 wr => ∃ (i : Nat) (acc : List S69), i ≤ cs.length ∧ acc.length ≤ l.length + i ∧ cs.length - i ≤ gg ∧ s7 = .int .i64 i ∧ Aside0 (Below w.heap.size w wr) ∧ Aside0 (Rd k69 wr s0 acc) ∧ Aside0 ((cs.drop i).foldl turn12 acc = r1))
      case atStart => exact ⟨0, l, Nat.zero_le _, by omega, by omega, rfl, HB, ⟨HC.out.below HB.out⟩, ⟨by rw [List.drop_zero]; exact HD.out.1⟩⟩
      case round =>
        clear HB
        obtain ⟨i, acc, hi, hacc, hgg, rfl, HB, HRD, HE⟩ := hrel
        have HACC := Aside0.mk hacc
        clear hacc
        by_cases hil : i < cs.length
        · have hiz : (i : Int) < (cs.length : Int) := by omega
          obtain ⟨ad, e, g0, g1, g2⟩ := at_T52 HC1.out (i : Int) (by omega) hiz
          cases e
          rw [rdT52_get cs i hil] at g0 g1 g2
          simp only [Int.toNat_natCast] at g0 g1 g2
          obtain ⟨xk, xv, xd, hx⟩ : ∃ xk xv xd, cs[i] = ⟨xk, xv, xd⟩ := ⟨_, _, _, rfl⟩
          have HST : Aside0 ((cs.drop i).foldl turn12 acc = (cs.drop (i + 1)).foldl turn12 (turn12 acc ⟨xk, xv, xd⟩)) := ⟨by rw [List.drop_eq_getElem_cons hil, hx]; rfl⟩
          rw [hx] at g0 g1 g2
          simp only at g0 g1 g2
          have h0 := (HB.out.cell (World.block_lt_of_cell? w _ g0)).trans g0
          have h1 := (HB.out.cell (World.block_lt_of_cell? w _ g1)).trans g1
          have h2 := (HB.out.cell (World.block_lt_of_cell? w _ g2)).trans g2
          obtain ⟨Aa, ca, rfl, hca, hCa⟩ := HRD.out
          have HCA := Aside0.mk hca
          have HCaa := Aside0.mk hCa
          clear g0 g1 g2 hx hca hCa HRD
          cases xd with
          | true =>
            obtain ⟨acc2, e2, hp⟩ : ∃ a2 e2, drop10 acc xk = (a2, e2) := ⟨_, _, rfl⟩
            have HP := Aside0.mk hp
            have HT : Aside0 (turn12 acc ⟨xk, xv, true⟩ = acc2) := ⟨by show (drop10 acc xk).1 = acc2; rw [hp]⟩
            have HLE : Aside0 (acc2.length ≤ l.length + i) := ⟨by have := drop10_length acc xk; have := HACC.out; rw [hp] at *; simp at *; omega⟩
            clear hp
            go_wp2_with (go_at_call 52; go_must (refine (Drop10.calls acc xk acc2 e2 HP.out Aa ca _ (by have := HACC.out; omega) HCaa.out HCA.out).mono ?_); rintro e w3 ⟨v3, rfl, hr, hb⟩; have d_ := Aside0.mk (below_then HB.out HB.out.size hb); have HR := Aside0.mk hr; clear HB hr; have HB := d_; clear d_ hb)
            go_wp2
            go_roundg (cs.length - (i + 1))
            case measure => omega
            case rel => exact ⟨i + 1, acc2, by omega, by have := HLE.out; omega, by omega, by go_num, HB, HR, ⟨by have e := HE.out; rwa [HST.out, HT.out] at e⟩⟩
          | false =>
            obtain ⟨acc2, e2, hp⟩ : ∃ a2 e2, put10 acc xk xv = (a2, e2) := ⟨_, _, rfl⟩
            have HP := Aside0.mk hp
            have HT : Aside0 (turn12 acc ⟨xk, xv, false⟩ = acc2) := ⟨by show (put10 acc xk xv).1 = acc2; rw [hp]⟩
            have HLE : Aside0 (acc2.length ≤ l.length + (i + 1)) := ⟨by have := put10_length acc xk xv; have := HACC.out; rw [hp] at *; simp at *; omega⟩
            clear hp
            go_wp2
            have hB1 := HB.out
            have hC1 := HCaa.out
            go_region_held3 (fun w' => w'.cell? (ad.add (i * 3)) = some (.string xk) ∧ w'.cell? ⟨(ad.add (i * 3)).block, (ad.add (i * 3)).off + 1, none⟩ = some (.string xv) ∧ Kd.C k69 w' Aa acc.length acc ∧ Below w.heap.size w w')
              (first
                | exact ⟨h0, h1, Kd.C_drew hC1, below_drew hB1⟩
                | (go_split_ands
                   refine ⟨?_, ?_, ?_, ?_⟩
                   · exact pw_cell_below hb (by assumption)
                   · exact pw_cell_below hb (by assumption)
                   · exact Kd.C_below (by assumption) hb
                   · exact below_then (by assumption) (Below.size (by assumption)) hb))
              (first
                | (go_at_call 51; go_must (refine (Put10.calls acc xk xv acc2 e2 HP.out Aa ca _ (by have := HACC.out; omega) (by assumption) HCA.out).mono ?_); rintro e w' ⟨v3, rfl, hr, hb⟩))
            have hH : w'.cell? (ad.add (i * 3)) = some (.string xk) ∧ w'.cell? ⟨(ad.add (i * 3)).block, (ad.add (i * 3)).off + 1, none⟩ = some (.string xv) ∧ Kd.C k69 w' Aa acc.length acc ∧ Below w.heap.size w w' := by assumption
            have HR := Aside0.mk (show Rd k69 w' v3 acc2 by assumption)
            have HB3 := Aside0.mk hH.2.2.2
            clear hH
            go_wp2
            go_roundg (cs.length - (i + 1))
            case measure => omega
            case rel => exact ⟨i + 1, acc2, by omega, HLE.out, by omega, by go_num, HB3, HR, ⟨by have e := HE.out; rwa [HST.out, HT.out] at e⟩⟩
        · have hiz : ¬ (i : Int) < (cs.length : Int) := by omega
          have HF : Aside0 (acc = r1) := ⟨by have e := HE.out; rw [List.drop_of_length_le (by omega)] at e; exact e⟩
          go_wp2
          go_ret2
          exact ⟨_, by rw [← HD.out.2] <;> rfl, by rw [← HF.out]; exact HRD.out, HB.out⟩
end Go.Proofs.Ytehcmedeeaoebaa.PB
end
section
namespace Go.Proofs.Ytehcmedeeaoebaa.PB
open Go.RowKit Go.Proofs.YtehcmedeeaoebaaW.PrintWords Go.Proofs.YtehcmedeeaoebaaW.PrintLast Go.Proofs.YtehcmedeeaoebaaW.PrintMore
set_option linter.unusedVariables false
set_option linter.unusedSimpArgs false
theorem ne_of_beq_false {a b : List UInt8} (h : (a == b) = false) : ¬ a = b := fun e => by rw [e, beq_self_eq_true] at h; cases h
def delOf (p : S69) : S52 := ⟨p.f0, ⟨#[]⟩, true⟩
def chgOf (p : S69) : S52 := ⟨p.f0, p.f1, false⟩
def diffL : List S69 → List S69 → List S52
  | us, [] => us.map delOf
  | [], b :: bs => chgOf b :: diffL [] bs
  | a :: us, b :: bs => if ltS a.f0 b.f0 = true then delOf a :: diffL us (b :: bs)
      else if a.f0.toList = b.f0.toList then if a.f1.toList = b.f1.toList then diffL us bs else chgOf b :: diffL us bs
      else chgOf b :: diffL (a :: us) bs
termination_by us bs => us.length + bs.length
def differP (us bs : List S69) : List S52 := if risesP us = true ∧ risesP bs = true then diffL us bs else []
def batch_Differ.f (k : Nat) (us bs : List S69) : Option (List S52) := if us.length + bs.length ≤ 1000000000000 then some (differP us bs) else none
theorem batch_Differ.mono : ∀ a0 a1 k, LeO (batch_Differ.f k a0 a1) (batch_Differ.f (k + 1) a0 a1) := fun _ _ _ => LeO.refl _
theorem diffL_lt {us bs : List S69} {i m : Nat} (hi : i < us.length) (hm : m < bs.length) (h : ltS us[i].f0 bs[m].f0 = true) : diffL (us.drop i) (bs.drop m) = delOf us[i] :: diffL (us.drop (i + 1)) (bs.drop m) := by
  rw [List.drop_eq_getElem_cons hi, List.drop_eq_getElem_cons hm, diffL, if_pos h]
theorem diffL_same {us bs : List S69} {i m : Nat} (hi : i < us.length) (hm : m < bs.length) (h : ltS us[i].f0 bs[m].f0 = false) (h1 : us[i].f0.toList = bs[m].f0.toList) (h2 : us[i].f1.toList = bs[m].f1.toList) : diffL (us.drop i) (bs.drop m) = diffL (us.drop (i + 1)) (bs.drop (m + 1)) := by
  rw [List.drop_eq_getElem_cons hi, List.drop_eq_getElem_cons hm, diffL, if_neg (by rw [h]; exact Bool.false_ne_true), if_pos h1, if_pos h2]
theorem diffL_chg {us bs : List S69} {i m : Nat} (hi : i < us.length) (hm : m < bs.length) (h : ltS us[i].f0 bs[m].f0 = false) (h1 : us[i].f0.toList = bs[m].f0.toList) (h2 : ¬ us[i].f1.toList = bs[m].f1.toList) : diffL (us.drop i) (bs.drop m) = chgOf bs[m] :: diffL (us.drop (i + 1)) (bs.drop (m + 1)) := by
  rw [List.drop_eq_getElem_cons hi, List.drop_eq_getElem_cons hm, diffL, if_neg (by rw [h]; exact Bool.false_ne_true), if_pos h1, if_neg h2]
theorem diffL_new {us bs : List S69} {i m : Nat} (hi : i < us.length) (hm : m < bs.length) (h : ltS us[i].f0 bs[m].f0 = false) (h1 : ¬ us[i].f0.toList = bs[m].f0.toList) : diffL (us.drop i) (bs.drop m) = chgOf bs[m] :: diffL (us.drop i) (bs.drop (m + 1)) := by
  rw [List.drop_eq_getElem_cons hi, List.drop_eq_getElem_cons hm, diffL, if_neg (by rw [h]; exact Bool.false_ne_true), if_neg h1]
theorem diffL_end {us bs : List S69} {i m : Nat} (hi : us.length ≤ i) (hm : m < bs.length) : diffL (us.drop i) (bs.drop m) = chgOf bs[m] :: diffL (us.drop i) (bs.drop (m + 1)) := by
  rw [List.drop_of_length_le hi, List.drop_eq_getElem_cons hm, diffL]
theorem diffL_nil (us : List S69) : diffL us [] = us.map delOf := by rw [diffL]
theorem delOf_step {us : List S69} {i : Nat} (hi : i < us.length) : (us.drop i).map delOf = delOf us[i] :: (us.drop (i + 1)).map delOf := by
  rw [List.drop_eq_getElem_cons hi, List.map_cons]
set_option maxHeartbeats 8000000 in
set_option maxRecDepth 100000 in
theorem batch_Differ.calls (k : Nat) (A0 : Option Addr) (c0 : Nat) (l0 : List S69) (A1 : Option Addr) (c1 : Nat) (l1 : List S69) (r : List S52) (w : World) (hr0 : Kd.C k69 w A0 l0.length l0) (hc0 : l0.length ≤ c0) (hr1 : Kd.C k69 w A1 l1.length l1) (hc1 : l1.length ≤ c1) (h : batch_Differ.f k l0 l1 = some r) :
    Calls Try.prog 21 #[.slice A0 l0.length c0, .slice A1 l1.length c1] w fun e w' => ∃ v0_ : Value, e = .returned v0_ ∧ Kd.R k52 52 w' w.heap.size (fun _ => True) v0_ r ∧ Below w.heap.size w w' := by
  unfold batch_Differ.f at h
  by_cases hsz : l0.length + l1.length ≤ 1000000000000
  case neg => rw [if_neg hsz] at h; cases h
  rw [if_pos hsz] at h
  obtain rfl : differP l0 l1 = r := Option.some.inj h
  have HC0 := Aside0.mk hr0
  have HC1 := Aside0.mk hr1
  have HL0 := Aside0.mk hc0
  have HL1 := Aside0.mk hc1
  have HB := Aside0.mk (Below.refl w.heap.size w)
  clear hr0 hr1 hc0 hc1 h
  obtain ⟨q0, hq0⟩ : ∃ q, risesP l0 = q := ⟨_, rfl⟩
  obtain ⟨q1, hq1⟩ : ∃ q, risesP l1 = q := ⟨_, rfl⟩
  have HR0 := Aside0.mk hq0
  have HR1 := Aside0.mk hq1
  clear hq0 hq1
  by_cases hb0 : ¬ (q0 = true ∧ q1 = true)
  · have HD := Aside0.mk (show differP l0 l1 = [] by unfold differP; rw [HR0.out, HR1.out, if_neg hb0])
    cases q0 <;> cases q1
    all_goals first | (exact absurd ⟨rfl, rfl⟩ hb0) | skip
    all_goals
      clear hb0
      go_enter Try.func21, Try.ntmps21
      go_wp2_with (first | ((with_reducible refine gate_callee (f := 48) rfl ?_); refine goesL_ (some 12) rfl rfl Try.func48 (by kernel_rfl) rfl #[.slice A0 l0.length c0] rfl (by (try simp only [List.map_toArray, List.map_cons, List.map_nil]); first | done | rfl | (simp only [List.length_drop, List.length_take]; rfl)) ?_; go_must (refine (rises.calls A0 c0 l0 _ (Kd.C_below HC0.out HB.out) HL0.out).mono ?_); rintro e w0 ⟨rfl, hb⟩; have d_ := Aside0.mk (below_then HB.out HB.out.size hb); clear HB; have HB := d_; clear d_ hb; rw [HR0.out]; refine ⟨_, rfl, ?_⟩) | (go_at_call 48; go_must (refine (rises.calls A1 c1 l1 _ (Kd.C_below HC1.out HB.out) HL1.out).mono ?_); rintro e w1 ⟨rfl, hb⟩; have d_ := Aside0.mk (below_then HB.out HB.out.size hb); clear HB; have HB := d_; clear d_ hb; rw [HR1.out]) | go_step3)
      try rw [Exit.noGoto_ret]
      go_ret
      exact ⟨_, rfl, by rw [HD.out]; exact Kd.R_nil _ _ _ _ _, HB.out⟩
  obtain ⟨rfl, rfl⟩ : q0 = true ∧ q1 = true := Classical.not_not.1 hb0
  clear hb0
  obtain ⟨D, hD⟩ : ∃ D, differP l0 l1 = D := ⟨_, rfl⟩
  have HD : Aside0 (diffL l0 l1 = D) := ⟨by rw [← hD]; unfold differP; rw [if_pos ⟨HR0.out, HR1.out⟩]⟩
  rw [hD]
  clear hD
  go_enter Try.func21, Try.ntmps21
  go_wp2_with (first | ((with_reducible refine gate_callee (f := 48) rfl ?_); refine goesL_ (some 12) rfl rfl Try.func48 (by kernel_rfl) rfl #[.slice A0 l0.length c0] rfl (by (try simp only [List.map_toArray, List.map_cons, List.map_nil]); first | done | rfl | (simp only [List.length_drop, List.length_take]; rfl)) ?_; go_must (refine (rises.calls A0 c0 l0 _ (Kd.C_below HC0.out HB.out) HL0.out).mono ?_); rintro e w0 ⟨rfl, hb⟩; have d_ := Aside0.mk (below_then HB.out HB.out.size hb); clear HB; have HB := d_; clear d_ hb; rw [HR0.out]; refine ⟨_, rfl, ?_⟩) | (go_at_call 48; go_must (refine (rises.calls A1 c1 l1 _ (Kd.C_below HC1.out HB.out) HL1.out).mono ?_); rintro e w1 ⟨rfl, hb⟩; have d_ := Aside0.mk (below_then HB.out HB.out.size hb); clear HB; have HB := d_; clear d_ hb; rw [HR1.out]) | go_step3)
  go_loopg [5, 6, 21] l1.length (fun gg s5 s6 s21 wr => ∃ (i m : Nat) (acc : List S52), m ≤ l1.length ∧ i ≤ l0.length ∧ acc.length ≤ i + m ∧ l1.length - m ≤ gg ∧ s6 = .int .i64 i ∧ s21 = .int .i64 m ∧ Aside0 (Below w.heap.size w wr) ∧ Aside0 (Kd.R k52 52 wr w.heap.size (fun _ => True) s5 acc) ∧ Aside0 (acc ++ diffL (l0.drop i) (l1.drop m) = D))
  case atStart => exact ⟨0, 0, [], Nat.zero_le _, Nat.zero_le _, by simp, by omega, rfl, rfl, HB, ⟨Kd.R_nil _ _ _ _ _⟩, ⟨by simpa using HD.out⟩⟩
  case round =>
    obtain ⟨i, m, acc, hm, hi, hacc, hgg, rfl, rfl, HB', HR, HE⟩ := hrel
    clear HB HD
    have HB := HB'
    clear HB'
    have HI := Aside0.mk hi
    have HACC := Aside0.mk hacc
    clear hi hacc
    by_cases hml : m < l1.length
    · have hmz : (m : Int) < (l1.length : Int) := by omega
      obtain ⟨ad1, e1, h0, h1⟩ := at_T69 HC1.out (m : Int) (by omega) hmz
      cases e1
      rw [rdT69_get l1 m hml] at h0 h1
      simp only [Int.toNat_natCast] at h0 h1
      obtain ⟨pk, pv, hp⟩ : ∃ pk pv, l1[m] = ⟨pk, pv⟩ := ⟨_, _, rfl⟩
      rw [hp] at h0 h1
      have HP := Aside0.mk hp
      clear hp
      simp only at h0 h1
      replace h0 := (HB.out.cell (World.block_lt_of_cell? w _ h0)).trans h0
      replace h1 := (HB.out.cell (World.block_lt_of_cell? w _ h1)).trans h1
      go_wp2_with (first | ((with_reducible refine gate_dst (N := 8) rfl ?_); refine box_event ?hg (N := 8) ?hd (cs := #[.string ⟨#[]⟩, .string ⟨#[]⟩]) (t := 69) ?hr ?_; (case hd => rfl); (case hg => rfl); (case hr => first | (go_simp; done) | (go_simp; rfl)); intro g8 hg w2 hbox hb; have G8 := Aside0.mk (show w.heap.size ≤ g8 from (by rw [hg]; exact HB.out.size)); have B8 := Aside0.mk hbox; clear hbox hg; have n0_ := Aside0.mk (below_then HB.out HB.out.size hb); have n1_ := Aside0.mk (Kd.R_below HR.out hb); clear HB HR; have HB := n0_; have HR := n1_; clear n0_ n1_; clear hb) | ((with_reducible refine gate_store (t := 69) (p := 8) (v := .tmp 24) rfl ?_); go_must (refine sagg_event rfl 69 (.tmp 8) (.tmp 24) rfl rfl g8 #[.string pk, .string pv] _ _ rfl rfl B8.out (by kernel_rfl) rfl rfl ?_); intro w3 hbk hu; have nR_ := Aside0.mk (Kd.R_mono (Kd.R_step (Kd.R_types HR.out B8.out (by decide)) (fun k_ hk_ _ => hu.block k_ hk_.2)) (fun _ hk_ => hk_.1)); clear HR; have HR := nR_; clear nR_; have n0_ := Aside0.mk (hu.below HB.out G8.out); clear HB; have HB := n0_; clear n0_; clear B8; have B8 := Aside0.mk hbk; have c80 := (blk_cell B8.out 0).trans rfl; have c81 := (blk_cell B8.out 1).trans rfl; clear hbk hu))
      go_frame
      clear h0 h1
      go_loopg [5, 6] (l0.length - i) (fun gg s5 s6 wr => ∃ (i' : Nat) (acc' : List S52), i' ≤ l0.length ∧ acc'.length ≤ i' + m ∧ l0.length - i' ≤ gg ∧ s6 = .int .i64 i' ∧ Aside0 (Below w.heap.size w wr) ∧ Aside0 (wr.heap[g8]? = some (.cells #[.string pk, .string pv] 69 (0, 0))) ∧ Aside0 (Kd.R k52 52 wr w.heap.size (fun _ => True) s5 acc') ∧ Aside0 (acc' ++ diffL (l0.drop i') (l1.drop m) = D))
      case atStart => exact ⟨i, acc, HI.out, HACC.out, by omega, rfl, HB, B8, HR, HE⟩
      case round =>
        clear HB HR HE B8 HI HACC c80 c81
        obtain ⟨i, acc, hi, hacc, hgi, rfl, HB, B8, HR, HE⟩ := hrel
        have HACC := Aside0.mk hacc
        have hln : (acc.length + 1) * 40 ≤ 140737488355328 := by omega
        have HLN := Aside0.mk hln
        clear hacc hln
        have c80 : wr.cell? ⟨g8, 0, none⟩ = some (.string pk) := (blk_cell B8.out 0).trans rfl
        have c81 : wr.cell? ⟨g8, 1, none⟩ = some (.string pv) := (blk_cell B8.out 1).trans rfl
        have hl0 : (l0.length : Int) ≤ 1000000000000 := by omega
        by_cases hil : i < l0.length
        · have hiz : (i : Int) < (l0.length : Int) := by omega
          have hd : decide ((i : Int) < (l0.length : Int)) = true := decide_eq_true hiz
          obtain ⟨ad0, e0, h0, h1⟩ := at_T69 HC0.out (i : Int) (by omega) hiz
          cases e0
          rw [rdT69_get l0 i hil] at h0 h1
          simp only [Int.toNat_natCast] at h0 h1
          obtain ⟨xk, xv, hx⟩ : ∃ xk xv, l0[i] = ⟨xk, xv⟩ := ⟨_, _, rfl⟩
          rw [hx] at h0 h1
          have HX := Aside0.mk hx
          clear hx
          simp only at h0 h1
          replace h0 := (HB.out.cell (World.block_lt_of_cell? w _ h0)).trans h0
          replace h1 := (HB.out.cell (World.block_lt_of_cell? w _ h1)).trans h1
          obtain ⟨q, hq⟩ : ∃ q, ltS xk pk = q := ⟨_, rfl⟩
          have HQ := Aside0.mk hq
          unfold ltS at hq
          cases q with
          | true =>
            go_wp2
            go_quiet (fail)
            try go_frame
            have d1_ := Aside0.mk (pw_below_drewN HB.out nq)
            have d2_ := Aside0.mk (blk_drewN B8.out nq)
            have d3_ := Aside0.mk (Kd.R_drewN HR.out nq)
            have ec80 : (wr.drewN nq).cell? ⟨g8, 0, none⟩ = some (.string pk) := c80
            have ec81 : (wr.drewN nq).cell? ⟨g8, 1, none⟩ = some (.string pv) := c81
            have eh0 : (wr.drewN nq).cell? (ad0.add (i * 2)) = some (.string xk) := h0
            have eh1 : (wr.drewN nq).cell? ⟨(ad0.add (i * 2)).block, (ad0.add (i * 2)).off + 1, none⟩ = some (.string xv) := h1
            clear HB B8 HR c80 c81 h0 h1
            revert d1_ d2_ d3_ ec80 ec81 eh0 eh1
            generalize wr.drewN nq = x1
            intro HB B8 HR c80 c81 h0 h1
            go_wp2_with (first | ((with_reducible refine gate_builtin (b := .append) (xs := #[.tmp 39, .tmp 46]) rfl ?_); at_builtin; go_must (refine Kd.R_append k52 (w0 := w) w.heap.size rfl (.tmp 39) (.tmp 46) 22 52 (.agg #[(.string ⟨#[]⟩), (.string ⟨#[]⟩), (.bool false)]) 40 rfl Try.underlying22 info52 rfl (by decide) (by decide) u5 acc (⟨xk, ⟨#[]⟩, true⟩ : S52) [.string xk, .string ⟨#[]⟩, .bool true] (fun _ => True) (fun _ => False) rfl rfl (k52_mkM _ _ _ (⟨xk, ⟨#[]⟩, true⟩ : S52)) (fun _ hk => hk.elim) (fun _ _ => trivial) HR.out HB.out HB.out.size HLN.out ?_); intro v5 w5 ho hb hg hat; have n1_ := Aside0.mk (blk_grown B8.out hg (Kd.R_ne HR.out B8.out (by decide))); clear HB B8 HR; have HB := Aside0.mk hb; have B8 := n1_; clear n1_; have HR := Aside0.mk ho; have c80 := (blk_cell B8.out 0).trans rfl; have c81 := (blk_cell B8.out 1).trans rfl; clear ho hb hg hat))
            go_wp2
            go_roundg (l0.length - (i + 1))
            case measure => omega
            case rel => exact ⟨i + 1, acc ++ [⟨xk, ⟨#[]⟩, true⟩], by omega, by have := HACC.out; simp; omega, by omega, by go_num, HB, B8, HR, ⟨by have e := HE.out; rw [diffL_lt hil hml (by rw [HX.out, HP.out]; exact HQ.out), HX.out] at e; rw [List.append_assoc]; exact e⟩⟩
          | false =>
            go_wp2
            go_quiet (fail)
            try go_frame
            have d1_ := Aside0.mk (pw_below_drewN HB.out nq)
            have d2_ := Aside0.mk (blk_drewN B8.out nq)
            have d3_ := Aside0.mk (Kd.R_drewN HR.out nq)
            have ec80 : (wr.drewN nq).cell? ⟨g8, 0, none⟩ = some (.string pk) := c80
            have ec81 : (wr.drewN nq).cell? ⟨g8, 1, none⟩ = some (.string pv) := c81
            have eh0 : (wr.drewN nq).cell? (ad0.add (i * 2)) = some (.string xk) := h0
            have eh1 : (wr.drewN nq).cell? ⟨(ad0.add (i * 2)).block, (ad0.add (i * 2)).off + 1, none⟩ = some (.string xv) := h1
            clear HB B8 HR c80 c81 h0 h1
            revert d1_ d2_ d3_ ec80 ec81 eh0 eh1
            generalize wr.drewN nq = x1
            intro HB B8 HR c80 c81 h0 h1
            obtain ⟨q2, hk⟩ : ∃ q, (xk.toList == pk.toList) = q := ⟨_, rfl⟩
            have HK := Aside0.mk hk
            cases q2 with
            | true =>
              go_wp2
              go_quiet (fail)
              try go_frame
              have d1_ := Aside0.mk (pw_below_drewN HB.out nq)
              have d2_ := Aside0.mk (blk_drewN B8.out nq)
              have d3_ := Aside0.mk (Kd.R_drewN HR.out nq)
              have ec80 : (x1.drewN nq).cell? ⟨g8, 0, none⟩ = some (.string pk) := c80
              have ec81 : (x1.drewN nq).cell? ⟨g8, 1, none⟩ = some (.string pv) := c81
              have eh0 : (x1.drewN nq).cell? (ad0.add (i * 2)) = some (.string xk) := h0
              have eh1 : (x1.drewN nq).cell? ⟨(ad0.add (i * 2)).block, (ad0.add (i * 2)).off + 1, none⟩ = some (.string xv) := h1
              clear HB B8 HR c80 c81 h0 h1
              revert d1_ d2_ d3_ ec80 ec81 eh0 eh1
              generalize x1.drewN nq = x2
              intro HB B8 HR c80 c81 h0 h1
              obtain ⟨q3, hv⟩ : ∃ q, (xv.toList == pv.toList) = q := ⟨_, rfl⟩
              have HV := Aside0.mk hv
              have p0 : (0 : Int) ≤ (i : Int) := by omega
              have p4 : IntKind.i64.wrap (i : Int) = (i : Int) := by simp [IntKind.wrap, IntKind.bits, IntKind.signed]; omega
              cases q3 with
              | true =>
                go_wp2
                go_wp2
                go_quiet (fail)
                try go_frame
                have d1_ := Aside0.mk (pw_below_drewN HB.out nq)
                have d2_ := Aside0.mk (blk_drewN B8.out nq)
                have d3_ := Aside0.mk (Kd.R_drewN HR.out nq)
                have ec80 : (x2.drewN nq).cell? ⟨g8, 0, none⟩ = some (.string pk) := c80
                have ec81 : (x2.drewN nq).cell? ⟨g8, 1, none⟩ = some (.string pv) := c81
                have eh0 : (x2.drewN nq).cell? (ad0.add (i * 2)) = some (.string xk) := h0
                have eh1 : (x2.drewN nq).cell? ⟨(ad0.add (i * 2)).block, (ad0.add (i * 2)).off + 1, none⟩ = some (.string xv) := h1
                clear HB B8 HR c80 c81 h0 h1
                revert d1_ d2_ d3_ ec80 ec81 eh0 eh1
                generalize x2.drewN nq = x3
                intro HB B8 HR c80 c81 h0 h1
                go_wp2
                go_roundg (l1.length - (m + 1))
                case measure => omega
                case rel => exact ⟨i + 1, m + 1, acc, by omega, by omega, by have := HACC.out; omega, by omega, by go_num, by go_num, HB, HR, ⟨by have e := HE.out; rwa [diffL_same hil hml (by rw [HX.out, HP.out]; exact HQ.out) (by rw [HX.out, HP.out]; exact eq_of_beq HK.out) (by rw [HX.out, HP.out]; exact eq_of_beq HV.out)] at e⟩⟩
              | false =>
                go_wp2
                go_wp2
                go_quiet (fail)
                try go_frame
                have d1_ := Aside0.mk (pw_below_drewN HB.out nq)
                have d2_ := Aside0.mk (blk_drewN B8.out nq)
                have d3_ := Aside0.mk (Kd.R_drewN HR.out nq)
                have ec80 : (x2.drewN nq).cell? ⟨g8, 0, none⟩ = some (.string pk) := c80
                have ec81 : (x2.drewN nq).cell? ⟨g8, 1, none⟩ = some (.string pv) := c81
                have eh0 : (x2.drewN nq).cell? (ad0.add (i * 2)) = some (.string xk) := h0
                have eh1 : (x2.drewN nq).cell? ⟨(ad0.add (i * 2)).block, (ad0.add (i * 2)).off + 1, none⟩ = some (.string xv) := h1
                clear HB B8 HR c80 c81 h0 h1
                revert d1_ d2_ d3_ ec80 ec81 eh0 eh1
                generalize x2.drewN nq = x3
                intro HB B8 HR c80 c81 h0 h1
                go_wp2_with (first | ((with_reducible refine gate_builtin (b := .append) (xs := #[.tmp 75, .tmp 81]) rfl ?_); at_builtin; go_must (refine Kd.R_append k52 (w0 := w) w.heap.size rfl (.tmp 75) (.tmp 81) 22 52 (.agg #[(.string ⟨#[]⟩), (.string ⟨#[]⟩), (.bool false)]) 40 rfl Try.underlying22 info52 rfl (by decide) (by decide) u5 acc (⟨pk, pv, false⟩ : S52) [.string pk, .string pv, .bool false] (fun _ => True) (fun _ => False) rfl rfl (k52_mkM _ _ _ (⟨pk, pv, false⟩ : S52)) (fun _ hk => hk.elim) (fun _ _ => trivial) HR.out HB.out HB.out.size HLN.out ?_); intro v5 w5 ho hb hg hat; clear HB HR; have HB := Aside0.mk hb; have HR := Aside0.mk ho; clear ho hb hg hat))
                go_wp2
                go_roundg (l1.length - (m + 1))
                case measure => omega
                case rel => exact ⟨i + 1, m + 1, acc ++ [⟨pk, pv, false⟩], by omega, by omega, by have := HACC.out; simp; omega, by omega, by go_num, by go_num, HB, HR, ⟨by have e := HE.out; rw [diffL_chg hil hml (by rw [HX.out, HP.out]; exact HQ.out) (by rw [HX.out, HP.out]; exact eq_of_beq HK.out) (by rw [HX.out, HP.out]; exact ne_of_beq_false HV.out), HP.out] at e; rw [List.append_assoc]; exact e⟩⟩
            | false =>
              go_wp2
              go_quiet (fail)
              try go_frame
              have d1_ := Aside0.mk (pw_below_drewN HB.out nq)
              have d2_ := Aside0.mk (blk_drewN B8.out nq)
              have d3_ := Aside0.mk (Kd.R_drewN HR.out nq)
              have ec80 : (x1.drewN nq).cell? ⟨g8, 0, none⟩ = some (.string pk) := c80
              have ec81 : (x1.drewN nq).cell? ⟨g8, 1, none⟩ = some (.string pv) := c81
              have eh0 : (x1.drewN nq).cell? (ad0.add (i * 2)) = some (.string xk) := h0
              have eh1 : (x1.drewN nq).cell? ⟨(ad0.add (i * 2)).block, (ad0.add (i * 2)).off + 1, none⟩ = some (.string xv) := h1
              clear HB B8 HR c80 c81 h0 h1
              revert d1_ d2_ d3_ ec80 ec81 eh0 eh1
              generalize x1.drewN nq = x2
              intro HB B8 HR c80 c81 h0 h1
              go_wp2_with (first | ((with_reducible refine gate_builtin (b := .append) (xs := #[.tmp 75, .tmp 81]) rfl ?_); at_builtin; go_must (refine Kd.R_append k52 (w0 := w) w.heap.size rfl (.tmp 75) (.tmp 81) 22 52 (.agg #[(.string ⟨#[]⟩), (.string ⟨#[]⟩), (.bool false)]) 40 rfl Try.underlying22 info52 rfl (by decide) (by decide) u5 acc (⟨pk, pv, false⟩ : S52) [.string pk, .string pv, .bool false] (fun _ => True) (fun _ => False) rfl rfl (k52_mkM _ _ _ (⟨pk, pv, false⟩ : S52)) (fun _ hk => hk.elim) (fun _ _ => trivial) HR.out HB.out HB.out.size HLN.out ?_); intro v5 w5 ho hb hg hat; clear HB HR; have HB := Aside0.mk hb; have HR := Aside0.mk ho; clear ho hb hg hat))
              go_wp2
              go_roundg (l1.length - (m + 1))
              case measure => omega
              case rel => exact ⟨i, m + 1, acc ++ [⟨pk, pv, false⟩], by omega, by omega, by have := HACC.out; simp; omega, by omega, rfl, by go_num, HB, HR, ⟨by have e := HE.out; rw [diffL_new hil hml (by rw [HX.out, HP.out]; exact HQ.out) (by rw [HX.out, HP.out]; exact ne_of_beq_false HK.out), HP.out] at e; rw [List.append_assoc]; exact e⟩⟩
        · have hiz : ¬ (i : Int) < (l0.length : Int) := by omega
          have hd : decide ((i : Int) < (l0.length : Int)) = false := decide_eq_false hiz
          go_wp2
          go_quiet (fail)
          try go_frame
          have d1_ := Aside0.mk (pw_below_drewN HB.out nq)
          have d2_ := Aside0.mk (blk_drewN B8.out nq)
          have d3_ := Aside0.mk (Kd.R_drewN HR.out nq)
          have ec80 : (wr.drewN nq).cell? ⟨g8, 0, none⟩ = some (.string pk) := c80
          have ec81 : (wr.drewN nq).cell? ⟨g8, 1, none⟩ = some (.string pv) := c81
          clear HB B8 HR c80 c81
          revert d1_ d2_ d3_ ec80 ec81
          generalize wr.drewN nq = x1
          intro HB B8 HR c80 c81
          go_wp2
          go_quiet (fail)
          try go_frame
          have d1_ := Aside0.mk (pw_below_drewN HB.out nq)
          have d2_ := Aside0.mk (blk_drewN B8.out nq)
          have d3_ := Aside0.mk (Kd.R_drewN HR.out nq)
          have ec80 : (x1.drewN nq).cell? ⟨g8, 0, none⟩ = some (.string pk) := c80
          have ec81 : (x1.drewN nq).cell? ⟨g8, 1, none⟩ = some (.string pv) := c81
          clear HB B8 HR c80 c81
          revert d1_ d2_ d3_ ec80 ec81
          generalize x1.drewN nq = x2
          intro HB B8 HR c80 c81
          go_wp2_with (first | ((with_reducible refine gate_builtin (b := .append) (xs := #[.tmp 75, .tmp 81]) rfl ?_); at_builtin; go_must (refine Kd.R_append k52 (w0 := w) w.heap.size rfl (.tmp 75) (.tmp 81) 22 52 (.agg #[(.string ⟨#[]⟩), (.string ⟨#[]⟩), (.bool false)]) 40 rfl Try.underlying22 info52 rfl (by decide) (by decide) u5 acc (⟨pk, pv, false⟩ : S52) [.string pk, .string pv, .bool false] (fun _ => True) (fun _ => False) rfl rfl (k52_mkM _ _ _ (⟨pk, pv, false⟩ : S52)) (fun _ hk => hk.elim) (fun _ _ => trivial) HR.out HB.out HB.out.size HLN.out ?_); intro v5 w5 ho hb hg hat; clear HB HR; have HB := Aside0.mk hb; have HR := Aside0.mk ho; clear ho hb hg hat))
          go_wp2
          go_roundg (l1.length - (m + 1))
          case measure => omega
          case rel => exact ⟨i, m + 1, acc ++ [⟨pk, pv, false⟩], by omega, by omega, by have := HACC.out; simp; omega, by omega, rfl, by go_num, HB, HR, ⟨by have e := HE.out; rw [diffL_end (by omega) hml, HP.out] at e; rw [List.append_assoc]; exact e⟩⟩
    · have hmz : ¬ (m : Int) < (l1.length : Int) := by omega
      obtain ⟨ls, hls⟩ : ∃ ls, l0.drop i = ls := ⟨_, rfl⟩
      have hll : ls.length = l0.length - i := by rw [← hls, List.length_drop]
      have HE2 : Aside0 (acc ++ ls.map delOf = D) := ⟨by have e := HE.out; rwa [List.drop_of_length_le (by omega : l1.length ≤ m), diffL_nil, hls] at e⟩
      obtain ⟨ti, hti, _, hts, _⟩ := info_parts info69
      obtain ⟨A2, hA2⟩ : ∃ A2, (if c0 = i then A0 else A0.map (·.add (i * 2))) = A2 := ⟨_, rfl⟩
      have HC2 : Aside0 (Kd.C k69 w A2 ls.length ls) := ⟨by have := Kd.C_drop (c := c0) HC0.out HI.out HL0.out; rw [hls] at this; rw [← hA2]; exact this⟩
      have hcut := cut_from (P := Try.prog) 43 69 .i64 Try.underlying43 hti 2 hts A0 l0.length c0 (i : Int) (by omega) (by have := HI.out; omega)
      simp only [Int.toNat_natCast] at hcut
      rw [hA2, ← hll] at hcut
      have hj0 : acc.length ≤ 1000000000000 - ls.length := by have := HACC.out; have := HI.out; omega
      have HJ := Aside0.mk hj0
      have hi0 : (i : Int) ≤ (l0.length : Int) := by have := HI.out; omega
      have hlz : (ls.length : Int) ≤ 1000000000000 := by omega
      clear HE hls hA2 hti hts HACC hj0 hll
      go_wp2
      clear hcut
      go_loopg [5, 88] ls.length (fun gg s5 s88 wr => ∃ (j : Nat) (acc : List S52), j ≤ ls.length ∧ acc.length + ls.length ≤ 1000000000000 + j ∧ ls.length - j ≤ gg ∧ s88 = .int .i64 j ∧ Aside0 (Below w.heap.size w wr) ∧ Aside0 (Kd.R k52 52 wr w.heap.size (fun _ => True) s5 acc) ∧ Aside0 (acc ++ (ls.drop j).map delOf = D))
      case atStart => exact ⟨0, acc, Nat.zero_le _, by have := HJ.out; omega, by omega, rfl, HB, HR, ⟨by rw [List.drop_zero]; exact HE2.out⟩⟩
      case round =>
        clear HB HR HE2 HI HJ
        obtain ⟨j, acc, hj, hacc, hgj, rfl, HB, HR, HE⟩ := hrel
        have HACC := Aside0.mk hacc
        by_cases hjl : j < ls.length
        · have hjz : (j : Int) < (ls.length : Int) := by omega
          have HLN : Aside0 ((acc.length + 1) * 40 ≤ 140737488355328) := ⟨by omega⟩
          obtain ⟨ad2, e2, h0, h1⟩ := at_T69 HC2.out (j : Int) (by omega) hjz
          cases e2
          rw [rdT69_get ls j hjl] at h0 h1
          simp only [Int.toNat_natCast] at h0 h1
          obtain ⟨pk, pv, hp⟩ : ∃ pk pv, ls[j] = ⟨pk, pv⟩ := ⟨_, _, rfl⟩
          rw [hp] at h0 h1
          have HP := Aside0.mk hp
          clear hp hacc
          simp only at h0 h1
          replace h0 := (HB.out.cell (World.block_lt_of_cell? w _ h0)).trans h0
          replace h1 := (HB.out.cell (World.block_lt_of_cell? w _ h1)).trans h1
          go_wp2_with (first | ((with_reducible refine gate_dst (N := 10) rfl ?_); refine box_event ?hg (N := 10) ?hd (cs := #[.string ⟨#[]⟩, .string ⟨#[]⟩]) (t := 69) ?hr ?_; (case hd => rfl); (case hg => rfl); (case hr => first | (go_simp; done) | (go_simp; rfl)); intro g10 hg w5 hbox hb; have G10 := Aside0.mk (show w.heap.size ≤ g10 from (by rw [hg]; exact HB.out.size)); have B10 := Aside0.mk hbox; clear hbox hg; have n0_ := Aside0.mk (below_then HB.out HB.out.size hb); have n1_ := Aside0.mk (Kd.R_below HR.out hb); clear HB HR; have HB := n0_; have HR := n1_; clear n0_ n1_; clear hb) | ((with_reducible refine gate_store (t := 69) (p := 10) (v := .tmp 91) rfl ?_); go_must (refine sagg_event rfl 69 (.tmp 10) (.tmp 91) rfl rfl g10 #[.string pk, .string pv] _ _ rfl rfl B10.out (by kernel_rfl) rfl rfl ?_); intro w6 hbk hu; have nR_ := Aside0.mk (Kd.R_mono (Kd.R_step (Kd.R_types HR.out B10.out (by decide)) (fun k_ hk_ _ => hu.block k_ hk_.2)) (fun _ hk_ => hk_.1)); clear HR; have HR := nR_; clear nR_; have n0_ := Aside0.mk (hu.below HB.out G10.out); clear HB; have HB := n0_; clear n0_; clear B10; have B10 := Aside0.mk hbk; have c100 := (blk_cell B10.out 0).trans rfl; have c101 := (blk_cell B10.out 1).trans rfl; clear hbk hu) | ((with_reducible refine gate_builtin (b := .append) (xs := #[.tmp 92, .tmp 96]) rfl ?_); at_builtin; go_must (refine Kd.R_append k52 (w0 := w) w.heap.size rfl (.tmp 92) (.tmp 96) 22 52 (.agg #[(.string ⟨#[]⟩), (.string ⟨#[]⟩), (.bool false)]) 40 rfl Try.underlying22 info52 rfl (by decide) (by decide) u5 acc (⟨pk, ⟨#[]⟩, true⟩ : S52) [.string pk, .string ⟨#[]⟩, .bool true] (fun _ => True) (fun _ => False) rfl rfl (k52_mkM _ _ _ (⟨pk, ⟨#[]⟩, true⟩ : S52)) (fun _ hk => hk.elim) (fun _ _ => trivial) HR.out HB.out HB.out.size HLN.out ?_); intro v7 w7 ho hb hg hat; clear HB HR; have HB := Aside0.mk hb; have HR := Aside0.mk ho; clear ho hb hg hat))
          go_wp2
          go_roundg (ls.length - (j + 1))
          case measure => omega
          case rel => exact ⟨j + 1, acc ++ [⟨pk, ⟨#[]⟩, true⟩], by omega, by have := HACC.out; simp; omega, by omega, by go_num, HB, HR, ⟨by have e := HE.out; rw [delOf_step hjl, HP.out] at e; rw [List.append_assoc]; exact e⟩⟩
        · have hjz : ¬ (j : Int) < (ls.length : Int) := by omega
          have HD : Aside0 (Kd.R k52 52 wr w.heap.size (fun _ => True) u5 D) := ⟨by have e := HE.out; rw [List.drop_of_length_le (by omega), List.map_nil, List.append_nil] at e; rw [← e]; exact HR.out⟩
          clear hacc
          go_wp2
          try rw [Exit.noGoto_ret]
          go_ret
          exact ⟨_, rfl, HD.out, HB.out⟩
end Go.Proofs.Ytehcmedeeaoebaa.PB
end
section
namespace Go.Proofs.Ytehcmedeeaoebaa.PB
open Go.RowKit Go.Proofs.YtehcmedeeaoebaaW.PrintWords Go.Proofs.YtehcmedeeaoebaaW.PrintLast Go.Proofs.YtehcmedeeaoebaaW.PrintMore
set_option linter.unusedVariables false
theorem toList_inj {a b : ByteArray} : a.toList = b.toList ↔ a = b := by
  constructor
  · intro h
    rw [Lib.toList_data, Lib.toList_data] at h
    exact ByteArray.ext (Array.toList_inj.1 h)
  · intro h; rw [h]
def look (l : List S69) (k : ByteArray) : Option ByteArray :=
  match l with
  | [] => none
  | x :: r => if x.f0.toList = k.toList then some x.f1 else look r k
theorem look_cons (x : S69) (r : List S69) (k : ByteArray) : look (x :: r) k = if x.f0.toList = k.toList then some x.f1 else look r k := rfl
def Up (l : List S69) : Prop := l.Pairwise fun x y => ltS x.f0 y.f0 = true
theorem get10_look (l : List S69) (k : ByteArray) : get10 l k = match look l k with | some v => (v, 0) | none => (⟨#[]⟩, 7) := by
  induction l with
  | nil => rfl
  | cons x r ih =>
    rw [get10, look_cons]
    by_cases h : x.f0.toList = k.toList
    · rw [if_pos h, if_pos h]
    · rw [if_neg h, if_neg h, ih]
theorem ltS_tri (a b : ByteArray) : ltS a b = true ∨ a = b ∨ ltS b a = true := by
  cases h1 : ltS a b with
  | true => exact Or.inl rfl
  | false =>
    cases h2 : ltS b a with
    | true => exact Or.inr (Or.inr rfl)
    | false => exact Or.inr (Or.inl (ltS_eq h1 h2))
theorem ltS_neq {a b : ByteArray} (h : ltS a b = true) : ¬ a.toList = b.toList := by
  intro e
  rw [toList_inj.1 e, ltS_irrefl] at h
  cases h
theorem look_none {l : List S69} {k : ByteArray} (h : ∀ x ∈ l, ¬ x.f0.toList = k.toList) : look l k = none := by
  induction l with
  | nil => rfl
  | cons x r ih => rw [look_cons, if_neg (h x (List.mem_cons_self)), ih fun y hy => h y (List.mem_cons_of_mem _ hy)]
theorem look_above {l : List S69} {k : ByteArray} (h : ∀ x ∈ l, ltS k x.f0 = true) : look l k = none := look_none fun x hx e => ltS_neq (h x hx) e.symm
theorem Up.above {a : S69} {r : List S69} (h : Up (a :: r)) : ∀ x ∈ r, ltS a.f0 x.f0 = true := (List.pairwise_cons.1 h).1
theorem Up.tail {a : S69} {r : List S69} (h : Up (a :: r)) : Up r := (List.pairwise_cons.1 h).2
theorem Up.rises {l : List S69} (h : Up l) : risesP l = true := by
  rw [risesP_iff]
  exact fun j hj => List.pairwise_iff_getElem.1 h j (j + 1) (by omega) hj (by omega)
theorem rises_up {l : List S69} (h : risesP l = true) : Up l := by
  induction l with
  | nil => exact List.Pairwise.nil
  | cons a r ih =>
    cases r with
    | nil => exact List.pairwise_singleton _ _
    | cons b r =>
      rw [risesP, Bool.and_eq_true] at h
      have hr := ih h.2
      refine List.pairwise_cons.2 ⟨fun x hx => ?_, hr⟩
      rcases List.mem_cons.1 hx with rfl | hx
      · exact h.1
      · exact ltS_trans h.1 (hr.above x hx)
theorem look_ext : ∀ {l m : List S69}, Up l → Up m → (∀ k, look l k = look m k) → l = m
  | [], [], _, _, _ => rfl
  | [], b :: m, _, _, h => by have := h b.f0; simp [look] at this
  | a :: l, [], _, _, h => by have := h a.f0; simp [look] at this
  | a :: l, b :: m, hl, hm, h => by
    have e0 : a.f0 = b.f0 := by
      rcases ltS_tri a.f0 b.f0 with h1 | h1 | h1
      · have := h a.f0
        rw [look_cons, if_pos rfl, look_above (fun x hx => by rcases List.mem_cons.1 hx with rfl | hx; exact h1; exact ltS_trans h1 (hm.above x hx))] at this
        cases this
      · exact h1
      · have := h b.f0
        rw [look_above (l := a :: l) (fun x hx => by rcases List.mem_cons.1 hx with rfl | hx; exact h1; exact ltS_trans h1 (hl.above x hx)), look_cons, if_pos rfl] at this
        cases this
    have e1 : a.f1 = b.f1 := by
      have := h a.f0
      rw [look_cons, if_pos rfl, look_cons, if_pos (by rw [e0])] at this
      exact Option.some.inj this
    have e : a = b := by cases a; cases b; simp_all
    subst e
    rw [look_ext hl.tail hm.tail fun k => ?_]
    by_cases c : a.f0.toList = k.toList
    · rw [look_above fun x hx => by rw [← toList_inj.1 c]; exact hl.above x hx, look_above fun x hx => by rw [← toList_inj.1 c]; exact hm.above x hx]
    · have := h k
      rwa [look, if_neg c, look, if_neg c] at this
theorem look_filter {l : List S69} {k k' : ByteArray} (h : ¬ k'.toList = k.toList) : look (l.filter fun x => !(x.f0.toList == k.toList)) k' = look l k' := by
  induction l with
  | nil => rfl
  | cons x r ih =>
    rw [List.filter_cons]
    by_cases c : x.f0.toList = k.toList
    · rw [if_neg (by simp [c]), look_cons, if_neg (fun e => h (e.symm.trans c)), ih]
    · rw [if_pos (by simp [c]), look_cons, look_cons, ih]
theorem putGo_true (k v : ByteArray) (l : List S69) : putGo k v l true = l.filter fun x => !(x.f0.toList == k.toList) := by
  induction l with
  | nil => rfl
  | cons x r ih =>
    rw [putGo, if_neg (by simp), List.filter_cons, Bool.true_or, ih]
    by_cases c : x.f0.toList = k.toList
    · simp [c]
    · simp [c]
theorem look_putGo (k v k' : ByteArray) (l : List S69) : look (putGo k v l false) k' = if k'.toList = k.toList then some v else look l k' := by
  induction l with
  | nil =>
    have e : putGo k v [] false = [⟨k, v⟩] := rfl
    rw [e, look_cons]
    by_cases c : k'.toList = k.toList
    · rw [if_pos c.symm, if_pos c]
    · rw [if_neg (fun e => c e.symm), if_neg c]
  | cons x r ih =>
    rw [putGo]
    cases hq : ltS x.f0 k with
    | true =>
      have hne := ltS_neq hq
      rw [if_neg (by simp), if_neg hne, List.nil_append, List.singleton_append, look_cons, look_cons, Bool.not_true, Bool.or_self, ih]
      by_cases c : x.f0.toList = k'.toList
      · rw [if_pos c, if_pos c, if_neg (fun e => hne (c.trans e))]
      · rw [if_neg c, if_neg c]
    | false =>
      rw [if_pos ⟨rfl, rfl⟩, Bool.not_false, Bool.or_true, putGo_true, List.singleton_append, look_cons]
      by_cases c : k'.toList = k.toList
      · rw [if_pos c.symm, if_pos c]
      · rw [if_neg (fun e => c e.symm), if_neg c]
        by_cases d : x.f0.toList = k.toList
        · rw [if_pos d, List.nil_append, look_filter c, look_cons, if_neg (fun e => c (e.symm.trans d))]
        · rw [if_neg d, List.singleton_append, look_cons, look_cons, look_filter c]
theorem putGo_mem {k v : ByteArray} {x : S69} : ∀ {l : List S69} {b : Bool}, x ∈ putGo k v l b → x = ⟨k, v⟩ ∨ x ∈ l
  | [], b, h => by
    cases b with
    | true => simp [putGo] at h
    | false => simp [putGo] at h; exact Or.inl h
  | y :: r, b, h => by
    rw [putGo] at h
    rcases List.mem_append.1 h with h | h
    · split at h
      · exact Or.inl (List.mem_singleton.1 h)
      · cases h
    rcases List.mem_append.1 h with h | h
    · split at h
      · cases h
      · exact Or.inr (by rw [List.mem_singleton.1 h]; exact List.mem_cons_self)
    · rcases putGo_mem h with h | h
      · exact Or.inl h
      · exact Or.inr (List.mem_cons_of_mem _ h)
theorem Up.putGo {k v : ByteArray} {l : List S69} (h : Up l) : Up (putGo k v l false) := by
  induction l with
  | nil => exact List.pairwise_singleton _ _
  | cons x r ih =>
    rw [PB.putGo]
    cases hq : ltS x.f0 k with
    | true =>
      rw [if_neg (by simp), if_neg (ltS_neq hq), List.nil_append, List.singleton_append, Bool.not_true, Bool.or_self]
      refine List.pairwise_cons.2 ⟨fun y hy => ?_, ih h.tail⟩
      rcases putGo_mem hy with rfl | hy
      · exact hq
      · exact h.above y hy
    | false =>
      rw [if_pos ⟨rfl, rfl⟩, Bool.not_false, Bool.or_true, putGo_true, List.singleton_append]
      have hup : Up ((if x.f0.toList = k.toList then [] else [x]) ++ r.filter fun x => !(x.f0.toList == k.toList)) := by
        have := List.Pairwise.filter (fun x => !(x.f0.toList == k.toList)) h
        rw [List.filter_cons] at this
        by_cases c : x.f0.toList = k.toList
        · rw [if_neg (by simp [c])] at this; rw [if_pos c]; exact this
        · rw [if_pos (by simp [c])] at this; rw [if_neg c]; exact this
      refine List.pairwise_cons.2 ⟨fun y hy => ?_, hup⟩
      have hge : ∀ y, y ∈ x :: r → ltS y.f0 k = false := by
        intro y hy
        rcases List.mem_cons.1 hy with rfl | hy
        · exact hq
        · cases hz : ltS y.f0 k with
          | false => rfl
          | true => rw [ltS_trans (h.above y hy) hz] at hq; cases hq
      have hy2 : y ∈ x :: r ∧ ¬ y.f0.toList = k.toList := by
        rcases List.mem_append.1 hy with hy | hy
        · by_cases c : x.f0.toList = k.toList
          · rw [if_pos c] at hy; cases hy
          · rw [if_neg c] at hy; rw [List.mem_singleton.1 hy]; exact ⟨List.mem_cons_self, c⟩
        · have := List.mem_filter.1 hy
          exact ⟨List.mem_cons_of_mem _ this.1, by simpa using this.2⟩
      rcases ltS_tri k y.f0 with h1 | h1 | h1
      · exact h1
      · exact absurd (by rw [h1]) hy2.2
      · rw [hge y hy2.1] at h1; cases h1
theorem look_dropGo (k k' : ByteArray) (l : List S69) : look (dropGo k l) k' = if k'.toList = k.toList then none else look l k' := by
  by_cases c : k'.toList = k.toList
  · rw [if_pos c]
    refine look_none fun x hx e => ?_
    have := (List.mem_filter.1 hx).2
    simp [e, c] at this
  · rw [if_neg c]; exact look_filter c
theorem look_turn12 (l : List S69) (x : S52) (hx : fits12 x = true) (k : ByteArray) : look (turn12 l x) k = if k.toList = x.f0.toList then (if x.f2 = true then none else some x.f1) else look l k := by
  unfold turn12
  cases x.f2 with
  | true =>
    simp only [if_true]
    unfold drop10
    by_cases c : (get10 l x.f0).2 = 0
    · rw [if_pos c]; exact look_dropGo _ _ _
    · rw [if_neg c]
      have hn : look l x.f0 = none := by
        rw [get10_look] at c
        cases h : look l x.f0 with
        | none => rfl
        | some v => rw [h] at c; exact absurd rfl c
      by_cases d : k.toList = x.f0.toList
      · rw [if_pos d, toList_inj.1 d]; exact hn
      · rw [if_neg d]
  | false =>
    simp only [Bool.false_eq_true, if_false]
    unfold put10
    unfold fits12 at hx
    simp at hx
    rw [if_neg (by omega)]
    exact look_putGo _ _ _ _
theorem Up.turn12 {l : List S69} (h : Up l) (x : S52) : Up (turn12 l x) := by
  unfold PB.turn12 drop10 put10
  split
  · split
    · exact List.Pairwise.filter _ h
    · exact h
  · split
    · exact h
    · exact h.putGo
def eff (C : List S52) (k : ByteArray) (o : Option ByteArray) : Option ByteArray :=
  C.foldl (fun o c => if k.toList = c.f0.toList then (if c.f2 = true then none else some c.f1) else o) o
theorem look_turns (C : List S52) : ∀ (l : List S69), (∀ c ∈ C, fits12 c = true) → Up l → Up (C.foldl turn12 l) ∧ ∀ k, look (C.foldl turn12 l) k = eff C k (look l k) := by
  induction C with
  | nil => exact fun l _ h => ⟨h, fun k => rfl⟩
  | cons c r ih =>
    intro l hf h
    obtain ⟨h1, h2⟩ := ih (turn12 l c) (fun x hx => hf x (List.mem_cons_of_mem _ hx)) (h.turn12 c)
    refine ⟨h1, fun k => ?_⟩
    rw [List.foldl_cons, h2 k, look_turn12 l c (hf c List.mem_cons_self) k]
    rfl
theorem eff_far {C : List S52} {k : ByteArray} (h : ∀ c ∈ C, ¬ k.toList = c.f0.toList) (o : Option ByteArray) : eff C k o = o := by
  induction C generalizing o with
  | nil => rfl
  | cons c r ih =>
    unfold eff
    rw [List.foldl_cons, if_neg (h c List.mem_cons_self)]
    exact ih (fun x hx => h x (List.mem_cons_of_mem _ hx)) o
theorem diffL_keys {c : S52} : ∀ {us bs : List S69}, c ∈ diffL us bs → (∃ x ∈ us, x.f0 = c.f0 ∧ c.f1.size ≤ x.f1.size ∧ c.f1 = ⟨#[]⟩) ∨ ∃ y ∈ bs, y.f0 = c.f0 ∧ c.f1 = y.f1 := by
  intro us bs
  fun_induction diffL us bs with
  | case1 us =>
    intro h
    obtain ⟨x, hx, rfl⟩ := List.mem_map.1 h
    exact Or.inl ⟨x, hx, rfl, Nat.zero_le _, rfl⟩
  | case2 b bs ih =>
    intro h
    rcases List.mem_cons.1 h with rfl | h
    · exact Or.inr ⟨b, List.mem_cons_self, rfl, rfl⟩
    · rcases ih h with ⟨x, hx, h1⟩ | ⟨y, hy, h1⟩
      · cases hx
      · exact Or.inr ⟨y, List.mem_cons_of_mem _ hy, h1⟩
  | case3 a us b bs hlt ih =>
    intro h
    rcases List.mem_cons.1 h with rfl | h
    · exact Or.inl ⟨a, List.mem_cons_self, rfl, Nat.zero_le _, rfl⟩
    · rcases ih h with ⟨x, hx, h1⟩ | h1
      · exact Or.inl ⟨x, List.mem_cons_of_mem _ hx, h1⟩
      · exact Or.inr h1
  | case4 a us b bs hlt hk hv ih =>
    intro h
    rcases ih h with ⟨x, hx, h1⟩ | ⟨y, hy, h1⟩
    · exact Or.inl ⟨x, List.mem_cons_of_mem _ hx, h1⟩
    · exact Or.inr ⟨y, List.mem_cons_of_mem _ hy, h1⟩
  | case5 a us b bs hlt hk hv ih =>
    intro h
    rcases List.mem_cons.1 h with rfl | h
    · exact Or.inr ⟨b, List.mem_cons_self, rfl, rfl⟩
    · rcases ih h with ⟨x, hx, h1⟩ | ⟨y, hy, h1⟩
      · exact Or.inl ⟨x, List.mem_cons_of_mem _ hx, h1⟩
      · exact Or.inr ⟨y, List.mem_cons_of_mem _ hy, h1⟩
  | case6 a us b bs hlt hk ih =>
    intro h
    rcases List.mem_cons.1 h with rfl | h
    · exact Or.inr ⟨b, List.mem_cons_self, rfl, rfl⟩
    · rcases ih h with h1 | ⟨y, hy, h1⟩
      · exact Or.inl h1
      · exact Or.inr ⟨y, List.mem_cons_of_mem _ hy, h1⟩
theorem diffL_above {us bs : List S69} {k : ByteArray} (h1 : ∀ x ∈ us, ltS k x.f0 = true) (h2 : ∀ x ∈ bs, ltS k x.f0 = true) : ∀ c ∈ diffL us bs, ltS k c.f0 = true := by
  intro c hc
  rcases diffL_keys hc with ⟨x, hx, e, _⟩ | ⟨x, hx, e, _⟩
  · rw [← e]; exact h1 x hx
  · rw [← e]; exact h2 x hx
def Owe (X Y : List S69) (c : S52) : Prop := (c.f2 = true → (∃ v, look X c.f0 = some v) ∧ look Y c.f0 = none) ∧ (c.f2 = false → look Y c.f0 = some c.f1 ∧ (look X c.f0 = none ∨ ∃ v, look X c.f0 = some v ∧ ¬ v.toList = c.f1.toList))
theorem cons_above {a : S69} {l : List S69} {k : ByteArray} (h : ltS k a.f0 = true) (hl : Up (a :: l)) : ∀ x ∈ a :: l, ltS k x.f0 = true := by
  intro x hx
  rcases List.mem_cons.1 hx with rfl | hx
  · exact h
  · exact ltS_trans h (hl.above x hx)
theorem look_skip {a : S69} {l : List S69} {k : ByteArray} (h : ltS a.f0 k = true) : look (a :: l) k = look l k := by rw [look_cons, if_neg (ltS_neq h)]
theorem eff_del (a : S69) (C : List S52) (k : ByteArray) (o : Option ByteArray) : eff (delOf a :: C) k o = eff C k (if k.toList = a.f0.toList then none else o) := by
  unfold eff
  rw [List.foldl_cons]
  simp only [delOf, if_true]
theorem eff_chg (b : S69) (C : List S52) (k : ByteArray) (o : Option ByteArray) : eff (chgOf b :: C) k o = eff C k (if k.toList = b.f0.toList then some b.f1 else o) := by
  unfold eff
  rw [List.foldl_cons]
  simp only [chgOf, Bool.false_eq_true, if_false]
theorem owe_del {X Y : List S69} {a : S69} {v : ByteArray} (h1 : look X a.f0 = some v) (h2 : look Y a.f0 = none) : Owe X Y (delOf a) := ⟨fun _ => ⟨⟨v, h1⟩, h2⟩, fun h => by cases h⟩
theorem owe_chg {X Y : List S69} {b : S69} (h1 : look Y b.f0 = some b.f1) (h2 : look X b.f0 = none ∨ ∃ v, look X b.f0 = some v ∧ ¬ v.toList = b.f1.toList) : Owe X Y (chgOf b) := ⟨(fun h => by cases h), fun _ => ⟨h1, h2⟩⟩
theorem look_head (a : S69) (l : List S69) : look (a :: l) a.f0 = some a.f1 := by rw [look_cons, if_pos rfl]
theorem diffL_law : ∀ {us bs : List S69}, Up us → Up bs → (∀ k, eff (diffL us bs) k (look us k) = look bs k) ∧ (diffL us bs).Pairwise (fun x y => ltS x.f0 y.f0 = true) ∧ ∀ c ∈ diffL us bs, Owe us bs c := by
  intro us bs
  fun_induction diffL us bs with
  | case1 us =>
    intro hu _
    induction us with
    | nil => exact ⟨fun k => rfl, List.Pairwise.nil, by simp⟩
    | cons a us ih =>
      obtain ⟨i1, i2, i3⟩ := ih hu.tail
      have hab := diffL_above (k := a.f0) (us := us) (bs := []) hu.above (by simp)
      rw [diffL_nil] at hab
      refine ⟨fun k => ?_, List.pairwise_cons.2 ⟨hab, i2⟩, fun c hc => ?_⟩
      · rw [List.map_cons]
        rw [eff_del]
        by_cases c : k.toList = a.f0.toList
        · rw [if_pos c]
          exact eff_far (fun x hx e => ltS_neq (hab x hx) (c.symm.trans e)) _
        · rw [if_neg c, look_cons, if_neg (fun e => c e.symm)]
          exact i1 k
      · rcases List.mem_cons.1 hc with rfl | hc
        · exact owe_del (look_head a us) rfl
        · have := i3 c hc
          unfold Owe at this ⊢
          rwa [look_skip (hab c hc)]
  | case2 b bs ih =>
    intro hu hb
    obtain ⟨i1, i2, i3⟩ := ih hu hb.tail
    have hab := diffL_above (k := b.f0) (us := []) (bs := bs) (by simp) hb.above
    refine ⟨fun k => ?_, List.pairwise_cons.2 ⟨hab, i2⟩, fun c hc => ?_⟩
    · rw [eff_chg]
      by_cases c : k.toList = b.f0.toList
      · rw [if_pos c, look_cons, if_pos c.symm]
        exact eff_far (fun x hx e => ltS_neq (hab x hx) (c.symm.trans e)) _
      · rw [if_neg c, look_cons, if_neg (fun e => c e.symm)]
        exact i1 k
    · rcases List.mem_cons.1 hc with rfl | hc
      · exact owe_chg (look_head b bs) (Or.inl rfl)
      · have := i3 c hc
        unfold Owe at this ⊢
        rwa [look_skip (hab c hc)]
  | case3 a us b bs hlt ih =>
    intro hu hb
    obtain ⟨i1, i2, i3⟩ := ih hu.tail hb
    have hbb := cons_above hlt hb
    have hab := diffL_above (k := a.f0) hu.above hbb
    refine ⟨fun k => ?_, List.pairwise_cons.2 ⟨hab, i2⟩, fun c hc => ?_⟩
    · rw [eff_del]
      by_cases c : k.toList = a.f0.toList
      · rw [if_pos c, eff_far (fun x hx e => ltS_neq (hab x hx) (c.symm.trans e)), toList_inj.1 c, look_above hbb]
      · rw [if_neg c, look_cons, if_neg (fun e => c e.symm)]
        exact i1 k
    · rcases List.mem_cons.1 hc with rfl | hc
      · exact owe_del (look_head a us) (look_above hbb)
      · have := i3 c hc
        unfold Owe at this ⊢
        rwa [look_skip (a := a) (hab c hc)]
  | case4 a us b bs hlt hk hv ih =>
    intro hu hb
    obtain ⟨i1, i2, i3⟩ := ih hu.tail hb.tail
    have e0 := toList_inj.1 hk
    have hab := diffL_above (k := a.f0) hu.above (fun x hx => by rw [e0]; exact hb.above x hx)
    refine ⟨fun k => ?_, i2, fun c hc => ?_⟩
    · by_cases c : k.toList = a.f0.toList
      · rw [eff_far (fun x hx e => ltS_neq (hab x hx) (c.symm.trans e)), look_cons, if_pos c.symm, look_cons, if_pos (by rw [← hk]; exact c.symm), toList_inj.1 hv]
      · rw [look_cons, if_neg (fun e => c e.symm), look_cons, if_neg (fun e => c (by rw [hk]; exact e.symm))]
        exact i1 k
    · have := i3 c hc
      have hb0 : ltS b.f0 c.f0 = true := by rw [← e0]; exact hab c hc
      unfold Owe at this ⊢
      rwa [look_skip (a := a) (hab c hc), look_skip (a := b) hb0]
  | case5 a us b bs hlt hk hv ih =>
    intro hu hb
    obtain ⟨i1, i2, i3⟩ := ih hu.tail hb.tail
    have e0 := toList_inj.1 hk
    have hab := diffL_above (k := b.f0) (fun x hx => by rw [← e0]; exact hu.above x hx) hb.above
    refine ⟨fun k => ?_, List.pairwise_cons.2 ⟨hab, i2⟩, fun c hc => ?_⟩
    · rw [eff_chg]
      by_cases c : k.toList = b.f0.toList
      · rw [if_pos c, eff_far (fun x hx e => ltS_neq (hab x hx) (c.symm.trans e)), look_cons, if_pos c.symm]
      · rw [if_neg c, look_cons, if_neg (fun e => c (by rw [← hk]; exact e.symm)), look_cons, if_neg (fun e => c e.symm)]
        exact i1 k
    · rcases List.mem_cons.1 hc with rfl | hc
      · exact owe_chg (look_head b bs) (Or.inr ⟨a.f1, by rw [look_cons, if_pos hk], hv⟩)
      · have := i3 c hc
        have ha0 : ltS a.f0 c.f0 = true := by rw [e0]; exact hab c hc
        unfold Owe at this ⊢
        rwa [look_skip (a := a) ha0, look_skip (a := b) (hab c hc)]
  | case6 a us b bs hlt hk ih =>
    intro hu hb
    obtain ⟨i1, i2, i3⟩ := ih hu hb.tail
    have hba : ltS b.f0 a.f0 = true := by
      rcases ltS_tri a.f0 b.f0 with h1 | h1 | h1
      · exact absurd h1 hlt
      · exact absurd (by rw [h1]) hk
      · exact h1
    have haa := cons_above hba hu
    have hab := diffL_above (k := b.f0) haa hb.above
    refine ⟨fun k => ?_, List.pairwise_cons.2 ⟨hab, i2⟩, fun c hc => ?_⟩
    · rw [eff_chg]
      by_cases c : k.toList = b.f0.toList
      · rw [if_pos c, eff_far (fun x hx e => ltS_neq (hab x hx) (c.symm.trans e)), look_cons, if_pos c.symm]
      · rw [if_neg c, i1 k, look_cons, if_neg (fun e => c e.symm)]
    · rcases List.mem_cons.1 hc with rfl | hc
      · exact owe_chg (look_head b bs) (Or.inl (look_above haa))
      · have := i3 c hc
        unfold Owe at this ⊢
        rwa [look_skip (a := b) (hab c hc)]
theorem diffL_self : ∀ l : List S69, diffL l l = []
  | [] => by rw [diffL_nil]; rfl
  | a :: l => by rw [diffL, if_neg (by rw [ltS_irrefl]; simp), if_pos rfl, if_pos rfl, diffL_self l]
end Go.Proofs.Ytehcmedeeaoebaa.PB
end
section
namespace Go.Proofs.Ytehcmedeeaoebaa.PB
open Go.RowKit Go.Proofs.YtehcmedeeaoebaaW.PrintWords Go.Proofs.YtehcmedeeaoebaaW.PrintLast Go.Proofs.YtehcmedeeaoebaaW.PrintMore
attribute [local go_sem] max2_int min2_int max_two min_two max_three min_three max_four min_four
set_option linter.unusedVariables false
set_option linter.unusedSimpArgs false
def chain_right.f (a0_0 : Int) (a0_1 : ByteArray) (a0_2 : Bool) : Option (Bool) := if a0_0 ≥ 1 then (if a0_0 ≤ 1152921504606846976 then (if (a0_1.size : Int) ≤ 200 then (if a0_2 = true then (some (a0_1.toList == ([] : List UInt8))) else (some true)) else (some false)) else (some false)) else (some false)
set_option maxHeartbeats 8000000 in
set_option maxRecDepth 100000 in
theorem chain_right.calls (a0_0 : Int) (a0_1 : ByteArray) (a0_2 : Bool) (r : Bool) (w : World) (h : chain_right.f a0_0 a0_1 a0_2 = some r) :
    Calls Try.prog 81 #[.agg #[.int .i64 a0_0, .string a0_1, .bool a0_2]] w fun e w' => e = .returned (.bool r) ∧ Below w.heap.size w w' := by
  have hu80 := Try.underlying80
  have HB := Aside0.mk (Below.refl w.heap.size w)
  have H : (if a0_0 ≥ 1 then (if a0_0 ≤ 1152921504606846976 then (if (a0_1.size : Int) ≤ 200 then (if a0_2 = true then (some (a0_1.toList == ([] : List UInt8))) else (some true)) else (some false)) else (some false)) else (some false)) = some r := h
  clear h
  by_cases c2 : a0_0 ≥ 1
  · rw [if_pos c2] at H
    have c2b0 : decide (1 ≤ a0_0) = true := decide_eq_true c2
    clear c2
    by_cases c3 : a0_0 ≤ 1152921504606846976
    · rw [if_pos c3] at H
      have c3b0 : decide (a0_0 ≤ 1152921504606846976) = true := decide_eq_true c3
      clear c3
      by_cases c4 : (a0_1.size : Int) ≤ 200
      · rw [if_pos c4] at H
        have c4b0 : decide ((a0_1.size : Int) ≤ 200) = true := decide_eq_true c4
        have c4b1 : decide (a0_1.size ≤ 200) = true := decide_eq_true (by omega)
        clear c4
        by_cases c5 : a0_2 = true
        · subst c5
          have H1 : (some (a0_1.toList == ([] : List UInt8))) = some r := by rw [if_pos rfl] at H; exact H
          clear H
          have H := H1
          clear H1
          obtain rfl := Option.some.inj H
          go_enter Try.func81, Try.ntmps81
          go_wp2_with (first | ((with_reducible refine gate_dst (N := 1) rfl ?_); (try (refine gate_guard (by rfl) ?_; dsimp only)); refine box_event ?hg (N := 1) ?hd (cs := #[.int .i64 a0_0, .string a0_1, .bool true]) (t := 80) ?hr ?_; (case hd => rfl); (case hg => rfl); (case hr => first | (go_simp; done) | (go_simp; rfl)); intro gb167 hg w6 hbox hb; have n0_ := Aside0.mk (below_step (by repeat (first | (with_reducible first | exact HB.out | apply below_alloc | apply pw_below_drewN | apply below_drew1) | exact HB.out)) hb); have n1_ := Aside0.mk (hbox); have n2_ := Aside0.mk ((by rw [hg]; exact (below_size (by repeat (first | (with_reducible first | exact HB.out | apply below_alloc | apply pw_below_drewN | apply below_drew1) | exact HB.out))) : w.heap.size ≤ gb167)); have n3_ := Aside0.mk ((by rw [hg]; exact (below_size (by repeat (first | (with_reducible first | exact HB.out | apply below_alloc | apply pw_below_drewN | apply below_drew1) | exact HB.out))) : w.heap.size ≤ gb167)); clear HB; have HB := n0_; have BK167 := n1_; have GW167 := n2_; have GE167 := n3_; clear n0_ n1_ n2_ n3_; clear hb hbox hg; have hcz7_0 : w6.cell? ⟨gb167, 0, none⟩ = some (.int .i64 a0_0) := (blk_cell BK167.out 0).trans rfl; have hcz7_1 : w6.cell? ⟨gb167, 1, none⟩ = some (.string a0_1) := (blk_cell BK167.out 1).trans rfl; have hcz7_2 : w6.cell? ⟨gb167, 2, none⟩ = some (.bool true) := (blk_cell BK167.out 2).trans rfl; have hfz7_0 := blk_frozen BK167.out 0; have hfz7_1 := blk_frozen BK167.out 1; have hfz7_2 := blk_frozen BK167.out 2))
          go_ret
          exact ⟨by first | rfl | (simp [errW_none, errW_some] <;> rfl) | (simp [*, errW_none, errW_some] <;> rfl), by repeat (first | (with_reducible first | exact HB.out | apply below_alloc | apply pw_below_drewN | apply below_drew1 | refine below_set ?_ GE167.out) | exact HB.out)⟩
        · replace c5 := Bool.eq_false_iff.mpr c5
          subst c5
          have H1 : (some true) = some r := by rw [if_neg (show ¬ (false = true) by decide)] at H; exact H
          clear H
          have H := H1
          clear H1
          obtain rfl := Option.some.inj H
          go_enter Try.func81, Try.ntmps81
          go_wp2_with (first | ((with_reducible refine gate_dst (N := 1) rfl ?_); (try (refine gate_guard (by rfl) ?_; dsimp only)); refine box_event ?hg (N := 1) ?hd (cs := #[.int .i64 a0_0, .string a0_1, .bool false]) (t := 80) ?hr ?_; (case hd => rfl); (case hg => rfl); (case hr => first | (go_simp; done) | (go_simp; rfl)); intro gb167 hg w8 hbox hb; have n0_ := Aside0.mk (below_step (by repeat (first | (with_reducible first | exact HB.out | apply below_alloc | apply pw_below_drewN | apply below_drew1) | exact HB.out)) hb); have n1_ := Aside0.mk (hbox); have n2_ := Aside0.mk ((by rw [hg]; exact (below_size (by repeat (first | (with_reducible first | exact HB.out | apply below_alloc | apply pw_below_drewN | apply below_drew1) | exact HB.out))) : w.heap.size ≤ gb167)); have n3_ := Aside0.mk ((by rw [hg]; exact (below_size (by repeat (first | (with_reducible first | exact HB.out | apply below_alloc | apply pw_below_drewN | apply below_drew1) | exact HB.out))) : w.heap.size ≤ gb167)); clear HB; have HB := n0_; have BK167 := n1_; have GW167 := n2_; have GE167 := n3_; clear n0_ n1_ n2_ n3_; clear hb hbox hg; have hcz9_0 : w8.cell? ⟨gb167, 0, none⟩ = some (.int .i64 a0_0) := (blk_cell BK167.out 0).trans rfl; have hcz9_1 : w8.cell? ⟨gb167, 1, none⟩ = some (.string a0_1) := (blk_cell BK167.out 1).trans rfl; have hcz9_2 : w8.cell? ⟨gb167, 2, none⟩ = some (.bool false) := (blk_cell BK167.out 2).trans rfl; have hfz9_0 := blk_frozen BK167.out 0; have hfz9_1 := blk_frozen BK167.out 1; have hfz9_2 := blk_frozen BK167.out 2))
          go_ret
          exact ⟨by first | rfl | (simp [errW_none, errW_some] <;> rfl) | (simp [*, errW_none, errW_some] <;> rfl), by repeat (first | (with_reducible first | exact HB.out | apply below_alloc | apply pw_below_drewN | apply below_drew1 | refine below_set ?_ GE167.out) | exact HB.out)⟩
      · rw [if_neg c4] at H
        have c4b0 : decide ((a0_1.size : Int) ≤ 200) = false := decide_eq_false c4
        have c4b1 : decide (a0_1.size ≤ 200) = false := decide_eq_false (by omega)
        clear c4
        obtain rfl := Option.some.inj H
        go_enter Try.func81, Try.ntmps81
        go_wp2_with (first | ((with_reducible refine gate_dst (N := 1) rfl ?_); (try (refine gate_guard (by rfl) ?_; dsimp only)); refine box_event ?hg (N := 1) ?hd (cs := #[.int .i64 a0_0, .string a0_1, .bool a0_2]) (t := 80) ?hr ?_; (case hd => rfl); (case hg => rfl); (case hr => first | (go_simp; done) | (go_simp; rfl)); intro gb167 hg w10 hbox hb; have n0_ := Aside0.mk (below_step (by repeat (first | (with_reducible first | exact HB.out | apply below_alloc | apply pw_below_drewN | apply below_drew1) | exact HB.out)) hb); have n1_ := Aside0.mk (hbox); have n2_ := Aside0.mk ((by rw [hg]; exact (below_size (by repeat (first | (with_reducible first | exact HB.out | apply below_alloc | apply pw_below_drewN | apply below_drew1) | exact HB.out))) : w.heap.size ≤ gb167)); have n3_ := Aside0.mk ((by rw [hg]; exact (below_size (by repeat (first | (with_reducible first | exact HB.out | apply below_alloc | apply pw_below_drewN | apply below_drew1) | exact HB.out))) : w.heap.size ≤ gb167)); clear HB; have HB := n0_; have BK167 := n1_; have GW167 := n2_; have GE167 := n3_; clear n0_ n1_ n2_ n3_; clear hb hbox hg; have hcz11_0 : w10.cell? ⟨gb167, 0, none⟩ = some (.int .i64 a0_0) := (blk_cell BK167.out 0).trans rfl; have hcz11_1 : w10.cell? ⟨gb167, 1, none⟩ = some (.string a0_1) := (blk_cell BK167.out 1).trans rfl; have hcz11_2 : w10.cell? ⟨gb167, 2, none⟩ = some (.bool a0_2) := (blk_cell BK167.out 2).trans rfl; have hfz11_0 := blk_frozen BK167.out 0; have hfz11_1 := blk_frozen BK167.out 1; have hfz11_2 := blk_frozen BK167.out 2))
        go_ret
        exact ⟨by first | rfl | (simp [errW_none, errW_some] <;> rfl) | (simp [*, errW_none, errW_some] <;> rfl), by repeat (first | (with_reducible first | exact HB.out | apply below_alloc | apply pw_below_drewN | apply below_drew1 | refine below_set ?_ GE167.out) | exact HB.out)⟩
    · rw [if_neg c3] at H
      have c3b0 : decide (a0_0 ≤ 1152921504606846976) = false := decide_eq_false c3
      clear c3
      obtain rfl := Option.some.inj H
      go_enter Try.func81, Try.ntmps81
      go_wp2_with (first | ((with_reducible refine gate_dst (N := 1) rfl ?_); (try (refine gate_guard (by rfl) ?_; dsimp only)); refine box_event ?hg (N := 1) ?hd (cs := #[.int .i64 a0_0, .string a0_1, .bool a0_2]) (t := 80) ?hr ?_; (case hd => rfl); (case hg => rfl); (case hr => first | (go_simp; done) | (go_simp; rfl)); intro gb167 hg w12 hbox hb; have n0_ := Aside0.mk (below_step (by repeat (first | (with_reducible first | exact HB.out | apply below_alloc | apply pw_below_drewN | apply below_drew1) | exact HB.out)) hb); have n1_ := Aside0.mk (hbox); have n2_ := Aside0.mk ((by rw [hg]; exact (below_size (by repeat (first | (with_reducible first | exact HB.out | apply below_alloc | apply pw_below_drewN | apply below_drew1) | exact HB.out))) : w.heap.size ≤ gb167)); have n3_ := Aside0.mk ((by rw [hg]; exact (below_size (by repeat (first | (with_reducible first | exact HB.out | apply below_alloc | apply pw_below_drewN | apply below_drew1) | exact HB.out))) : w.heap.size ≤ gb167)); clear HB; have HB := n0_; have BK167 := n1_; have GW167 := n2_; have GE167 := n3_; clear n0_ n1_ n2_ n3_; clear hb hbox hg; have hcz13_0 : w12.cell? ⟨gb167, 0, none⟩ = some (.int .i64 a0_0) := (blk_cell BK167.out 0).trans rfl; have hcz13_1 : w12.cell? ⟨gb167, 1, none⟩ = some (.string a0_1) := (blk_cell BK167.out 1).trans rfl; have hcz13_2 : w12.cell? ⟨gb167, 2, none⟩ = some (.bool a0_2) := (blk_cell BK167.out 2).trans rfl; have hfz13_0 := blk_frozen BK167.out 0; have hfz13_1 := blk_frozen BK167.out 1; have hfz13_2 := blk_frozen BK167.out 2))
      go_ret
      exact ⟨by first | rfl | (simp [errW_none, errW_some] <;> rfl) | (simp [*, errW_none, errW_some] <;> rfl), by repeat (first | (with_reducible first | exact HB.out | apply below_alloc | apply pw_below_drewN | apply below_drew1 | refine below_set ?_ GE167.out) | exact HB.out)⟩
  · rw [if_neg c2] at H
    have c2b0 : decide (1 ≤ a0_0) = false := decide_eq_false c2
    clear c2
    obtain rfl := Option.some.inj H
    go_enter Try.func81, Try.ntmps81
    go_wp2_with (first | ((with_reducible refine gate_dst (N := 1) rfl ?_); (try (refine gate_guard (by rfl) ?_; dsimp only)); refine box_event ?hg (N := 1) ?hd (cs := #[.int .i64 a0_0, .string a0_1, .bool a0_2]) (t := 80) ?hr ?_; (case hd => rfl); (case hg => rfl); (case hr => first | (go_simp; done) | (go_simp; rfl)); intro gb167 hg w14 hbox hb; have n0_ := Aside0.mk (below_step (by repeat (first | (with_reducible first | exact HB.out | apply below_alloc | apply pw_below_drewN | apply below_drew1) | exact HB.out)) hb); have n1_ := Aside0.mk (hbox); have n2_ := Aside0.mk ((by rw [hg]; exact (below_size (by repeat (first | (with_reducible first | exact HB.out | apply below_alloc | apply pw_below_drewN | apply below_drew1) | exact HB.out))) : w.heap.size ≤ gb167)); have n3_ := Aside0.mk ((by rw [hg]; exact (below_size (by repeat (first | (with_reducible first | exact HB.out | apply below_alloc | apply pw_below_drewN | apply below_drew1) | exact HB.out))) : w.heap.size ≤ gb167)); clear HB; have HB := n0_; have BK167 := n1_; have GW167 := n2_; have GE167 := n3_; clear n0_ n1_ n2_ n3_; clear hb hbox hg; have hcz15_0 : w14.cell? ⟨gb167, 0, none⟩ = some (.int .i64 a0_0) := (blk_cell BK167.out 0).trans rfl; have hcz15_1 : w14.cell? ⟨gb167, 1, none⟩ = some (.string a0_1) := (blk_cell BK167.out 1).trans rfl; have hcz15_2 : w14.cell? ⟨gb167, 2, none⟩ = some (.bool a0_2) := (blk_cell BK167.out 2).trans rfl; have hfz15_0 := blk_frozen BK167.out 0; have hfz15_1 := blk_frozen BK167.out 1; have hfz15_2 := blk_frozen BK167.out 2))
    go_ret
    exact ⟨by first | rfl | (simp [errW_none, errW_some] <;> rfl) | (simp [*, errW_none, errW_some] <;> rfl), by repeat (first | (with_reducible first | exact HB.out | apply below_alloc | apply pw_below_drewN | apply below_drew1 | refine below_set ?_ GE167.out) | exact HB.out)⟩
end Go.Proofs.Ytehcmedeeaoebaa.PB
end
