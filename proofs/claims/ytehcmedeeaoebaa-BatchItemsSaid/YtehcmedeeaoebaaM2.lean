import Derived.Test.YtehcmedeeaoebaaM1
import Derived.Test.YtehcmedeeaoebaaM0
import Derived.WalkMore
import Derived.BigRegion
import Derived.RegionTactic
section
namespace Go.Proofs.Ytehcmedeeaoebaa.PB
open Go.RowKit Go.Proofs.YtehcmedeeaoebaaW.PrintWords Go.Proofs.YtehcmedeeaoebaaW.PrintLast Go.Proofs.YtehcmedeeaoebaaW.PrintMore
set_option linter.unusedVariables false
set_option linter.unusedSimpArgs false
abbrev RdR := Option (Int × List S52 × Int × Int)
def rdBad : RdR := some (0, [], 0, 4)
def readEnd (k : Nat) (s : ByteArray) (t at_ : Int) (acc : List S52) : RdR :=
  if at_ = s.size then (batch_Check.f k t acc).bind fun e => if e = 0 then some (t, acc, 0, 0) else rdBad else rdBad
def textP (s : ByteArray) (at_ : Int) : Option (ByteArray × Int) :=
  if at_ < s.size then if at_ + 1 + bt s at_ ≤ s.size then some (s.extract (at_ + 1).toNat (at_ + 1 + bt s at_).toNat, at_ + 1 + bt s at_) else none else none
def readLoop (k : Nat) (s : ByteArray) (t : Int) : Nat → Int → List S52 → RdR
  | 0, at_, acc => readEnd k s t at_ acc
  | n + 1, at_, acc => if at_ < s.size then if 1 < bt s at_ then rdBad else
      match textP s (at_ + 1) with
      | none => rdBad
      | some (key, at1) => match textP s at1 with
        | none => rdBad
        | some (val, at2) => readLoop k s t n at2 (acc ++ [⟨key, val, bt s at_ == 1⟩])
    else rdBad
def batch_Read.f (k : Nat) (s : ByteArray) : RdR :=
  if s.size < 9 then rdBad else if 16384 < s.size then rdBad else
    let t := wrap64 (be (bytesOf (s.extract 1 9)))
    if bt s 0 = 77 ∧ s.size = 9 ∧ 0 ≤ t ∧ t ≤ 1152921504606846976 then some (0, [], t, 0)
    else if bt s 0 ≠ 66 ∨ s.size = 9 then rdBad
    else readLoop k s t (bt s 9).toNat 10 []
theorem readEnd_mono (k : Nat) (s : ByteArray) (t at_ : Int) (acc : List S52) : LeO (readEnd k s t at_ acc) (readEnd (k + 1) s t at_ acc) := by
  unfold readEnd
  exact LeO.ite (LeO.bind (batch_Check.mono _ _ _) fun _ => LeO.refl _) (LeO.refl _)
theorem readLoop_mono (k : Nat) (s : ByteArray) (t : Int) : ∀ n at_ acc, LeO (readLoop k s t n at_ acc) (readLoop (k + 1) s t n at_ acc)
  | 0, _, _ => readEnd_mono _ _ _ _ _
  | n + 1, at_, acc => by
    rw [readLoop, readLoop]
    refine LeO.ite (LeO.ite (LeO.refl _) ?_) (LeO.refl _)
    rcases textP s (at_ + 1) with _ | ⟨key, at1⟩
    · exact LeO.refl _
    simp only
    rcases textP s at1 with _ | ⟨val, at2⟩
    · exact LeO.refl _
    exact readLoop_mono k s t n _ _
theorem batch_Read.mono : ∀ a0 k, LeO (batch_Read.f k a0) (batch_Read.f (k + 1) a0) := by
  intro a0 k
  unfold batch_Read.f
  exact LeO.ite (LeO.refl _) (LeO.ite (LeO.refl _) (LeO.ite (LeO.refl _) (LeO.ite (LeO.refl _) (readLoop_mono _ _ _ _ _ _))))
theorem text_f (s : ByteArray) (at_ : Int) (h0 : 0 ≤ at_) (h1 : at_ ≤ s.size) (hs : s.size ≤ 16384) :
    ∃ r1 r2, batch_text.f s at_ = some (r1, r2, (textP s at_).isSome) ∧ ∀ q, textP s at_ = some q → q = (r1, r2) := by
  have hb := bt_range s at_
  have e1 : wrap64 (at_ + 1) = at_ + 1 := by unfold wrap64; omega
  have e2 : wrap64 (bt s at_) = bt s at_ := by unfold wrap64; omega
  have e3 : wrap64 (at_ + 1 + bt s at_) = at_ + 1 + bt s at_ := by unfold wrap64; omega
  unfold batch_text.f textP
  by_cases c1 : at_ < s.size
  · rw [if_neg (by omega), if_pos h0, if_pos c1, e1, e2, e3, if_pos c1]
    by_cases c2 : at_ + 1 + bt s at_ ≤ s.size
    · rw [if_neg (by omega), if_pos (by omega), if_pos (by omega), if_pos c2, if_pos c2]
      exact ⟨_, _, rfl, fun q hq => (Option.some.inj hq).symm⟩
    · rw [if_pos (by omega), if_neg c2]
      exact ⟨_, _, rfl, fun q hq => by cases hq⟩
  · rw [if_pos (by omega), if_neg c1]
    exact ⟨_, _, rfl, fun q hq => by cases hq⟩
theorem textP_le {s : ByteArray} {at_ : Int} {q : ByteArray × Int} (h0 : 0 ≤ at_) (h : textP s at_ = some q) : at_ < q.2 ∧ q.2 ≤ s.size := by
  have hb := bt_range s at_
  unfold textP at h
  by_cases c1 : at_ < s.size
  · rw [if_pos c1] at h
    by_cases c2 : at_ + 1 + bt s at_ ≤ s.size
    · rw [if_pos c2] at h
      cases h
      exact ⟨by simp only; omega, c2⟩
    · rw [if_neg c2] at h; cases h
  · rw [if_neg c1] at h; cases h
def RJ0 (k : Nat) (s : ByteArray) (w0 : World) (r : Int × List S52 × Int × Int) (g2 : Nat) (a : Act) (w : World) : Prop := ∃ u : Nat → Value, a = { tmps := #[.string s, u 1, .pointer (some ⟨g2, 0, none⟩), u 3, u 4, u 5, u 6, u 7, u 8, u 9, u 10, u 11, u 12, u 13, u 14, u 15, u 16, u 17, u 18, u 19, u 20, u 21, u 22, u 23, u 24, u 25, u 26, u 27, u 28, u 29, u 30, u 31, u 32, u 33, u 34, u 35, u 36, u 37, u 38, u 39, u 40, u 41, u 42, u 43, u 44, u 45, u 46, u 47, u 48, u 49, u 50, u 51, u 52, u 53, u 54, u 55, u 56, u 57, u 58, u 59, u 60, u 61, u 62, u 63, u 64, u 65, u 66, u 67, u 68, u 69, u 70, u 71, u 72, u 73, u 74, u 75, u 76, u 77, u 78, u 79, u 80, u 81, u 82, u 83, u 84, u 85, u 86, u 87, u 88, u 89, u 90, u 91, u 92, u 93, u 94, u 95, u 96, u 97, u 98, u 99, u 100, u 101, u 102, u 103, u 104, u 105, u 106, u 107, u 108, u 109, u 110, u 111, u 112, u 113, u 114], defers := [] } ∧ Aside0 (w0.heap.size ≤ g2) ∧ Aside0 (rdBad = some r) ∧ Aside0 (Below w0.heap.size w0 w) ∧ Aside0 (w.heap[g2]? = some (.cells #[.int .i64 0, .slice none 0 0] 24 (0, 0)))
def RJ1 (k : Nat) (s : ByteArray) (w0 : World) (r : Int × List S52 × Int × Int) (g2 : Nat) (a : Act) (w : World) : Prop := ∃ (u : Nat → Value) (v : Value), ∃ (g5 g6 : Nat) (t at_ : Int) (acc : List S52), a = { tmps := #[.string s, u 1, .pointer (some ⟨g2, 0, none⟩), u 3, u 4, .pointer (some ⟨g5, 0, none⟩), u 6, u 7, .int .i64 at_, u 9, u 10, u 11, u 12, u 13, u 14, u 15, u 16, u 17, u 18, u 19, u 20, u 21, u 22, u 23, u 24, u 25, u 26, u 27, u 28, u 29, u 30, u 31, u 32, u 33, u 34, u 35, u 36, u 37, u 38, u 39, u 40, u 41, u 42, u 43, u 44, u 45, u 46, u 47, u 48, u 49, u 50, u 51, u 52, u 53, u 54, u 55, u 56, u 57, u 58, u 59, u 60, u 61, u 62, u 63, u 64, u 65, u 66, u 67, u 68, u 69, u 70, u 71, u 72, u 73, u 74, u 75, u 76, u 77, u 78, u 79, u 80, u 81, u 82, u 83, u 84, u 85, u 86, u 87, u 88, u 89, u 90, u 91, u 92, u 93, u 94, u 95, u 96, u 97, u 98, u 99, u 100, u 101, u 102, u 103, u 104, u 105, u 106, u 107, u 108, u 109, u 110, u 111, u 112, u 113, u 114], defers := [] } ∧ Aside0 (g2 ≠ g5 ∧ g2 ≠ g6 ∧ g5 ≠ g6 ∧ w0.heap.size ≤ g2 ∧ w0.heap.size ≤ g5 ∧ w0.heap.size ≤ g6) ∧ Aside0 (readEnd k s t at_ acc = some r) ∧ Aside0 (Below w0.heap.size w0 w) ∧ Aside0 (w.heap[g2]? = some (.cells #[.int .i64 0, .slice none 0 0] 24 (0, 0))) ∧ Aside0 (w.heap[g5]? = some (.cells #[.int .i64 t, v] 24 (0, 0))) ∧ Aside0 (Kd.R k52 52 w w0.heap.size (fun k_ => k_ ≠ g6 ∧ k_ ≠ g5 ∧ k_ ≠ g2) v acc)
def RJ2 (k : Nat) (s : ByteArray) (w0 : World) (r : Int × List S52 × Int × Int) (g2 : Nat) (a : Act) (w : World) : Prop := ∃ (u : Nat → Value) (v : Value), ∃ (g5 g6 : Nat) (t at_ left : Int) (acc : List S52) (c0 c1 : ByteArray) (c2 : Bool), a = { tmps := #[.string s, u 1, .pointer (some ⟨g2, 0, none⟩), u 3, u 4, .pointer (some ⟨g5, 0, none⟩), .pointer (some ⟨g6, 0, none⟩), u 7, .int .i64 at_, .int .i64 left, u 10, u 11, u 12, u 13, u 14, u 15, u 16, u 17, u 18, u 19, u 20, u 21, u 22, u 23, u 24, u 25, u 26, u 27, u 28, u 29, u 30, u 31, u 32, u 33, u 34, u 35, u 36, u 37, u 38, u 39, u 40, u 41, u 42, u 43, u 44, u 45, u 46, u 47, u 48, u 49, u 50, u 51, u 52, u 53, u 54, u 55, u 56, u 57, u 58, u 59, u 60, u 61, u 62, u 63, u 64, u 65, u 66, u 67, u 68, u 69, u 70, u 71, u 72, u 73, u 74, u 75, u 76, u 77, u 78, u 79, u 80, u 81, u 82, u 83, u 84, u 85, u 86, u 87, u 88, u 89, u 90, u 91, u 92, u 93, u 94, u 95, u 96, u 97, u 98, u 99, u 100, u 101, u 102, u 103, u 104, u 105, u 106, u 107, u 108, u 109, u 110, u 111, u 112, u 113, u 114], defers := [] } ∧ Aside0 (g2 ≠ g5 ∧ g2 ≠ g6 ∧ g5 ≠ g6 ∧ w0.heap.size ≤ g2 ∧ w0.heap.size ≤ g5 ∧ w0.heap.size ≤ g6) ∧ (9 ≤ s.size ∧ s.size ≤ 16384) ∧ 0 ≤ at_ ∧ at_ ≤ s.size ∧ 0 ≤ left ∧ acc.length + left ≤ 255 ∧ Aside0 (readLoop k s t left.toNat at_ acc = some r) ∧ Aside0 (Below w0.heap.size w0 w) ∧ Aside0 (w.heap[g2]? = some (.cells #[.int .i64 0, .slice none 0 0] 24 (0, 0))) ∧ Aside0 (w.heap[g5]? = some (.cells #[.int .i64 t, v] 24 (0, 0))) ∧ Aside0 (w.heap[g6]? = some (.cells #[.string c0, .string c1, .bool c2] 52 (0, 0))) ∧ Aside0 (Kd.R k52 52 w w0.heap.size (fun k_ => k_ ≠ g6 ∧ k_ ≠ g5 ∧ k_ ≠ g2) v acc)
def RJ (k : Nat) (s : ByteArray) (w0 : World) (r : Int × List S52 × Int × Int) (g2 : Nat) : Nat → Act → World → Prop
  | 0 => RJ0 k s w0 r g2
  | 1 => RJ1 k s w0 r g2
  | 2 => RJ2 k s w0 r g2
  | _ => fun _ _ => False
def Rmu (l : Nat) (a : Act) (_ : World) : Nat := if l = 2 then 2 + (intOf (a.tmps.getD 9 undef)).toNat else l
theorem RJ0_mk {k : Nat} {s : ByteArray} {w0 : World} {r : Int × List S52 × Int × Int} {g2 : Nat} {w : World} {u1 u3 u4 u5 u6 u7 u8 u9 u10 u11 u12 u13 u14 u15 u16 u17 u18 u19 u20 u21 u22 u23 u24 u25 u26 u27 u28 u29 u30 u31 u32 u33 u34 u35 u36 u37 u38 u39 u40 u41 u42 u43 u44 u45 u46 u47 u48 u49 u50 u51 u52 u53 u54 u55 u56 u57 u58 u59 u60 u61 u62 u63 u64 u65 u66 u67 u68 u69 u70 u71 u72 u73 u74 u75 u76 u77 u78 u79 u80 u81 u82 u83 u84 u85 u86 u87 u88 u89 u90 u91 u92 u93 u94 u95 u96 u97 u98 u99 u100 u101 u102 u103 u104 u105 u106 u107 u108 u109 u110 u111 u112 u113 u114 : Value}  (h : Aside0 (w0.heap.size ≤ g2) ∧ Aside0 (rdBad = some r) ∧ Aside0 (Below w0.heap.size w0 w) ∧ Aside0 (w.heap[g2]? = some (.cells #[.int .i64 0, .slice none 0 0] 24 (0, 0)))) : RJ k s w0 r g2 0 { tmps := #[.string s, u1, .pointer (some ⟨g2, 0, none⟩), u3, u4, u5, u6, u7, u8, u9, u10, u11, u12, u13, u14, u15, u16, u17, u18, u19, u20, u21, u22, u23, u24, u25, u26, u27, u28, u29, u30, u31, u32, u33, u34, u35, u36, u37, u38, u39, u40, u41, u42, u43, u44, u45, u46, u47, u48, u49, u50, u51, u52, u53, u54, u55, u56, u57, u58, u59, u60, u61, u62, u63, u64, u65, u66, u67, u68, u69, u70, u71, u72, u73, u74, u75, u76, u77, u78, u79, u80, u81, u82, u83, u84, u85, u86, u87, u88, u89, u90, u91, u92, u93, u94, u95, u96, u97, u98, u99, u100, u101, u102, u103, u104, u105, u106, u107, u108, u109, u110, u111, u112, u113, u114], defers := [] } w := ⟨fun i => match i with | 1 => u1 | 3 => u3 | 4 => u4 | 5 => u5 | 6 => u6 | 7 => u7 | 8 => u8 | 9 => u9 | 10 => u10 | 11 => u11 | 12 => u12 | 13 => u13 | 14 => u14 | 15 => u15 | 16 => u16 | 17 => u17 | 18 => u18 | 19 => u19 | 20 => u20 | 21 => u21 | 22 => u22 | 23 => u23 | 24 => u24 | 25 => u25 | 26 => u26 | 27 => u27 | 28 => u28 | 29 => u29 | 30 => u30 | 31 => u31 | 32 => u32 | 33 => u33 | 34 => u34 | 35 => u35 | 36 => u36 | 37 => u37 | 38 => u38 | 39 => u39 | 40 => u40 | 41 => u41 | 42 => u42 | 43 => u43 | 44 => u44 | 45 => u45 | 46 => u46 | 47 => u47 | 48 => u48 | 49 => u49 | 50 => u50 | 51 => u51 | 52 => u52 | 53 => u53 | 54 => u54 | 55 => u55 | 56 => u56 | 57 => u57 | 58 => u58 | 59 => u59 | 60 => u60 | 61 => u61 | 62 => u62 | 63 => u63 | 64 => u64 | 65 => u65 | 66 => u66 | 67 => u67 | 68 => u68 | 69 => u69 | 70 => u70 | 71 => u71 | 72 => u72 | 73 => u73 | 74 => u74 | 75 => u75 | 76 => u76 | 77 => u77 | 78 => u78 | 79 => u79 | 80 => u80 | 81 => u81 | 82 => u82 | 83 => u83 | 84 => u84 | 85 => u85 | 86 => u86 | 87 => u87 | 88 => u88 | 89 => u89 | 90 => u90 | 91 => u91 | 92 => u92 | 93 => u93 | 94 => u94 | 95 => u95 | 96 => u96 | 97 => u97 | 98 => u98 | 99 => u99 | 100 => u100 | 101 => u101 | 102 => u102 | 103 => u103 | 104 => u104 | 105 => u105 | 106 => u106 | 107 => u107 | 108 => u108 | 109 => u109 | 110 => u110 | 111 => u111 | 112 => u112 | 113 => u113 | 114 => u114 | _ => undef, rfl, h⟩
theorem RJ1_mk {k : Nat} {s : ByteArray} {w0 : World} {r : Int × List S52 × Int × Int} {g2 : Nat} {w : World} {u1 u3 u4 u6 u7 u9 u10 u11 u12 u13 u14 u15 u16 u17 u18 u19 u20 u21 u22 u23 u24 u25 u26 u27 u28 u29 u30 u31 u32 u33 u34 u35 u36 u37 u38 u39 u40 u41 u42 u43 u44 u45 u46 u47 u48 u49 u50 u51 u52 u53 u54 u55 u56 u57 u58 u59 u60 u61 u62 u63 u64 u65 u66 u67 u68 u69 u70 u71 u72 u73 u74 u75 u76 u77 u78 u79 u80 u81 u82 u83 u84 u85 u86 u87 u88 u89 u90 u91 u92 u93 u94 u95 u96 u97 u98 u99 u100 u101 u102 u103 u104 u105 u106 u107 u108 u109 u110 u111 u112 u113 u114 : Value} {v : Value} {g5 g6 : Nat} {t at_ : Int} {acc : List S52} (h : Aside0 (g2 ≠ g5 ∧ g2 ≠ g6 ∧ g5 ≠ g6 ∧ w0.heap.size ≤ g2 ∧ w0.heap.size ≤ g5 ∧ w0.heap.size ≤ g6) ∧ Aside0 (readEnd k s t at_ acc = some r) ∧ Aside0 (Below w0.heap.size w0 w) ∧ Aside0 (w.heap[g2]? = some (.cells #[.int .i64 0, .slice none 0 0] 24 (0, 0))) ∧ Aside0 (w.heap[g5]? = some (.cells #[.int .i64 t, v] 24 (0, 0))) ∧ Aside0 (Kd.R k52 52 w w0.heap.size (fun k_ => k_ ≠ g6 ∧ k_ ≠ g5 ∧ k_ ≠ g2) v acc)) : RJ k s w0 r g2 1 { tmps := #[.string s, u1, .pointer (some ⟨g2, 0, none⟩), u3, u4, .pointer (some ⟨g5, 0, none⟩), u6, u7, .int .i64 at_, u9, u10, u11, u12, u13, u14, u15, u16, u17, u18, u19, u20, u21, u22, u23, u24, u25, u26, u27, u28, u29, u30, u31, u32, u33, u34, u35, u36, u37, u38, u39, u40, u41, u42, u43, u44, u45, u46, u47, u48, u49, u50, u51, u52, u53, u54, u55, u56, u57, u58, u59, u60, u61, u62, u63, u64, u65, u66, u67, u68, u69, u70, u71, u72, u73, u74, u75, u76, u77, u78, u79, u80, u81, u82, u83, u84, u85, u86, u87, u88, u89, u90, u91, u92, u93, u94, u95, u96, u97, u98, u99, u100, u101, u102, u103, u104, u105, u106, u107, u108, u109, u110, u111, u112, u113, u114], defers := [] } w := ⟨fun i => match i with | 1 => u1 | 3 => u3 | 4 => u4 | 6 => u6 | 7 => u7 | 9 => u9 | 10 => u10 | 11 => u11 | 12 => u12 | 13 => u13 | 14 => u14 | 15 => u15 | 16 => u16 | 17 => u17 | 18 => u18 | 19 => u19 | 20 => u20 | 21 => u21 | 22 => u22 | 23 => u23 | 24 => u24 | 25 => u25 | 26 => u26 | 27 => u27 | 28 => u28 | 29 => u29 | 30 => u30 | 31 => u31 | 32 => u32 | 33 => u33 | 34 => u34 | 35 => u35 | 36 => u36 | 37 => u37 | 38 => u38 | 39 => u39 | 40 => u40 | 41 => u41 | 42 => u42 | 43 => u43 | 44 => u44 | 45 => u45 | 46 => u46 | 47 => u47 | 48 => u48 | 49 => u49 | 50 => u50 | 51 => u51 | 52 => u52 | 53 => u53 | 54 => u54 | 55 => u55 | 56 => u56 | 57 => u57 | 58 => u58 | 59 => u59 | 60 => u60 | 61 => u61 | 62 => u62 | 63 => u63 | 64 => u64 | 65 => u65 | 66 => u66 | 67 => u67 | 68 => u68 | 69 => u69 | 70 => u70 | 71 => u71 | 72 => u72 | 73 => u73 | 74 => u74 | 75 => u75 | 76 => u76 | 77 => u77 | 78 => u78 | 79 => u79 | 80 => u80 | 81 => u81 | 82 => u82 | 83 => u83 | 84 => u84 | 85 => u85 | 86 => u86 | 87 => u87 | 88 => u88 | 89 => u89 | 90 => u90 | 91 => u91 | 92 => u92 | 93 => u93 | 94 => u94 | 95 => u95 | 96 => u96 | 97 => u97 | 98 => u98 | 99 => u99 | 100 => u100 | 101 => u101 | 102 => u102 | 103 => u103 | 104 => u104 | 105 => u105 | 106 => u106 | 107 => u107 | 108 => u108 | 109 => u109 | 110 => u110 | 111 => u111 | 112 => u112 | 113 => u113 | 114 => u114 | _ => undef, _, _, _, _, _, _, rfl, h⟩
theorem RJ2_mk {k : Nat} {s : ByteArray} {w0 : World} {r : Int × List S52 × Int × Int} {g2 : Nat} {w : World} {u1 u3 u4 u7 u10 u11 u12 u13 u14 u15 u16 u17 u18 u19 u20 u21 u22 u23 u24 u25 u26 u27 u28 u29 u30 u31 u32 u33 u34 u35 u36 u37 u38 u39 u40 u41 u42 u43 u44 u45 u46 u47 u48 u49 u50 u51 u52 u53 u54 u55 u56 u57 u58 u59 u60 u61 u62 u63 u64 u65 u66 u67 u68 u69 u70 u71 u72 u73 u74 u75 u76 u77 u78 u79 u80 u81 u82 u83 u84 u85 u86 u87 u88 u89 u90 u91 u92 u93 u94 u95 u96 u97 u98 u99 u100 u101 u102 u103 u104 u105 u106 u107 u108 u109 u110 u111 u112 u113 u114 : Value} {v : Value} {g5 g6 : Nat} {t at_ left : Int} {acc : List S52} {c0 c1 : ByteArray} {c2 : Bool} (h : Aside0 (g2 ≠ g5 ∧ g2 ≠ g6 ∧ g5 ≠ g6 ∧ w0.heap.size ≤ g2 ∧ w0.heap.size ≤ g5 ∧ w0.heap.size ≤ g6) ∧ (9 ≤ s.size ∧ s.size ≤ 16384) ∧ 0 ≤ at_ ∧ at_ ≤ s.size ∧ 0 ≤ left ∧ acc.length + left ≤ 255 ∧ Aside0 (readLoop k s t left.toNat at_ acc = some r) ∧ Aside0 (Below w0.heap.size w0 w) ∧ Aside0 (w.heap[g2]? = some (.cells #[.int .i64 0, .slice none 0 0] 24 (0, 0))) ∧ Aside0 (w.heap[g5]? = some (.cells #[.int .i64 t, v] 24 (0, 0))) ∧ Aside0 (w.heap[g6]? = some (.cells #[.string c0, .string c1, .bool c2] 52 (0, 0))) ∧ Aside0 (Kd.R k52 52 w w0.heap.size (fun k_ => k_ ≠ g6 ∧ k_ ≠ g5 ∧ k_ ≠ g2) v acc)) : RJ k s w0 r g2 2 { tmps := #[.string s, u1, .pointer (some ⟨g2, 0, none⟩), u3, u4, .pointer (some ⟨g5, 0, none⟩), .pointer (some ⟨g6, 0, none⟩), u7, .int .i64 at_, .int .i64 left, u10, u11, u12, u13, u14, u15, u16, u17, u18, u19, u20, u21, u22, u23, u24, u25, u26, u27, u28, u29, u30, u31, u32, u33, u34, u35, u36, u37, u38, u39, u40, u41, u42, u43, u44, u45, u46, u47, u48, u49, u50, u51, u52, u53, u54, u55, u56, u57, u58, u59, u60, u61, u62, u63, u64, u65, u66, u67, u68, u69, u70, u71, u72, u73, u74, u75, u76, u77, u78, u79, u80, u81, u82, u83, u84, u85, u86, u87, u88, u89, u90, u91, u92, u93, u94, u95, u96, u97, u98, u99, u100, u101, u102, u103, u104, u105, u106, u107, u108, u109, u110, u111, u112, u113, u114], defers := [] } w := ⟨fun i => match i with | 1 => u1 | 3 => u3 | 4 => u4 | 7 => u7 | 10 => u10 | 11 => u11 | 12 => u12 | 13 => u13 | 14 => u14 | 15 => u15 | 16 => u16 | 17 => u17 | 18 => u18 | 19 => u19 | 20 => u20 | 21 => u21 | 22 => u22 | 23 => u23 | 24 => u24 | 25 => u25 | 26 => u26 | 27 => u27 | 28 => u28 | 29 => u29 | 30 => u30 | 31 => u31 | 32 => u32 | 33 => u33 | 34 => u34 | 35 => u35 | 36 => u36 | 37 => u37 | 38 => u38 | 39 => u39 | 40 => u40 | 41 => u41 | 42 => u42 | 43 => u43 | 44 => u44 | 45 => u45 | 46 => u46 | 47 => u47 | 48 => u48 | 49 => u49 | 50 => u50 | 51 => u51 | 52 => u52 | 53 => u53 | 54 => u54 | 55 => u55 | 56 => u56 | 57 => u57 | 58 => u58 | 59 => u59 | 60 => u60 | 61 => u61 | 62 => u62 | 63 => u63 | 64 => u64 | 65 => u65 | 66 => u66 | 67 => u67 | 68 => u68 | 69 => u69 | 70 => u70 | 71 => u71 | 72 => u72 | 73 => u73 | 74 => u74 | 75 => u75 | 76 => u76 | 77 => u77 | 78 => u78 | 79 => u79 | 80 => u80 | 81 => u81 | 82 => u82 | 83 => u83 | 84 => u84 | 85 => u85 | 86 => u86 | 87 => u87 | 88 => u88 | 89 => u89 | 90 => u90 | 91 => u91 | 92 => u92 | 93 => u93 | 94 => u94 | 95 => u95 | 96 => u96 | 97 => u97 | 98 => u98 | 99 => u99 | 100 => u100 | 101 => u101 | 102 => u102 | 103 => u103 | 104 => u104 | 105 => u105 | 106 => u106 | 107 => u107 | 108 => u108 | 109 => u109 | 110 => u110 | 111 => u111 | 112 => u112 | 113 => u113 | 114 => u114 | _ => undef, _, _, _, _, _, _, _, _, _, _, rfl, h⟩
set_option maxHeartbeats 16000000 in
set_option maxRecDepth 100000 in
theorem batch_Read.calls (k : Nat) (a0 : ByteArray) (r1 : Int) (r2 : List (S52)) (r3 : Int) (r4 : Int) (w : World) (h : batch_Read.f k a0 = some (r1, r2, r3, r4)) :
    Calls Try.prog 10 #[.string a0] w fun e w' => ∃ v1_ : Value, e = .returned (.tuple #[.agg #[.int .i64 r1, v1_], .int .i64 r3, .int .i64 r4]) ∧ Kd.R k52 52 w' w.heap.size (fun _ => True) v1_ r2 ∧ Below w.heap.size w w' := by
  obtain ⟨r, hr⟩ : ∃ r, r = (r1, r2, r3, r4) := ⟨_, rfl⟩
  rw [← hr] at h
  have HRR := Aside0.mk hr
  clear hr
  have HF := Aside0.mk h
  clear h
  have HB := Aside0.mk (Below.refl w.heap.size w)
  go_enter Try.func10, Try.ntmps10
  go_wp2_with (first | ((with_reducible refine gate_dst (N := 2) rfl ?_); refine box_event ?hg (N := 2) ?hd (cs := #[.int .i64 0, .slice none 0 0]) (t := 24) ?hr ?_; (case hd => rfl); (case hg => rfl); (case hr => first | (go_simp; done) | (go_simp; rfl)); intro g2 hg w1 hbox hb; have G2 := Aside0.mk (show w.heap.size ≤ g2 from (by rw [hg]; exact HB.out.size)); have B2 := Aside0.mk hbox; clear hbox hg; have n0_ := Aside0.mk (below_then HB.out HB.out.size hb); clear HB; have HB := n0_; clear n0_; clear hb))
  refine wp_scope_labels (RJ k a0 w r g2) Rmu ?_ ?_
  · have hF := HF.out
    unfold batch_Read.f at hF
    by_cases c1 : a0.size < 9
    · rw [if_pos c1] at hF
      have HF2 := Aside0.mk hF
      clear hF HF
      have d1 : decide ((a0.size : Int) < 9) = true := decide_eq_true (by omega)
      go_wp2_with (first | ((with_reducible refine gate_dst (N := 5) rfl ?_); refine box_event ?hg (N := 5) ?hd (cs := #[.int .i64 0, .slice none 0 0]) (t := 24) ?hr ?_; (case hd => rfl); (case hg => rfl); (case hr => first | (go_simp; done) | (go_simp; rfl)); intro g5 hg w2 hbox hb; have G5 := Aside0.mk (show w.heap.size ≤ g5 from (by rw [hg]; exact HB.out.size)); have H25 := Aside0.mk (show g2 ≠ g5 from fun e => absurd (blk_lt B2.out) (by omega)); have B5 := Aside0.mk hbox; clear hbox hg; have n0_ := Aside0.mk (below_then HB.out HB.out.size hb); have n1_ := Aside0.mk ((hb.block _ (blk_lt B2.out)).trans B2.out); clear HB B2; have HB := n0_; have B2 := n1_; clear n0_ n1_; clear hb) | ((with_reducible refine gate_dst (N := 6) rfl ?_); refine box_event ?hg (N := 6) ?hd (cs := #[.string ⟨#[]⟩, .string ⟨#[]⟩, .bool false]) (t := 52) ?hr ?_; (case hd => rfl); (case hg => rfl); (case hr => first | (go_simp; done) | (go_simp; rfl)); intro g6 hg w3 hbox hb; have G6 := Aside0.mk (show w.heap.size ≤ g6 from (by rw [hg]; exact HB.out.size)); have H26 := Aside0.mk (show g2 ≠ g6 from fun e => absurd (blk_lt B2.out) (by omega)); have H56 := Aside0.mk (show g5 ≠ g6 from fun e => absurd (blk_lt B5.out) (by omega)); have B6 := Aside0.mk hbox; clear hbox hg; have n0_ := Aside0.mk (below_then HB.out HB.out.size hb); have n1_ := Aside0.mk ((hb.block _ (blk_lt B2.out)).trans B2.out); have n2_ := Aside0.mk ((hb.block _ (blk_lt B5.out)).trans B5.out); clear HB B2 B5; have HB := n0_; have B2 := n1_; have B5 := n2_; clear n0_ n1_ n2_; clear hb) | go_step3)
      exact RJ0_mk (k := k) ⟨G2, HF2, HB, B2⟩
    rw [if_neg c1] at hF
    have d1 : decide ((a0.size : Int) < 9) = false := decide_eq_false (by omega)
    by_cases c2 : 16384 < a0.size
    · rw [if_pos c2] at hF
      have HF2 := Aside0.mk hF
      clear hF HF
      have d2 : decide (16384 < (a0.size : Int)) = true := decide_eq_true (by omega)
      go_wp2_with (first | ((with_reducible refine gate_dst (N := 5) rfl ?_); refine box_event ?hg (N := 5) ?hd (cs := #[.int .i64 0, .slice none 0 0]) (t := 24) ?hr ?_; (case hd => rfl); (case hg => rfl); (case hr => first | (go_simp; done) | (go_simp; rfl)); intro g5 hg w2 hbox hb; have G5 := Aside0.mk (show w.heap.size ≤ g5 from (by rw [hg]; exact HB.out.size)); have H25 := Aside0.mk (show g2 ≠ g5 from fun e => absurd (blk_lt B2.out) (by omega)); have B5 := Aside0.mk hbox; clear hbox hg; have n0_ := Aside0.mk (below_then HB.out HB.out.size hb); have n1_ := Aside0.mk ((hb.block _ (blk_lt B2.out)).trans B2.out); clear HB B2; have HB := n0_; have B2 := n1_; clear n0_ n1_; clear hb) | ((with_reducible refine gate_dst (N := 6) rfl ?_); refine box_event ?hg (N := 6) ?hd (cs := #[.string ⟨#[]⟩, .string ⟨#[]⟩, .bool false]) (t := 52) ?hr ?_; (case hd => rfl); (case hg => rfl); (case hr => first | (go_simp; done) | (go_simp; rfl)); intro g6 hg w3 hbox hb; have G6 := Aside0.mk (show w.heap.size ≤ g6 from (by rw [hg]; exact HB.out.size)); have H26 := Aside0.mk (show g2 ≠ g6 from fun e => absurd (blk_lt B2.out) (by omega)); have H56 := Aside0.mk (show g5 ≠ g6 from fun e => absurd (blk_lt B5.out) (by omega)); have B6 := Aside0.mk hbox; clear hbox hg; have n0_ := Aside0.mk (below_then HB.out HB.out.size hb); have n1_ := Aside0.mk ((hb.block _ (blk_lt B2.out)).trans B2.out); have n2_ := Aside0.mk ((hb.block _ (blk_lt B5.out)).trans B5.out); clear HB B2 B5; have HB := n0_; have B2 := n1_; have B5 := n2_; clear n0_ n1_ n2_; clear hb) | go_step3)
      exact RJ0_mk (k := k) ⟨G2, HF2, HB, B2⟩
    rw [if_neg c2] at hF
    have d2 : decide (16384 < (a0.size : Int)) = false := decide_eq_false (by omega)
    have c0 : 9 ≤ a0.size ∧ a0.size ≤ 16384 := by omega
    obtain ⟨tail, htail⟩ : ∃ tail, tail = a0.extract 1 9 := ⟨_, rfl⟩
    have htl : tail.size = 8 := by rw [htail, ByteArray.size_extract]; omega
    obtain ⟨t, ht⟩ : ∃ t, wrap64 (be (bytesOf tail)) = t := ⟨_, rfl⟩
    rw [← htail, ht] at hF
    simp only at hF
    have HT := Aside0.mk (show wrap64 (be (((bytesOf tail).take ((0 : Int) + 8).toNat).drop (0 : Int).toNat)) = t from by simp only [Int.zero_add, Int.toNat_zero, List.drop_zero]; rw [List.take_of_length_le (by rw [bytesOf_length]; simp; omega)]; exact ht)
    have HTL := Aside0.mk htail
    have kb := fun W => print_bytes (P := Try.prog) 9 72 5 Try.underlying9 Try.underlying72 Try.underlying5 tail W
    have htl1 : tail.size ≤ 8 := by omega
    have htl2 : 8 ≤ tail.size := by omega
    have hex : a0.extract 1 9 = tail := htail.symm
    clear htl ht htail HF
    have h0s : 0 < a0.size := by omega
    have hbt : ((a0[0]'h0s).toNat : Int) = bt a0 0 := bt_at a0 0 h0s
    have HFF := Aside0.mk hF
    clear hF
    by_cases h77 : bt a0 0 = 77
    · have e77 : (bt a0 0 == 77) = true := by simpa using h77
      have e66 : (bt a0 0 != 66) = true := by rw [bne_iff_ne]; omega
      have hbad : ¬ (bt a0 0 = 77 ∧ a0.size = 9 ∧ 0 ≤ t ∧ t ≤ 1152921504606846976) → Aside0 (rdBad = some r) := fun hn => ⟨by have := HFF.out; rw [if_neg hn, if_pos (by omega)] at this; exact this⟩
      by_cases h9 : a0.size = 9
      · have e9 : ((a0.size : Int) == 9) = true := beq_iff_eq.2 (by omega)
        by_cases ht0 : 0 ≤ t
        · have et0 : decide (0 ≤ t) = true := decide_eq_true ht0
          by_cases ht1 : t ≤ 1152921504606846976
          · have et1 : decide (t ≤ 1152921504606846976) = true := decide_eq_true ht1
            have hq : (0, [], t, 0) = r := by have := HFF.out; rw [if_pos ⟨h77, h9, ht0, ht1⟩] at this; exact Option.some.inj this
            obtain ⟨rfl, rfl, rfl, rfl⟩ : 0 = r1 ∧ [] = r2 ∧ t = r3 ∧ 0 = r4 := by have := hq.trans HRR.out; simpa using this
            clear hq hbad HFF h77 h9
            go_wp2_with (first | ((with_reducible refine gate_dst (N := 5) rfl ?_); refine box_event ?hg (N := 5) ?hd (cs := #[.int .i64 0, .slice none 0 0]) (t := 24) ?hr ?_; (case hd => rfl); (case hg => rfl); (case hr => first | (go_simp; done) | (go_simp; rfl)); intro g5 hg w2 hbox hb; have G5 := Aside0.mk (show w.heap.size ≤ g5 from (by rw [hg]; exact HB.out.size)); have H25 := Aside0.mk (show g2 ≠ g5 from fun e => absurd (blk_lt B2.out) (by omega)); have B5 := Aside0.mk hbox; clear hbox hg; have n0_ := Aside0.mk (below_then HB.out HB.out.size hb); have n1_ := Aside0.mk ((hb.block _ (blk_lt B2.out)).trans B2.out); clear HB B2; have HB := n0_; have B2 := n1_; clear n0_ n1_; clear hb) | ((with_reducible refine gate_dst (N := 6) rfl ?_); refine box_event ?hg (N := 6) ?hd (cs := #[.string ⟨#[]⟩, .string ⟨#[]⟩, .bool false]) (t := 52) ?hr ?_; (case hd => rfl); (case hg => rfl); (case hr => first | (go_simp; done) | (go_simp; rfl)); intro g6 hg w3 hbox hb; have G6 := Aside0.mk (show w.heap.size ≤ g6 from (by rw [hg]; exact HB.out.size)); have H26 := Aside0.mk (show g2 ≠ g6 from fun e => absurd (blk_lt B2.out) (by omega)); have H56 := Aside0.mk (show g5 ≠ g6 from fun e => absurd (blk_lt B5.out) (by omega)); have B6 := Aside0.mk hbox; clear hbox hg; have n0_ := Aside0.mk (below_then HB.out HB.out.size hb); have n1_ := Aside0.mk ((hb.block _ (blk_lt B2.out)).trans B2.out); have n2_ := Aside0.mk ((hb.block _ (blk_lt B5.out)).trans B5.out); clear HB B2 B5; have HB := n0_; have B2 := n1_; have B5 := n2_; clear n0_ n1_ n2_; clear hb) | ((with_reducible refine gate_dst (N := 20) rfl ?_); refine conv_event ?hg (N := 20) ?hd tail (by omega) ?hr ?_; (case hd => rfl); (case hg => rfl); (case hr => first | (go_simp; done) | (go_simp; rfl)); intro v20 w4 hv20 hrow hb; have n0_ := Aside0.mk (below_then HB.out HB.out.size hb); have n1_ := Aside0.mk ((hb.block _ (blk_lt B2.out)).trans B2.out); have n2_ := Aside0.mk ((hb.block _ (blk_lt B5.out)).trans B5.out); have n3_ := Aside0.mk ((hb.block _ (blk_lt B6.out)).trans B6.out); clear HB B2 B5 B6; have HB := n0_; have B2 := n1_; have B5 := n2_; have B6 := n3_; clear n0_ n1_ n2_ n3_; obtain ⟨gv, capv, rfl, _, _, hcv⟩ := hrow.reads; have HCV := Aside0.mk hcv; clear hrow hb hv20 hcv) | (go_at_call 33; go_must (refine (NewReader.calls _ capv (bytesOf tail) w4 HCV.out (by rw [bytesOf_length]; omega)).mono ?_); rintro e w5 ⟨gr, Ar, cr, rfl, hgr, hrd, hb⟩; have LR := Aside0.mk hgr; have L2 := Aside0.mk (Nat.lt_of_lt_of_le (blk_lt B2.out) hgr); have L5 := Aside0.mk (Nat.lt_of_lt_of_le (blk_lt B5.out) hgr); have L6 := Aside0.mk (Nat.lt_of_lt_of_le (blk_lt B6.out) hgr); have LBW := Aside0.mk (Nat.le_trans HB.out.size hgr); have n0_ := Aside0.mk (below_then HB.out HB.out.size hb); have n1_ := Aside0.mk ((hb.block _ (blk_lt B2.out)).trans B2.out); have n2_ := Aside0.mk ((hb.block _ (blk_lt B5.out)).trans B5.out); have n3_ := Aside0.mk ((hb.block _ (blk_lt B6.out)).trans B6.out); clear HB B2 B5 B6; have HB := n0_; have B2 := n1_; have B5 := n2_; have B6 := n3_; clear n0_ n1_ n2_ n3_; have RD := Aside0.mk hrd; clear hgr hrd hb) | (go_at_call 34; go_must (refine (I64.calls gr Ar cr (bytesOf tail) 0 w5 RD.out (by omega) (by rw [bytesOf_length]; omega)).mono ?_); rintro e w6 ⟨rfl, hb⟩; have n0_ := Aside0.mk (HB.out.trans (hb.mono LBW.out)); have n1_ := Aside0.mk ((hb.block _ L2.out).trans B2.out); have n2_ := Aside0.mk ((hb.block _ L5.out).trans B5.out); have n3_ := Aside0.mk ((hb.block _ L6.out).trans B6.out); clear HB B2 B5 B6 hb; have HB := n0_; have B2 := n1_; have B5 := n2_; have B6 := n3_; clear n0_ n1_ n2_ n3_; rw [HT.out]) | ((with_reducible refine gate_store (t := 3) (p := 23) (v := .tmp 22) rfl ?_); go_must (refine scell_event rfl rfl g5 0 (.int .i64 t) _ _ B5.out ?hr ?_); (case hr => have q1_ := (blk_cell B5.out 0).trans rfl; have q2_ := blk_frozen B5.out 0; first | (go_simp; done) | (go_simp; rfl)); intro w7 hbk hu; have n0_ := Aside0.mk (hu.below HB.out G5.out); have n1_ := Aside0.mk (hu.blk B2.out H25.out); have n2_ := Aside0.mk (hu.blk B6.out H56.out.symm); clear HB B2 B6; have HB := n0_; have B2 := n1_; have B6 := n2_; clear n0_ n1_ n2_; clear B5; have B5 := Aside0.mk (show w7.heap[g5]? = some (.cells #[.int .i64 t, .slice none 0 0] 24 (0, 0)) from hbk); have H52 := Aside0.mk (Ne.symm H25.out); have c50 := (blk_cell B5.out 0).trans rfl; have c51 := (blk_cell B5.out 1).trans rfl; have c20 := (blk_cell B2.out 0).trans rfl; have c21 := (blk_cell B2.out 1).trans rfl; have f20 := blk_frozen B2.out 0; have f21 := blk_frozen B2.out 1; have hr7 : Kd.R k52 52 w7 w.heap.size (fun k_ => k_ ≠ g6 ∧ k_ ≠ g5 ∧ k_ ≠ g2) (.slice none 0 0) [] := Kd.R_nil _ _ _ _ _; have HR := Aside0.mk hr7; clear hr7; clear hbk hu) | go_step3)
            have ne25 := H25.out
            have ne52 := H52.out
            go_region
            go_wp2_with (first | go_step3)
            rw [jumps_ret]
            refine bodyPost_ret (v := .tuple #[.agg #[.int .i64 0, .slice none 0 0], .int .i64 t, .int .i64 0]) ?_ rfl ?_
            · simp [results, Try.results10, go_sem, c20, c21]
            · refine ⟨.slice none 0 0, rfl, Kd.R_nil _ _ _ _ _, ?_⟩
              repeat (first | exact HB.out | refine below_drew ?_ | refine Below.setCell ?_ G2.out _)
          · have et1 : decide (t ≤ 1152921504606846976) = false := decide_eq_false ht1
            have HF2 := hbad (by omega)
            clear hbad HFF h77 h9
            go_wp2_with (first | ((with_reducible refine gate_dst (N := 5) rfl ?_); refine box_event ?hg (N := 5) ?hd (cs := #[.int .i64 0, .slice none 0 0]) (t := 24) ?hr ?_; (case hd => rfl); (case hg => rfl); (case hr => first | (go_simp; done) | (go_simp; rfl)); intro g5 hg w2 hbox hb; have G5 := Aside0.mk (show w.heap.size ≤ g5 from (by rw [hg]; exact HB.out.size)); have H25 := Aside0.mk (show g2 ≠ g5 from fun e => absurd (blk_lt B2.out) (by omega)); have B5 := Aside0.mk hbox; clear hbox hg; have n0_ := Aside0.mk (below_then HB.out HB.out.size hb); have n1_ := Aside0.mk ((hb.block _ (blk_lt B2.out)).trans B2.out); clear HB B2; have HB := n0_; have B2 := n1_; clear n0_ n1_; clear hb) | ((with_reducible refine gate_dst (N := 6) rfl ?_); refine box_event ?hg (N := 6) ?hd (cs := #[.string ⟨#[]⟩, .string ⟨#[]⟩, .bool false]) (t := 52) ?hr ?_; (case hd => rfl); (case hg => rfl); (case hr => first | (go_simp; done) | (go_simp; rfl)); intro g6 hg w3 hbox hb; have G6 := Aside0.mk (show w.heap.size ≤ g6 from (by rw [hg]; exact HB.out.size)); have H26 := Aside0.mk (show g2 ≠ g6 from fun e => absurd (blk_lt B2.out) (by omega)); have H56 := Aside0.mk (show g5 ≠ g6 from fun e => absurd (blk_lt B5.out) (by omega)); have B6 := Aside0.mk hbox; clear hbox hg; have n0_ := Aside0.mk (below_then HB.out HB.out.size hb); have n1_ := Aside0.mk ((hb.block _ (blk_lt B2.out)).trans B2.out); have n2_ := Aside0.mk ((hb.block _ (blk_lt B5.out)).trans B5.out); clear HB B2 B5; have HB := n0_; have B2 := n1_; have B5 := n2_; clear n0_ n1_ n2_; clear hb) | ((with_reducible refine gate_dst (N := 20) rfl ?_); refine conv_event ?hg (N := 20) ?hd tail (by omega) ?hr ?_; (case hd => rfl); (case hg => rfl); (case hr => first | (go_simp; done) | (go_simp; rfl)); intro v20 w4 hv20 hrow hb; have n0_ := Aside0.mk (below_then HB.out HB.out.size hb); have n1_ := Aside0.mk ((hb.block _ (blk_lt B2.out)).trans B2.out); have n2_ := Aside0.mk ((hb.block _ (blk_lt B5.out)).trans B5.out); have n3_ := Aside0.mk ((hb.block _ (blk_lt B6.out)).trans B6.out); clear HB B2 B5 B6; have HB := n0_; have B2 := n1_; have B5 := n2_; have B6 := n3_; clear n0_ n1_ n2_ n3_; obtain ⟨gv, capv, rfl, _, _, hcv⟩ := hrow.reads; have HCV := Aside0.mk hcv; clear hrow hb hv20 hcv) | (go_at_call 33; go_must (refine (NewReader.calls _ capv (bytesOf tail) w4 HCV.out (by rw [bytesOf_length]; omega)).mono ?_); rintro e w5 ⟨gr, Ar, cr, rfl, hgr, hrd, hb⟩; have LR := Aside0.mk hgr; have L2 := Aside0.mk (Nat.lt_of_lt_of_le (blk_lt B2.out) hgr); have L5 := Aside0.mk (Nat.lt_of_lt_of_le (blk_lt B5.out) hgr); have L6 := Aside0.mk (Nat.lt_of_lt_of_le (blk_lt B6.out) hgr); have LBW := Aside0.mk (Nat.le_trans HB.out.size hgr); have n0_ := Aside0.mk (below_then HB.out HB.out.size hb); have n1_ := Aside0.mk ((hb.block _ (blk_lt B2.out)).trans B2.out); have n2_ := Aside0.mk ((hb.block _ (blk_lt B5.out)).trans B5.out); have n3_ := Aside0.mk ((hb.block _ (blk_lt B6.out)).trans B6.out); clear HB B2 B5 B6; have HB := n0_; have B2 := n1_; have B5 := n2_; have B6 := n3_; clear n0_ n1_ n2_ n3_; have RD := Aside0.mk hrd; clear hgr hrd hb) | (go_at_call 34; go_must (refine (I64.calls gr Ar cr (bytesOf tail) 0 w5 RD.out (by omega) (by rw [bytesOf_length]; omega)).mono ?_); rintro e w6 ⟨rfl, hb⟩; have n0_ := Aside0.mk (HB.out.trans (hb.mono LBW.out)); have n1_ := Aside0.mk ((hb.block _ L2.out).trans B2.out); have n2_ := Aside0.mk ((hb.block _ L5.out).trans B5.out); have n3_ := Aside0.mk ((hb.block _ L6.out).trans B6.out); clear HB B2 B5 B6 hb; have HB := n0_; have B2 := n1_; have B5 := n2_; have B6 := n3_; clear n0_ n1_ n2_ n3_; rw [HT.out]) | ((with_reducible refine gate_store (t := 3) (p := 23) (v := .tmp 22) rfl ?_); go_must (refine scell_event rfl rfl g5 0 (.int .i64 t) _ _ B5.out ?hr ?_); (case hr => have q1_ := (blk_cell B5.out 0).trans rfl; have q2_ := blk_frozen B5.out 0; first | (go_simp; done) | (go_simp; rfl)); intro w7 hbk hu; have n0_ := Aside0.mk (hu.below HB.out G5.out); have n1_ := Aside0.mk (hu.blk B2.out H25.out); have n2_ := Aside0.mk (hu.blk B6.out H56.out.symm); clear HB B2 B6; have HB := n0_; have B2 := n1_; have B6 := n2_; clear n0_ n1_ n2_; clear B5; have B5 := Aside0.mk (show w7.heap[g5]? = some (.cells #[.int .i64 t, .slice none 0 0] 24 (0, 0)) from hbk); have H52 := Aside0.mk (Ne.symm H25.out); have c50 := (blk_cell B5.out 0).trans rfl; have c51 := (blk_cell B5.out 1).trans rfl; have c20 := (blk_cell B2.out 0).trans rfl; have c21 := (blk_cell B2.out 1).trans rfl; have f20 := blk_frozen B2.out 0; have f21 := blk_frozen B2.out 1; have hr7 : Kd.R k52 52 w7 w.heap.size (fun k_ => k_ ≠ g6 ∧ k_ ≠ g5 ∧ k_ ≠ g2) (.slice none 0 0) [] := Kd.R_nil _ _ _ _ _; have HR := Aside0.mk hr7; clear hr7; clear hbk hu) | go_step3)
            exact RJ0_mk (k := k) ⟨G2, HF2, HB, B2⟩
        · have et0 : decide (0 ≤ t) = false := decide_eq_false ht0
          have HF2 := hbad (by omega)
          clear hbad HFF h77 h9
          go_wp2_with (first | ((with_reducible refine gate_dst (N := 5) rfl ?_); refine box_event ?hg (N := 5) ?hd (cs := #[.int .i64 0, .slice none 0 0]) (t := 24) ?hr ?_; (case hd => rfl); (case hg => rfl); (case hr => first | (go_simp; done) | (go_simp; rfl)); intro g5 hg w2 hbox hb; have G5 := Aside0.mk (show w.heap.size ≤ g5 from (by rw [hg]; exact HB.out.size)); have H25 := Aside0.mk (show g2 ≠ g5 from fun e => absurd (blk_lt B2.out) (by omega)); have B5 := Aside0.mk hbox; clear hbox hg; have n0_ := Aside0.mk (below_then HB.out HB.out.size hb); have n1_ := Aside0.mk ((hb.block _ (blk_lt B2.out)).trans B2.out); clear HB B2; have HB := n0_; have B2 := n1_; clear n0_ n1_; clear hb) | ((with_reducible refine gate_dst (N := 6) rfl ?_); refine box_event ?hg (N := 6) ?hd (cs := #[.string ⟨#[]⟩, .string ⟨#[]⟩, .bool false]) (t := 52) ?hr ?_; (case hd => rfl); (case hg => rfl); (case hr => first | (go_simp; done) | (go_simp; rfl)); intro g6 hg w3 hbox hb; have G6 := Aside0.mk (show w.heap.size ≤ g6 from (by rw [hg]; exact HB.out.size)); have H26 := Aside0.mk (show g2 ≠ g6 from fun e => absurd (blk_lt B2.out) (by omega)); have H56 := Aside0.mk (show g5 ≠ g6 from fun e => absurd (blk_lt B5.out) (by omega)); have B6 := Aside0.mk hbox; clear hbox hg; have n0_ := Aside0.mk (below_then HB.out HB.out.size hb); have n1_ := Aside0.mk ((hb.block _ (blk_lt B2.out)).trans B2.out); have n2_ := Aside0.mk ((hb.block _ (blk_lt B5.out)).trans B5.out); clear HB B2 B5; have HB := n0_; have B2 := n1_; have B5 := n2_; clear n0_ n1_ n2_; clear hb) | ((with_reducible refine gate_dst (N := 20) rfl ?_); refine conv_event ?hg (N := 20) ?hd tail (by omega) ?hr ?_; (case hd => rfl); (case hg => rfl); (case hr => first | (go_simp; done) | (go_simp; rfl)); intro v20 w4 hv20 hrow hb; have n0_ := Aside0.mk (below_then HB.out HB.out.size hb); have n1_ := Aside0.mk ((hb.block _ (blk_lt B2.out)).trans B2.out); have n2_ := Aside0.mk ((hb.block _ (blk_lt B5.out)).trans B5.out); have n3_ := Aside0.mk ((hb.block _ (blk_lt B6.out)).trans B6.out); clear HB B2 B5 B6; have HB := n0_; have B2 := n1_; have B5 := n2_; have B6 := n3_; clear n0_ n1_ n2_ n3_; obtain ⟨gv, capv, rfl, _, _, hcv⟩ := hrow.reads; have HCV := Aside0.mk hcv; clear hrow hb hv20 hcv) | (go_at_call 33; go_must (refine (NewReader.calls _ capv (bytesOf tail) w4 HCV.out (by rw [bytesOf_length]; omega)).mono ?_); rintro e w5 ⟨gr, Ar, cr, rfl, hgr, hrd, hb⟩; have LR := Aside0.mk hgr; have L2 := Aside0.mk (Nat.lt_of_lt_of_le (blk_lt B2.out) hgr); have L5 := Aside0.mk (Nat.lt_of_lt_of_le (blk_lt B5.out) hgr); have L6 := Aside0.mk (Nat.lt_of_lt_of_le (blk_lt B6.out) hgr); have LBW := Aside0.mk (Nat.le_trans HB.out.size hgr); have n0_ := Aside0.mk (below_then HB.out HB.out.size hb); have n1_ := Aside0.mk ((hb.block _ (blk_lt B2.out)).trans B2.out); have n2_ := Aside0.mk ((hb.block _ (blk_lt B5.out)).trans B5.out); have n3_ := Aside0.mk ((hb.block _ (blk_lt B6.out)).trans B6.out); clear HB B2 B5 B6; have HB := n0_; have B2 := n1_; have B5 := n2_; have B6 := n3_; clear n0_ n1_ n2_ n3_; have RD := Aside0.mk hrd; clear hgr hrd hb) | (go_at_call 34; go_must (refine (I64.calls gr Ar cr (bytesOf tail) 0 w5 RD.out (by omega) (by rw [bytesOf_length]; omega)).mono ?_); rintro e w6 ⟨rfl, hb⟩; have n0_ := Aside0.mk (HB.out.trans (hb.mono LBW.out)); have n1_ := Aside0.mk ((hb.block _ L2.out).trans B2.out); have n2_ := Aside0.mk ((hb.block _ L5.out).trans B5.out); have n3_ := Aside0.mk ((hb.block _ L6.out).trans B6.out); clear HB B2 B5 B6 hb; have HB := n0_; have B2 := n1_; have B5 := n2_; have B6 := n3_; clear n0_ n1_ n2_ n3_; rw [HT.out]) | ((with_reducible refine gate_store (t := 3) (p := 23) (v := .tmp 22) rfl ?_); go_must (refine scell_event rfl rfl g5 0 (.int .i64 t) _ _ B5.out ?hr ?_); (case hr => have q1_ := (blk_cell B5.out 0).trans rfl; have q2_ := blk_frozen B5.out 0; first | (go_simp; done) | (go_simp; rfl)); intro w7 hbk hu; have n0_ := Aside0.mk (hu.below HB.out G5.out); have n1_ := Aside0.mk (hu.blk B2.out H25.out); have n2_ := Aside0.mk (hu.blk B6.out H56.out.symm); clear HB B2 B6; have HB := n0_; have B2 := n1_; have B6 := n2_; clear n0_ n1_ n2_; clear B5; have B5 := Aside0.mk (show w7.heap[g5]? = some (.cells #[.int .i64 t, .slice none 0 0] 24 (0, 0)) from hbk); have H52 := Aside0.mk (Ne.symm H25.out); have c50 := (blk_cell B5.out 0).trans rfl; have c51 := (blk_cell B5.out 1).trans rfl; have c20 := (blk_cell B2.out 0).trans rfl; have c21 := (blk_cell B2.out 1).trans rfl; have f20 := blk_frozen B2.out 0; have f21 := blk_frozen B2.out 1; have hr7 : Kd.R k52 52 w7 w.heap.size (fun k_ => k_ ≠ g6 ∧ k_ ≠ g5 ∧ k_ ≠ g2) (.slice none 0 0) [] := Kd.R_nil _ _ _ _ _; have HR := Aside0.mk hr7; clear hr7; clear hbk hu) | go_step3)
          exact RJ0_mk (k := k) ⟨G2, HF2, HB, B2⟩
      · have e9 : ((a0.size : Int) == 9) = false := beq_eq_false_iff_ne.2 (by omega)
        have HF2 := hbad (by omega)
        clear hbad HFF h77 h9
        go_wp2_with (first | ((with_reducible refine gate_dst (N := 5) rfl ?_); refine box_event ?hg (N := 5) ?hd (cs := #[.int .i64 0, .slice none 0 0]) (t := 24) ?hr ?_; (case hd => rfl); (case hg => rfl); (case hr => first | (go_simp; done) | (go_simp; rfl)); intro g5 hg w2 hbox hb; have G5 := Aside0.mk (show w.heap.size ≤ g5 from (by rw [hg]; exact HB.out.size)); have H25 := Aside0.mk (show g2 ≠ g5 from fun e => absurd (blk_lt B2.out) (by omega)); have B5 := Aside0.mk hbox; clear hbox hg; have n0_ := Aside0.mk (below_then HB.out HB.out.size hb); have n1_ := Aside0.mk ((hb.block _ (blk_lt B2.out)).trans B2.out); clear HB B2; have HB := n0_; have B2 := n1_; clear n0_ n1_; clear hb) | ((with_reducible refine gate_dst (N := 6) rfl ?_); refine box_event ?hg (N := 6) ?hd (cs := #[.string ⟨#[]⟩, .string ⟨#[]⟩, .bool false]) (t := 52) ?hr ?_; (case hd => rfl); (case hg => rfl); (case hr => first | (go_simp; done) | (go_simp; rfl)); intro g6 hg w3 hbox hb; have G6 := Aside0.mk (show w.heap.size ≤ g6 from (by rw [hg]; exact HB.out.size)); have H26 := Aside0.mk (show g2 ≠ g6 from fun e => absurd (blk_lt B2.out) (by omega)); have H56 := Aside0.mk (show g5 ≠ g6 from fun e => absurd (blk_lt B5.out) (by omega)); have B6 := Aside0.mk hbox; clear hbox hg; have n0_ := Aside0.mk (below_then HB.out HB.out.size hb); have n1_ := Aside0.mk ((hb.block _ (blk_lt B2.out)).trans B2.out); have n2_ := Aside0.mk ((hb.block _ (blk_lt B5.out)).trans B5.out); clear HB B2 B5; have HB := n0_; have B2 := n1_; have B5 := n2_; clear n0_ n1_ n2_; clear hb) | ((with_reducible refine gate_dst (N := 20) rfl ?_); refine conv_event ?hg (N := 20) ?hd tail (by omega) ?hr ?_; (case hd => rfl); (case hg => rfl); (case hr => first | (go_simp; done) | (go_simp; rfl)); intro v20 w4 hv20 hrow hb; have n0_ := Aside0.mk (below_then HB.out HB.out.size hb); have n1_ := Aside0.mk ((hb.block _ (blk_lt B2.out)).trans B2.out); have n2_ := Aside0.mk ((hb.block _ (blk_lt B5.out)).trans B5.out); have n3_ := Aside0.mk ((hb.block _ (blk_lt B6.out)).trans B6.out); clear HB B2 B5 B6; have HB := n0_; have B2 := n1_; have B5 := n2_; have B6 := n3_; clear n0_ n1_ n2_ n3_; obtain ⟨gv, capv, rfl, _, _, hcv⟩ := hrow.reads; have HCV := Aside0.mk hcv; clear hrow hb hv20 hcv) | (go_at_call 33; go_must (refine (NewReader.calls _ capv (bytesOf tail) w4 HCV.out (by rw [bytesOf_length]; omega)).mono ?_); rintro e w5 ⟨gr, Ar, cr, rfl, hgr, hrd, hb⟩; have LR := Aside0.mk hgr; have L2 := Aside0.mk (Nat.lt_of_lt_of_le (blk_lt B2.out) hgr); have L5 := Aside0.mk (Nat.lt_of_lt_of_le (blk_lt B5.out) hgr); have L6 := Aside0.mk (Nat.lt_of_lt_of_le (blk_lt B6.out) hgr); have LBW := Aside0.mk (Nat.le_trans HB.out.size hgr); have n0_ := Aside0.mk (below_then HB.out HB.out.size hb); have n1_ := Aside0.mk ((hb.block _ (blk_lt B2.out)).trans B2.out); have n2_ := Aside0.mk ((hb.block _ (blk_lt B5.out)).trans B5.out); have n3_ := Aside0.mk ((hb.block _ (blk_lt B6.out)).trans B6.out); clear HB B2 B5 B6; have HB := n0_; have B2 := n1_; have B5 := n2_; have B6 := n3_; clear n0_ n1_ n2_ n3_; have RD := Aside0.mk hrd; clear hgr hrd hb) | (go_at_call 34; go_must (refine (I64.calls gr Ar cr (bytesOf tail) 0 w5 RD.out (by omega) (by rw [bytesOf_length]; omega)).mono ?_); rintro e w6 ⟨rfl, hb⟩; have n0_ := Aside0.mk (HB.out.trans (hb.mono LBW.out)); have n1_ := Aside0.mk ((hb.block _ L2.out).trans B2.out); have n2_ := Aside0.mk ((hb.block _ L5.out).trans B5.out); have n3_ := Aside0.mk ((hb.block _ L6.out).trans B6.out); clear HB B2 B5 B6 hb; have HB := n0_; have B2 := n1_; have B5 := n2_; have B6 := n3_; clear n0_ n1_ n2_ n3_; rw [HT.out]) | ((with_reducible refine gate_store (t := 3) (p := 23) (v := .tmp 22) rfl ?_); go_must (refine scell_event rfl rfl g5 0 (.int .i64 t) _ _ B5.out ?hr ?_); (case hr => have q1_ := (blk_cell B5.out 0).trans rfl; have q2_ := blk_frozen B5.out 0; first | (go_simp; done) | (go_simp; rfl)); intro w7 hbk hu; have n0_ := Aside0.mk (hu.below HB.out G5.out); have n1_ := Aside0.mk (hu.blk B2.out H25.out); have n2_ := Aside0.mk (hu.blk B6.out H56.out.symm); clear HB B2 B6; have HB := n0_; have B2 := n1_; have B6 := n2_; clear n0_ n1_ n2_; clear B5; have B5 := Aside0.mk (show w7.heap[g5]? = some (.cells #[.int .i64 t, .slice none 0 0] 24 (0, 0)) from hbk); have H52 := Aside0.mk (Ne.symm H25.out); have c50 := (blk_cell B5.out 0).trans rfl; have c51 := (blk_cell B5.out 1).trans rfl; have c20 := (blk_cell B2.out 0).trans rfl; have c21 := (blk_cell B2.out 1).trans rfl; have f20 := blk_frozen B2.out 0; have f21 := blk_frozen B2.out 1; have hr7 : Kd.R k52 52 w7 w.heap.size (fun k_ => k_ ≠ g6 ∧ k_ ≠ g5 ∧ k_ ≠ g2) (.slice none 0 0) [] := Kd.R_nil _ _ _ _ _; have HR := Aside0.mk hr7; clear hr7; clear hbk hu) | go_step3)
        exact RJ0_mk (k := k) ⟨G2, HF2, HB, B2⟩
    · have e77 : (bt a0 0 == 77) = false := by simpa using h77
      by_cases h66 : bt a0 0 = 66
      · have e66 : (bt a0 0 != 66) = false := by simpa using h66
        by_cases h9 : a0.size = 9
        · have e9 : ((a0.size : Int) == 9) = true := beq_iff_eq.2 (by omega)
          have HF2 : Aside0 (rdBad = some r) := ⟨by have := HFF.out; rw [if_neg (by omega), if_pos (by omega)] at this; exact this⟩
          clear HFF h77 h9 h66
          go_wp2_with (first | ((with_reducible refine gate_dst (N := 5) rfl ?_); refine box_event ?hg (N := 5) ?hd (cs := #[.int .i64 0, .slice none 0 0]) (t := 24) ?hr ?_; (case hd => rfl); (case hg => rfl); (case hr => first | (go_simp; done) | (go_simp; rfl)); intro g5 hg w2 hbox hb; have G5 := Aside0.mk (show w.heap.size ≤ g5 from (by rw [hg]; exact HB.out.size)); have H25 := Aside0.mk (show g2 ≠ g5 from fun e => absurd (blk_lt B2.out) (by omega)); have B5 := Aside0.mk hbox; clear hbox hg; have n0_ := Aside0.mk (below_then HB.out HB.out.size hb); have n1_ := Aside0.mk ((hb.block _ (blk_lt B2.out)).trans B2.out); clear HB B2; have HB := n0_; have B2 := n1_; clear n0_ n1_; clear hb) | ((with_reducible refine gate_dst (N := 6) rfl ?_); refine box_event ?hg (N := 6) ?hd (cs := #[.string ⟨#[]⟩, .string ⟨#[]⟩, .bool false]) (t := 52) ?hr ?_; (case hd => rfl); (case hg => rfl); (case hr => first | (go_simp; done) | (go_simp; rfl)); intro g6 hg w3 hbox hb; have G6 := Aside0.mk (show w.heap.size ≤ g6 from (by rw [hg]; exact HB.out.size)); have H26 := Aside0.mk (show g2 ≠ g6 from fun e => absurd (blk_lt B2.out) (by omega)); have H56 := Aside0.mk (show g5 ≠ g6 from fun e => absurd (blk_lt B5.out) (by omega)); have B6 := Aside0.mk hbox; clear hbox hg; have n0_ := Aside0.mk (below_then HB.out HB.out.size hb); have n1_ := Aside0.mk ((hb.block _ (blk_lt B2.out)).trans B2.out); have n2_ := Aside0.mk ((hb.block _ (blk_lt B5.out)).trans B5.out); clear HB B2 B5; have HB := n0_; have B2 := n1_; have B5 := n2_; clear n0_ n1_ n2_; clear hb) | ((with_reducible refine gate_dst (N := 20) rfl ?_); refine conv_event ?hg (N := 20) ?hd tail (by omega) ?hr ?_; (case hd => rfl); (case hg => rfl); (case hr => first | (go_simp; done) | (go_simp; rfl)); intro v20 w4 hv20 hrow hb; have n0_ := Aside0.mk (below_then HB.out HB.out.size hb); have n1_ := Aside0.mk ((hb.block _ (blk_lt B2.out)).trans B2.out); have n2_ := Aside0.mk ((hb.block _ (blk_lt B5.out)).trans B5.out); have n3_ := Aside0.mk ((hb.block _ (blk_lt B6.out)).trans B6.out); clear HB B2 B5 B6; have HB := n0_; have B2 := n1_; have B5 := n2_; have B6 := n3_; clear n0_ n1_ n2_ n3_; obtain ⟨gv, capv, rfl, _, _, hcv⟩ := hrow.reads; have HCV := Aside0.mk hcv; clear hrow hb hv20 hcv) | (go_at_call 33; go_must (refine (NewReader.calls _ capv (bytesOf tail) w4 HCV.out (by rw [bytesOf_length]; omega)).mono ?_); rintro e w5 ⟨gr, Ar, cr, rfl, hgr, hrd, hb⟩; have LR := Aside0.mk hgr; have L2 := Aside0.mk (Nat.lt_of_lt_of_le (blk_lt B2.out) hgr); have L5 := Aside0.mk (Nat.lt_of_lt_of_le (blk_lt B5.out) hgr); have L6 := Aside0.mk (Nat.lt_of_lt_of_le (blk_lt B6.out) hgr); have LBW := Aside0.mk (Nat.le_trans HB.out.size hgr); have n0_ := Aside0.mk (below_then HB.out HB.out.size hb); have n1_ := Aside0.mk ((hb.block _ (blk_lt B2.out)).trans B2.out); have n2_ := Aside0.mk ((hb.block _ (blk_lt B5.out)).trans B5.out); have n3_ := Aside0.mk ((hb.block _ (blk_lt B6.out)).trans B6.out); clear HB B2 B5 B6; have HB := n0_; have B2 := n1_; have B5 := n2_; have B6 := n3_; clear n0_ n1_ n2_ n3_; have RD := Aside0.mk hrd; clear hgr hrd hb) | (go_at_call 34; go_must (refine (I64.calls gr Ar cr (bytesOf tail) 0 w5 RD.out (by omega) (by rw [bytesOf_length]; omega)).mono ?_); rintro e w6 ⟨rfl, hb⟩; have n0_ := Aside0.mk (HB.out.trans (hb.mono LBW.out)); have n1_ := Aside0.mk ((hb.block _ L2.out).trans B2.out); have n2_ := Aside0.mk ((hb.block _ L5.out).trans B5.out); have n3_ := Aside0.mk ((hb.block _ L6.out).trans B6.out); clear HB B2 B5 B6 hb; have HB := n0_; have B2 := n1_; have B5 := n2_; have B6 := n3_; clear n0_ n1_ n2_ n3_; rw [HT.out]) | ((with_reducible refine gate_store (t := 3) (p := 23) (v := .tmp 22) rfl ?_); go_must (refine scell_event rfl rfl g5 0 (.int .i64 t) _ _ B5.out ?hr ?_); (case hr => have q1_ := (blk_cell B5.out 0).trans rfl; have q2_ := blk_frozen B5.out 0; first | (go_simp; done) | (go_simp; rfl)); intro w7 hbk hu; have n0_ := Aside0.mk (hu.below HB.out G5.out); have n1_ := Aside0.mk (hu.blk B2.out H25.out); have n2_ := Aside0.mk (hu.blk B6.out H56.out.symm); clear HB B2 B6; have HB := n0_; have B2 := n1_; have B6 := n2_; clear n0_ n1_ n2_; clear B5; have B5 := Aside0.mk (show w7.heap[g5]? = some (.cells #[.int .i64 t, .slice none 0 0] 24 (0, 0)) from hbk); have H52 := Aside0.mk (Ne.symm H25.out); have c50 := (blk_cell B5.out 0).trans rfl; have c51 := (blk_cell B5.out 1).trans rfl; have c20 := (blk_cell B2.out 0).trans rfl; have c21 := (blk_cell B2.out 1).trans rfl; have f20 := blk_frozen B2.out 0; have f21 := blk_frozen B2.out 1; have hr7 : Kd.R k52 52 w7 w.heap.size (fun k_ => k_ ≠ g6 ∧ k_ ≠ g5 ∧ k_ ≠ g2) (.slice none 0 0) [] := Kd.R_nil _ _ _ _ _; have HR := Aside0.mk hr7; clear hr7; clear hbk hu) | go_step3)
          exact RJ0_mk (k := k) ⟨G2, HF2, HB, B2⟩
        · have e9 : ((a0.size : Int) == 9) = false := beq_eq_false_iff_ne.2 (by omega)
          have hlt9 : 9 < a0.size := by omega
          have hb9 : ((a0[9]'hlt9).toNat : Int) = bt a0 9 := bt_at a0 9 hlt9
          have hr9 := bt_range a0 9
          have hF := HFF.out
          rw [if_neg (by omega), if_neg (by omega)] at hF
          have HF := Aside0.mk hF
          clear hF HFF h66 h77 h9
          have hrb := bt_range a0 10
          by_cases q0 : (bt a0 9) = 0
          · have e0 : ((bt a0 9) == 0) = true := by rw [beq_iff_eq]; exact q0
            have HF1 : Aside0 (readEnd k a0 t 10 [] = some r) := ⟨by have := HF.out; rw [q0] at this; exact this⟩
            have HQ0 := Aside0.mk q0
            clear q0 HF
            go_wp2_with (first | ((with_reducible refine gate_dst (N := 5) rfl ?_); refine box_event ?hg (N := 5) ?hd (cs := #[.int .i64 0, .slice none 0 0]) (t := 24) ?hr ?_; (case hd => rfl); (case hg => rfl); (case hr => first | (go_simp; done) | (go_simp; rfl)); intro g5 hg w2 hbox hb; have G5 := Aside0.mk (show w.heap.size ≤ g5 from (by rw [hg]; exact HB.out.size)); have H25 := Aside0.mk (show g2 ≠ g5 from fun e => absurd (blk_lt B2.out) (by omega)); have B5 := Aside0.mk hbox; clear hbox hg; have n0_ := Aside0.mk (below_then HB.out HB.out.size hb); have n1_ := Aside0.mk ((hb.block _ (blk_lt B2.out)).trans B2.out); clear HB B2; have HB := n0_; have B2 := n1_; clear n0_ n1_; clear hb) | ((with_reducible refine gate_dst (N := 6) rfl ?_); refine box_event ?hg (N := 6) ?hd (cs := #[.string ⟨#[]⟩, .string ⟨#[]⟩, .bool false]) (t := 52) ?hr ?_; (case hd => rfl); (case hg => rfl); (case hr => first | (go_simp; done) | (go_simp; rfl)); intro g6 hg w3 hbox hb; have G6 := Aside0.mk (show w.heap.size ≤ g6 from (by rw [hg]; exact HB.out.size)); have H26 := Aside0.mk (show g2 ≠ g6 from fun e => absurd (blk_lt B2.out) (by omega)); have H56 := Aside0.mk (show g5 ≠ g6 from fun e => absurd (blk_lt B5.out) (by omega)); have B6 := Aside0.mk hbox; clear hbox hg; have n0_ := Aside0.mk (below_then HB.out HB.out.size hb); have n1_ := Aside0.mk ((hb.block _ (blk_lt B2.out)).trans B2.out); have n2_ := Aside0.mk ((hb.block _ (blk_lt B5.out)).trans B5.out); clear HB B2 B5; have HB := n0_; have B2 := n1_; have B5 := n2_; clear n0_ n1_ n2_; clear hb) | ((with_reducible refine gate_dst (N := 20) rfl ?_); refine conv_event ?hg (N := 20) ?hd tail (by omega) ?hr ?_; (case hd => rfl); (case hg => rfl); (case hr => first | (go_simp; done) | (go_simp; rfl)); intro v20 w4 hv20 hrow hb; have n0_ := Aside0.mk (below_then HB.out HB.out.size hb); have n1_ := Aside0.mk ((hb.block _ (blk_lt B2.out)).trans B2.out); have n2_ := Aside0.mk ((hb.block _ (blk_lt B5.out)).trans B5.out); have n3_ := Aside0.mk ((hb.block _ (blk_lt B6.out)).trans B6.out); clear HB B2 B5 B6; have HB := n0_; have B2 := n1_; have B5 := n2_; have B6 := n3_; clear n0_ n1_ n2_ n3_; obtain ⟨gv, capv, rfl, _, _, hcv⟩ := hrow.reads; have HCV := Aside0.mk hcv; clear hrow hb hv20 hcv) | (go_at_call 33; go_must (refine (NewReader.calls _ capv (bytesOf tail) w4 HCV.out (by rw [bytesOf_length]; omega)).mono ?_); rintro e w5 ⟨gr, Ar, cr, rfl, hgr, hrd, hb⟩; have LR := Aside0.mk hgr; have L2 := Aside0.mk (Nat.lt_of_lt_of_le (blk_lt B2.out) hgr); have L5 := Aside0.mk (Nat.lt_of_lt_of_le (blk_lt B5.out) hgr); have L6 := Aside0.mk (Nat.lt_of_lt_of_le (blk_lt B6.out) hgr); have LBW := Aside0.mk (Nat.le_trans HB.out.size hgr); have n0_ := Aside0.mk (below_then HB.out HB.out.size hb); have n1_ := Aside0.mk ((hb.block _ (blk_lt B2.out)).trans B2.out); have n2_ := Aside0.mk ((hb.block _ (blk_lt B5.out)).trans B5.out); have n3_ := Aside0.mk ((hb.block _ (blk_lt B6.out)).trans B6.out); clear HB B2 B5 B6; have HB := n0_; have B2 := n1_; have B5 := n2_; have B6 := n3_; clear n0_ n1_ n2_ n3_; have RD := Aside0.mk hrd; clear hgr hrd hb) | (go_at_call 34; go_must (refine (I64.calls gr Ar cr (bytesOf tail) 0 w5 RD.out (by omega) (by rw [bytesOf_length]; omega)).mono ?_); rintro e w6 ⟨rfl, hb⟩; have n0_ := Aside0.mk (HB.out.trans (hb.mono LBW.out)); have n1_ := Aside0.mk ((hb.block _ L2.out).trans B2.out); have n2_ := Aside0.mk ((hb.block _ L5.out).trans B5.out); have n3_ := Aside0.mk ((hb.block _ L6.out).trans B6.out); clear HB B2 B5 B6 hb; have HB := n0_; have B2 := n1_; have B5 := n2_; have B6 := n3_; clear n0_ n1_ n2_ n3_; rw [HT.out]) | ((with_reducible refine gate_store (t := 3) (p := 23) (v := .tmp 22) rfl ?_); go_must (refine scell_event rfl rfl g5 0 (.int .i64 t) _ _ B5.out ?hr ?_); (case hr => have q1_ := (blk_cell B5.out 0).trans rfl; have q2_ := blk_frozen B5.out 0; first | (go_simp; done) | (go_simp; rfl)); intro w7 hbk hu; have n0_ := Aside0.mk (hu.below HB.out G5.out); have n1_ := Aside0.mk (hu.blk B2.out H25.out); have n2_ := Aside0.mk (hu.blk B6.out H56.out.symm); clear HB B2 B6; have HB := n0_; have B2 := n1_; have B6 := n2_; clear n0_ n1_ n2_; clear B5; have B5 := Aside0.mk (show w7.heap[g5]? = some (.cells #[.int .i64 t, .slice none 0 0] 24 (0, 0)) from hbk); have H52 := Aside0.mk (Ne.symm H25.out); have c50 := (blk_cell B5.out 0).trans rfl; have c51 := (blk_cell B5.out 1).trans rfl; have c20 := (blk_cell B2.out 0).trans rfl; have c21 := (blk_cell B2.out 1).trans rfl; have f20 := blk_frozen B2.out 0; have f21 := blk_frozen B2.out 1; have hr7 : Kd.R k52 52 w7 w.heap.size (fun k_ => k_ ≠ g6 ∧ k_ ≠ g5 ∧ k_ ≠ g2) (.slice none 0 0) [] := Kd.R_nil _ _ _ _ _; have HR := Aside0.mk hr7; clear hr7; clear hbk hu) | go_step3)
            exact (RJ1_mk (k := k) ⟨⟨⟨H25.out, H26.out, H56.out, G2.out, G5.out, G6.out⟩⟩, HF1, HB, B2, B5, HR⟩)
          have e0 : ((bt a0 9) == 0) = false := by rw [beq_eq_false_iff_ne]; exact q0
          obtain ⟨n, hn⟩ : ∃ n : Nat, (bt a0 9) = n + 1 := ⟨((bt a0 9) - 1).toNat, by omega⟩
          have hnn : ((bt a0 9) - 1).toNat = n := by omega
          have hlp : 1 ≤ (bt a0 9) := by omega
          have hF := HF.out
          rw [show ((bt a0 9)).toNat = n + 1 by omega] at hF
          rw [readLoop] at hF
          have HN := Aside0.mk hn
          have HNN := Aside0.mk hnn
          clear hn hnn HF q0
          by_cases q1 : ¬ (10 < (a0.size : Int))
          · rw [if_neg q1] at hF
            have HF1 := Aside0.mk hF
            clear hF
            have e1 : decide ((a0.size : Int) ≤ 10) = true := decide_eq_true (by omega)
            go_wp2_with (first | ((with_reducible refine gate_dst (N := 5) rfl ?_); refine box_event ?hg (N := 5) ?hd (cs := #[.int .i64 0, .slice none 0 0]) (t := 24) ?hr ?_; (case hd => rfl); (case hg => rfl); (case hr => first | (go_simp; done) | (go_simp; rfl)); intro g5 hg w2 hbox hb; have G5 := Aside0.mk (show w.heap.size ≤ g5 from (by rw [hg]; exact HB.out.size)); have H25 := Aside0.mk (show g2 ≠ g5 from fun e => absurd (blk_lt B2.out) (by omega)); have B5 := Aside0.mk hbox; clear hbox hg; have n0_ := Aside0.mk (below_then HB.out HB.out.size hb); have n1_ := Aside0.mk ((hb.block _ (blk_lt B2.out)).trans B2.out); clear HB B2; have HB := n0_; have B2 := n1_; clear n0_ n1_; clear hb) | ((with_reducible refine gate_dst (N := 6) rfl ?_); refine box_event ?hg (N := 6) ?hd (cs := #[.string ⟨#[]⟩, .string ⟨#[]⟩, .bool false]) (t := 52) ?hr ?_; (case hd => rfl); (case hg => rfl); (case hr => first | (go_simp; done) | (go_simp; rfl)); intro g6 hg w3 hbox hb; have G6 := Aside0.mk (show w.heap.size ≤ g6 from (by rw [hg]; exact HB.out.size)); have H26 := Aside0.mk (show g2 ≠ g6 from fun e => absurd (blk_lt B2.out) (by omega)); have H56 := Aside0.mk (show g5 ≠ g6 from fun e => absurd (blk_lt B5.out) (by omega)); have B6 := Aside0.mk hbox; clear hbox hg; have n0_ := Aside0.mk (below_then HB.out HB.out.size hb); have n1_ := Aside0.mk ((hb.block _ (blk_lt B2.out)).trans B2.out); have n2_ := Aside0.mk ((hb.block _ (blk_lt B5.out)).trans B5.out); clear HB B2 B5; have HB := n0_; have B2 := n1_; have B5 := n2_; clear n0_ n1_ n2_; clear hb) | ((with_reducible refine gate_dst (N := 20) rfl ?_); refine conv_event ?hg (N := 20) ?hd tail (by omega) ?hr ?_; (case hd => rfl); (case hg => rfl); (case hr => first | (go_simp; done) | (go_simp; rfl)); intro v20 w4 hv20 hrow hb; have n0_ := Aside0.mk (below_then HB.out HB.out.size hb); have n1_ := Aside0.mk ((hb.block _ (blk_lt B2.out)).trans B2.out); have n2_ := Aside0.mk ((hb.block _ (blk_lt B5.out)).trans B5.out); have n3_ := Aside0.mk ((hb.block _ (blk_lt B6.out)).trans B6.out); clear HB B2 B5 B6; have HB := n0_; have B2 := n1_; have B5 := n2_; have B6 := n3_; clear n0_ n1_ n2_ n3_; obtain ⟨gv, capv, rfl, _, _, hcv⟩ := hrow.reads; have HCV := Aside0.mk hcv; clear hrow hb hv20 hcv) | (go_at_call 33; go_must (refine (NewReader.calls _ capv (bytesOf tail) w4 HCV.out (by rw [bytesOf_length]; omega)).mono ?_); rintro e w5 ⟨gr, Ar, cr, rfl, hgr, hrd, hb⟩; have LR := Aside0.mk hgr; have L2 := Aside0.mk (Nat.lt_of_lt_of_le (blk_lt B2.out) hgr); have L5 := Aside0.mk (Nat.lt_of_lt_of_le (blk_lt B5.out) hgr); have L6 := Aside0.mk (Nat.lt_of_lt_of_le (blk_lt B6.out) hgr); have LBW := Aside0.mk (Nat.le_trans HB.out.size hgr); have n0_ := Aside0.mk (below_then HB.out HB.out.size hb); have n1_ := Aside0.mk ((hb.block _ (blk_lt B2.out)).trans B2.out); have n2_ := Aside0.mk ((hb.block _ (blk_lt B5.out)).trans B5.out); have n3_ := Aside0.mk ((hb.block _ (blk_lt B6.out)).trans B6.out); clear HB B2 B5 B6; have HB := n0_; have B2 := n1_; have B5 := n2_; have B6 := n3_; clear n0_ n1_ n2_ n3_; have RD := Aside0.mk hrd; clear hgr hrd hb) | (go_at_call 34; go_must (refine (I64.calls gr Ar cr (bytesOf tail) 0 w5 RD.out (by omega) (by rw [bytesOf_length]; omega)).mono ?_); rintro e w6 ⟨rfl, hb⟩; have n0_ := Aside0.mk (HB.out.trans (hb.mono LBW.out)); have n1_ := Aside0.mk ((hb.block _ L2.out).trans B2.out); have n2_ := Aside0.mk ((hb.block _ L5.out).trans B5.out); have n3_ := Aside0.mk ((hb.block _ L6.out).trans B6.out); clear HB B2 B5 B6 hb; have HB := n0_; have B2 := n1_; have B5 := n2_; have B6 := n3_; clear n0_ n1_ n2_ n3_; rw [HT.out]) | ((with_reducible refine gate_store (t := 3) (p := 23) (v := .tmp 22) rfl ?_); go_must (refine scell_event rfl rfl g5 0 (.int .i64 t) _ _ B5.out ?hr ?_); (case hr => have q1_ := (blk_cell B5.out 0).trans rfl; have q2_ := blk_frozen B5.out 0; first | (go_simp; done) | (go_simp; rfl)); intro w7 hbk hu; have n0_ := Aside0.mk (hu.below HB.out G5.out); have n1_ := Aside0.mk (hu.blk B2.out H25.out); have n2_ := Aside0.mk (hu.blk B6.out H56.out.symm); clear HB B2 B6; have HB := n0_; have B2 := n1_; have B6 := n2_; clear n0_ n1_ n2_; clear B5; have B5 := Aside0.mk (show w7.heap[g5]? = some (.cells #[.int .i64 t, .slice none 0 0] 24 (0, 0)) from hbk); have H52 := Aside0.mk (Ne.symm H25.out); have c50 := (blk_cell B5.out 0).trans rfl; have c51 := (blk_cell B5.out 1).trans rfl; have c20 := (blk_cell B2.out 0).trans rfl; have c21 := (blk_cell B2.out 1).trans rfl; have f20 := blk_frozen B2.out 0; have f21 := blk_frozen B2.out 1; have hr7 : Kd.R k52 52 w7 w.heap.size (fun k_ => k_ ≠ g6 ∧ k_ ≠ g5 ∧ k_ ≠ g2) (.slice none 0 0) [] := Kd.R_nil _ _ _ _ _; have HR := Aside0.mk hr7; clear hr7; clear hbk hu) | go_step3)
            exact (RJ0_mk (k := k) ⟨G2, HF1, HB, B2⟩)
          replace q1 := Decidable.not_not.1 q1
          rw [if_pos q1] at hF
          have e1 : decide ((a0.size : Int) ≤ 10) = false := decide_eq_false (by omega)
          have hix : 10 < a0.size := by omega
          have hba : ((a0[10]'hix).toNat : Int) = bt a0 10 := bt_at a0 10 hix
          by_cases q2 : 1 < bt a0 10
          · rw [if_pos q2] at hF
            have HF1 := Aside0.mk hF
            clear hF
            have e2 : decide (1 < bt a0 10) = true := decide_eq_true q2
            go_wp2_with (first | ((with_reducible refine gate_dst (N := 5) rfl ?_); refine box_event ?hg (N := 5) ?hd (cs := #[.int .i64 0, .slice none 0 0]) (t := 24) ?hr ?_; (case hd => rfl); (case hg => rfl); (case hr => first | (go_simp; done) | (go_simp; rfl)); intro g5 hg w2 hbox hb; have G5 := Aside0.mk (show w.heap.size ≤ g5 from (by rw [hg]; exact HB.out.size)); have H25 := Aside0.mk (show g2 ≠ g5 from fun e => absurd (blk_lt B2.out) (by omega)); have B5 := Aside0.mk hbox; clear hbox hg; have n0_ := Aside0.mk (below_then HB.out HB.out.size hb); have n1_ := Aside0.mk ((hb.block _ (blk_lt B2.out)).trans B2.out); clear HB B2; have HB := n0_; have B2 := n1_; clear n0_ n1_; clear hb) | ((with_reducible refine gate_dst (N := 6) rfl ?_); refine box_event ?hg (N := 6) ?hd (cs := #[.string ⟨#[]⟩, .string ⟨#[]⟩, .bool false]) (t := 52) ?hr ?_; (case hd => rfl); (case hg => rfl); (case hr => first | (go_simp; done) | (go_simp; rfl)); intro g6 hg w3 hbox hb; have G6 := Aside0.mk (show w.heap.size ≤ g6 from (by rw [hg]; exact HB.out.size)); have H26 := Aside0.mk (show g2 ≠ g6 from fun e => absurd (blk_lt B2.out) (by omega)); have H56 := Aside0.mk (show g5 ≠ g6 from fun e => absurd (blk_lt B5.out) (by omega)); have B6 := Aside0.mk hbox; clear hbox hg; have n0_ := Aside0.mk (below_then HB.out HB.out.size hb); have n1_ := Aside0.mk ((hb.block _ (blk_lt B2.out)).trans B2.out); have n2_ := Aside0.mk ((hb.block _ (blk_lt B5.out)).trans B5.out); clear HB B2 B5; have HB := n0_; have B2 := n1_; have B5 := n2_; clear n0_ n1_ n2_; clear hb) | ((with_reducible refine gate_dst (N := 20) rfl ?_); refine conv_event ?hg (N := 20) ?hd tail (by omega) ?hr ?_; (case hd => rfl); (case hg => rfl); (case hr => first | (go_simp; done) | (go_simp; rfl)); intro v20 w4 hv20 hrow hb; have n0_ := Aside0.mk (below_then HB.out HB.out.size hb); have n1_ := Aside0.mk ((hb.block _ (blk_lt B2.out)).trans B2.out); have n2_ := Aside0.mk ((hb.block _ (blk_lt B5.out)).trans B5.out); have n3_ := Aside0.mk ((hb.block _ (blk_lt B6.out)).trans B6.out); clear HB B2 B5 B6; have HB := n0_; have B2 := n1_; have B5 := n2_; have B6 := n3_; clear n0_ n1_ n2_ n3_; obtain ⟨gv, capv, rfl, _, _, hcv⟩ := hrow.reads; have HCV := Aside0.mk hcv; clear hrow hb hv20 hcv) | (go_at_call 33; go_must (refine (NewReader.calls _ capv (bytesOf tail) w4 HCV.out (by rw [bytesOf_length]; omega)).mono ?_); rintro e w5 ⟨gr, Ar, cr, rfl, hgr, hrd, hb⟩; have LR := Aside0.mk hgr; have L2 := Aside0.mk (Nat.lt_of_lt_of_le (blk_lt B2.out) hgr); have L5 := Aside0.mk (Nat.lt_of_lt_of_le (blk_lt B5.out) hgr); have L6 := Aside0.mk (Nat.lt_of_lt_of_le (blk_lt B6.out) hgr); have LBW := Aside0.mk (Nat.le_trans HB.out.size hgr); have n0_ := Aside0.mk (below_then HB.out HB.out.size hb); have n1_ := Aside0.mk ((hb.block _ (blk_lt B2.out)).trans B2.out); have n2_ := Aside0.mk ((hb.block _ (blk_lt B5.out)).trans B5.out); have n3_ := Aside0.mk ((hb.block _ (blk_lt B6.out)).trans B6.out); clear HB B2 B5 B6; have HB := n0_; have B2 := n1_; have B5 := n2_; have B6 := n3_; clear n0_ n1_ n2_ n3_; have RD := Aside0.mk hrd; clear hgr hrd hb) | (go_at_call 34; go_must (refine (I64.calls gr Ar cr (bytesOf tail) 0 w5 RD.out (by omega) (by rw [bytesOf_length]; omega)).mono ?_); rintro e w6 ⟨rfl, hb⟩; have n0_ := Aside0.mk (HB.out.trans (hb.mono LBW.out)); have n1_ := Aside0.mk ((hb.block _ L2.out).trans B2.out); have n2_ := Aside0.mk ((hb.block _ L5.out).trans B5.out); have n3_ := Aside0.mk ((hb.block _ L6.out).trans B6.out); clear HB B2 B5 B6 hb; have HB := n0_; have B2 := n1_; have B5 := n2_; have B6 := n3_; clear n0_ n1_ n2_ n3_; rw [HT.out]) | ((with_reducible refine gate_store (t := 3) (p := 23) (v := .tmp 22) rfl ?_); go_must (refine scell_event rfl rfl g5 0 (.int .i64 t) _ _ B5.out ?hr ?_); (case hr => have q1_ := (blk_cell B5.out 0).trans rfl; have q2_ := blk_frozen B5.out 0; first | (go_simp; done) | (go_simp; rfl)); intro w7 hbk hu; have n0_ := Aside0.mk (hu.below HB.out G5.out); have n1_ := Aside0.mk (hu.blk B2.out H25.out); have n2_ := Aside0.mk (hu.blk B6.out H56.out.symm); clear HB B2 B6; have HB := n0_; have B2 := n1_; have B6 := n2_; clear n0_ n1_ n2_; clear B5; have B5 := Aside0.mk (show w7.heap[g5]? = some (.cells #[.int .i64 t, .slice none 0 0] 24 (0, 0)) from hbk); have H52 := Aside0.mk (Ne.symm H25.out); have c50 := (blk_cell B5.out 0).trans rfl; have c51 := (blk_cell B5.out 1).trans rfl; have c20 := (blk_cell B2.out 0).trans rfl; have c21 := (blk_cell B2.out 1).trans rfl; have f20 := blk_frozen B2.out 0; have f21 := blk_frozen B2.out 1; have hr7 : Kd.R k52 52 w7 w.heap.size (fun k_ => k_ ≠ g6 ∧ k_ ≠ g5 ∧ k_ ≠ g2) (.slice none 0 0) [] := Kd.R_nil _ _ _ _ _; have HR := Aside0.mk hr7; clear hr7; clear hbk hu) | go_step3)
            exact (RJ0_mk (k := k) ⟨G2, HF1, HB, B2⟩)
          rw [if_neg q2] at hF
          have e2 : decide (1 < bt a0 10) = false := decide_eq_false q2
          obtain ⟨x1, x2, hx, hxq⟩ := text_f a0 (10 + 1) (by omega) (by omega) c0.2
          rcases hp1 : textP a0 (10 + 1) with _ | ⟨key, at1⟩
          · rw [hp1] at hF hx
            have HF1 := Aside0.mk hF
            have HX := Aside0.mk (show batch_text.f a0 (11) = some (x1, x2, false) from hx)
            clear hF hx hxq hp1
            go_wp2_with (first | ((with_reducible refine gate_dst (N := 5) rfl ?_); refine box_event ?hg (N := 5) ?hd (cs := #[.int .i64 0, .slice none 0 0]) (t := 24) ?hr ?_; (case hd => rfl); (case hg => rfl); (case hr => first | (go_simp; done) | (go_simp; rfl)); intro g5 hg w2 hbox hb; have G5 := Aside0.mk (show w.heap.size ≤ g5 from (by rw [hg]; exact HB.out.size)); have H25 := Aside0.mk (show g2 ≠ g5 from fun e => absurd (blk_lt B2.out) (by omega)); have B5 := Aside0.mk hbox; clear hbox hg; have n0_ := Aside0.mk (below_then HB.out HB.out.size hb); have n1_ := Aside0.mk ((hb.block _ (blk_lt B2.out)).trans B2.out); clear HB B2; have HB := n0_; have B2 := n1_; clear n0_ n1_; clear hb) | ((with_reducible refine gate_dst (N := 6) rfl ?_); refine box_event ?hg (N := 6) ?hd (cs := #[.string ⟨#[]⟩, .string ⟨#[]⟩, .bool false]) (t := 52) ?hr ?_; (case hd => rfl); (case hg => rfl); (case hr => first | (go_simp; done) | (go_simp; rfl)); intro g6 hg w3 hbox hb; have G6 := Aside0.mk (show w.heap.size ≤ g6 from (by rw [hg]; exact HB.out.size)); have H26 := Aside0.mk (show g2 ≠ g6 from fun e => absurd (blk_lt B2.out) (by omega)); have H56 := Aside0.mk (show g5 ≠ g6 from fun e => absurd (blk_lt B5.out) (by omega)); have B6 := Aside0.mk hbox; clear hbox hg; have n0_ := Aside0.mk (below_then HB.out HB.out.size hb); have n1_ := Aside0.mk ((hb.block _ (blk_lt B2.out)).trans B2.out); have n2_ := Aside0.mk ((hb.block _ (blk_lt B5.out)).trans B5.out); clear HB B2 B5; have HB := n0_; have B2 := n1_; have B5 := n2_; clear n0_ n1_ n2_; clear hb) | ((with_reducible refine gate_dst (N := 20) rfl ?_); refine conv_event ?hg (N := 20) ?hd tail (by omega) ?hr ?_; (case hd => rfl); (case hg => rfl); (case hr => first | (go_simp; done) | (go_simp; rfl)); intro v20 w4 hv20 hrow hb; have n0_ := Aside0.mk (below_then HB.out HB.out.size hb); have n1_ := Aside0.mk ((hb.block _ (blk_lt B2.out)).trans B2.out); have n2_ := Aside0.mk ((hb.block _ (blk_lt B5.out)).trans B5.out); have n3_ := Aside0.mk ((hb.block _ (blk_lt B6.out)).trans B6.out); clear HB B2 B5 B6; have HB := n0_; have B2 := n1_; have B5 := n2_; have B6 := n3_; clear n0_ n1_ n2_ n3_; obtain ⟨gv, capv, rfl, _, _, hcv⟩ := hrow.reads; have HCV := Aside0.mk hcv; clear hrow hb hv20 hcv) | (go_at_call 33; go_must (refine (NewReader.calls _ capv (bytesOf tail) w4 HCV.out (by rw [bytesOf_length]; omega)).mono ?_); rintro e w5 ⟨gr, Ar, cr, rfl, hgr, hrd, hb⟩; have LR := Aside0.mk hgr; have L2 := Aside0.mk (Nat.lt_of_lt_of_le (blk_lt B2.out) hgr); have L5 := Aside0.mk (Nat.lt_of_lt_of_le (blk_lt B5.out) hgr); have L6 := Aside0.mk (Nat.lt_of_lt_of_le (blk_lt B6.out) hgr); have LBW := Aside0.mk (Nat.le_trans HB.out.size hgr); have n0_ := Aside0.mk (below_then HB.out HB.out.size hb); have n1_ := Aside0.mk ((hb.block _ (blk_lt B2.out)).trans B2.out); have n2_ := Aside0.mk ((hb.block _ (blk_lt B5.out)).trans B5.out); have n3_ := Aside0.mk ((hb.block _ (blk_lt B6.out)).trans B6.out); clear HB B2 B5 B6; have HB := n0_; have B2 := n1_; have B5 := n2_; have B6 := n3_; clear n0_ n1_ n2_ n3_; have RD := Aside0.mk hrd; clear hgr hrd hb) | (go_at_call 34; go_must (refine (I64.calls gr Ar cr (bytesOf tail) 0 w5 RD.out (by omega) (by rw [bytesOf_length]; omega)).mono ?_); rintro e w6 ⟨rfl, hb⟩; have n0_ := Aside0.mk (HB.out.trans (hb.mono LBW.out)); have n1_ := Aside0.mk ((hb.block _ L2.out).trans B2.out); have n2_ := Aside0.mk ((hb.block _ L5.out).trans B5.out); have n3_ := Aside0.mk ((hb.block _ L6.out).trans B6.out); clear HB B2 B5 B6 hb; have HB := n0_; have B2 := n1_; have B5 := n2_; have B6 := n3_; clear n0_ n1_ n2_ n3_; rw [HT.out]) | ((with_reducible refine gate_store (t := 3) (p := 23) (v := .tmp 22) rfl ?_); go_must (refine scell_event rfl rfl g5 0 (.int .i64 t) _ _ B5.out ?hr ?_); (case hr => have q1_ := (blk_cell B5.out 0).trans rfl; have q2_ := blk_frozen B5.out 0; first | (go_simp; done) | (go_simp; rfl)); intro w7 hbk hu; have n0_ := Aside0.mk (hu.below HB.out G5.out); have n1_ := Aside0.mk (hu.blk B2.out H25.out); have n2_ := Aside0.mk (hu.blk B6.out H56.out.symm); clear HB B2 B6; have HB := n0_; have B2 := n1_; have B6 := n2_; clear n0_ n1_ n2_; clear B5; have B5 := Aside0.mk (show w7.heap[g5]? = some (.cells #[.int .i64 t, .slice none 0 0] 24 (0, 0)) from hbk); have H52 := Aside0.mk (Ne.symm H25.out); have c50 := (blk_cell B5.out 0).trans rfl; have c51 := (blk_cell B5.out 1).trans rfl; have c20 := (blk_cell B2.out 0).trans rfl; have c21 := (blk_cell B2.out 1).trans rfl; have f20 := blk_frozen B2.out 0; have f21 := blk_frozen B2.out 1; have hr7 : Kd.R k52 52 w7 w.heap.size (fun k_ => k_ ≠ g6 ∧ k_ ≠ g5 ∧ k_ ≠ g2) (.slice none 0 0) [] := Kd.R_nil _ _ _ _ _; have HR := Aside0.mk hr7; clear hr7; clear hbk hu) | ((with_reducible refine gate_store (t := 52) (p := 6) (v := .tmp 76) rfl ?_); go_must (refine sagg_event rfl 52 (.tmp 6) (.tmp 76) rfl rfl g6 #[.string ⟨#[]⟩, .string ⟨#[]⟩, .bool (bt a0 10 == 1)] _ _ rfl rfl B6.out (by kernel_rfl) rfl rfl ?_); intro w8 hbk hu; have n0_ := Aside0.mk (hu.below HB.out G6.out); have n1_ := Aside0.mk (hu.blk B2.out H26.out); have n2_ := Aside0.mk (hu.blk B5.out H56.out); clear HB B2 B5; have HB := n0_; have B2 := n1_; have B5 := n2_; clear n0_ n1_ n2_; clear B6; have B6 := Aside0.mk hbk; have nR_ := Aside0.mk (Kd.R_step HR.out (fun k_ hk_ _ => hu.block k_ hk_.1)); clear HR; have HR := nR_; clear nR_; clear hbk hu) | (go_at_call 35; go_must (with_reducible refine (batch_text.calls a0 (11) x1 x2 false _ HX.out).mono ?_); rintro e w9 ⟨rfl, hd⟩; have hb := hd.below; have n0_ := Aside0.mk (below_then HB.out HB.out.size hb); have n1_ := Aside0.mk ((hb.block _ (blk_lt B2.out)).trans B2.out); have n2_ := Aside0.mk ((hb.block _ (blk_lt B5.out)).trans B5.out); have n3_ := Aside0.mk ((hb.block _ (blk_lt B6.out)).trans B6.out); have n4_ := Aside0.mk (Kd.R_below HR.out hb); clear HB B2 B5 B6 HR; have HB := n0_; have B2 := n1_; have B5 := n2_; have B6 := n3_; have HR := n4_; clear n0_ n1_ n2_ n3_ n4_; clear hb hd) | ((with_reducible refine gate_store (t := 9) (p := 85) (v := .tmp 82) rfl ?_); go_must (refine scell_event rfl rfl g6 0 (.string x1) _ _ B6.out ?hr ?_); (case hr => have q1_ := (blk_cell B6.out 0).trans rfl; have q2_ := blk_frozen B6.out 0; first | (go_simp; done) | (go_simp; rfl)); intro w10 hbk hu; have n0_ := Aside0.mk (hu.below HB.out G6.out); have n1_ := Aside0.mk (hu.blk B2.out H26.out); have n2_ := Aside0.mk (hu.blk B5.out H56.out); clear HB B2 B5; have HB := n0_; have B2 := n1_; have B5 := n2_; clear n0_ n1_ n2_; clear B6; have B6 := Aside0.mk (show w10.heap[g6]? = some (.cells #[.string x1, .string ⟨#[]⟩, .bool (bt a0 10 == 1)] 52 (0, 0)) from hbk); have nR_ := Aside0.mk (Kd.R_step HR.out (fun k_ hk_ _ => hu.block k_ hk_.1)); clear HR; have HR := nR_; clear nR_; clear hbk hu) | go_step3)
            exact (RJ0_mk (k := k) ⟨G2, HF1, HB, B2⟩)
          have hle := textP_le (by omega) hp1
          rw [hp1] at hF hx hxq
          have hq1 := hxq _ rfl
          simp only [Prod.mk.injEq] at hq1
          obtain ⟨rfl, rfl⟩ := hq1
          simp only at hF hle
          have HX := Aside0.mk (show batch_text.f a0 (11) = some (key, at1, true) from hx)
          clear hx hxq hp1
          obtain ⟨y1, y2, hy, hyq⟩ := text_f a0 at1 (by omega) (by omega) c0.2
          rcases hp2 : textP a0 at1 with _ | ⟨val, at2⟩
          · rw [hp2] at hF hy
            have HF1 := Aside0.mk hF
            have HY := Aside0.mk (show batch_text.f a0 at1 = some (y1, y2, false) from hy)
            clear hF hy hyq hp2
            have tok1 : True := trivial
            go_wp2_with (first | ((with_reducible refine gate_dst (N := 5) rfl ?_); refine box_event ?hg (N := 5) ?hd (cs := #[.int .i64 0, .slice none 0 0]) (t := 24) ?hr ?_; (case hd => rfl); (case hg => rfl); (case hr => first | (go_simp; done) | (go_simp; rfl)); intro g5 hg w2 hbox hb; have G5 := Aside0.mk (show w.heap.size ≤ g5 from (by rw [hg]; exact HB.out.size)); have H25 := Aside0.mk (show g2 ≠ g5 from fun e => absurd (blk_lt B2.out) (by omega)); have B5 := Aside0.mk hbox; clear hbox hg; have n0_ := Aside0.mk (below_then HB.out HB.out.size hb); have n1_ := Aside0.mk ((hb.block _ (blk_lt B2.out)).trans B2.out); clear HB B2; have HB := n0_; have B2 := n1_; clear n0_ n1_; clear hb) | ((with_reducible refine gate_dst (N := 6) rfl ?_); refine box_event ?hg (N := 6) ?hd (cs := #[.string ⟨#[]⟩, .string ⟨#[]⟩, .bool false]) (t := 52) ?hr ?_; (case hd => rfl); (case hg => rfl); (case hr => first | (go_simp; done) | (go_simp; rfl)); intro g6 hg w3 hbox hb; have G6 := Aside0.mk (show w.heap.size ≤ g6 from (by rw [hg]; exact HB.out.size)); have H26 := Aside0.mk (show g2 ≠ g6 from fun e => absurd (blk_lt B2.out) (by omega)); have H56 := Aside0.mk (show g5 ≠ g6 from fun e => absurd (blk_lt B5.out) (by omega)); have B6 := Aside0.mk hbox; clear hbox hg; have n0_ := Aside0.mk (below_then HB.out HB.out.size hb); have n1_ := Aside0.mk ((hb.block _ (blk_lt B2.out)).trans B2.out); have n2_ := Aside0.mk ((hb.block _ (blk_lt B5.out)).trans B5.out); clear HB B2 B5; have HB := n0_; have B2 := n1_; have B5 := n2_; clear n0_ n1_ n2_; clear hb) | ((with_reducible refine gate_dst (N := 20) rfl ?_); refine conv_event ?hg (N := 20) ?hd tail (by omega) ?hr ?_; (case hd => rfl); (case hg => rfl); (case hr => first | (go_simp; done) | (go_simp; rfl)); intro v20 w4 hv20 hrow hb; have n0_ := Aside0.mk (below_then HB.out HB.out.size hb); have n1_ := Aside0.mk ((hb.block _ (blk_lt B2.out)).trans B2.out); have n2_ := Aside0.mk ((hb.block _ (blk_lt B5.out)).trans B5.out); have n3_ := Aside0.mk ((hb.block _ (blk_lt B6.out)).trans B6.out); clear HB B2 B5 B6; have HB := n0_; have B2 := n1_; have B5 := n2_; have B6 := n3_; clear n0_ n1_ n2_ n3_; obtain ⟨gv, capv, rfl, _, _, hcv⟩ := hrow.reads; have HCV := Aside0.mk hcv; clear hrow hb hv20 hcv) | (go_at_call 33; go_must (refine (NewReader.calls _ capv (bytesOf tail) w4 HCV.out (by rw [bytesOf_length]; omega)).mono ?_); rintro e w5 ⟨gr, Ar, cr, rfl, hgr, hrd, hb⟩; have LR := Aside0.mk hgr; have L2 := Aside0.mk (Nat.lt_of_lt_of_le (blk_lt B2.out) hgr); have L5 := Aside0.mk (Nat.lt_of_lt_of_le (blk_lt B5.out) hgr); have L6 := Aside0.mk (Nat.lt_of_lt_of_le (blk_lt B6.out) hgr); have LBW := Aside0.mk (Nat.le_trans HB.out.size hgr); have n0_ := Aside0.mk (below_then HB.out HB.out.size hb); have n1_ := Aside0.mk ((hb.block _ (blk_lt B2.out)).trans B2.out); have n2_ := Aside0.mk ((hb.block _ (blk_lt B5.out)).trans B5.out); have n3_ := Aside0.mk ((hb.block _ (blk_lt B6.out)).trans B6.out); clear HB B2 B5 B6; have HB := n0_; have B2 := n1_; have B5 := n2_; have B6 := n3_; clear n0_ n1_ n2_ n3_; have RD := Aside0.mk hrd; clear hgr hrd hb) | (go_at_call 34; go_must (refine (I64.calls gr Ar cr (bytesOf tail) 0 w5 RD.out (by omega) (by rw [bytesOf_length]; omega)).mono ?_); rintro e w6 ⟨rfl, hb⟩; have n0_ := Aside0.mk (HB.out.trans (hb.mono LBW.out)); have n1_ := Aside0.mk ((hb.block _ L2.out).trans B2.out); have n2_ := Aside0.mk ((hb.block _ L5.out).trans B5.out); have n3_ := Aside0.mk ((hb.block _ L6.out).trans B6.out); clear HB B2 B5 B6 hb; have HB := n0_; have B2 := n1_; have B5 := n2_; have B6 := n3_; clear n0_ n1_ n2_ n3_; rw [HT.out]) | ((with_reducible refine gate_store (t := 3) (p := 23) (v := .tmp 22) rfl ?_); go_must (refine scell_event rfl rfl g5 0 (.int .i64 t) _ _ B5.out ?hr ?_); (case hr => have q1_ := (blk_cell B5.out 0).trans rfl; have q2_ := blk_frozen B5.out 0; first | (go_simp; done) | (go_simp; rfl)); intro w7 hbk hu; have n0_ := Aside0.mk (hu.below HB.out G5.out); have n1_ := Aside0.mk (hu.blk B2.out H25.out); have n2_ := Aside0.mk (hu.blk B6.out H56.out.symm); clear HB B2 B6; have HB := n0_; have B2 := n1_; have B6 := n2_; clear n0_ n1_ n2_; clear B5; have B5 := Aside0.mk (show w7.heap[g5]? = some (.cells #[.int .i64 t, .slice none 0 0] 24 (0, 0)) from hbk); have H52 := Aside0.mk (Ne.symm H25.out); have c50 := (blk_cell B5.out 0).trans rfl; have c51 := (blk_cell B5.out 1).trans rfl; have c20 := (blk_cell B2.out 0).trans rfl; have c21 := (blk_cell B2.out 1).trans rfl; have f20 := blk_frozen B2.out 0; have f21 := blk_frozen B2.out 1; have hr7 : Kd.R k52 52 w7 w.heap.size (fun k_ => k_ ≠ g6 ∧ k_ ≠ g5 ∧ k_ ≠ g2) (.slice none 0 0) [] := Kd.R_nil _ _ _ _ _; have HR := Aside0.mk hr7; clear hr7; clear hbk hu) | ((with_reducible refine gate_store (t := 52) (p := 6) (v := .tmp 76) rfl ?_); go_must (refine sagg_event rfl 52 (.tmp 6) (.tmp 76) rfl rfl g6 #[.string ⟨#[]⟩, .string ⟨#[]⟩, .bool (bt a0 10 == 1)] _ _ rfl rfl B6.out (by kernel_rfl) rfl rfl ?_); intro w8 hbk hu; have n0_ := Aside0.mk (hu.below HB.out G6.out); have n1_ := Aside0.mk (hu.blk B2.out H26.out); have n2_ := Aside0.mk (hu.blk B5.out H56.out); clear HB B2 B5; have HB := n0_; have B2 := n1_; have B5 := n2_; clear n0_ n1_ n2_; clear B6; have B6 := Aside0.mk hbk; have nR_ := Aside0.mk (Kd.R_step HR.out (fun k_ hk_ _ => hu.block k_ hk_.1)); clear HR; have HR := nR_; clear nR_; clear hbk hu) | (have t1_ := tok1; go_at_call 35; go_must (with_reducible refine (batch_text.calls a0 (11) key at1 true _ HX.out).mono ?_); rintro e w9 ⟨rfl, hd⟩; have hb := hd.below; have n0_ := Aside0.mk (below_then HB.out HB.out.size hb); have n1_ := Aside0.mk ((hb.block _ (blk_lt B2.out)).trans B2.out); have n2_ := Aside0.mk ((hb.block _ (blk_lt B5.out)).trans B5.out); have n3_ := Aside0.mk ((hb.block _ (blk_lt B6.out)).trans B6.out); have n4_ := Aside0.mk (Kd.R_below HR.out hb); clear HB B2 B5 B6 HR; have HB := n0_; have B2 := n1_; have B5 := n2_; have B6 := n3_; have HR := n4_; clear n0_ n1_ n2_ n3_ n4_; clear hb hd; clear tok1) | ((with_reducible refine gate_store (t := 9) (p := 85) (v := .tmp 82) rfl ?_); go_must (refine scell_event rfl rfl g6 0 (.string key) _ _ B6.out ?hr ?_); (case hr => have q1_ := (blk_cell B6.out 0).trans rfl; have q2_ := blk_frozen B6.out 0; first | (go_simp; done) | (go_simp; rfl)); intro w10 hbk hu; have n0_ := Aside0.mk (hu.below HB.out G6.out); have n1_ := Aside0.mk (hu.blk B2.out H26.out); have n2_ := Aside0.mk (hu.blk B5.out H56.out); clear HB B2 B5; have HB := n0_; have B2 := n1_; have B5 := n2_; clear n0_ n1_ n2_; clear B6; have B6 := Aside0.mk (show w10.heap[g6]? = some (.cells #[.string key, .string ⟨#[]⟩, .bool (bt a0 10 == 1)] 52 (0, 0)) from hbk); have nR_ := Aside0.mk (Kd.R_step HR.out (fun k_ hk_ _ => hu.block k_ hk_.1)); clear HR; have HR := nR_; clear nR_; clear hbk hu) | (go_at_call 35; go_must (with_reducible refine (batch_text.calls a0 (at1) y1 y2 false _ HY.out).mono ?_); rintro e w11 ⟨rfl, hd⟩; have hb := hd.below; have n0_ := Aside0.mk (below_then HB.out HB.out.size hb); have n1_ := Aside0.mk ((hb.block _ (blk_lt B2.out)).trans B2.out); have n2_ := Aside0.mk ((hb.block _ (blk_lt B5.out)).trans B5.out); have n3_ := Aside0.mk ((hb.block _ (blk_lt B6.out)).trans B6.out); have n4_ := Aside0.mk (Kd.R_below HR.out hb); clear HB B2 B5 B6 HR; have HB := n0_; have B2 := n1_; have B5 := n2_; have B6 := n3_; have HR := n4_; clear n0_ n1_ n2_ n3_ n4_; clear hb hd) | ((with_reducible refine gate_store (t := 9) (p := 95) (v := .tmp 92) rfl ?_); go_must (refine scell_event rfl rfl g6 1 (.string y1) _ _ B6.out ?hr ?_); (case hr => have q1_ := (blk_cell B6.out 1).trans rfl; have q2_ := blk_frozen B6.out 1; first | (go_simp; done) | (go_simp; rfl)); intro w12 hbk hu; have n0_ := Aside0.mk (hu.below HB.out G6.out); have n1_ := Aside0.mk (hu.blk B2.out H26.out); have n2_ := Aside0.mk (hu.blk B5.out H56.out); clear HB B2 B5; have HB := n0_; have B2 := n1_; have B5 := n2_; clear n0_ n1_ n2_; clear B6; have B6 := Aside0.mk (show w12.heap[g6]? = some (.cells #[.string key, .string y1, .bool (bt a0 10 == 1)] 52 (0, 0)) from hbk); have nR_ := Aside0.mk (Kd.R_step HR.out (fun k_ hk_ _ => hu.block k_ hk_.1)); clear HR; have HR := nR_; clear nR_; have d51 := (blk_cell B5.out 1).trans rfl; have d60 := (blk_cell B6.out 0).trans rfl; have d61 := (blk_cell B6.out 1).trans rfl; have d62 := (blk_cell B6.out 2).trans rfl; clear hbk hu) | go_step3)
            exact (RJ0_mk (k := k) ⟨G2, HF1, HB, B2⟩)
          have hle2 := textP_le (by omega) hp2
          rw [hp2] at hF hy hyq
          have hq2 := hyq _ rfl
          simp only [Prod.mk.injEq] at hq2
          obtain ⟨rfl, rfl⟩ := hq2
          simp only at hF hle2
          have HY := Aside0.mk (show batch_text.f a0 at1 = some (val, at2, true) from hy)
          clear hy hyq hp2
          have HF2 := Aside0.mk hF
          clear hF
          have tok1 : True := trivial
          go_wp2_with (first | ((with_reducible refine gate_dst (N := 5) rfl ?_); refine box_event ?hg (N := 5) ?hd (cs := #[.int .i64 0, .slice none 0 0]) (t := 24) ?hr ?_; (case hd => rfl); (case hg => rfl); (case hr => first | (go_simp; done) | (go_simp; rfl)); intro g5 hg w2 hbox hb; have G5 := Aside0.mk (show w.heap.size ≤ g5 from (by rw [hg]; exact HB.out.size)); have H25 := Aside0.mk (show g2 ≠ g5 from fun e => absurd (blk_lt B2.out) (by omega)); have B5 := Aside0.mk hbox; clear hbox hg; have n0_ := Aside0.mk (below_then HB.out HB.out.size hb); have n1_ := Aside0.mk ((hb.block _ (blk_lt B2.out)).trans B2.out); clear HB B2; have HB := n0_; have B2 := n1_; clear n0_ n1_; clear hb) | ((with_reducible refine gate_dst (N := 6) rfl ?_); refine box_event ?hg (N := 6) ?hd (cs := #[.string ⟨#[]⟩, .string ⟨#[]⟩, .bool false]) (t := 52) ?hr ?_; (case hd => rfl); (case hg => rfl); (case hr => first | (go_simp; done) | (go_simp; rfl)); intro g6 hg w3 hbox hb; have G6 := Aside0.mk (show w.heap.size ≤ g6 from (by rw [hg]; exact HB.out.size)); have H26 := Aside0.mk (show g2 ≠ g6 from fun e => absurd (blk_lt B2.out) (by omega)); have H56 := Aside0.mk (show g5 ≠ g6 from fun e => absurd (blk_lt B5.out) (by omega)); have B6 := Aside0.mk hbox; clear hbox hg; have n0_ := Aside0.mk (below_then HB.out HB.out.size hb); have n1_ := Aside0.mk ((hb.block _ (blk_lt B2.out)).trans B2.out); have n2_ := Aside0.mk ((hb.block _ (blk_lt B5.out)).trans B5.out); clear HB B2 B5; have HB := n0_; have B2 := n1_; have B5 := n2_; clear n0_ n1_ n2_; clear hb) | ((with_reducible refine gate_dst (N := 20) rfl ?_); refine conv_event ?hg (N := 20) ?hd tail (by omega) ?hr ?_; (case hd => rfl); (case hg => rfl); (case hr => first | (go_simp; done) | (go_simp; rfl)); intro v20 w4 hv20 hrow hb; have n0_ := Aside0.mk (below_then HB.out HB.out.size hb); have n1_ := Aside0.mk ((hb.block _ (blk_lt B2.out)).trans B2.out); have n2_ := Aside0.mk ((hb.block _ (blk_lt B5.out)).trans B5.out); have n3_ := Aside0.mk ((hb.block _ (blk_lt B6.out)).trans B6.out); clear HB B2 B5 B6; have HB := n0_; have B2 := n1_; have B5 := n2_; have B6 := n3_; clear n0_ n1_ n2_ n3_; obtain ⟨gv, capv, rfl, _, _, hcv⟩ := hrow.reads; have HCV := Aside0.mk hcv; clear hrow hb hv20 hcv) | (go_at_call 33; go_must (refine (NewReader.calls _ capv (bytesOf tail) w4 HCV.out (by rw [bytesOf_length]; omega)).mono ?_); rintro e w5 ⟨gr, Ar, cr, rfl, hgr, hrd, hb⟩; have LR := Aside0.mk hgr; have L2 := Aside0.mk (Nat.lt_of_lt_of_le (blk_lt B2.out) hgr); have L5 := Aside0.mk (Nat.lt_of_lt_of_le (blk_lt B5.out) hgr); have L6 := Aside0.mk (Nat.lt_of_lt_of_le (blk_lt B6.out) hgr); have LBW := Aside0.mk (Nat.le_trans HB.out.size hgr); have n0_ := Aside0.mk (below_then HB.out HB.out.size hb); have n1_ := Aside0.mk ((hb.block _ (blk_lt B2.out)).trans B2.out); have n2_ := Aside0.mk ((hb.block _ (blk_lt B5.out)).trans B5.out); have n3_ := Aside0.mk ((hb.block _ (blk_lt B6.out)).trans B6.out); clear HB B2 B5 B6; have HB := n0_; have B2 := n1_; have B5 := n2_; have B6 := n3_; clear n0_ n1_ n2_ n3_; have RD := Aside0.mk hrd; clear hgr hrd hb) | (go_at_call 34; go_must (refine (I64.calls gr Ar cr (bytesOf tail) 0 w5 RD.out (by omega) (by rw [bytesOf_length]; omega)).mono ?_); rintro e w6 ⟨rfl, hb⟩; have n0_ := Aside0.mk (HB.out.trans (hb.mono LBW.out)); have n1_ := Aside0.mk ((hb.block _ L2.out).trans B2.out); have n2_ := Aside0.mk ((hb.block _ L5.out).trans B5.out); have n3_ := Aside0.mk ((hb.block _ L6.out).trans B6.out); clear HB B2 B5 B6 hb; have HB := n0_; have B2 := n1_; have B5 := n2_; have B6 := n3_; clear n0_ n1_ n2_ n3_; rw [HT.out]) | ((with_reducible refine gate_store (t := 3) (p := 23) (v := .tmp 22) rfl ?_); go_must (refine scell_event rfl rfl g5 0 (.int .i64 t) _ _ B5.out ?hr ?_); (case hr => have q1_ := (blk_cell B5.out 0).trans rfl; have q2_ := blk_frozen B5.out 0; first | (go_simp; done) | (go_simp; rfl)); intro w7 hbk hu; have n0_ := Aside0.mk (hu.below HB.out G5.out); have n1_ := Aside0.mk (hu.blk B2.out H25.out); have n2_ := Aside0.mk (hu.blk B6.out H56.out.symm); clear HB B2 B6; have HB := n0_; have B2 := n1_; have B6 := n2_; clear n0_ n1_ n2_; clear B5; have B5 := Aside0.mk (show w7.heap[g5]? = some (.cells #[.int .i64 t, .slice none 0 0] 24 (0, 0)) from hbk); have H52 := Aside0.mk (Ne.symm H25.out); have c50 := (blk_cell B5.out 0).trans rfl; have c51 := (blk_cell B5.out 1).trans rfl; have c20 := (blk_cell B2.out 0).trans rfl; have c21 := (blk_cell B2.out 1).trans rfl; have f20 := blk_frozen B2.out 0; have f21 := blk_frozen B2.out 1; have hr7 : Kd.R k52 52 w7 w.heap.size (fun k_ => k_ ≠ g6 ∧ k_ ≠ g5 ∧ k_ ≠ g2) (.slice none 0 0) [] := Kd.R_nil _ _ _ _ _; have HR := Aside0.mk hr7; clear hr7; clear hbk hu) | ((with_reducible refine gate_store (t := 52) (p := 6) (v := .tmp 76) rfl ?_); go_must (refine sagg_event rfl 52 (.tmp 6) (.tmp 76) rfl rfl g6 #[.string ⟨#[]⟩, .string ⟨#[]⟩, .bool (bt a0 10 == 1)] _ _ rfl rfl B6.out (by kernel_rfl) rfl rfl ?_); intro w8 hbk hu; have n0_ := Aside0.mk (hu.below HB.out G6.out); have n1_ := Aside0.mk (hu.blk B2.out H26.out); have n2_ := Aside0.mk (hu.blk B5.out H56.out); clear HB B2 B5; have HB := n0_; have B2 := n1_; have B5 := n2_; clear n0_ n1_ n2_; clear B6; have B6 := Aside0.mk hbk; have nR_ := Aside0.mk (Kd.R_step HR.out (fun k_ hk_ _ => hu.block k_ hk_.1)); clear HR; have HR := nR_; clear nR_; clear hbk hu) | (have t1_ := tok1; go_at_call 35; go_must (with_reducible refine (batch_text.calls a0 (11) key at1 true _ HX.out).mono ?_); rintro e w9 ⟨rfl, hd⟩; have hb := hd.below; have n0_ := Aside0.mk (below_then HB.out HB.out.size hb); have n1_ := Aside0.mk ((hb.block _ (blk_lt B2.out)).trans B2.out); have n2_ := Aside0.mk ((hb.block _ (blk_lt B5.out)).trans B5.out); have n3_ := Aside0.mk ((hb.block _ (blk_lt B6.out)).trans B6.out); have n4_ := Aside0.mk (Kd.R_below HR.out hb); clear HB B2 B5 B6 HR; have HB := n0_; have B2 := n1_; have B5 := n2_; have B6 := n3_; have HR := n4_; clear n0_ n1_ n2_ n3_ n4_; clear hb hd; clear tok1) | ((with_reducible refine gate_store (t := 9) (p := 85) (v := .tmp 82) rfl ?_); go_must (refine scell_event rfl rfl g6 0 (.string key) _ _ B6.out ?hr ?_); (case hr => have q1_ := (blk_cell B6.out 0).trans rfl; have q2_ := blk_frozen B6.out 0; first | (go_simp; done) | (go_simp; rfl)); intro w10 hbk hu; have n0_ := Aside0.mk (hu.below HB.out G6.out); have n1_ := Aside0.mk (hu.blk B2.out H26.out); have n2_ := Aside0.mk (hu.blk B5.out H56.out); clear HB B2 B5; have HB := n0_; have B2 := n1_; have B5 := n2_; clear n0_ n1_ n2_; clear B6; have B6 := Aside0.mk (show w10.heap[g6]? = some (.cells #[.string key, .string ⟨#[]⟩, .bool (bt a0 10 == 1)] 52 (0, 0)) from hbk); have nR_ := Aside0.mk (Kd.R_step HR.out (fun k_ hk_ _ => hu.block k_ hk_.1)); clear HR; have HR := nR_; clear nR_; clear hbk hu) | (go_at_call 35; go_must (with_reducible refine (batch_text.calls a0 (at1) val at2 true _ HY.out).mono ?_); rintro e w11 ⟨rfl, hd⟩; have hb := hd.below; have n0_ := Aside0.mk (below_then HB.out HB.out.size hb); have n1_ := Aside0.mk ((hb.block _ (blk_lt B2.out)).trans B2.out); have n2_ := Aside0.mk ((hb.block _ (blk_lt B5.out)).trans B5.out); have n3_ := Aside0.mk ((hb.block _ (blk_lt B6.out)).trans B6.out); have n4_ := Aside0.mk (Kd.R_below HR.out hb); clear HB B2 B5 B6 HR; have HB := n0_; have B2 := n1_; have B5 := n2_; have B6 := n3_; have HR := n4_; clear n0_ n1_ n2_ n3_ n4_; clear hb hd) | ((with_reducible refine gate_store (t := 9) (p := 95) (v := .tmp 92) rfl ?_); go_must (refine scell_event rfl rfl g6 1 (.string val) _ _ B6.out ?hr ?_); (case hr => have q1_ := (blk_cell B6.out 1).trans rfl; have q2_ := blk_frozen B6.out 1; first | (go_simp; done) | (go_simp; rfl)); intro w12 hbk hu; have n0_ := Aside0.mk (hu.below HB.out G6.out); have n1_ := Aside0.mk (hu.blk B2.out H26.out); have n2_ := Aside0.mk (hu.blk B5.out H56.out); clear HB B2 B5; have HB := n0_; have B2 := n1_; have B5 := n2_; clear n0_ n1_ n2_; clear B6; have B6 := Aside0.mk (show w12.heap[g6]? = some (.cells #[.string key, .string val, .bool (bt a0 10 == 1)] 52 (0, 0)) from hbk); have nR_ := Aside0.mk (Kd.R_step HR.out (fun k_ hk_ _ => hu.block k_ hk_.1)); clear HR; have HR := nR_; clear nR_; have d51 := (blk_cell B5.out 1).trans rfl; have d60 := (blk_cell B6.out 0).trans rfl; have d61 := (blk_cell B6.out 1).trans rfl; have d62 := (blk_cell B6.out 2).trans rfl; clear hbk hu) | ((with_reducible refine gate_builtin (b := .append) (xs := #[.tmp 99, .tmp 101]) rfl ?_); at_builtin; go_must (refine Kd.R_append k52 (w0 := w) w.heap.size rfl (.tmp 99) (.tmp 101) 22 52 (.agg #[(.string ⟨#[]⟩), (.string ⟨#[]⟩), (.bool false)]) 40 rfl Try.underlying22 info52 rfl (by decide) (by decide) (.slice none 0 0) [] (⟨key, val, (bt a0 10 == 1)⟩ : S52) [.string key, .string val, .bool (bt a0 10 == 1)] (fun k_ => k_ ≠ g6 ∧ k_ ≠ g5 ∧ k_ ≠ g2) (fun _ => False) rfl rfl (k52_mkM _ _ _ (⟨key, val, (bt a0 10 == 1)⟩ : S52)) (fun _ hk => hk.elim) ?fr HR.out HB.out HB.out.size ?len ?_); (case fr => exact fun k_ hk_ => ⟨fun e_ => by have := blk_lt B6.out; omega, fun e_ => by have := blk_lt B5.out; omega, fun e_ => by have := blk_lt B2.out; omega⟩); (case len => first | omega | (simp; done) | (simp; omega)); intro v1 w13 ho hb hg hat; have n1_ := Aside0.mk (blk_grown B2.out hg (fun e_ => (HR.out.1 g2 e_.symm).2.2 rfl)); have n2_ := Aside0.mk (blk_grown B5.out hg (fun e_ => (HR.out.1 g5 e_.symm).2.1 rfl)); have n3_ := Aside0.mk (blk_grown B6.out hg (fun e_ => (HR.out.1 g6 e_.symm).1 rfl)); clear HB B2 B5 B6 HR; have HB := Aside0.mk hb; have B2 := n1_; have B5 := n2_; have B6 := n3_; clear n1_ n2_ n3_; obtain ⟨A1, c1, e1_⟩ := Kd.R_slice ho; simp only [List.length_append, List.length_singleton, List.length_nil, Nat.zero_add] at e1_; subst e1_; have HR := Aside0.mk ho; clear ho hb hg hat) | ((with_reducible refine gate_store (t := 22) (p := 103) (v := .tmp 102) rfl ?_); go_must (refine scell_event rfl rfl g5 1 (.slice A1 1 c1) _ _ B5.out ?hr ?_); (case hr => have q1_ := (blk_cell B5.out 1).trans rfl; have q2_ := blk_frozen B5.out 1; first | (go_simp; done) | (go_simp; rfl)); intro w14 hbk hu; have n0_ := Aside0.mk (hu.below HB.out G5.out); have n1_ := Aside0.mk (hu.blk B2.out H25.out); have n2_ := Aside0.mk (hu.blk B6.out H56.out.symm); clear HB B2 B6; have HB := n0_; have B2 := n1_; have B6 := n2_; clear n0_ n1_ n2_; clear B5; have B5 := Aside0.mk (show w14.heap[g5]? = some (.cells #[.int .i64 t, .slice A1 1 c1] 24 (0, 0)) from hbk); have nR_ := Aside0.mk (Kd.R_step HR.out (fun k_ hk_ _ => hu.block k_ hk_.2.1)); clear HR; have HR := nR_; clear nR_; clear hbk hu) | go_step3)
          exact (RJ2_mk (k := k) ⟨⟨⟨H25.out, H26.out, H56.out, G2.out, G5.out, G6.out⟩⟩, c0, by omega, by omega, by omega, by (first | omega | (simp; omega)), ⟨by rw [HNN.out]; exact HF2.out⟩, HB, B2, B5, B6, HR⟩)
      · have e66 : (bt a0 0 != 66) = true := by simpa using h66
        have HF2 : Aside0 (rdBad = some r) := ⟨by have := HFF.out; rw [if_neg (by omega), if_pos (by omega)] at this; exact this⟩
        clear HFF h77 h66
        go_wp2_with (first | ((with_reducible refine gate_dst (N := 5) rfl ?_); refine box_event ?hg (N := 5) ?hd (cs := #[.int .i64 0, .slice none 0 0]) (t := 24) ?hr ?_; (case hd => rfl); (case hg => rfl); (case hr => first | (go_simp; done) | (go_simp; rfl)); intro g5 hg w2 hbox hb; have G5 := Aside0.mk (show w.heap.size ≤ g5 from (by rw [hg]; exact HB.out.size)); have H25 := Aside0.mk (show g2 ≠ g5 from fun e => absurd (blk_lt B2.out) (by omega)); have B5 := Aside0.mk hbox; clear hbox hg; have n0_ := Aside0.mk (below_then HB.out HB.out.size hb); have n1_ := Aside0.mk ((hb.block _ (blk_lt B2.out)).trans B2.out); clear HB B2; have HB := n0_; have B2 := n1_; clear n0_ n1_; clear hb) | ((with_reducible refine gate_dst (N := 6) rfl ?_); refine box_event ?hg (N := 6) ?hd (cs := #[.string ⟨#[]⟩, .string ⟨#[]⟩, .bool false]) (t := 52) ?hr ?_; (case hd => rfl); (case hg => rfl); (case hr => first | (go_simp; done) | (go_simp; rfl)); intro g6 hg w3 hbox hb; have G6 := Aside0.mk (show w.heap.size ≤ g6 from (by rw [hg]; exact HB.out.size)); have H26 := Aside0.mk (show g2 ≠ g6 from fun e => absurd (blk_lt B2.out) (by omega)); have H56 := Aside0.mk (show g5 ≠ g6 from fun e => absurd (blk_lt B5.out) (by omega)); have B6 := Aside0.mk hbox; clear hbox hg; have n0_ := Aside0.mk (below_then HB.out HB.out.size hb); have n1_ := Aside0.mk ((hb.block _ (blk_lt B2.out)).trans B2.out); have n2_ := Aside0.mk ((hb.block _ (blk_lt B5.out)).trans B5.out); clear HB B2 B5; have HB := n0_; have B2 := n1_; have B5 := n2_; clear n0_ n1_ n2_; clear hb) | ((with_reducible refine gate_dst (N := 20) rfl ?_); refine conv_event ?hg (N := 20) ?hd tail (by omega) ?hr ?_; (case hd => rfl); (case hg => rfl); (case hr => first | (go_simp; done) | (go_simp; rfl)); intro v20 w4 hv20 hrow hb; have n0_ := Aside0.mk (below_then HB.out HB.out.size hb); have n1_ := Aside0.mk ((hb.block _ (blk_lt B2.out)).trans B2.out); have n2_ := Aside0.mk ((hb.block _ (blk_lt B5.out)).trans B5.out); have n3_ := Aside0.mk ((hb.block _ (blk_lt B6.out)).trans B6.out); clear HB B2 B5 B6; have HB := n0_; have B2 := n1_; have B5 := n2_; have B6 := n3_; clear n0_ n1_ n2_ n3_; obtain ⟨gv, capv, rfl, _, _, hcv⟩ := hrow.reads; have HCV := Aside0.mk hcv; clear hrow hb hv20 hcv) | (go_at_call 33; go_must (refine (NewReader.calls _ capv (bytesOf tail) w4 HCV.out (by rw [bytesOf_length]; omega)).mono ?_); rintro e w5 ⟨gr, Ar, cr, rfl, hgr, hrd, hb⟩; have LR := Aside0.mk hgr; have L2 := Aside0.mk (Nat.lt_of_lt_of_le (blk_lt B2.out) hgr); have L5 := Aside0.mk (Nat.lt_of_lt_of_le (blk_lt B5.out) hgr); have L6 := Aside0.mk (Nat.lt_of_lt_of_le (blk_lt B6.out) hgr); have LBW := Aside0.mk (Nat.le_trans HB.out.size hgr); have n0_ := Aside0.mk (below_then HB.out HB.out.size hb); have n1_ := Aside0.mk ((hb.block _ (blk_lt B2.out)).trans B2.out); have n2_ := Aside0.mk ((hb.block _ (blk_lt B5.out)).trans B5.out); have n3_ := Aside0.mk ((hb.block _ (blk_lt B6.out)).trans B6.out); clear HB B2 B5 B6; have HB := n0_; have B2 := n1_; have B5 := n2_; have B6 := n3_; clear n0_ n1_ n2_ n3_; have RD := Aside0.mk hrd; clear hgr hrd hb) | (go_at_call 34; go_must (refine (I64.calls gr Ar cr (bytesOf tail) 0 w5 RD.out (by omega) (by rw [bytesOf_length]; omega)).mono ?_); rintro e w6 ⟨rfl, hb⟩; have n0_ := Aside0.mk (HB.out.trans (hb.mono LBW.out)); have n1_ := Aside0.mk ((hb.block _ L2.out).trans B2.out); have n2_ := Aside0.mk ((hb.block _ L5.out).trans B5.out); have n3_ := Aside0.mk ((hb.block _ L6.out).trans B6.out); clear HB B2 B5 B6 hb; have HB := n0_; have B2 := n1_; have B5 := n2_; have B6 := n3_; clear n0_ n1_ n2_ n3_; rw [HT.out]) | ((with_reducible refine gate_store (t := 3) (p := 23) (v := .tmp 22) rfl ?_); go_must (refine scell_event rfl rfl g5 0 (.int .i64 t) _ _ B5.out ?hr ?_); (case hr => have q1_ := (blk_cell B5.out 0).trans rfl; have q2_ := blk_frozen B5.out 0; first | (go_simp; done) | (go_simp; rfl)); intro w7 hbk hu; have n0_ := Aside0.mk (hu.below HB.out G5.out); have n1_ := Aside0.mk (hu.blk B2.out H25.out); have n2_ := Aside0.mk (hu.blk B6.out H56.out.symm); clear HB B2 B6; have HB := n0_; have B2 := n1_; have B6 := n2_; clear n0_ n1_ n2_; clear B5; have B5 := Aside0.mk (show w7.heap[g5]? = some (.cells #[.int .i64 t, .slice none 0 0] 24 (0, 0)) from hbk); have H52 := Aside0.mk (Ne.symm H25.out); have c50 := (blk_cell B5.out 0).trans rfl; have c51 := (blk_cell B5.out 1).trans rfl; have c20 := (blk_cell B2.out 0).trans rfl; have c21 := (blk_cell B2.out 1).trans rfl; have f20 := blk_frozen B2.out 0; have f21 := blk_frozen B2.out 1; have hr7 : Kd.R k52 52 w7 w.heap.size (fun k_ => k_ ≠ g6 ∧ k_ ≠ g5 ∧ k_ ≠ g2) (.slice none 0 0) [] := Kd.R_nil _ _ _ _ _; have HR := Aside0.mk hr7; clear hr7; clear hbk hu) | go_step3)
        exact RJ0_mk (k := k) ⟨G2, HF2, HB, B2⟩
  · intro l a w1 hJ
    clear HB B2 HF
    match l, hJ with
    | 0, hJ =>
      obtain ⟨u, rfl, G2, HF, HB, B2⟩ := hJ
      refine ⟨_, rfl, ?_⟩
      have hF := HF.out
      unfold rdBad at hF
      have hq := Option.some.inj hF
      obtain ⟨rfl, rfl, rfl, rfl⟩ : 0 = r1 ∧ [] = r2 ∧ 0 = r3 ∧ 4 = r4 := by have := hq.trans HRR.out; simpa using this
      go_wp2_with (first | ((with_reducible refine gate_store (t := 24) (p := 2) (v := .tmp 114) rfl ?_); go_must (refine sagg_event rfl 24 (.tmp 2) (.tmp 114) rfl rfl g2 #[.int .i64 0, .slice none 0 0] _ _ rfl rfl B2.out (by kernel_rfl) rfl rfl ?_); intro w9 hbk hu; have n0_ := Aside0.mk (hu.below HB.out G2.out); clear HB; have HB := n0_; clear n0_; clear B2; have B2 := Aside0.mk hbk; have c20 := (blk_cell B2.out 0).trans rfl; have c21 := (blk_cell B2.out 1).trans rfl; clear hbk hu) | go_step3)
      refine bodyPost_ret (v := .tuple #[.agg #[.int .i64 0, .slice none 0 0], .int .i64 0, .int .i64 4]) ?_ rfl ?_
      · simp [results, Try.results10, go_sem, c20, c21]
      · exact ⟨.slice none 0 0, rfl, Kd.R_nil _ _ _ _ _, HB.out⟩
    | 1, hJ =>
      obtain ⟨u, v, g5, g6, t, at_, acc, rfl, NE, HF, HB, B2, B5, HR⟩ := hJ
      refine ⟨_, rfl, ?_⟩
      have H25 := Aside0.mk NE.out.1
      have G2 := Aside0.mk NE.out.2.2.2.1
      have G5 := Aside0.mk NE.out.2.2.2.2.1
      have hF := HF.out
      unfold readEnd at hF
      by_cases q0 : ¬ (at_ = (a0.size : Int))
      · rw [if_neg q0] at hF
        have hq := Option.some.inj hF
        obtain ⟨rfl, rfl, rfl, rfl⟩ : 0 = r1 ∧ [] = r2 ∧ 0 = r3 ∧ 4 = r4 := by have := hq.trans HRR.out; simpa using this
        have e0 : (at_ == (a0.size : Int)) = false := by rw [beq_eq_false_iff_ne]; exact q0
        clear hF hq HF q0
        go_wp2_with (first | ((with_reducible refine gate_store (t := 24) (p := 2) (v := .tmp 114) rfl ?_); go_must (refine sagg_event rfl 24 (.tmp 2) (.tmp 114) rfl rfl g2 #[.int .i64 0, .slice none 0 0] _ _ rfl rfl B2.out (by kernel_rfl) rfl rfl ?_); intro w9 hbk hu; have n0_ := Aside0.mk (hu.below HB.out G2.out); clear HB; have HB := n0_; clear n0_; clear B2; have B2 := Aside0.mk hbk; have c90 := (blk_cell B2.out 0).trans rfl; have c91 := (blk_cell B2.out 1).trans rfl; clear hbk hu) | go_step3)
        refine bodyPost_ret (v := .tuple #[.agg #[.int .i64 0, .slice none 0 0], .int .i64 0, .int .i64 4]) ?_ rfl ?_
        · simp [results, Try.results10, go_sem, c90, c91]
        · exact ⟨.slice none 0 0, rfl, Kd.R_nil _ _ _ _ _, HB.out⟩
      replace q0 := Decidable.not_not.1 q0
      rw [if_pos q0] at hF
      obtain ⟨e0_, hck, hF⟩ := Option.bind_eq_some_iff.1 hF
      have HCK := Aside0.mk hck
      have e0 : (at_ == (a0.size : Int)) = true := by rw [beq_iff_eq]; exact q0
      obtain ⟨A1, c1, hv, hlc, hcr⟩ := Kd.R_reads HR.out
      subst hv
      have HCR := Aside0.mk hcr
      have HLC := Aside0.mk hlc
      have c50 := (blk_cell B5.out 0).trans rfl
      have c51 := (blk_cell B5.out 1).trans rfl
      have HQ0 := Aside0.mk q0
      clear hck hlc hcr HF q0
      by_cases q1 : e0_ = 0
      · rw [if_pos q1] at hF
        subst q1
        have hq := Option.some.inj hF
        obtain ⟨rfl, rfl, rfl, rfl⟩ : t = r1 ∧ acc = r2 ∧ 0 = r3 ∧ 0 = r4 := by have := hq.trans HRR.out; simpa using this
        clear hF hq
        go_wp2_with (first | (go_at_call 18; go_must (with_reducible refine (batch_Check.calls k t (A1) c1 acc _ _ HCR.out HLC.out HCK.out).mono ?_); rintro e w8 ⟨rfl, hb⟩; have n0_ := Aside0.mk (below_then HB.out HB.out.size hb); have n1_ := Aside0.mk ((hb.block _ (blk_lt B2.out)).trans B2.out); have n2_ := Aside0.mk ((hb.block _ (blk_lt B5.out)).trans B5.out); have n3_ := Aside0.mk (Kd.R_below HR.out hb); clear HB B2 B5 HR; have HB := n0_; have B2 := n1_; have B5 := n2_; have HR := n3_; clear n0_ n1_ n2_ n3_; have c50 := (blk_cell B5.out 0).trans rfl; have c51 := (blk_cell B5.out 1).trans rfl; have c20 := (blk_cell B2.out 0).trans rfl; have c21 := (blk_cell B2.out 1).trans rfl; clear hb) | ((with_reducible refine gate_store (t := 24) (p := 2) (v := .tmp 114) rfl ?_); go_must (refine sagg_event rfl 24 (.tmp 2) (.tmp 114) rfl rfl g2 #[.int .i64 0, .slice none 0 0] _ _ rfl rfl B2.out (by kernel_rfl) rfl rfl ?_); intro w9 hbk hu; have n0_ := Aside0.mk (hu.below HB.out G2.out); clear HB; have HB := n0_; clear n0_; clear B2; have B2 := Aside0.mk hbk; have c90 := (blk_cell B2.out 0).trans rfl; have c91 := (blk_cell B2.out 1).trans rfl; clear hbk hu) | ((with_reducible refine gate_store (t := 24) (p := 2) (v := .tmp 113) rfl ?_); go_must (refine sagg_event rfl 24 (.tmp 2) (.tmp 113) rfl rfl g2 #[.int .i64 t, .slice A1 acc.length c1] _ _ rfl rfl B2.out (by kernel_rfl) rfl rfl ?_); intro w9 hbk hu; have n0_ := Aside0.mk (hu.below HB.out G2.out); clear HB; have HB := n0_; clear n0_; clear B2; have B2 := Aside0.mk hbk; have nR_ := Aside0.mk (Kd.R_step HR.out (fun k_ hk_ _ => hu.block k_ hk_.2.2)); clear HR; have HR := nR_; clear nR_; have c90 := (blk_cell B2.out 0).trans rfl; have c91 := (blk_cell B2.out 1).trans rfl; clear hbk hu) | go_step3)
        refine bodyPost_ret (v := .tuple #[.agg #[.int .i64 t, .slice A1 acc.length c1], .int .i64 0, .int .i64 0]) ?_ rfl ?_
        · simp [results, Try.results10, go_sem, c90, c91]
        · exact ⟨_, rfl, Kd.R_mono HR.out (fun _ _ => trivial), HB.out⟩
      · rw [if_neg q1] at hF
        have hq := Option.some.inj hF
        obtain ⟨rfl, rfl, rfl, rfl⟩ : 0 = r1 ∧ [] = r2 ∧ 0 = r3 ∧ 4 = r4 := by have := hq.trans HRR.out; simpa using this
        have e1 : (e0_ == 0) = false := by rw [beq_eq_false_iff_ne]; exact q1
        clear hF hq q1
        go_wp2_with (first | (go_at_call 18; go_must (with_reducible refine (batch_Check.calls k t (A1) c1 acc _ _ HCR.out HLC.out HCK.out).mono ?_); rintro e w8 ⟨rfl, hb⟩; have n0_ := Aside0.mk (below_then HB.out HB.out.size hb); have n1_ := Aside0.mk ((hb.block _ (blk_lt B2.out)).trans B2.out); have n2_ := Aside0.mk ((hb.block _ (blk_lt B5.out)).trans B5.out); have n3_ := Aside0.mk (Kd.R_below HR.out hb); clear HB B2 B5 HR; have HB := n0_; have B2 := n1_; have B5 := n2_; have HR := n3_; clear n0_ n1_ n2_ n3_; have c50 := (blk_cell B5.out 0).trans rfl; have c51 := (blk_cell B5.out 1).trans rfl; have c20 := (blk_cell B2.out 0).trans rfl; have c21 := (blk_cell B2.out 1).trans rfl; clear hb) | ((with_reducible refine gate_store (t := 24) (p := 2) (v := .tmp 114) rfl ?_); go_must (refine sagg_event rfl 24 (.tmp 2) (.tmp 114) rfl rfl g2 #[.int .i64 0, .slice none 0 0] _ _ rfl rfl B2.out (by kernel_rfl) rfl rfl ?_); intro w9 hbk hu; have n0_ := Aside0.mk (hu.below HB.out G2.out); clear HB; have HB := n0_; clear n0_; clear B2; have B2 := Aside0.mk hbk; have c90 := (blk_cell B2.out 0).trans rfl; have c91 := (blk_cell B2.out 1).trans rfl; clear hbk hu) | ((with_reducible refine gate_store (t := 24) (p := 2) (v := .tmp 113) rfl ?_); go_must (refine sagg_event rfl 24 (.tmp 2) (.tmp 113) rfl rfl g2 #[.int .i64 t, .slice A1 acc.length c1] _ _ rfl rfl B2.out (by kernel_rfl) rfl rfl ?_); intro w9 hbk hu; have n0_ := Aside0.mk (hu.below HB.out G2.out); clear HB; have HB := n0_; clear n0_; clear B2; have B2 := Aside0.mk hbk; have nR_ := Aside0.mk (Kd.R_step HR.out (fun k_ hk_ _ => hu.block k_ hk_.2.2)); clear HR; have HR := nR_; clear nR_; have c90 := (blk_cell B2.out 0).trans rfl; have c91 := (blk_cell B2.out 1).trans rfl; clear hbk hu) | go_step3)
        refine bodyPost_ret (v := .tuple #[.agg #[.int .i64 0, .slice none 0 0], .int .i64 0, .int .i64 4]) ?_ rfl ?_
        · simp [results, Try.results10, go_sem, c90, c91]
        · exact ⟨.slice none 0 0, rfl, Kd.R_nil _ _ _ _ _, HB.out⟩
    | 2, hJ =>
      obtain ⟨u, v, g5, g6, t, at_, left, acc, c0_, c1_, c2_, rfl, NE, c0, hat0, hat1, hl0, hla, HF, HB, B2, B5, B6, HR⟩ := hJ
      refine ⟨_, rfl, ?_⟩
      have H25 := Aside0.mk NE.out.1
      have H26 := Aside0.mk NE.out.2.1
      have H56 := Aside0.mk NE.out.2.2.1
      have G5 := Aside0.mk NE.out.2.2.2.2.1
      have G6 := Aside0.mk NE.out.2.2.2.2.2
      have c20 := (blk_cell B2.out 0).trans rfl
      have hrb := bt_range a0 at_
      by_cases q0 : left = 0
      · have e0 : (left == 0) = true := by rw [beq_iff_eq]; exact q0
        have HF1 : Aside0 (readEnd k a0 t at_ acc = some r) := ⟨by have := HF.out; rw [q0] at this; exact this⟩
        have HQ0 := Aside0.mk q0
        clear q0 HF
        go_wp2_with (first | go_step3)
        exact ⟨(RJ1_mk (k := k) ⟨⟨⟨H25.out, H26.out, H56.out, G2.out, G5.out, G6.out⟩⟩, HF1, HB, B2, B5, HR⟩), by unfold Rmu; simp [intOf]; try omega⟩
      have e0 : (left == 0) = false := by rw [beq_eq_false_iff_ne]; exact q0
      obtain ⟨n, hn⟩ : ∃ n : Nat, left = n + 1 := ⟨(left - 1).toNat, by omega⟩
      have hnn : (left - 1).toNat = n := by omega
      have hlp : 1 ≤ left := by omega
      have hF := HF.out
      rw [show (left).toNat = n + 1 by omega] at hF
      rw [readLoop] at hF
      have HN := Aside0.mk hn
      have HNN := Aside0.mk hnn
      clear hn hnn HF q0
      by_cases q1 : ¬ (at_ < (a0.size : Int))
      · rw [if_neg q1] at hF
        have HF1 := Aside0.mk hF
        clear hF
        have e1 : decide ((a0.size : Int) ≤ at_) = true := decide_eq_true (by omega)
        go_wp2_with (first | go_step3)
        exact ⟨(RJ0_mk (k := k) ⟨G2, HF1, HB, B2⟩), by unfold Rmu; simp [intOf]; try omega⟩
      replace q1 := Decidable.not_not.1 q1
      rw [if_pos q1] at hF
      have e1 : decide ((a0.size : Int) ≤ at_) = false := decide_eq_false (by omega)
      have hix : at_.toNat < a0.size := by omega
      have hba : ((a0[at_.toNat]'hix).toNat : Int) = bt a0 at_ := bt_at a0 at_ hix
      by_cases q2 : 1 < bt a0 at_
      · rw [if_pos q2] at hF
        have HF1 := Aside0.mk hF
        clear hF
        have e2 : decide (1 < bt a0 at_) = true := decide_eq_true q2
        go_wp2_with (first | go_step3)
        exact ⟨(RJ0_mk (k := k) ⟨G2, HF1, HB, B2⟩), by unfold Rmu; simp [intOf]; try omega⟩
      rw [if_neg q2] at hF
      have e2 : decide (1 < bt a0 at_) = false := decide_eq_false q2
      obtain ⟨x1, x2, hx, hxq⟩ := text_f a0 (at_ + 1) (by omega) (by omega) c0.2
      rcases hp1 : textP a0 (at_ + 1) with _ | ⟨key, at1⟩
      · rw [hp1] at hF hx
        have HF1 := Aside0.mk hF
        have HX := Aside0.mk (show batch_text.f a0 (at_ + 1) = some (x1, x2, false) from hx)
        clear hF hx hxq hp1
        go_wp2_with (first | ((with_reducible refine gate_store (t := 52) (p := 6) (v := .tmp 76) rfl ?_); go_must (refine sagg_event rfl 52 (.tmp 6) (.tmp 76) rfl rfl g6 #[.string ⟨#[]⟩, .string ⟨#[]⟩, .bool (bt a0 at_ == 1)] _ _ rfl rfl B6.out (by kernel_rfl) rfl rfl ?_); intro w8 hbk hu; have n0_ := Aside0.mk (hu.below HB.out G6.out); have n1_ := Aside0.mk (hu.blk B2.out H26.out); have n2_ := Aside0.mk (hu.blk B5.out H56.out); clear HB B2 B5; have HB := n0_; have B2 := n1_; have B5 := n2_; clear n0_ n1_ n2_; clear B6; have B6 := Aside0.mk hbk; have nR_ := Aside0.mk (Kd.R_step HR.out (fun k_ hk_ _ => hu.block k_ hk_.1)); clear HR; have HR := nR_; clear nR_; clear hbk hu) | (go_at_call 35; go_must (with_reducible refine (batch_text.calls a0 (at_ + 1) x1 x2 false _ HX.out).mono ?_); rintro e w9 ⟨rfl, hd⟩; have hb := hd.below; have n0_ := Aside0.mk (below_then HB.out HB.out.size hb); have n1_ := Aside0.mk ((hb.block _ (blk_lt B2.out)).trans B2.out); have n2_ := Aside0.mk ((hb.block _ (blk_lt B5.out)).trans B5.out); have n3_ := Aside0.mk ((hb.block _ (blk_lt B6.out)).trans B6.out); have n4_ := Aside0.mk (Kd.R_below HR.out hb); clear HB B2 B5 B6 HR; have HB := n0_; have B2 := n1_; have B5 := n2_; have B6 := n3_; have HR := n4_; clear n0_ n1_ n2_ n3_ n4_; clear hb hd) | ((with_reducible refine gate_store (t := 9) (p := 85) (v := .tmp 82) rfl ?_); go_must (refine scell_event rfl rfl g6 0 (.string x1) _ _ B6.out ?hr ?_); (case hr => have q1_ := (blk_cell B6.out 0).trans rfl; have q2_ := blk_frozen B6.out 0; first | (go_simp; done) | (go_simp; rfl)); intro w10 hbk hu; have n0_ := Aside0.mk (hu.below HB.out G6.out); have n1_ := Aside0.mk (hu.blk B2.out H26.out); have n2_ := Aside0.mk (hu.blk B5.out H56.out); clear HB B2 B5; have HB := n0_; have B2 := n1_; have B5 := n2_; clear n0_ n1_ n2_; clear B6; have B6 := Aside0.mk (show w10.heap[g6]? = some (.cells #[.string x1, .string ⟨#[]⟩, .bool (bt a0 at_ == 1)] 52 (0, 0)) from hbk); have nR_ := Aside0.mk (Kd.R_step HR.out (fun k_ hk_ _ => hu.block k_ hk_.1)); clear HR; have HR := nR_; clear nR_; clear hbk hu) | go_step3)
        exact ⟨(RJ0_mk (k := k) ⟨G2, HF1, HB, B2⟩), by unfold Rmu; simp [intOf]; try omega⟩
      have hle := textP_le (by omega) hp1
      rw [hp1] at hF hx hxq
      have hq1 := hxq _ rfl
      simp only [Prod.mk.injEq] at hq1
      obtain ⟨rfl, rfl⟩ := hq1
      simp only at hF hle
      have HX := Aside0.mk (show batch_text.f a0 (at_ + 1) = some (key, at1, true) from hx)
      clear hx hxq hp1
      obtain ⟨y1, y2, hy, hyq⟩ := text_f a0 at1 (by omega) (by omega) c0.2
      rcases hp2 : textP a0 at1 with _ | ⟨val, at2⟩
      · rw [hp2] at hF hy
        have HF1 := Aside0.mk hF
        have HY := Aside0.mk (show batch_text.f a0 at1 = some (y1, y2, false) from hy)
        clear hF hy hyq hp2
        have tok1 : True := trivial
        go_wp2_with (first | ((with_reducible refine gate_store (t := 52) (p := 6) (v := .tmp 76) rfl ?_); go_must (refine sagg_event rfl 52 (.tmp 6) (.tmp 76) rfl rfl g6 #[.string ⟨#[]⟩, .string ⟨#[]⟩, .bool (bt a0 at_ == 1)] _ _ rfl rfl B6.out (by kernel_rfl) rfl rfl ?_); intro w8 hbk hu; have n0_ := Aside0.mk (hu.below HB.out G6.out); have n1_ := Aside0.mk (hu.blk B2.out H26.out); have n2_ := Aside0.mk (hu.blk B5.out H56.out); clear HB B2 B5; have HB := n0_; have B2 := n1_; have B5 := n2_; clear n0_ n1_ n2_; clear B6; have B6 := Aside0.mk hbk; have nR_ := Aside0.mk (Kd.R_step HR.out (fun k_ hk_ _ => hu.block k_ hk_.1)); clear HR; have HR := nR_; clear nR_; clear hbk hu) | (have t1_ := tok1; go_at_call 35; go_must (with_reducible refine (batch_text.calls a0 (at_ + 1) key at1 true _ HX.out).mono ?_); rintro e w9 ⟨rfl, hd⟩; have hb := hd.below; have n0_ := Aside0.mk (below_then HB.out HB.out.size hb); have n1_ := Aside0.mk ((hb.block _ (blk_lt B2.out)).trans B2.out); have n2_ := Aside0.mk ((hb.block _ (blk_lt B5.out)).trans B5.out); have n3_ := Aside0.mk ((hb.block _ (blk_lt B6.out)).trans B6.out); have n4_ := Aside0.mk (Kd.R_below HR.out hb); clear HB B2 B5 B6 HR; have HB := n0_; have B2 := n1_; have B5 := n2_; have B6 := n3_; have HR := n4_; clear n0_ n1_ n2_ n3_ n4_; clear hb hd; clear tok1) | ((with_reducible refine gate_store (t := 9) (p := 85) (v := .tmp 82) rfl ?_); go_must (refine scell_event rfl rfl g6 0 (.string key) _ _ B6.out ?hr ?_); (case hr => have q1_ := (blk_cell B6.out 0).trans rfl; have q2_ := blk_frozen B6.out 0; first | (go_simp; done) | (go_simp; rfl)); intro w10 hbk hu; have n0_ := Aside0.mk (hu.below HB.out G6.out); have n1_ := Aside0.mk (hu.blk B2.out H26.out); have n2_ := Aside0.mk (hu.blk B5.out H56.out); clear HB B2 B5; have HB := n0_; have B2 := n1_; have B5 := n2_; clear n0_ n1_ n2_; clear B6; have B6 := Aside0.mk (show w10.heap[g6]? = some (.cells #[.string key, .string ⟨#[]⟩, .bool (bt a0 at_ == 1)] 52 (0, 0)) from hbk); have nR_ := Aside0.mk (Kd.R_step HR.out (fun k_ hk_ _ => hu.block k_ hk_.1)); clear HR; have HR := nR_; clear nR_; clear hbk hu) | (go_at_call 35; go_must (with_reducible refine (batch_text.calls a0 (at1) y1 y2 false _ HY.out).mono ?_); rintro e w11 ⟨rfl, hd⟩; have hb := hd.below; have n0_ := Aside0.mk (below_then HB.out HB.out.size hb); have n1_ := Aside0.mk ((hb.block _ (blk_lt B2.out)).trans B2.out); have n2_ := Aside0.mk ((hb.block _ (blk_lt B5.out)).trans B5.out); have n3_ := Aside0.mk ((hb.block _ (blk_lt B6.out)).trans B6.out); have n4_ := Aside0.mk (Kd.R_below HR.out hb); clear HB B2 B5 B6 HR; have HB := n0_; have B2 := n1_; have B5 := n2_; have B6 := n3_; have HR := n4_; clear n0_ n1_ n2_ n3_ n4_; clear hb hd) | ((with_reducible refine gate_store (t := 9) (p := 95) (v := .tmp 92) rfl ?_); go_must (refine scell_event rfl rfl g6 1 (.string y1) _ _ B6.out ?hr ?_); (case hr => have q1_ := (blk_cell B6.out 1).trans rfl; have q2_ := blk_frozen B6.out 1; first | (go_simp; done) | (go_simp; rfl)); intro w12 hbk hu; have n0_ := Aside0.mk (hu.below HB.out G6.out); have n1_ := Aside0.mk (hu.blk B2.out H26.out); have n2_ := Aside0.mk (hu.blk B5.out H56.out); clear HB B2 B5; have HB := n0_; have B2 := n1_; have B5 := n2_; clear n0_ n1_ n2_; clear B6; have B6 := Aside0.mk (show w12.heap[g6]? = some (.cells #[.string key, .string y1, .bool (bt a0 at_ == 1)] 52 (0, 0)) from hbk); have nR_ := Aside0.mk (Kd.R_step HR.out (fun k_ hk_ _ => hu.block k_ hk_.1)); clear HR; have HR := nR_; clear nR_; have d51 := (blk_cell B5.out 1).trans rfl; have d60 := (blk_cell B6.out 0).trans rfl; have d61 := (blk_cell B6.out 1).trans rfl; have d62 := (blk_cell B6.out 2).trans rfl; clear hbk hu) | go_step3)
        exact ⟨(RJ0_mk (k := k) ⟨G2, HF1, HB, B2⟩), by unfold Rmu; simp [intOf]; try omega⟩
      have hle2 := textP_le (by omega) hp2
      rw [hp2] at hF hy hyq
      have hq2 := hyq _ rfl
      simp only [Prod.mk.injEq] at hq2
      obtain ⟨rfl, rfl⟩ := hq2
      simp only at hF hle2
      have HY := Aside0.mk (show batch_text.f a0 at1 = some (val, at2, true) from hy)
      clear hy hyq hp2
      have HF2 := Aside0.mk hF
      clear hF
      have tok1 : True := trivial
      go_wp2_with (first | ((with_reducible refine gate_store (t := 52) (p := 6) (v := .tmp 76) rfl ?_); go_must (refine sagg_event rfl 52 (.tmp 6) (.tmp 76) rfl rfl g6 #[.string ⟨#[]⟩, .string ⟨#[]⟩, .bool (bt a0 at_ == 1)] _ _ rfl rfl B6.out (by kernel_rfl) rfl rfl ?_); intro w8 hbk hu; have n0_ := Aside0.mk (hu.below HB.out G6.out); have n1_ := Aside0.mk (hu.blk B2.out H26.out); have n2_ := Aside0.mk (hu.blk B5.out H56.out); clear HB B2 B5; have HB := n0_; have B2 := n1_; have B5 := n2_; clear n0_ n1_ n2_; clear B6; have B6 := Aside0.mk hbk; have nR_ := Aside0.mk (Kd.R_step HR.out (fun k_ hk_ _ => hu.block k_ hk_.1)); clear HR; have HR := nR_; clear nR_; clear hbk hu) | (have t1_ := tok1; go_at_call 35; go_must (with_reducible refine (batch_text.calls a0 (at_ + 1) key at1 true _ HX.out).mono ?_); rintro e w9 ⟨rfl, hd⟩; have hb := hd.below; have n0_ := Aside0.mk (below_then HB.out HB.out.size hb); have n1_ := Aside0.mk ((hb.block _ (blk_lt B2.out)).trans B2.out); have n2_ := Aside0.mk ((hb.block _ (blk_lt B5.out)).trans B5.out); have n3_ := Aside0.mk ((hb.block _ (blk_lt B6.out)).trans B6.out); have n4_ := Aside0.mk (Kd.R_below HR.out hb); clear HB B2 B5 B6 HR; have HB := n0_; have B2 := n1_; have B5 := n2_; have B6 := n3_; have HR := n4_; clear n0_ n1_ n2_ n3_ n4_; clear hb hd; clear tok1) | ((with_reducible refine gate_store (t := 9) (p := 85) (v := .tmp 82) rfl ?_); go_must (refine scell_event rfl rfl g6 0 (.string key) _ _ B6.out ?hr ?_); (case hr => have q1_ := (blk_cell B6.out 0).trans rfl; have q2_ := blk_frozen B6.out 0; first | (go_simp; done) | (go_simp; rfl)); intro w10 hbk hu; have n0_ := Aside0.mk (hu.below HB.out G6.out); have n1_ := Aside0.mk (hu.blk B2.out H26.out); have n2_ := Aside0.mk (hu.blk B5.out H56.out); clear HB B2 B5; have HB := n0_; have B2 := n1_; have B5 := n2_; clear n0_ n1_ n2_; clear B6; have B6 := Aside0.mk (show w10.heap[g6]? = some (.cells #[.string key, .string ⟨#[]⟩, .bool (bt a0 at_ == 1)] 52 (0, 0)) from hbk); have nR_ := Aside0.mk (Kd.R_step HR.out (fun k_ hk_ _ => hu.block k_ hk_.1)); clear HR; have HR := nR_; clear nR_; clear hbk hu) | (go_at_call 35; go_must (with_reducible refine (batch_text.calls a0 (at1) val at2 true _ HY.out).mono ?_); rintro e w11 ⟨rfl, hd⟩; have hb := hd.below; have n0_ := Aside0.mk (below_then HB.out HB.out.size hb); have n1_ := Aside0.mk ((hb.block _ (blk_lt B2.out)).trans B2.out); have n2_ := Aside0.mk ((hb.block _ (blk_lt B5.out)).trans B5.out); have n3_ := Aside0.mk ((hb.block _ (blk_lt B6.out)).trans B6.out); have n4_ := Aside0.mk (Kd.R_below HR.out hb); clear HB B2 B5 B6 HR; have HB := n0_; have B2 := n1_; have B5 := n2_; have B6 := n3_; have HR := n4_; clear n0_ n1_ n2_ n3_ n4_; clear hb hd) | ((with_reducible refine gate_store (t := 9) (p := 95) (v := .tmp 92) rfl ?_); go_must (refine scell_event rfl rfl g6 1 (.string val) _ _ B6.out ?hr ?_); (case hr => have q1_ := (blk_cell B6.out 1).trans rfl; have q2_ := blk_frozen B6.out 1; first | (go_simp; done) | (go_simp; rfl)); intro w12 hbk hu; have n0_ := Aside0.mk (hu.below HB.out G6.out); have n1_ := Aside0.mk (hu.blk B2.out H26.out); have n2_ := Aside0.mk (hu.blk B5.out H56.out); clear HB B2 B5; have HB := n0_; have B2 := n1_; have B5 := n2_; clear n0_ n1_ n2_; clear B6; have B6 := Aside0.mk (show w12.heap[g6]? = some (.cells #[.string key, .string val, .bool (bt a0 at_ == 1)] 52 (0, 0)) from hbk); have nR_ := Aside0.mk (Kd.R_step HR.out (fun k_ hk_ _ => hu.block k_ hk_.1)); clear HR; have HR := nR_; clear nR_; have d51 := (blk_cell B5.out 1).trans rfl; have d60 := (blk_cell B6.out 0).trans rfl; have d61 := (blk_cell B6.out 1).trans rfl; have d62 := (blk_cell B6.out 2).trans rfl; clear hbk hu) | ((with_reducible refine gate_builtin (b := .append) (xs := #[.tmp 99, .tmp 101]) rfl ?_); at_builtin; go_must (refine Kd.R_append k52 (w0 := w) w.heap.size rfl (.tmp 99) (.tmp 101) 22 52 (.agg #[(.string ⟨#[]⟩), (.string ⟨#[]⟩), (.bool false)]) 40 rfl Try.underlying22 info52 rfl (by decide) (by decide) (v) acc (⟨key, val, (bt a0 at_ == 1)⟩ : S52) [.string key, .string val, .bool (bt a0 at_ == 1)] (fun k_ => k_ ≠ g6 ∧ k_ ≠ g5 ∧ k_ ≠ g2) (fun _ => False) rfl rfl (k52_mkM _ _ _ (⟨key, val, (bt a0 at_ == 1)⟩ : S52)) (fun _ hk => hk.elim) ?fr HR.out HB.out HB.out.size ?len ?_); (case fr => exact fun k_ hk_ => ⟨fun e_ => by have := blk_lt B6.out; omega, fun e_ => by have := blk_lt B5.out; omega, fun e_ => by have := blk_lt B2.out; omega⟩); (case len => first | omega | (simp; done) | (simp; omega)); intro v1 w13 ho hb hg hat; have n1_ := Aside0.mk (blk_grown B2.out hg (fun e_ => (HR.out.1 g2 e_.symm).2.2 rfl)); have n2_ := Aside0.mk (blk_grown B5.out hg (fun e_ => (HR.out.1 g5 e_.symm).2.1 rfl)); have n3_ := Aside0.mk (blk_grown B6.out hg (fun e_ => (HR.out.1 g6 e_.symm).1 rfl)); clear HB B2 B5 B6 HR; have HB := Aside0.mk hb; have B2 := n1_; have B5 := n2_; have B6 := n3_; clear n1_ n2_ n3_; obtain ⟨A1, c1, e1_⟩ := Kd.R_slice ho; simp only [List.length_append, List.length_singleton, List.length_nil, Nat.zero_add] at e1_; subst e1_; have HR := Aside0.mk ho; clear ho hb hg hat) | ((with_reducible refine gate_store (t := 22) (p := 103) (v := .tmp 102) rfl ?_); go_must (refine scell_event rfl rfl g5 1 (.slice A1 (acc.length + 1) c1) _ _ B5.out ?hr ?_); (case hr => have q1_ := (blk_cell B5.out 1).trans rfl; have q2_ := blk_frozen B5.out 1; first | (go_simp; done) | (go_simp; rfl)); intro w14 hbk hu; have n0_ := Aside0.mk (hu.below HB.out G5.out); have n1_ := Aside0.mk (hu.blk B2.out H25.out); have n2_ := Aside0.mk (hu.blk B6.out H56.out.symm); clear HB B2 B6; have HB := n0_; have B2 := n1_; have B6 := n2_; clear n0_ n1_ n2_; clear B5; have B5 := Aside0.mk (show w14.heap[g5]? = some (.cells #[.int .i64 t, .slice A1 (acc.length + 1) c1] 24 (0, 0)) from hbk); have nR_ := Aside0.mk (Kd.R_step HR.out (fun k_ hk_ _ => hu.block k_ hk_.2.1)); clear HR; have HR := nR_; clear nR_; clear hbk hu) | go_step3)
      exact ⟨(RJ2_mk (k := k) ⟨⟨⟨H25.out, H26.out, H56.out, G2.out, G5.out, G6.out⟩⟩, c0, by omega, by omega, by omega, by (first | omega | (simp; omega)), ⟨by rw [HNN.out]; exact HF2.out⟩, HB, B2, B5, B6, HR⟩), by unfold Rmu; simp [intOf]; try omega⟩
end Go.Proofs.Ytehcmedeeaoebaa.PB
end
section
namespace Go.Proofs.Ytehcmedeeaoebaa.PB
open Go.RowKit Go.Proofs.YtehcmedeeaoebaaW.PrintWords Go.Proofs.YtehcmedeeaoebaaW.PrintLast Go.Proofs.YtehcmedeeaoebaaW.PrintMore
attribute [local go_sem] max2_int min2_int max_two min_two max_three min_three max_four min_four
set_option linter.unusedVariables false
set_option linter.unusedSimpArgs false
def ambryref01_Number.l0 : Nat → ByteArray → Int → Int → Int → Int → Option (Int)
  | 0, _, _, _, _, _ => none
  | k + 1, x0, x1, x2, x7, x8 => if x8 < x2 then (if 0 ≤ (wrap64 (x1 + x8)) then (if (wrap64 (x1 + x8)) < (x0.size : Int) then (ambryref01_Number.l0 k x0 x1 x2 (Go.bits .or .u64 (IntKind.u64.wrap (x7 * 256)) (IntKind.u64.wrap (bt x0 (wrap64 (x1 + x8))))) (wrap64 (x8 + 1))) else (none)) else (none)) else (some (wrap64 (x7)))
def ambryref01_Number.f (k : Nat) (a0 : ByteArray) (a1 : Int) (a2 : Int) : Option (Int) := ambryref01_Number.l0 k a0 a1 a2 0 0
theorem ambryref01_Number.mono_l : ∀ k, (∀ y0 y1 y2 y3 y4, LeO (ambryref01_Number.l0 k y0 y1 y2 y3 y4) (ambryref01_Number.l0 (k + 1) y0 y1 y2 y3 y4))
  | 0 => fun _ _ _ _ _ r h => by simp [ambryref01_Number.l0] at h
  | k + 1 => by
    have ih0 := ambryref01_Number.mono_l k
    · intro y0 y1 y2 y3 y4
      unfold ambryref01_Number.l0
      repeat' first
      | (with_reducible exact ih0 _ _ _ _ _)
      | (with_reducible exact LeO.refl _)
      | (with_reducible exact LeO.none _)
      | (with_reducible refine LeO.ite ?_ ?_)
      | (with_reducible refine LeO.bind ?_ (fun _ => ?_))
      | exact ih0 _ _ _ _ _
      | exact LeO.none _
      | refine LeO.ite ?_ ?_
      | refine LeO.bind ?_ (fun _ => ?_)
theorem ambryref01_Number.mono : ∀ a0 a1 a2 k, LeO (ambryref01_Number.f k a0 a1 a2) (ambryref01_Number.f (k + 1) a0 a1 a2) := by
  intro a0 a1 a2 k
  have ih0 := ambryref01_Number.mono_l k
  unfold ambryref01_Number.f
  repeat' first
      | (with_reducible exact ih0 _ _ _ _ _)
      | (with_reducible exact LeO.refl _)
      | (with_reducible exact LeO.none _)
      | (with_reducible refine LeO.ite ?_ ?_)
      | (with_reducible refine LeO.bind ?_ (fun _ => ?_))
      | exact ih0 _ _ _ _ _
      | exact LeO.none _
      | refine LeO.ite ?_ ?_
      | refine LeO.bind ?_ (fun _ => ?_)
set_option maxHeartbeats 8000000 in
set_option maxRecDepth 100000 in
theorem ambryref01_Number.calls (k : Nat) (a0 : ByteArray) (a1 : Int) (a2 : Int) (r : Int) (w : World) (h : ambryref01_Number.f k a0 a1 a2 = some r) :
    Calls Try.prog 36 #[.string a0, .int .i64 a1, .int .i64 a2] w fun e w' => e = .returned (.int .i64 r) ∧ Drawn0 w w' := by
  have H : (ambryref01_Number.l0 k a0 a1 a2 0 0) = some r := h
  clear h
  have H' := Aside0.mk H
  clear H
  go_enter Try.func36, Try.ntmps36
  go_wp2
  go_loopg [7, 8] k (fun kq v7 v8 w' => ∃ (x7_1 : Int) (x8_1 : Int), v7 = .int .u64 x7_1 ∧ v8 = .int .i64 x8_1 ∧ Aside0 (ambryref01_Number.l0 kq a0 a1 a2 x7_1 x8_1 = some r) ∧ Aside0 (kq ≤ k) ∧ Drawn0 w w')
  case atStart => exact ⟨(0), (0), (by first | rfl | (simp; done) | (simp [*]; done)), (by first | rfl | (simp; done) | (simp [*]; done)), H', ⟨Nat.le_refl _⟩, by repeat (first | exact Drawn0.refl _ | apply Drawn0.step)⟩
  case round =>
    clear H'
    try clear p2
    try clear c3
    obtain ⟨x7_1, x8_1, rfl, rfl, HA, HK1, ⟨m1, rfl⟩⟩ := hrel
    cases gk with
    | zero => exact absurd HA.out (by simp [ambryref01_Number.l0])
    | succ k1 =>
      have H := HA.out
      clear HA
      simp only [ambryref01_Number.l0] at H
      by_cases c4 : x8_1 < a2
      · rw [if_pos c4] at H
        have c4b0 : decide (x8_1 < a2) = true := decide_eq_true c4
        clear c4
        obtain ⟨ji5, hji5⟩ : ∃ j_ : Int, (wrap64 (a1 + x8_1)) = j_ := ⟨_, rfl⟩
        replace H : (if 0 ≤ (ji5) then (if (ji5) < (a0.size : Int) then (ambryref01_Number.l0 k1 a0 a1 a2 (Go.bits .or .u64 (IntKind.u64.wrap (x7_1 * 256)) (IntKind.u64.wrap (bt a0 (ji5)))) (wrap64 (x8_1 + 1))) else (none)) else (none)) = some r := by first | (rw [hji5] at H; exact H) | (simp only [hji5] at H ⊢; exact H)
        have hji5w : (IntKind.i64.wrap (a1 + x8_1)) = ji5 := (i64_w _).trans hji5
        by_cases c6 : 0 ≤ (ji5)
        · rw [if_pos c6] at H
          have c6b0 : decide (0 ≤ (ji5)) = true := decide_eq_true c6
          clear c6
          by_cases c7 : (ji5) < (a0.size : Int)
          · rw [if_pos c7] at H
            have c7b0 : decide ((ji5) < (a0.size : Int)) = true := decide_eq_true c7
            clear c7
            have H' := Aside0.mk H
            clear H
            have p8 : 0 ≤ ((ji5) : Int) := of_decide_eq_true (by first | (with_reducible assumption) | assumption)
            have q8 : (ji5) < (a0.size : Int) := of_decide_eq_true (by first | (with_reducible assumption) | assumption)
            have hx8 := bt_at a0 (ji5)
            replace p8 := eq_true p8
            replace q8 := eq_true q8
            go_wp2
            go_roundg k1
            case measure => have := HK1.out; omega
            case rel => exact ⟨(Go.bits .or .u64 (IntKind.u64.wrap (x7_1 * 256)) (IntKind.u64.wrap (bt a0 (ji5)))), (wrap64 (x8_1 + 1)), (by first | rfl | (simp; done) | (simp only [← hji5] <;> (first | rfl | simp)) | (simp [*]; done)), (by first | rfl | (simp; done) | (simp [*]; done)), H', ⟨by have := HK1.out; omega⟩, by repeat (first | exact Drawn0.refl _ | apply Drawn0.step)⟩
          · rw [if_neg c7] at H
            exact absurd H (by simp)
        · rw [if_neg c6] at H
          exact absurd H (by simp)
      · rw [if_neg c4] at H
        have c4b0 : decide (x8_1 < a2) = false := decide_eq_false c4
        clear c4
        obtain rfl := Option.some.inj H
        go_wp2
        go_ret
        exact ⟨by first | rfl | (simp; done) | (simp [*]; done), by repeat (first | exact Drawn0.refl _ | apply Drawn0.step)⟩
end Go.Proofs.Ytehcmedeeaoebaa.PB
end
section
namespace Go.Proofs.Ytehcmedeeaoebaa.PB
open Go.RowKit Go.Proofs.YtehcmedeeaoebaaW.PrintWords Go.Proofs.YtehcmedeeaoebaaW.PrintLast Go.Proofs.YtehcmedeeaoebaaW.PrintMore
attribute [local go_sem] max2_int min2_int max_two min_two max_three min_three max_four min_four
set_option linter.unusedVariables false
set_option linter.unusedSimpArgs false
def ambryref15_piece.f (a0 : ByteArray) (a1 : Int) : Option (ByteArray × Int) := if a1 < 0 then (some ((⟨#[]⟩ : ByteArray), (-1))) else (if a1 ≥ (a0.size : Int) then (some ((⟨#[]⟩ : ByteArray), (-1))) else (if 0 ≤ a1 then (if a1 < (a0.size : Int) then (if (wrap64 (bt a0 a1)) > (wrap64 ((wrap64 ((a0.size : Int) - a1)) - 1)) then (some ((⟨#[]⟩ : ByteArray), (-1))) else (if 0 ≤ (wrap64 (a1 + 1)) then (if (wrap64 (a1 + 1)) ≤ (wrap64 ((wrap64 (a1 + 1)) + (wrap64 (bt a0 a1)))) then (if (wrap64 ((wrap64 (a1 + 1)) + (wrap64 (bt a0 a1)))) ≤ (a0.size : Int) then (some (a0.extract ((wrap64 (a1 + 1)) : Int).toNat ((wrap64 ((wrap64 (a1 + 1)) + (wrap64 (bt a0 a1)))) : Int).toNat, wrap64 ((wrap64 (a1 + 1)) + (wrap64 (bt a0 a1))))) else (none)) else (none)) else (none))) else (none)) else (none)))
set_option maxHeartbeats 8000000 in
set_option maxRecDepth 100000 in
theorem ambryref15_piece.calls (a0 : ByteArray) (a1 : Int) (r1 : ByteArray) (r2 : Int) (w : World) (h : ambryref15_piece.f a0 a1 = some (r1, r2)) :
    Calls Try.prog 37 #[.string a0, .int .i64 a1] w fun e w' => e = .returned (.tuple #[.string r1, .int .i64 r2]) ∧ Drawn0 w w' := by
  have H : (if a1 < 0 then (some ((⟨#[]⟩ : ByteArray), (-1))) else (if a1 ≥ (a0.size : Int) then (some ((⟨#[]⟩ : ByteArray), (-1))) else (if 0 ≤ a1 then (if a1 < (a0.size : Int) then (if (wrap64 (bt a0 a1)) > (wrap64 ((wrap64 ((a0.size : Int) - a1)) - 1)) then (some ((⟨#[]⟩ : ByteArray), (-1))) else (if 0 ≤ (wrap64 (a1 + 1)) then (if (wrap64 (a1 + 1)) ≤ (wrap64 ((wrap64 (a1 + 1)) + (wrap64 (bt a0 a1)))) then (if (wrap64 ((wrap64 (a1 + 1)) + (wrap64 (bt a0 a1)))) ≤ (a0.size : Int) then (some (a0.extract ((wrap64 (a1 + 1)) : Int).toNat ((wrap64 ((wrap64 (a1 + 1)) + (wrap64 (bt a0 a1)))) : Int).toNat, wrap64 ((wrap64 (a1 + 1)) + (wrap64 (bt a0 a1))))) else (none)) else (none)) else (none))) else (none)) else (none)))) = some (r1, r2) := h
  clear h
  by_cases c3 : a1 < 0
  · rw [if_pos c3] at H
    have c3b0 : decide (a1 < 0) = true := decide_eq_true c3
    clear c3
    simp only [Option.some.injEq, Prod.mk.injEq] at H
    obtain ⟨rfl, rfl⟩ := H
    go_enter Try.func37, Try.ntmps37
    go_wp2
    go_ret2
    exact ⟨by first | rfl | (simp; done) | (simp [*]; done), by repeat (first | exact Drawn0.refl _ | apply Drawn0.step)⟩
  · rw [if_neg c3] at H
    have c3b0 : decide (a1 < 0) = false := decide_eq_false c3
    clear c3
    by_cases c4 : a1 ≥ (a0.size : Int)
    · rw [if_pos c4] at H
      have c4b0 : decide ((a0.size : Int) ≤ a1) = true := decide_eq_true c4
      clear c4
      simp only [Option.some.injEq, Prod.mk.injEq] at H
      obtain ⟨rfl, rfl⟩ := H
      go_enter Try.func37, Try.ntmps37
      go_wp2
      go_ret2
      exact ⟨by first | rfl | (simp; done) | (simp [*]; done), by repeat (first | exact Drawn0.refl _ | apply Drawn0.step)⟩
    · rw [if_neg c4] at H
      have c4b0 : decide ((a0.size : Int) ≤ a1) = false := decide_eq_false c4
      clear c4
      by_cases c5 : 0 ≤ a1
      · rw [if_pos c5] at H
        have c5b0 : decide (0 ≤ a1) = true := decide_eq_true c5
        clear c5
        by_cases c6 : a1 < (a0.size : Int)
        · rw [if_pos c6] at H
          have c6b0 : decide (a1 < (a0.size : Int)) = true := decide_eq_true c6
          clear c6
          by_cases c8 : (wrap64 (bt a0 a1)) > (wrap64 ((wrap64 ((a0.size : Int) - a1)) - 1))
          · rw [if_pos c8] at H
            have c8b0 : decide ((wrap64 ((wrap64 ((a0.size : Int) - a1)) - 1)) < (wrap64 (bt a0 a1))) = true := decide_eq_true c8
            clear c8
            simp only [Option.some.injEq, Prod.mk.injEq] at H
            obtain ⟨rfl, rfl⟩ := H
            have p7 : 0 ≤ (a1 : Int) := of_decide_eq_true (by first | (with_reducible assumption) | assumption)
            have q7 : a1 < (a0.size : Int) := of_decide_eq_true (by first | (with_reducible assumption) | assumption)
            have hx7 := bt_at a0 a1
            replace p7 := eq_true p7
            replace q7 := eq_true q7
            go_enter Try.func37, Try.ntmps37
            go_wp2
            go_ret2
            exact ⟨by first | rfl | (simp; done) | (simp [*]; done), by repeat (first | exact Drawn0.refl _ | apply Drawn0.step)⟩
          · rw [if_neg c8] at H
            have c8b0 : decide ((wrap64 ((wrap64 ((a0.size : Int) - a1)) - 1)) < (wrap64 (bt a0 a1))) = false := decide_eq_false c8
            clear c8
            obtain ⟨ji10, hji10⟩ : ∃ j_ : Int, (wrap64 (a1 + 1)) = j_ := ⟨_, rfl⟩
            replace H : (if 0 ≤ (ji10) then (if (ji10) ≤ (wrap64 ((ji10) + (wrap64 (bt a0 a1)))) then (if (wrap64 ((ji10) + (wrap64 (bt a0 a1)))) ≤ (a0.size : Int) then (some (a0.extract ((ji10) : Int).toNat ((wrap64 ((ji10) + (wrap64 (bt a0 a1)))) : Int).toNat, wrap64 ((ji10) + (wrap64 (bt a0 a1))))) else (none)) else (none)) else (none)) = some (r1, r2) := by first | (rw [hji10] at H; exact H) | (simp only [hji10] at H ⊢; exact H)
            have hji10w : (IntKind.i64.wrap (a1 + 1)) = ji10 := (i64_w _).trans hji10
            by_cases c11 : 0 ≤ (ji10)
            · rw [if_pos c11] at H
              have c11b0 := eq_true c11
              have c11b1 : decide (0 ≤ (ji10)) = true := decide_eq_true c11
              clear c11
              by_cases c12 : (ji10) ≤ (wrap64 ((ji10) + (wrap64 (bt a0 a1))))
              · rw [if_pos c12] at H
                have c12b0 := eq_true c12
                have c12b1 : decide ((ji10) ≤ (wrap64 ((ji10) + (wrap64 (bt a0 a1))))) = true := decide_eq_true c12
                by_cases c13 : (wrap64 ((ji10) + (wrap64 (bt a0 a1)))) ≤ (a0.size : Int)
                · rw [if_pos c13] at H
                  have c13b0 := eq_true c13
                  have c13b1 : decide ((wrap64 ((ji10) + (wrap64 (bt a0 a1)))) ≤ (a0.size : Int)) = true := decide_eq_true c13
                  simp only [Option.some.injEq, Prod.mk.injEq] at H
                  obtain ⟨rfl, rfl⟩ := H
                  have p7 : 0 ≤ (a1 : Int) := of_decide_eq_true (by first | (with_reducible assumption) | assumption)
                  have q7 : a1 < (a0.size : Int) := of_decide_eq_true (by first | (with_reducible assumption) | assumption)
                  have hx7 := bt_at a0 a1
                  replace p7 := eq_true p7
                  replace q7 := eq_true q7
                  have p9 : 0 ≤ (a1 : Int) := of_decide_eq_true (by first | (with_reducible assumption) | assumption)
                  have q9 : a1 < (a0.size : Int) := of_decide_eq_true (by first | (with_reducible assumption) | assumption)
                  have hx9 := bt_at a0 a1
                  replace p9 := eq_true p9
                  replace q9 := eq_true q9
                  go_enter Try.func37, Try.ntmps37
                  go_wp2
                  go_ret2
                  exact ⟨by first | rfl | (simp; done) | (simp only [← hji10] <;> (first | rfl | simp)) | (simp [*]; done), by repeat (first | exact Drawn0.refl _ | apply Drawn0.step)⟩
                · rw [if_neg c13] at H
                  exact absurd H (by simp)
              · rw [if_neg c12] at H
                exact absurd H (by simp)
            · rw [if_neg c11] at H
              exact absurd H (by simp)
        · rw [if_neg c6] at H
          exact absurd H (by simp)
      · rw [if_neg c5] at H
        exact absurd H (by simp)
end Go.Proofs.Ytehcmedeeaoebaa.PB
end
section
namespace Go.Proofs.Ytehcmedeeaoebaa.PB
open Go.RowKit Go.Proofs.YtehcmedeeaoebaaW.PrintWords Go.Proofs.YtehcmedeeaoebaaW.PrintLast Go.Proofs.YtehcmedeeaoebaaW.PrintMore
set_option linter.unusedVariables false
set_option linter.unusedSimpArgs false
def pieceP (s : ByteArray) (at_ : Int) : ByteArray × Int :=
  if at_ < 0 then (⟨#[]⟩, -1) else if (s.size : Int) ≤ at_ then (⟨#[]⟩, -1) else if bt s at_ > (s.size : Int) - at_ - 1 then (⟨#[]⟩, -1)
  else (s.extract (at_ + 1).toNat (at_ + 1 + bt s at_).toNat, at_ + 1 + bt s at_)
theorem piece_f (s : ByteArray) (hs : s.size ≤ 140737488351232) (at_ : Int) : ambryref15_piece.f s at_ = some (pieceP s at_) := by
  unfold ambryref15_piece.f pieceP
  by_cases c1 : at_ < 0
  · rw [if_pos c1, if_pos c1]
  rw [if_neg c1, if_neg c1]
  by_cases c2 : (s.size : Int) ≤ at_
  · rw [if_pos (by omega), if_pos c2]
  rw [if_neg (by omega), if_neg c2, if_pos (by omega), if_pos (by omega)]
  have hr := bt_range s at_
  have w1 : wrap64 (bt s at_) = bt s at_ := by unfold wrap64; omega
  have w2 : wrap64 ((s.size : Int) - at_) = (s.size : Int) - at_ := by unfold wrap64; omega
  have w3 : wrap64 ((s.size : Int) - at_ - 1) = (s.size : Int) - at_ - 1 := by unfold wrap64; omega
  have w4 : wrap64 (at_ + 1) = at_ + 1 := by unfold wrap64; omega
  have w5 : wrap64 (at_ + 1 + bt s at_) = at_ + 1 + bt s at_ := by unfold wrap64; omega
  rw [w1, w2, w3, w4, w5]
  by_cases c3 : bt s at_ > (s.size : Int) - at_ - 1
  · rw [if_pos c3, if_pos c3]
  rw [if_neg c3, if_neg c3, if_pos (by omega), if_pos (by omega), if_pos (by omega)]
theorem tail_rd (s : ByteArray) (hs : 9 ≤ s.size) (j : Nat) (hj : j < 8) : rd (bytesOf (s.extract 1 9)) (j : Int) = bt s (1 + j) := by
  have h1 : 1 + j < s.size := by omega
  have hb := bt_at s (1 + (j : Int)) (by omega)
  have h2 : j < (s.extract 1 9).size := by rw [ByteArray.size_extract]; omega
  have h3 : j < (bytesOf (s.extract 1 9)).length := by rw [bytesOf_length]; exact h2
  have : rd (bytesOf (s.extract 1 9)) (j : Int) = (bytesOf (s.extract 1 9))[j] := by simp [rd, List.getD_eq_getElem?_getD, h3]
  rw [this, ← hb]
  simp only [bytesOf, List.getElem_map]
  have e1 : (1 + (j : Int)).toNat = 1 + j := by omega
  simp only [e1]
  have : (s.extract 1 9).data.toList[j]'(by have h4 := h2; rw [ByteArray.size_extract] at h4; simp; omega) = s[1 + j]'h1 := by
    rw [Array.getElem_toList]
    show (s.extract 1 9)[j]'h2 = _
    rw [ByteArray.getElem_extract]
  rw [this]
theorem Number_loop (s : ByteArray) (hs : 9 ≤ s.size) : ∀ n j k, j + n = 8 → n < k → ambryref01_Number.l0 k s 1 8 (be ((bytesOf (s.extract 1 9)).take j)) (j : Int) = some (wrap64 (be (bytesOf (s.extract 1 9)))) := by
  have hlen : (bytesOf (s.extract 1 9)).length = 8 := by rw [bytesOf_length, ByteArray.size_extract]; omega
  intro n
  induction n with
  | zero =>
    intro j k hj hk
    obtain ⟨k, rfl⟩ : ∃ q, k = q + 1 := ⟨k - 1, by omega⟩
    simp only [ambryref01_Number.l0]
    rw [if_neg (by omega), List.take_of_length_le (by omega)]
  | succ n ih =>
    intro j k hj hk
    obtain ⟨k, rfl⟩ : ∃ q, k = q + 1 := ⟨k - 1, by omega⟩
    simp only [ambryref01_Number.l0]
    have w1 : wrap64 (1 + (j : Int)) = 1 + j := by unfold wrap64; omega
    have w2 : wrap64 ((j : Int) + 1) = ((j + 1 : Nat) : Int) := by unfold wrap64; omega
    rw [if_pos (by omega), w1, w2, if_pos (by omega), if_pos (by omega)]
    have := ih (j + 1) k (by omega) (by omega)
    rw [beStep_snoc _ j (by omega), tail_rd s hs j (by omega)] at this
    exact this
theorem Number_f (s : ByteArray) (hs : 9 ≤ s.size) : ambryref01_Number.f 9 s 1 8 = some (wrap64 (be (bytesOf (s.extract 1 9)))) := by
  have := Number_loop s hs 8 0 9 (by omega) (by omega)
  rw [List.take_zero] at this
  exact this
def refEnd (k : Nat) (s : ByteArray) (t at_ : Int) (acc : List S52) : RdR :=
  if at_ < 0 then rdBad else (ambryref15_Check.f k t acc).bind fun e => if e = 0 then (ambryref15_put.f k t acc).bind fun p => if p.toList = s.toList then some (t, acc, 0, 0) else rdBad else rdBad
def refLoop (k : Nat) (s : ByteArray) (t : Int) : Nat → Int → List S52 → RdR
  | 0, at_, acc => refEnd k s t at_ acc
  | n + 1, at_, acc => if 0 ≤ at_ ∧ at_ < s.size then refLoop k s t n (pieceP s (pieceP s (at_ + 1)).2).2 (acc ++ [⟨(pieceP s (at_ + 1)).1, (pieceP s (pieceP s (at_ + 1)).2).1, bt s at_ == 1⟩]) else refEnd k s t at_ acc
def ambryref15_Read.f (k : Nat) (s : ByteArray) : RdR :=
  if 140737488351232 < s.size then none else if s.size < 9 then rdBad else
    let t := wrap64 (be (bytesOf (s.extract 1 9)))
    if s.size = 9 then if bt s 0 = 77 ∧ 0 ≤ t ∧ t ≤ 1152921504606846976 then some (0, [], t, 0) else rdBad
    else if bt s 0 ≠ 66 then rdBad else refLoop k s t (bt s 9).toNat 10 []
theorem refEnd_mono (k : Nat) (s : ByteArray) (t at_ : Int) (acc : List S52) : LeO (refEnd k s t at_ acc) (refEnd (k + 1) s t at_ acc) := by
  unfold refEnd
  exact LeO.ite (LeO.refl _) (LeO.bind (ambryref15_Check.mono _ _ _) fun _ => LeO.ite (LeO.bind (ambryref15_put.mono _ _ _) fun _ => LeO.refl _) (LeO.refl _))
theorem refLoop_mono (k : Nat) (s : ByteArray) (t : Int) : ∀ n at_ acc, LeO (refLoop k s t n at_ acc) (refLoop (k + 1) s t n at_ acc)
  | 0, _, _ => refEnd_mono _ _ _ _ _
  | n + 1, at_, acc => by
    rw [refLoop, refLoop]
    exact LeO.ite (refLoop_mono k s t n _ _) (refEnd_mono _ _ _ _ _)
theorem ambryref15_Read.mono : ∀ a0 k, LeO (ambryref15_Read.f k a0) (ambryref15_Read.f (k + 1) a0) := by
  intro a0 k
  unfold ambryref15_Read.f
  exact LeO.ite (LeO.refl _) (LeO.ite (LeO.refl _) (LeO.ite (LeO.refl _) (LeO.ite (LeO.refl _) (refLoop_mono _ _ _ _ _ _))))
theorem pieceP_range (s : ByteArray) (at_ : Int) : -1 ≤ (pieceP s at_).2 ∧ (pieceP s at_).2 ≤ s.size ∨ (pieceP s at_).2 = -1 := by
  unfold pieceP
  by_cases c1 : at_ < 0
  · rw [if_pos c1]; right; rfl
  rw [if_neg c1]
  by_cases c2 : (s.size : Int) ≤ at_
  · rw [if_pos c2]; right; rfl
  rw [if_neg c2]
  by_cases c3 : bt s at_ > (s.size : Int) - at_ - 1
  · rw [if_pos c3]; right; rfl
  rw [if_neg c3]
  left
  have := bt_range s at_
  show -1 ≤ at_ + 1 + bt s at_ ∧ at_ + 1 + bt s at_ ≤ s.size
  omega
set_option maxHeartbeats 8000000 in
set_option maxRecDepth 100000 in
theorem ambryref15_Read.calls (k : Nat) (a0 : ByteArray) (r1 : Int) (r2 : List (S52)) (r3 : Int) (r4 : Int) (w : World) (h : ambryref15_Read.f k a0 = some (r1, r2, r3, r4)) :
    Calls Try.prog 11 #[.string a0] w fun e w' => ∃ v1_ : Value, e = .returned (.tuple #[.agg #[.int .i64 r1, v1_], .int .i64 r3, .int .i64 r4]) ∧ Kd.R k52 52 w' w.heap.size (fun _ => True) v1_ r2 ∧ Below w.heap.size w w' := by
  unfold ambryref15_Read.f at h
  by_cases hsz : 140737488351232 < a0.size
  · rw [if_pos hsz] at h; cases h
  rw [if_neg hsz] at h
  have hsz2 : (a0.size : Int) ≤ 140737488351232 := by omega
  have hsz3 : a0.size ≤ 140737488351232 := by omega
  clear hsz
  have HF := Aside0.mk h
  clear h
  have HB := Aside0.mk (Below.refl w.heap.size w)
  by_cases c1 : a0.size < 9
  · have hF := HF.out
    rw [if_pos c1] at hF
    simp only [rdBad, Option.some.injEq, Prod.mk.injEq] at hF
    obtain ⟨rfl, rfl, rfl, rfl⟩ := hF
    clear HF
    have d1 : ((a0.size : Int) == 9) = false := beq_eq_false_iff_ne.2 (by omega)
    have d2 : decide ((a0.size : Int) < 10) = true := decide_eq_true (by omega)
    go_enter Try.func11, Try.ntmps11
    go_wp2_with (first | ((with_reducible refine gate_dst (N := 2) rfl ?_); refine box_event ?hg (N := 2) ?hd (cs := #[.int .i64 0, .slice none 0 0]) (t := 24) ?hr ?_; (case hd => rfl); (case hg => rfl); (case hr => first | (go_simp; done) | (go_simp; rfl)); intro g2 hg w1 hbox hb; have G2 := Aside0.mk (show w.heap.size ≤ g2 from (by rw [hg]; exact HB.out.size)); have B2 := Aside0.mk hbox; clear hbox hg; have n0_ := Aside0.mk (below_then HB.out HB.out.size hb); clear HB; have HB := n0_; clear n0_; clear hb) | (go_at_call 36; go_must (refine (ambryref01_Number.calls 9 a0 1 8 _ _ HNF.out).mono ?_); rintro e w2 ⟨rfl, hd⟩; have hb := hd.below; have n0_ := Aside0.mk (below_then HB.out HB.out.size hb); have n1_ := Aside0.mk ((hb.block _ (blk_lt B2.out)).trans B2.out); clear HB B2; have HB := n0_; have B2 := n1_; clear n0_ n1_; clear hb hd) | ((with_reducible refine gate_store (t := 24) (p := 2) (v := .tmp 36) rfl ?_); go_must (refine sagg_event rfl 24 (.tmp 2) (.tmp 36) rfl rfl g2 #[.int .i64 0, .slice none 0 0] _ _ rfl rfl B2.out (by kernel_rfl) rfl rfl ?_); intro w9 hbk hu; have n0_ := Aside0.mk (hu.below HB.out G2.out); clear HB; have HB := n0_; clear n0_; clear B2; have B2 := Aside0.mk hbk; have c90 := (blk_cell B2.out 0).trans rfl; have c91 := (blk_cell B2.out 1).trans rfl; clear hbk hu))
    refine bodyPost_ret (v := .tuple #[.agg #[.int .i64 0, .slice none 0 0], .int .i64 0, .int .i64 4]) ?_ rfl ?_
    · simp [results, Try.results11, go_sem, c90, c91]
    · exact ⟨_, rfl, Kd.R_nil _ _ _ _ _, HB.out⟩
  have hnf := Number_f a0 (by omega)
  obtain ⟨t, ht⟩ : ∃ t, wrap64 (be (bytesOf (a0.extract 1 9))) = t := ⟨_, rfl⟩
  have hF := HF.out
  rw [if_neg c1, ht] at hF
  rw [ht] at hnf
  have HNF := Aside0.mk hnf
  simp only at hF
  clear HF hnf ht
  have h0s : 0 < a0.size := by omega
  have hbt : ((a0[0]'h0s).toNat : Int) = bt a0 0 := bt_at a0 0 h0s
  by_cases h9 : a0.size = 9
  · rw [if_pos h9] at hF
    have d1 : ((a0.size : Int) == 9) = true := beq_iff_eq.2 (by omega)
    have d2 : decide ((a0.size : Int) < 10) = true := decide_eq_true (by omega)
    by_cases h77 : bt a0 0 = 77
    · have e77 : (bt a0 0 == 77) = true := beq_iff_eq.2 h77
      by_cases ht0 : 0 ≤ t
      · have et0 : decide (0 ≤ t) = true := decide_eq_true ht0
        by_cases ht1 : t ≤ 1152921504606846976
        · have et1 : decide (t ≤ 1152921504606846976) = true := decide_eq_true ht1
          rw [if_pos ⟨h77, ht0, ht1⟩] at hF
          simp only [Option.some.injEq, Prod.mk.injEq] at hF
          obtain ⟨rfl, rfl, rfl, rfl⟩ := hF
          go_enter Try.func11, Try.ntmps11
          go_wp2_with (first | ((with_reducible refine gate_dst (N := 2) rfl ?_); refine box_event ?hg (N := 2) ?hd (cs := #[.int .i64 0, .slice none 0 0]) (t := 24) ?hr ?_; (case hd => rfl); (case hg => rfl); (case hr => first | (go_simp; done) | (go_simp; rfl)); intro g2 hg w1 hbox hb; have G2 := Aside0.mk (show w.heap.size ≤ g2 from (by rw [hg]; exact HB.out.size)); have B2 := Aside0.mk hbox; clear hbox hg; have n0_ := Aside0.mk (below_then HB.out HB.out.size hb); clear HB; have HB := n0_; clear n0_; clear hb) | (go_at_call 36; go_must (refine (ambryref01_Number.calls 9 a0 1 8 _ _ HNF.out).mono ?_); rintro e w2 ⟨rfl, hd⟩; have hb := hd.below; have n0_ := Aside0.mk (below_then HB.out HB.out.size hb); have n1_ := Aside0.mk ((hb.block _ (blk_lt B2.out)).trans B2.out); clear HB B2; have HB := n0_; have B2 := n1_; clear n0_ n1_; clear hb hd) | ((with_reducible refine gate_store (t := 24) (p := 2) (v := .tmp 26) rfl ?_); go_must (refine sagg_event rfl 24 (.tmp 2) (.tmp 26) rfl rfl g2 #[.int .i64 0, .slice none 0 0] _ _ rfl rfl B2.out (by kernel_rfl) rfl rfl ?_); intro w9 hbk hu; have n0_ := Aside0.mk (hu.below HB.out G2.out); clear HB; have HB := n0_; clear n0_; clear B2; have B2 := Aside0.mk hbk; have c90 := (blk_cell B2.out 0).trans rfl; have c91 := (blk_cell B2.out 1).trans rfl; clear hbk hu))
          refine bodyPost_ret (v := .tuple #[.agg #[.int .i64 0, .slice none 0 0], .int .i64 t, .int .i64 0]) ?_ rfl ?_
          · simp [results, Try.results11, go_sem, c90, c91]
          · exact ⟨_, rfl, Kd.R_nil _ _ _ _ _, HB.out⟩
        · have et1 : decide (t ≤ 1152921504606846976) = false := decide_eq_false ht1
          rw [if_neg (fun h => ht1 h.2.2)] at hF
          simp only [rdBad, Option.some.injEq, Prod.mk.injEq] at hF
          obtain ⟨rfl, rfl, rfl, rfl⟩ := hF
          go_enter Try.func11, Try.ntmps11
          go_wp2_with (first | ((with_reducible refine gate_dst (N := 2) rfl ?_); refine box_event ?hg (N := 2) ?hd (cs := #[.int .i64 0, .slice none 0 0]) (t := 24) ?hr ?_; (case hd => rfl); (case hg => rfl); (case hr => first | (go_simp; done) | (go_simp; rfl)); intro g2 hg w1 hbox hb; have G2 := Aside0.mk (show w.heap.size ≤ g2 from (by rw [hg]; exact HB.out.size)); have B2 := Aside0.mk hbox; clear hbox hg; have n0_ := Aside0.mk (below_then HB.out HB.out.size hb); clear HB; have HB := n0_; clear n0_; clear hb) | (go_at_call 36; go_must (refine (ambryref01_Number.calls 9 a0 1 8 _ _ HNF.out).mono ?_); rintro e w2 ⟨rfl, hd⟩; have hb := hd.below; have n0_ := Aside0.mk (below_then HB.out HB.out.size hb); have n1_ := Aside0.mk ((hb.block _ (blk_lt B2.out)).trans B2.out); clear HB B2; have HB := n0_; have B2 := n1_; clear n0_ n1_; clear hb hd) | ((with_reducible refine gate_store (t := 24) (p := 2) (v := .tmp 36) rfl ?_); go_must (refine sagg_event rfl 24 (.tmp 2) (.tmp 36) rfl rfl g2 #[.int .i64 0, .slice none 0 0] _ _ rfl rfl B2.out (by kernel_rfl) rfl rfl ?_); intro w9 hbk hu; have n0_ := Aside0.mk (hu.below HB.out G2.out); clear HB; have HB := n0_; clear n0_; clear B2; have B2 := Aside0.mk hbk; have c90 := (blk_cell B2.out 0).trans rfl; have c91 := (blk_cell B2.out 1).trans rfl; clear hbk hu))
          refine bodyPost_ret (v := .tuple #[.agg #[.int .i64 0, .slice none 0 0], .int .i64 0, .int .i64 4]) ?_ rfl ?_
          · simp [results, Try.results11, go_sem, c90, c91]
          · exact ⟨_, rfl, Kd.R_nil _ _ _ _ _, HB.out⟩
      · have et0 : decide (0 ≤ t) = false := decide_eq_false ht0
        rw [if_neg (fun h => ht0 h.2.1)] at hF
        simp only [rdBad, Option.some.injEq, Prod.mk.injEq] at hF
        obtain ⟨rfl, rfl, rfl, rfl⟩ := hF
        go_enter Try.func11, Try.ntmps11
        go_wp2_with (first | ((with_reducible refine gate_dst (N := 2) rfl ?_); refine box_event ?hg (N := 2) ?hd (cs := #[.int .i64 0, .slice none 0 0]) (t := 24) ?hr ?_; (case hd => rfl); (case hg => rfl); (case hr => first | (go_simp; done) | (go_simp; rfl)); intro g2 hg w1 hbox hb; have G2 := Aside0.mk (show w.heap.size ≤ g2 from (by rw [hg]; exact HB.out.size)); have B2 := Aside0.mk hbox; clear hbox hg; have n0_ := Aside0.mk (below_then HB.out HB.out.size hb); clear HB; have HB := n0_; clear n0_; clear hb) | (go_at_call 36; go_must (refine (ambryref01_Number.calls 9 a0 1 8 _ _ HNF.out).mono ?_); rintro e w2 ⟨rfl, hd⟩; have hb := hd.below; have n0_ := Aside0.mk (below_then HB.out HB.out.size hb); have n1_ := Aside0.mk ((hb.block _ (blk_lt B2.out)).trans B2.out); clear HB B2; have HB := n0_; have B2 := n1_; clear n0_ n1_; clear hb hd) | ((with_reducible refine gate_store (t := 24) (p := 2) (v := .tmp 36) rfl ?_); go_must (refine sagg_event rfl 24 (.tmp 2) (.tmp 36) rfl rfl g2 #[.int .i64 0, .slice none 0 0] _ _ rfl rfl B2.out (by kernel_rfl) rfl rfl ?_); intro w9 hbk hu; have n0_ := Aside0.mk (hu.below HB.out G2.out); clear HB; have HB := n0_; clear n0_; clear B2; have B2 := Aside0.mk hbk; have c90 := (blk_cell B2.out 0).trans rfl; have c91 := (blk_cell B2.out 1).trans rfl; clear hbk hu))
        refine bodyPost_ret (v := .tuple #[.agg #[.int .i64 0, .slice none 0 0], .int .i64 0, .int .i64 4]) ?_ rfl ?_
        · simp [results, Try.results11, go_sem, c90, c91]
        · exact ⟨_, rfl, Kd.R_nil _ _ _ _ _, HB.out⟩
    · have e77 : (bt a0 0 == 77) = false := beq_eq_false_iff_ne.2 h77
      rw [if_neg (fun h => h77 h.1)] at hF
      simp only [rdBad, Option.some.injEq, Prod.mk.injEq] at hF
      obtain ⟨rfl, rfl, rfl, rfl⟩ := hF
      go_enter Try.func11, Try.ntmps11
      go_wp2_with (first | ((with_reducible refine gate_dst (N := 2) rfl ?_); refine box_event ?hg (N := 2) ?hd (cs := #[.int .i64 0, .slice none 0 0]) (t := 24) ?hr ?_; (case hd => rfl); (case hg => rfl); (case hr => first | (go_simp; done) | (go_simp; rfl)); intro g2 hg w1 hbox hb; have G2 := Aside0.mk (show w.heap.size ≤ g2 from (by rw [hg]; exact HB.out.size)); have B2 := Aside0.mk hbox; clear hbox hg; have n0_ := Aside0.mk (below_then HB.out HB.out.size hb); clear HB; have HB := n0_; clear n0_; clear hb) | (go_at_call 36; go_must (refine (ambryref01_Number.calls 9 a0 1 8 _ _ HNF.out).mono ?_); rintro e w2 ⟨rfl, hd⟩; have hb := hd.below; have n0_ := Aside0.mk (below_then HB.out HB.out.size hb); have n1_ := Aside0.mk ((hb.block _ (blk_lt B2.out)).trans B2.out); clear HB B2; have HB := n0_; have B2 := n1_; clear n0_ n1_; clear hb hd) | ((with_reducible refine gate_store (t := 24) (p := 2) (v := .tmp 36) rfl ?_); go_must (refine sagg_event rfl 24 (.tmp 2) (.tmp 36) rfl rfl g2 #[.int .i64 0, .slice none 0 0] _ _ rfl rfl B2.out (by kernel_rfl) rfl rfl ?_); intro w9 hbk hu; have n0_ := Aside0.mk (hu.below HB.out G2.out); clear HB; have HB := n0_; clear n0_; clear B2; have B2 := Aside0.mk hbk; have c90 := (blk_cell B2.out 0).trans rfl; have c91 := (blk_cell B2.out 1).trans rfl; clear hbk hu))
      refine bodyPost_ret (v := .tuple #[.agg #[.int .i64 0, .slice none 0 0], .int .i64 0, .int .i64 4]) ?_ rfl ?_
      · simp [results, Try.results11, go_sem, c90, c91]
      · exact ⟨_, rfl, Kd.R_nil _ _ _ _ _, HB.out⟩
  rw [if_neg h9] at hF
  have d1 : ((a0.size : Int) == 9) = false := beq_eq_false_iff_ne.2 (by omega)
  have d2 : decide ((a0.size : Int) < 10) = false := decide_eq_false (by omega)
  by_cases h66 : bt a0 0 ≠ 66
  · rw [if_pos h66] at hF
    have e66 : (bt a0 0 != 66) = true := by rw [bne_iff_ne]; exact h66
    simp only [rdBad, Option.some.injEq, Prod.mk.injEq] at hF
    obtain ⟨rfl, rfl, rfl, rfl⟩ := hF
    go_enter Try.func11, Try.ntmps11
    go_wp2_with (first | ((with_reducible refine gate_dst (N := 2) rfl ?_); refine box_event ?hg (N := 2) ?hd (cs := #[.int .i64 0, .slice none 0 0]) (t := 24) ?hr ?_; (case hd => rfl); (case hg => rfl); (case hr => first | (go_simp; done) | (go_simp; rfl)); intro g2 hg w1 hbox hb; have G2 := Aside0.mk (show w.heap.size ≤ g2 from (by rw [hg]; exact HB.out.size)); have B2 := Aside0.mk hbox; clear hbox hg; have n0_ := Aside0.mk (below_then HB.out HB.out.size hb); clear HB; have HB := n0_; clear n0_; clear hb) | (go_at_call 36; go_must (refine (ambryref01_Number.calls 9 a0 1 8 _ _ HNF.out).mono ?_); rintro e w2 ⟨rfl, hd⟩; have hb := hd.below; have n0_ := Aside0.mk (below_then HB.out HB.out.size hb); have n1_ := Aside0.mk ((hb.block _ (blk_lt B2.out)).trans B2.out); clear HB B2; have HB := n0_; have B2 := n1_; clear n0_ n1_; clear hb hd) | ((with_reducible refine gate_store (t := 24) (p := 2) (v := .tmp 36) rfl ?_); go_must (refine sagg_event rfl 24 (.tmp 2) (.tmp 36) rfl rfl g2 #[.int .i64 0, .slice none 0 0] _ _ rfl rfl B2.out (by kernel_rfl) rfl rfl ?_); intro w9 hbk hu; have n0_ := Aside0.mk (hu.below HB.out G2.out); clear HB; have HB := n0_; clear n0_; clear B2; have B2 := Aside0.mk hbk; have c90 := (blk_cell B2.out 0).trans rfl; have c91 := (blk_cell B2.out 1).trans rfl; clear hbk hu))
    refine bodyPost_ret (v := .tuple #[.agg #[.int .i64 0, .slice none 0 0], .int .i64 0, .int .i64 4]) ?_ rfl ?_
    · simp [results, Try.results11, go_sem, c90, c91]
    · exact ⟨_, rfl, Kd.R_nil _ _ _ _ _, HB.out⟩
  rw [if_neg h66] at hF
  have e66 : (bt a0 0 != 66) = false := by rw [← Bool.not_eq_true, bne_iff_ne]; exact h66
  have h9s : 9 < a0.size := by omega
  have hb9 : ((a0[9]'h9s).toNat : Int) = bt a0 9 := bt_at a0 9 h9s
  have hr9 := bt_range a0 9
  obtain ⟨nb, hnb⟩ : ∃ n : Nat, bt a0 9 = (n : Int) := ⟨(bt a0 9).toNat, by omega⟩
  rw [hnb] at hb9 hr9 hF
  rw [Int.toNat_natCast] at hF
  have HF := Aside0.mk (show refLoop k a0 t (nb - 0) 10 [] = some (r1, r2, r3, r4) from hF)
  clear hF
  go_enter Try.func11, Try.ntmps11
  go_wp2_with (first | ((with_reducible refine gate_dst (N := 2) rfl ?_); refine box_event ?hg (N := 2) ?hd (cs := #[.int .i64 0, .slice none 0 0]) (t := 24) ?hr ?_; (case hd => rfl); (case hg => rfl); (case hr => first | (go_simp; done) | (go_simp; rfl)); intro g2 hg w1 hbox hb; have G2 := Aside0.mk (show w.heap.size ≤ g2 from (by rw [hg]; exact HB.out.size)); have B2 := Aside0.mk hbox; clear hbox hg; have n0_ := Aside0.mk (below_then HB.out HB.out.size hb); clear HB; have HB := n0_; clear n0_; clear hb) | (go_at_call 36; go_must (refine (ambryref01_Number.calls 9 a0 1 8 _ _ HNF.out).mono ?_); rintro e w2 ⟨rfl, hd⟩; have hb := hd.below; have n0_ := Aside0.mk (below_then HB.out HB.out.size hb); have n1_ := Aside0.mk ((hb.block _ (blk_lt B2.out)).trans B2.out); clear HB B2; have HB := n0_; have B2 := n1_; clear n0_ n1_; clear hb hd) | ((with_reducible refine gate_dst (N := 6) rfl ?_); refine box_event ?hg (N := 6) ?hd (cs := #[.int .i64 0, .slice none 0 0]) (t := 24) ?hr ?_; (case hd => rfl); (case hg => rfl); (case hr => first | (go_simp; done) | (go_simp; rfl)); intro g6 hg w3 hbox hb; have G6 := Aside0.mk (show w.heap.size ≤ g6 from (by rw [hg]; exact HB.out.size)); have H26 := Aside0.mk (show g2 ≠ g6 from fun e => absurd (blk_lt B2.out) (by omega)); have B6 := Aside0.mk hbox; clear hbox hg; have n0_ := Aside0.mk (below_then HB.out HB.out.size hb); have n1_ := Aside0.mk ((hb.block _ (blk_lt B2.out)).trans B2.out); clear HB B2; have HB := n0_; have B2 := n1_; clear n0_ n1_; clear hb) | ((with_reducible refine gate_store (t := 24) (p := 6) (v := .tmp 39) rfl ?_); go_must (refine sagg_event rfl 24 (.tmp 6) (.tmp 39) rfl rfl g6 #[.int .i64 t, .slice none 0 0] _ _ rfl rfl B6.out (by kernel_rfl) rfl rfl ?_); intro w4 hbk hu; have n0_ := Aside0.mk (hu.below HB.out G6.out); have n1_ := Aside0.mk (hu.blk B2.out H26.out); clear HB B2; have HB := n0_; have B2 := n1_; clear n0_ n1_; clear B6; have B6 := Aside0.mk hbk; clear hbk hu))
  go_loopg [7, 8] nb (fun gg s7 s8 wr => ∃ (i : Nat) (at_ : Int) (acc : List S52) (v : Value), i ≤ nb ∧ nb - i ≤ gg ∧ s8 = .int .i64 i ∧ s7 = .int .i64 at_ ∧ acc.length ≤ i ∧ -9223372036854775808 ≤ at_ ∧ at_ ≤ 9223372036854775807 ∧ Aside0 (Below w.heap.size w wr) ∧ Aside0 (wr.heap[g2]? = some (.cells #[.int .i64 0, .slice none 0 0] 24 (0, 0))) ∧ Aside0 (wr.heap[g6]? = some (.cells #[.int .i64 t, v] 24 (0, 0))) ∧ Aside0 (Kd.R k52 52 wr w.heap.size (fun _ => True) v acc) ∧ Aside0 (refLoop k a0 t (nb - i) at_ acc = some (r1, r2, r3, r4)))
  case atStart => exact ⟨0, 10, [], _, Nat.zero_le _, by omega, rfl, rfl, by simp, by omega, by omega, HB, B2, B6, ⟨Kd.R_nil _ _ _ _ _⟩, HF⟩
  case round =>
    obtain ⟨i, at_, acc, v, hi, hgi, rfl, rfl, hal, ha0, ha1, HB, B2, B6, HR, HF⟩ := hrel
    have cB60 := (blk_cell B6.out 0).trans rfl
    have cB61 := (blk_cell B6.out 1).trans rfl
    by_cases hin : i < nb
    · obtain ⟨n, hn⟩ : ∃ n, nb - i = n + 1 := ⟨nb - i - 1, by omega⟩
      have e1 : decide ((i : Int) < (nb : Int)) = true := decide_eq_true (by omega)
      have hFR := HF.out
      rw [hn, refLoop] at hFR
      by_cases hat : 0 ≤ at_ ∧ at_ < a0.size
      · rw [if_pos hat] at hFR
        obtain ⟨hat0, hat1⟩ := hat
        have e2 : decide (0 ≤ at_) = true := decide_eq_true hat0
        have e3 : decide (at_ < (a0.size : Int)) = true := decide_eq_true hat1
        have hix : at_.toNat < a0.size := by omega
        have hba : ((a0[at_.toNat]'hix).toNat : Int) = bt a0 at_ := bt_at a0 at_ hix
        have hw1 : IntKind.i64.wrap (at_ + 1) = at_ + 1 := by simp [IntKind.wrap, IntKind.bits, IntKind.signed]; omega
        have hw2 : wrap64 (at_ + 1) = at_ + 1 := by unfold wrap64; omega
        have hp := piece_f a0 hsz3 (at_ + 1)
        obtain ⟨⟨x1, x2⟩, hx⟩ : ∃ q, pieceP a0 (at_ + 1) = q := ⟨_, rfl⟩
        rw [hx] at hp hFR
        simp only at hFR
        have HX := Aside0.mk hp
        have hp2 := piece_f a0 hsz3 x2
        have hy2 := pieceP_range a0 x2
        obtain ⟨⟨y1, y2⟩, hy⟩ : ∃ q, pieceP a0 x2 = q := ⟨_, rfl⟩
        rw [hy] at hp2 hFR hy2
        simp only at hFR hy2
        have HY := Aside0.mk hp2
        have HF2 := Aside0.mk hFR
        have HLN := Aside0.mk (show (acc.length + 1) * 40 ≤ 140737488355328 by omega)
        have tok1 : True := trivial
        have tok2 : True := trivial
        clear hp hp2 hx hy hFR HF
        go_wp2_with (first | ((with_reducible refine gate_dst (N := 9) rfl ?_); refine box_event ?hg (N := 9) ?hd (cs := #[.string ⟨#[]⟩, .string ⟨#[]⟩, .bool false]) (t := 52) ?hr ?_; (case hd => rfl); (case hg => rfl); (case hr => first | (go_simp; done) | (go_simp; rfl)); intro g9 hg w5 hbox hb; have G9 := Aside0.mk (show w.heap.size ≤ g9 from (by rw [hg]; exact HB.out.size)); have H29 := Aside0.mk (show g2 ≠ g9 from fun e => absurd (blk_lt B2.out) (by omega)); have H69 := Aside0.mk (show g6 ≠ g9 from fun e => absurd (blk_lt B6.out) (by omega)); have nR_ := Aside0.mk (Kd.R_below (Kd.R_elderB HR.out g9 (Nat.le_of_eq hg.symm)) hb); clear HR; have HR := nR_; clear nR_; have B9 := Aside0.mk hbox; clear hbox hg; have n0_ := Aside0.mk (below_then HB.out HB.out.size hb); have n1_ := Aside0.mk ((hb.block _ (blk_lt B2.out)).trans B2.out); have n2_ := Aside0.mk ((hb.block _ (blk_lt B6.out)).trans B6.out); clear HB B2 B6; have HB := n0_; have B2 := n1_; have B6 := n2_; clear n0_ n1_ n2_; clear hb) | ((with_reducible refine gate_store (t := 52) (p := 9) (v := .tmp 61) rfl ?_); go_must (refine sagg_event rfl 52 (.tmp 9) (.tmp 61) rfl rfl g9 #[.string ⟨#[]⟩, .string ⟨#[]⟩, .bool (bt a0 at_ == 1)] _ _ rfl rfl B9.out (by kernel_rfl) rfl rfl ?_); intro w6 hbk hu; have n0_ := Aside0.mk (hu.below HB.out G9.out); have n1_ := Aside0.mk (hu.blk B2.out H29.out); have n2_ := Aside0.mk (hu.blk B6.out H69.out); have n3_ := Aside0.mk (Kd.R_step HR.out (fun k_ hk_ _ => hu.block k_ hk_.2)); clear HB B2 B6 HR; have HB := n0_; have B2 := n1_; have B6 := n2_; have HR := n3_; clear n0_ n1_ n2_ n3_; clear B9; have B9 := Aside0.mk hbk; clear hbk hu) | (have t1_ := tok1; go_at_call 37; go_must (with_reducible refine (ambryref15_piece.calls a0 (at_ + 1) x1 x2 _ HX.out).mono ?_); rintro e w7 ⟨rfl, hd⟩; have hb := hd.below; have n0_ := Aside0.mk (below_then HB.out HB.out.size hb); have n1_ := Aside0.mk ((hb.block _ (blk_lt B2.out)).trans B2.out); have n2_ := Aside0.mk ((hb.block _ (blk_lt B6.out)).trans B6.out); have n3_ := Aside0.mk ((hb.block _ (blk_lt B9.out)).trans B9.out); have n4_ := Aside0.mk (Kd.R_below HR.out hb); clear HB B2 B6 B9 HR; have HB := n0_; have B2 := n1_; have B6 := n2_; have B9 := n3_; have HR := n4_; clear n0_ n1_ n2_ n3_ n4_; clear hb hd; clear tok1) | ((with_reducible refine gate_store (t := 9) (p := 69) (v := .tmp 67) rfl ?_); go_must (refine scell_event rfl rfl g9 0 (.string x1) _ _ B9.out ?hr ?_); (case hr => have q1_ := (blk_cell B9.out 0).trans rfl; have q2_ := blk_frozen B9.out 0; first | (go_simp; done) | (go_simp; rfl)); intro w8 hbk hu; have n0_ := Aside0.mk (hu.below HB.out G9.out); have n1_ := Aside0.mk (hu.blk B2.out H29.out); have n2_ := Aside0.mk (hu.blk B6.out H69.out); have n3_ := Aside0.mk (Kd.R_step HR.out (fun k_ hk_ _ => hu.block k_ hk_.2)); clear HB B2 B6 HR; have HB := n0_; have B2 := n1_; have B6 := n2_; have HR := n3_; clear n0_ n1_ n2_ n3_; clear B9; have B9 := Aside0.mk (show w8.heap[g9]? = some (.cells #[.string x1, .string ⟨#[]⟩, .bool (bt a0 at_ == 1)] 52 (0, 0)) from hbk); clear hbk hu) | (have t0_ := tok2; have t1_ := tok2; go_at_call 37; go_must (with_reducible refine (ambryref15_piece.calls a0 (x2) y1 y2 _ HY.out).mono ?_); rintro e w9 ⟨rfl, hd⟩; have hb := hd.below; have n0_ := Aside0.mk (below_then HB.out HB.out.size hb); have n1_ := Aside0.mk ((hb.block _ (blk_lt B2.out)).trans B2.out); have n2_ := Aside0.mk ((hb.block _ (blk_lt B6.out)).trans B6.out); have n3_ := Aside0.mk ((hb.block _ (blk_lt B9.out)).trans B9.out); have n4_ := Aside0.mk (Kd.R_below HR.out hb); clear HB B2 B6 B9 HR; have HB := n0_; have B2 := n1_; have B6 := n2_; have B9 := n3_; have HR := n4_; clear n0_ n1_ n2_ n3_ n4_; clear hb hd; clear tok2) | ((with_reducible refine gate_store (t := 9) (p := 76) (v := .tmp 74) rfl ?_); go_must (refine scell_event rfl rfl g9 1 (.string y1) _ _ B9.out ?hr ?_); (case hr => have q1_ := (blk_cell B9.out 1).trans rfl; have q2_ := blk_frozen B9.out 1; first | (go_simp; done) | (go_simp; rfl)); intro w10 hbk hu; have n0_ := Aside0.mk (hu.below HB.out G9.out); have n1_ := Aside0.mk (hu.blk B2.out H29.out); have n2_ := Aside0.mk (hu.blk B6.out H69.out); have n3_ := Aside0.mk (Kd.R_step HR.out (fun k_ hk_ _ => hu.block k_ hk_.2)); clear HB B2 B6 HR; have HB := n0_; have B2 := n1_; have B6 := n2_; have HR := n3_; clear n0_ n1_ n2_ n3_; clear B9; have B9 := Aside0.mk (show w10.heap[g9]? = some (.cells #[.string x1, .string y1, .bool (bt a0 at_ == 1)] 52 (0, 0)) from hbk); have d61 := (blk_cell B6.out 1).trans rfl; have d90 := (blk_cell B9.out 0).trans rfl; have d91 := (blk_cell B9.out 1).trans rfl; have d92 := (blk_cell B9.out 2).trans rfl; clear hbk hu) | ((with_reducible refine gate_builtin (b := .append) (xs := #[.tmp 78, .tmp 80]) rfl ?_); at_builtin; go_must (refine Kd.R_append k52 (w0 := w) w.heap.size rfl (.tmp 78) (.tmp 80) 22 52 (.agg #[(.string ⟨#[]⟩), (.string ⟨#[]⟩), (.bool false)]) 40 rfl Try.underlying22 info52 rfl (by decide) (by decide) v acc (⟨x1, y1, (bt a0 at_ == 1)⟩ : S52) [.string x1, .string y1, .bool (bt a0 at_ == 1)] (fun k => True ∧ k ≠ g9) (fun _ => False) rfl rfl (k52_mkM _ _ _ (⟨x1, y1, (bt a0 at_ == 1)⟩ : S52)) (fun _ hk => hk.elim) (fun k_ hk_ => ⟨trivial, fun e_ => by have := blk_lt B9.out; omega⟩) HR.out HB.out HB.out.size HLN.out ?_); intro v1 w11 ho hb hg hat; have n1_ := Aside0.mk (blk_grown B2.out hg (Kd.R_ne HR.out B2.out (by decide))); have n2_ := Aside0.mk (blk_grown B6.out hg (Kd.R_ne HR.out B6.out (by decide))); clear HB B2 B6 B9 HR; have HB := Aside0.mk hb; have B2 := n1_; have B6 := n2_; clear n1_ n2_; obtain ⟨A1, c1, e1_⟩ := Kd.R_slice ho; simp only [List.length_append, List.length_singleton, List.length_nil, Nat.zero_add] at e1_; subst e1_; have HR := Aside0.mk (Kd.R_mono ho (ok' := fun _ => True) (fun _ _ => trivial)); clear ho hb hg hat) | ((with_reducible refine gate_store (t := 22) (p := 82) (v := .tmp 81) rfl ?_); go_must (refine scell_event rfl rfl g6 1 (.slice A1 (acc.length + 1) c1) _ _ B6.out ?hr ?_); (case hr => have q1_ := (blk_cell B6.out 1).trans rfl; have q2_ := blk_frozen B6.out 1; first | (go_simp; done) | (go_simp; rfl)); intro w12 hbk hu; have n0_ := Aside0.mk (hu.below HB.out G6.out); have n1_ := Aside0.mk (hu.blk B2.out H26.out); have n2_ := Aside0.mk (Kd.R_mono (Kd.R_step (Kd.R_types HR.out B6.out (by decide)) (fun k_ hk_ _ => hu.block k_ hk_.2)) (fun _ hk_ => hk_.1)); clear HB B2 HR; have HB := n0_; have B2 := n1_; have HR := n2_; clear n0_ n1_ n2_; clear B6; have B6 := Aside0.mk (show w12.heap[g6]? = some (.cells #[.int .i64 t, .slice A1 (acc.length + 1) c1] 24 (0, 0)) from hbk); clear hbk hu))
        go_roundg (nb - (i + 1))
        case measure => omega
        case rel => exact ⟨i + 1, y2, acc ++ [⟨x1, y1, bt a0 at_ == 1⟩], _, by omega, by omega, by go_num, rfl, by simp; omega, by omega, by omega, HB, B2, B6, HR, ⟨by rw [show nb - (i + 1) = n by omega]; exact HF2.out⟩⟩
      · rw [if_neg hat] at hFR
        have HF2 := Aside0.mk hFR
        clear hFR HF
        by_cases hat0 : 0 ≤ at_
        · have e2 : decide (0 ≤ at_) = true := decide_eq_true hat0
          have e3 : decide (at_ < (a0.size : Int)) = false := decide_eq_false (fun h => hat ⟨hat0, h⟩)
          have hF := HF2.out
          unfold refEnd at hF
          by_cases hneg : at_ < 0
          · rw [if_pos hneg] at hF
            simp only [rdBad, Option.some.injEq, Prod.mk.injEq] at hF
            obtain ⟨rfl, rfl, rfl, rfl⟩ := hF
            have e5 : decide (at_ < 0) = true := decide_eq_true hneg
            clear HF2
            go_wp2_with (first | ((with_reducible refine gate_store (t := 24) (p := 2) (v := .tmp 96) rfl ?_); go_must (refine sagg_event rfl 24 (.tmp 2) (.tmp 96) rfl rfl g2 #[.int .i64 0, .slice none 0 0] _ _ rfl rfl B2.out (by kernel_rfl) rfl rfl ?_); intro w11 hbk hu; have n0_ := Aside0.mk (hu.below HB.out G2.out); clear HB; have HB := n0_; clear n0_; clear B2; have B2 := Aside0.mk hbk; have c90 := (blk_cell B2.out 0).trans rfl; have c91 := (blk_cell B2.out 1).trans rfl; clear hbk hu))
            refine bodyPost_ret (v := .tuple #[.agg #[.int .i64 0, .slice none 0 0], .int .i64 0, .int .i64 4]) ?_ rfl ?_
            · simp [results, Try.results11, go_sem, c90, c91]
            · exact ⟨_, rfl, Kd.R_nil _ _ _ _ _, HB.out⟩
          rw [if_neg hneg] at hF
          have e5 : decide (at_ < 0) = false := decide_eq_false hneg
          obtain ⟨e0, hck, hF⟩ := Option.bind_eq_some_iff.1 hF
          have HCK := Aside0.mk hck
          obtain ⟨A, c, rfl, hle, hC⟩ := Kd.R_reads HR.out
          have HCR := Aside0.mk hC
          have HLC := Aside0.mk hle
          clear hck hC hle HF2
          by_cases he0 : e0 = 0
          · rw [if_pos he0] at hF
            subst he0
            obtain ⟨p0, hpt, hF⟩ := Option.bind_eq_some_iff.1 hF
            have HPT := Aside0.mk hpt
            clear hpt
            by_cases hpe : p0.toList = a0.toList
            · rw [if_pos hpe] at hF
              have e6 : (p0.toList == a0.toList) = true := beq_iff_eq.2 hpe
              have e7 : (p0.toList != a0.toList) = false := by rw [← Bool.not_eq_true, bne_iff_ne]; exact fun h => h hpe
              simp only [Option.some.injEq, Prod.mk.injEq] at hF
              obtain ⟨rfl, rfl, rfl, rfl⟩ := hF
              clear hpe
              go_wp2_with (first | (go_at_call 19; go_must (with_reducible refine (ambryref15_Check.calls k t A c acc _ _ HCR.out HLC.out HCK.out).mono ?_); rintro e w8 ⟨rfl, hb⟩; have n0_ := Aside0.mk (below_then HB.out HB.out.size hb); have n1_ := Aside0.mk ((hb.block _ (blk_lt B2.out)).trans B2.out); have n2_ := Aside0.mk ((hb.block _ (blk_lt B6.out)).trans B6.out); have n3_ := Aside0.mk (Kd.R_below HR.out hb); have n4_ := Aside0.mk (Kd.C_below HCR.out hb); clear HB B2 B6 HR HCR; have HB := n0_; have B2 := n1_; have B6 := n2_; have HR := n3_; have HCR := n4_; clear n0_ n1_ n2_ n3_ n4_; have c60 := (blk_cell B6.out 0).trans rfl; have c61 := (blk_cell B6.out 1).trans rfl; have c20 := (blk_cell B2.out 0).trans rfl; have c21 := (blk_cell B2.out 1).trans rfl; clear hb) | (go_at_call 38; go_must (with_reducible refine (ambryref15_put.calls k t A c acc p0 _ HCR.out HLC.out HPT.out).mono ?_); rintro e w10 ⟨rfl, hb⟩; have n0_ := Aside0.mk (below_then HB.out HB.out.size hb); have n1_ := Aside0.mk ((hb.block _ (blk_lt B2.out)).trans B2.out); have n2_ := Aside0.mk ((hb.block _ (blk_lt B6.out)).trans B6.out); have n3_ := Aside0.mk (Kd.R_below HR.out hb); clear HB B2 B6 HR; have HB := n0_; have B2 := n1_; have B6 := n2_; have HR := n3_; clear n0_ n1_ n2_ n3_; have c60 := (blk_cell B6.out 0).trans rfl; have c61 := (blk_cell B6.out 1).trans rfl; have c20 := (blk_cell B2.out 0).trans rfl; have c21 := (blk_cell B2.out 1).trans rfl; clear hb) | ((with_reducible refine gate_store (t := 24) (p := 2) (v := .tmp 97) rfl ?_); go_must (refine sagg_event rfl 24 (.tmp 2) (.tmp 97) rfl rfl g2 #[.int .i64 t, .slice A acc.length c] _ _ rfl rfl B2.out (by kernel_rfl) rfl rfl ?_); intro w11 hbk hu; have n0_ := Aside0.mk (hu.below HB.out G2.out); have n1_ := Aside0.mk (Kd.R_mono (Kd.R_step (Kd.R_types HR.out B2.out (by decide)) (fun k_ hk_ _ => hu.block k_ hk_.2)) (fun _ hk_ => hk_.1)); clear HB HR; have HB := n0_; have HR := n1_; clear n0_ n1_; clear B2; have B2 := Aside0.mk hbk; have c90 := (blk_cell B2.out 0).trans rfl; have c91 := (blk_cell B2.out 1).trans rfl; clear hbk hu))
              refine bodyPost_ret (v := .tuple #[.agg #[.int .i64 t, .slice A acc.length c], .int .i64 0, .int .i64 0]) ?_ rfl ?_
              · simp [results, Try.results11, go_sem, c90, c91]
              · exact ⟨_, rfl, HR.out, HB.out⟩
            · rw [if_neg hpe] at hF
              have e6 : (p0.toList == a0.toList) = false := beq_eq_false_iff_ne.2 hpe
              have e7 : (p0.toList != a0.toList) = true := bne_iff_ne.2 hpe
              simp only [rdBad, Option.some.injEq, Prod.mk.injEq] at hF
              obtain ⟨rfl, rfl, rfl, rfl⟩ := hF
              clear hpe
              go_wp2_with (first | (go_at_call 19; go_must (with_reducible refine (ambryref15_Check.calls k t A c acc _ _ HCR.out HLC.out HCK.out).mono ?_); rintro e w8 ⟨rfl, hb⟩; have n0_ := Aside0.mk (below_then HB.out HB.out.size hb); have n1_ := Aside0.mk ((hb.block _ (blk_lt B2.out)).trans B2.out); have n2_ := Aside0.mk ((hb.block _ (blk_lt B6.out)).trans B6.out); have n3_ := Aside0.mk (Kd.R_below HR.out hb); have n4_ := Aside0.mk (Kd.C_below HCR.out hb); clear HB B2 B6 HR HCR; have HB := n0_; have B2 := n1_; have B6 := n2_; have HR := n3_; have HCR := n4_; clear n0_ n1_ n2_ n3_ n4_; have c60 := (blk_cell B6.out 0).trans rfl; have c61 := (blk_cell B6.out 1).trans rfl; have c20 := (blk_cell B2.out 0).trans rfl; have c21 := (blk_cell B2.out 1).trans rfl; clear hb) | (go_at_call 38; go_must (with_reducible refine (ambryref15_put.calls k t A c acc p0 _ HCR.out HLC.out HPT.out).mono ?_); rintro e w10 ⟨rfl, hb⟩; have n0_ := Aside0.mk (below_then HB.out HB.out.size hb); have n1_ := Aside0.mk ((hb.block _ (blk_lt B2.out)).trans B2.out); have n2_ := Aside0.mk ((hb.block _ (blk_lt B6.out)).trans B6.out); have n3_ := Aside0.mk (Kd.R_below HR.out hb); clear HB B2 B6 HR; have HB := n0_; have B2 := n1_; have B6 := n2_; have HR := n3_; clear n0_ n1_ n2_ n3_; have c60 := (blk_cell B6.out 0).trans rfl; have c61 := (blk_cell B6.out 1).trans rfl; have c20 := (blk_cell B2.out 0).trans rfl; have c21 := (blk_cell B2.out 1).trans rfl; clear hb) | ((with_reducible refine gate_store (t := 24) (p := 2) (v := .tmp 96) rfl ?_); go_must (refine sagg_event rfl 24 (.tmp 2) (.tmp 96) rfl rfl g2 #[.int .i64 0, .slice none 0 0] _ _ rfl rfl B2.out (by kernel_rfl) rfl rfl ?_); intro w11 hbk hu; have n0_ := Aside0.mk (hu.below HB.out G2.out); clear HB; have HB := n0_; clear n0_; clear B2; have B2 := Aside0.mk hbk; have c90 := (blk_cell B2.out 0).trans rfl; have c91 := (blk_cell B2.out 1).trans rfl; clear hbk hu))
              refine bodyPost_ret (v := .tuple #[.agg #[.int .i64 0, .slice none 0 0], .int .i64 0, .int .i64 4]) ?_ rfl ?_
              · simp [results, Try.results11, go_sem, c90, c91]
              · exact ⟨_, rfl, Kd.R_nil _ _ _ _ _, HB.out⟩
          · rw [if_neg he0] at hF
            have e6 : (e0 == 0) = false := beq_eq_false_iff_ne.2 he0
            have e7 : (e0 != 0) = true := bne_iff_ne.2 he0
            simp only [rdBad, Option.some.injEq, Prod.mk.injEq] at hF
            obtain ⟨rfl, rfl, rfl, rfl⟩ := hF
            go_wp2_with (first | (go_at_call 19; go_must (with_reducible refine (ambryref15_Check.calls k t A c acc _ _ HCR.out HLC.out HCK.out).mono ?_); rintro e w8 ⟨rfl, hb⟩; have n0_ := Aside0.mk (below_then HB.out HB.out.size hb); have n1_ := Aside0.mk ((hb.block _ (blk_lt B2.out)).trans B2.out); have n2_ := Aside0.mk ((hb.block _ (blk_lt B6.out)).trans B6.out); have n3_ := Aside0.mk (Kd.R_below HR.out hb); have n4_ := Aside0.mk (Kd.C_below HCR.out hb); clear HB B2 B6 HR HCR; have HB := n0_; have B2 := n1_; have B6 := n2_; have HR := n3_; have HCR := n4_; clear n0_ n1_ n2_ n3_ n4_; have c60 := (blk_cell B6.out 0).trans rfl; have c61 := (blk_cell B6.out 1).trans rfl; have c20 := (blk_cell B2.out 0).trans rfl; have c21 := (blk_cell B2.out 1).trans rfl; clear hb) | ((with_reducible refine gate_store (t := 24) (p := 2) (v := .tmp 96) rfl ?_); go_must (refine sagg_event rfl 24 (.tmp 2) (.tmp 96) rfl rfl g2 #[.int .i64 0, .slice none 0 0] _ _ rfl rfl B2.out (by kernel_rfl) rfl rfl ?_); intro w11 hbk hu; have n0_ := Aside0.mk (hu.below HB.out G2.out); clear HB; have HB := n0_; clear n0_; clear B2; have B2 := Aside0.mk hbk; have c90 := (blk_cell B2.out 0).trans rfl; have c91 := (blk_cell B2.out 1).trans rfl; clear hbk hu))
            refine bodyPost_ret (v := .tuple #[.agg #[.int .i64 0, .slice none 0 0], .int .i64 0, .int .i64 4]) ?_ rfl ?_
            · simp [results, Try.results11, go_sem, c90, c91]
            · exact ⟨_, rfl, Kd.R_nil _ _ _ _ _, HB.out⟩
        · have e2 : decide (0 ≤ at_) = false := decide_eq_false hat0
          have hF := HF2.out
          unfold refEnd at hF
          by_cases hneg : at_ < 0
          · rw [if_pos hneg] at hF
            simp only [rdBad, Option.some.injEq, Prod.mk.injEq] at hF
            obtain ⟨rfl, rfl, rfl, rfl⟩ := hF
            have e5 : decide (at_ < 0) = true := decide_eq_true hneg
            clear HF2
            go_wp2_with (first | ((with_reducible refine gate_store (t := 24) (p := 2) (v := .tmp 96) rfl ?_); go_must (refine sagg_event rfl 24 (.tmp 2) (.tmp 96) rfl rfl g2 #[.int .i64 0, .slice none 0 0] _ _ rfl rfl B2.out (by kernel_rfl) rfl rfl ?_); intro w11 hbk hu; have n0_ := Aside0.mk (hu.below HB.out G2.out); clear HB; have HB := n0_; clear n0_; clear B2; have B2 := Aside0.mk hbk; have c90 := (blk_cell B2.out 0).trans rfl; have c91 := (blk_cell B2.out 1).trans rfl; clear hbk hu))
            refine bodyPost_ret (v := .tuple #[.agg #[.int .i64 0, .slice none 0 0], .int .i64 0, .int .i64 4]) ?_ rfl ?_
            · simp [results, Try.results11, go_sem, c90, c91]
            · exact ⟨_, rfl, Kd.R_nil _ _ _ _ _, HB.out⟩
          rw [if_neg hneg] at hF
          have e5 : decide (at_ < 0) = false := decide_eq_false hneg
          obtain ⟨e0, hck, hF⟩ := Option.bind_eq_some_iff.1 hF
          have HCK := Aside0.mk hck
          obtain ⟨A, c, rfl, hle, hC⟩ := Kd.R_reads HR.out
          have HCR := Aside0.mk hC
          have HLC := Aside0.mk hle
          clear hck hC hle HF2
          by_cases he0 : e0 = 0
          · rw [if_pos he0] at hF
            subst he0
            obtain ⟨p0, hpt, hF⟩ := Option.bind_eq_some_iff.1 hF
            have HPT := Aside0.mk hpt
            clear hpt
            by_cases hpe : p0.toList = a0.toList
            · rw [if_pos hpe] at hF
              have e6 : (p0.toList == a0.toList) = true := beq_iff_eq.2 hpe
              have e7 : (p0.toList != a0.toList) = false := by rw [← Bool.not_eq_true, bne_iff_ne]; exact fun h => h hpe
              simp only [Option.some.injEq, Prod.mk.injEq] at hF
              obtain ⟨rfl, rfl, rfl, rfl⟩ := hF
              clear hpe
              go_wp2_with (first | (go_at_call 19; go_must (with_reducible refine (ambryref15_Check.calls k t A c acc _ _ HCR.out HLC.out HCK.out).mono ?_); rintro e w8 ⟨rfl, hb⟩; have n0_ := Aside0.mk (below_then HB.out HB.out.size hb); have n1_ := Aside0.mk ((hb.block _ (blk_lt B2.out)).trans B2.out); have n2_ := Aside0.mk ((hb.block _ (blk_lt B6.out)).trans B6.out); have n3_ := Aside0.mk (Kd.R_below HR.out hb); have n4_ := Aside0.mk (Kd.C_below HCR.out hb); clear HB B2 B6 HR HCR; have HB := n0_; have B2 := n1_; have B6 := n2_; have HR := n3_; have HCR := n4_; clear n0_ n1_ n2_ n3_ n4_; have c60 := (blk_cell B6.out 0).trans rfl; have c61 := (blk_cell B6.out 1).trans rfl; have c20 := (blk_cell B2.out 0).trans rfl; have c21 := (blk_cell B2.out 1).trans rfl; clear hb) | (go_at_call 38; go_must (with_reducible refine (ambryref15_put.calls k t A c acc p0 _ HCR.out HLC.out HPT.out).mono ?_); rintro e w10 ⟨rfl, hb⟩; have n0_ := Aside0.mk (below_then HB.out HB.out.size hb); have n1_ := Aside0.mk ((hb.block _ (blk_lt B2.out)).trans B2.out); have n2_ := Aside0.mk ((hb.block _ (blk_lt B6.out)).trans B6.out); have n3_ := Aside0.mk (Kd.R_below HR.out hb); clear HB B2 B6 HR; have HB := n0_; have B2 := n1_; have B6 := n2_; have HR := n3_; clear n0_ n1_ n2_ n3_; have c60 := (blk_cell B6.out 0).trans rfl; have c61 := (blk_cell B6.out 1).trans rfl; have c20 := (blk_cell B2.out 0).trans rfl; have c21 := (blk_cell B2.out 1).trans rfl; clear hb) | ((with_reducible refine gate_store (t := 24) (p := 2) (v := .tmp 97) rfl ?_); go_must (refine sagg_event rfl 24 (.tmp 2) (.tmp 97) rfl rfl g2 #[.int .i64 t, .slice A acc.length c] _ _ rfl rfl B2.out (by kernel_rfl) rfl rfl ?_); intro w11 hbk hu; have n0_ := Aside0.mk (hu.below HB.out G2.out); have n1_ := Aside0.mk (Kd.R_mono (Kd.R_step (Kd.R_types HR.out B2.out (by decide)) (fun k_ hk_ _ => hu.block k_ hk_.2)) (fun _ hk_ => hk_.1)); clear HB HR; have HB := n0_; have HR := n1_; clear n0_ n1_; clear B2; have B2 := Aside0.mk hbk; have c90 := (blk_cell B2.out 0).trans rfl; have c91 := (blk_cell B2.out 1).trans rfl; clear hbk hu))
              refine bodyPost_ret (v := .tuple #[.agg #[.int .i64 t, .slice A acc.length c], .int .i64 0, .int .i64 0]) ?_ rfl ?_
              · simp [results, Try.results11, go_sem, c90, c91]
              · exact ⟨_, rfl, HR.out, HB.out⟩
            · rw [if_neg hpe] at hF
              have e6 : (p0.toList == a0.toList) = false := beq_eq_false_iff_ne.2 hpe
              have e7 : (p0.toList != a0.toList) = true := bne_iff_ne.2 hpe
              simp only [rdBad, Option.some.injEq, Prod.mk.injEq] at hF
              obtain ⟨rfl, rfl, rfl, rfl⟩ := hF
              clear hpe
              go_wp2_with (first | (go_at_call 19; go_must (with_reducible refine (ambryref15_Check.calls k t A c acc _ _ HCR.out HLC.out HCK.out).mono ?_); rintro e w8 ⟨rfl, hb⟩; have n0_ := Aside0.mk (below_then HB.out HB.out.size hb); have n1_ := Aside0.mk ((hb.block _ (blk_lt B2.out)).trans B2.out); have n2_ := Aside0.mk ((hb.block _ (blk_lt B6.out)).trans B6.out); have n3_ := Aside0.mk (Kd.R_below HR.out hb); have n4_ := Aside0.mk (Kd.C_below HCR.out hb); clear HB B2 B6 HR HCR; have HB := n0_; have B2 := n1_; have B6 := n2_; have HR := n3_; have HCR := n4_; clear n0_ n1_ n2_ n3_ n4_; have c60 := (blk_cell B6.out 0).trans rfl; have c61 := (blk_cell B6.out 1).trans rfl; have c20 := (blk_cell B2.out 0).trans rfl; have c21 := (blk_cell B2.out 1).trans rfl; clear hb) | (go_at_call 38; go_must (with_reducible refine (ambryref15_put.calls k t A c acc p0 _ HCR.out HLC.out HPT.out).mono ?_); rintro e w10 ⟨rfl, hb⟩; have n0_ := Aside0.mk (below_then HB.out HB.out.size hb); have n1_ := Aside0.mk ((hb.block _ (blk_lt B2.out)).trans B2.out); have n2_ := Aside0.mk ((hb.block _ (blk_lt B6.out)).trans B6.out); have n3_ := Aside0.mk (Kd.R_below HR.out hb); clear HB B2 B6 HR; have HB := n0_; have B2 := n1_; have B6 := n2_; have HR := n3_; clear n0_ n1_ n2_ n3_; have c60 := (blk_cell B6.out 0).trans rfl; have c61 := (blk_cell B6.out 1).trans rfl; have c20 := (blk_cell B2.out 0).trans rfl; have c21 := (blk_cell B2.out 1).trans rfl; clear hb) | ((with_reducible refine gate_store (t := 24) (p := 2) (v := .tmp 96) rfl ?_); go_must (refine sagg_event rfl 24 (.tmp 2) (.tmp 96) rfl rfl g2 #[.int .i64 0, .slice none 0 0] _ _ rfl rfl B2.out (by kernel_rfl) rfl rfl ?_); intro w11 hbk hu; have n0_ := Aside0.mk (hu.below HB.out G2.out); clear HB; have HB := n0_; clear n0_; clear B2; have B2 := Aside0.mk hbk; have c90 := (blk_cell B2.out 0).trans rfl; have c91 := (blk_cell B2.out 1).trans rfl; clear hbk hu))
              refine bodyPost_ret (v := .tuple #[.agg #[.int .i64 0, .slice none 0 0], .int .i64 0, .int .i64 4]) ?_ rfl ?_
              · simp [results, Try.results11, go_sem, c90, c91]
              · exact ⟨_, rfl, Kd.R_nil _ _ _ _ _, HB.out⟩
          · rw [if_neg he0] at hF
            have e6 : (e0 == 0) = false := beq_eq_false_iff_ne.2 he0
            have e7 : (e0 != 0) = true := bne_iff_ne.2 he0
            simp only [rdBad, Option.some.injEq, Prod.mk.injEq] at hF
            obtain ⟨rfl, rfl, rfl, rfl⟩ := hF
            go_wp2_with (first | (go_at_call 19; go_must (with_reducible refine (ambryref15_Check.calls k t A c acc _ _ HCR.out HLC.out HCK.out).mono ?_); rintro e w8 ⟨rfl, hb⟩; have n0_ := Aside0.mk (below_then HB.out HB.out.size hb); have n1_ := Aside0.mk ((hb.block _ (blk_lt B2.out)).trans B2.out); have n2_ := Aside0.mk ((hb.block _ (blk_lt B6.out)).trans B6.out); have n3_ := Aside0.mk (Kd.R_below HR.out hb); have n4_ := Aside0.mk (Kd.C_below HCR.out hb); clear HB B2 B6 HR HCR; have HB := n0_; have B2 := n1_; have B6 := n2_; have HR := n3_; have HCR := n4_; clear n0_ n1_ n2_ n3_ n4_; have c60 := (blk_cell B6.out 0).trans rfl; have c61 := (blk_cell B6.out 1).trans rfl; have c20 := (blk_cell B2.out 0).trans rfl; have c21 := (blk_cell B2.out 1).trans rfl; clear hb) | ((with_reducible refine gate_store (t := 24) (p := 2) (v := .tmp 96) rfl ?_); go_must (refine sagg_event rfl 24 (.tmp 2) (.tmp 96) rfl rfl g2 #[.int .i64 0, .slice none 0 0] _ _ rfl rfl B2.out (by kernel_rfl) rfl rfl ?_); intro w11 hbk hu; have n0_ := Aside0.mk (hu.below HB.out G2.out); clear HB; have HB := n0_; clear n0_; clear B2; have B2 := Aside0.mk hbk; have c90 := (blk_cell B2.out 0).trans rfl; have c91 := (blk_cell B2.out 1).trans rfl; clear hbk hu))
            refine bodyPost_ret (v := .tuple #[.agg #[.int .i64 0, .slice none 0 0], .int .i64 0, .int .i64 4]) ?_ rfl ?_
            · simp [results, Try.results11, go_sem, c90, c91]
            · exact ⟨_, rfl, Kd.R_nil _ _ _ _ _, HB.out⟩
    · have e1 : decide ((i : Int) < (nb : Int)) = false := decide_eq_false (by omega)
      have HF2 : Aside0 (refEnd k a0 t at_ acc = some (r1, r2, r3, r4)) := ⟨by have := HF.out; rw [show nb - i = 0 by omega, refLoop] at this; exact this⟩
      clear HF
      have hF := HF2.out
      unfold refEnd at hF
      by_cases hneg : at_ < 0
      · rw [if_pos hneg] at hF
        simp only [rdBad, Option.some.injEq, Prod.mk.injEq] at hF
        obtain ⟨rfl, rfl, rfl, rfl⟩ := hF
        have e5 : decide (at_ < 0) = true := decide_eq_true hneg
        clear HF2
        go_wp2_with (first | ((with_reducible refine gate_store (t := 24) (p := 2) (v := .tmp 96) rfl ?_); go_must (refine sagg_event rfl 24 (.tmp 2) (.tmp 96) rfl rfl g2 #[.int .i64 0, .slice none 0 0] _ _ rfl rfl B2.out (by kernel_rfl) rfl rfl ?_); intro w11 hbk hu; have n0_ := Aside0.mk (hu.below HB.out G2.out); clear HB; have HB := n0_; clear n0_; clear B2; have B2 := Aside0.mk hbk; have c90 := (blk_cell B2.out 0).trans rfl; have c91 := (blk_cell B2.out 1).trans rfl; clear hbk hu))
        refine bodyPost_ret (v := .tuple #[.agg #[.int .i64 0, .slice none 0 0], .int .i64 0, .int .i64 4]) ?_ rfl ?_
        · simp [results, Try.results11, go_sem, c90, c91]
        · exact ⟨_, rfl, Kd.R_nil _ _ _ _ _, HB.out⟩
      rw [if_neg hneg] at hF
      have e5 : decide (at_ < 0) = false := decide_eq_false hneg
      obtain ⟨e0, hck, hF⟩ := Option.bind_eq_some_iff.1 hF
      have HCK := Aside0.mk hck
      obtain ⟨A, c, rfl, hle, hC⟩ := Kd.R_reads HR.out
      have HCR := Aside0.mk hC
      have HLC := Aside0.mk hle
      clear hck hC hle HF2
      by_cases he0 : e0 = 0
      · rw [if_pos he0] at hF
        subst he0
        obtain ⟨p0, hpt, hF⟩ := Option.bind_eq_some_iff.1 hF
        have HPT := Aside0.mk hpt
        clear hpt
        by_cases hpe : p0.toList = a0.toList
        · rw [if_pos hpe] at hF
          have e6 : (p0.toList == a0.toList) = true := beq_iff_eq.2 hpe
          have e7 : (p0.toList != a0.toList) = false := by rw [← Bool.not_eq_true, bne_iff_ne]; exact fun h => h hpe
          simp only [Option.some.injEq, Prod.mk.injEq] at hF
          obtain ⟨rfl, rfl, rfl, rfl⟩ := hF
          clear hpe
          go_wp2_with (first | (go_at_call 19; go_must (with_reducible refine (ambryref15_Check.calls k t A c acc _ _ HCR.out HLC.out HCK.out).mono ?_); rintro e w8 ⟨rfl, hb⟩; have n0_ := Aside0.mk (below_then HB.out HB.out.size hb); have n1_ := Aside0.mk ((hb.block _ (blk_lt B2.out)).trans B2.out); have n2_ := Aside0.mk ((hb.block _ (blk_lt B6.out)).trans B6.out); have n3_ := Aside0.mk (Kd.R_below HR.out hb); have n4_ := Aside0.mk (Kd.C_below HCR.out hb); clear HB B2 B6 HR HCR; have HB := n0_; have B2 := n1_; have B6 := n2_; have HR := n3_; have HCR := n4_; clear n0_ n1_ n2_ n3_ n4_; have c60 := (blk_cell B6.out 0).trans rfl; have c61 := (blk_cell B6.out 1).trans rfl; have c20 := (blk_cell B2.out 0).trans rfl; have c21 := (blk_cell B2.out 1).trans rfl; clear hb) | (go_at_call 38; go_must (with_reducible refine (ambryref15_put.calls k t A c acc p0 _ HCR.out HLC.out HPT.out).mono ?_); rintro e w10 ⟨rfl, hb⟩; have n0_ := Aside0.mk (below_then HB.out HB.out.size hb); have n1_ := Aside0.mk ((hb.block _ (blk_lt B2.out)).trans B2.out); have n2_ := Aside0.mk ((hb.block _ (blk_lt B6.out)).trans B6.out); have n3_ := Aside0.mk (Kd.R_below HR.out hb); clear HB B2 B6 HR; have HB := n0_; have B2 := n1_; have B6 := n2_; have HR := n3_; clear n0_ n1_ n2_ n3_; have c60 := (blk_cell B6.out 0).trans rfl; have c61 := (blk_cell B6.out 1).trans rfl; have c20 := (blk_cell B2.out 0).trans rfl; have c21 := (blk_cell B2.out 1).trans rfl; clear hb) | ((with_reducible refine gate_store (t := 24) (p := 2) (v := .tmp 97) rfl ?_); go_must (refine sagg_event rfl 24 (.tmp 2) (.tmp 97) rfl rfl g2 #[.int .i64 t, .slice A acc.length c] _ _ rfl rfl B2.out (by kernel_rfl) rfl rfl ?_); intro w11 hbk hu; have n0_ := Aside0.mk (hu.below HB.out G2.out); have n1_ := Aside0.mk (Kd.R_mono (Kd.R_step (Kd.R_types HR.out B2.out (by decide)) (fun k_ hk_ _ => hu.block k_ hk_.2)) (fun _ hk_ => hk_.1)); clear HB HR; have HB := n0_; have HR := n1_; clear n0_ n1_; clear B2; have B2 := Aside0.mk hbk; have c90 := (blk_cell B2.out 0).trans rfl; have c91 := (blk_cell B2.out 1).trans rfl; clear hbk hu))
          refine bodyPost_ret (v := .tuple #[.agg #[.int .i64 t, .slice A acc.length c], .int .i64 0, .int .i64 0]) ?_ rfl ?_
          · simp [results, Try.results11, go_sem, c90, c91]
          · exact ⟨_, rfl, HR.out, HB.out⟩
        · rw [if_neg hpe] at hF
          have e6 : (p0.toList == a0.toList) = false := beq_eq_false_iff_ne.2 hpe
          have e7 : (p0.toList != a0.toList) = true := bne_iff_ne.2 hpe
          simp only [rdBad, Option.some.injEq, Prod.mk.injEq] at hF
          obtain ⟨rfl, rfl, rfl, rfl⟩ := hF
          clear hpe
          go_wp2_with (first | (go_at_call 19; go_must (with_reducible refine (ambryref15_Check.calls k t A c acc _ _ HCR.out HLC.out HCK.out).mono ?_); rintro e w8 ⟨rfl, hb⟩; have n0_ := Aside0.mk (below_then HB.out HB.out.size hb); have n1_ := Aside0.mk ((hb.block _ (blk_lt B2.out)).trans B2.out); have n2_ := Aside0.mk ((hb.block _ (blk_lt B6.out)).trans B6.out); have n3_ := Aside0.mk (Kd.R_below HR.out hb); have n4_ := Aside0.mk (Kd.C_below HCR.out hb); clear HB B2 B6 HR HCR; have HB := n0_; have B2 := n1_; have B6 := n2_; have HR := n3_; have HCR := n4_; clear n0_ n1_ n2_ n3_ n4_; have c60 := (blk_cell B6.out 0).trans rfl; have c61 := (blk_cell B6.out 1).trans rfl; have c20 := (blk_cell B2.out 0).trans rfl; have c21 := (blk_cell B2.out 1).trans rfl; clear hb) | (go_at_call 38; go_must (with_reducible refine (ambryref15_put.calls k t A c acc p0 _ HCR.out HLC.out HPT.out).mono ?_); rintro e w10 ⟨rfl, hb⟩; have n0_ := Aside0.mk (below_then HB.out HB.out.size hb); have n1_ := Aside0.mk ((hb.block _ (blk_lt B2.out)).trans B2.out); have n2_ := Aside0.mk ((hb.block _ (blk_lt B6.out)).trans B6.out); have n3_ := Aside0.mk (Kd.R_below HR.out hb); clear HB B2 B6 HR; have HB := n0_; have B2 := n1_; have B6 := n2_; have HR := n3_; clear n0_ n1_ n2_ n3_; have c60 := (blk_cell B6.out 0).trans rfl; have c61 := (blk_cell B6.out 1).trans rfl; have c20 := (blk_cell B2.out 0).trans rfl; have c21 := (blk_cell B2.out 1).trans rfl; clear hb) | ((with_reducible refine gate_store (t := 24) (p := 2) (v := .tmp 96) rfl ?_); go_must (refine sagg_event rfl 24 (.tmp 2) (.tmp 96) rfl rfl g2 #[.int .i64 0, .slice none 0 0] _ _ rfl rfl B2.out (by kernel_rfl) rfl rfl ?_); intro w11 hbk hu; have n0_ := Aside0.mk (hu.below HB.out G2.out); clear HB; have HB := n0_; clear n0_; clear B2; have B2 := Aside0.mk hbk; have c90 := (blk_cell B2.out 0).trans rfl; have c91 := (blk_cell B2.out 1).trans rfl; clear hbk hu))
          refine bodyPost_ret (v := .tuple #[.agg #[.int .i64 0, .slice none 0 0], .int .i64 0, .int .i64 4]) ?_ rfl ?_
          · simp [results, Try.results11, go_sem, c90, c91]
          · exact ⟨_, rfl, Kd.R_nil _ _ _ _ _, HB.out⟩
      · rw [if_neg he0] at hF
        have e6 : (e0 == 0) = false := beq_eq_false_iff_ne.2 he0
        have e7 : (e0 != 0) = true := bne_iff_ne.2 he0
        simp only [rdBad, Option.some.injEq, Prod.mk.injEq] at hF
        obtain ⟨rfl, rfl, rfl, rfl⟩ := hF
        go_wp2_with (first | (go_at_call 19; go_must (with_reducible refine (ambryref15_Check.calls k t A c acc _ _ HCR.out HLC.out HCK.out).mono ?_); rintro e w8 ⟨rfl, hb⟩; have n0_ := Aside0.mk (below_then HB.out HB.out.size hb); have n1_ := Aside0.mk ((hb.block _ (blk_lt B2.out)).trans B2.out); have n2_ := Aside0.mk ((hb.block _ (blk_lt B6.out)).trans B6.out); have n3_ := Aside0.mk (Kd.R_below HR.out hb); have n4_ := Aside0.mk (Kd.C_below HCR.out hb); clear HB B2 B6 HR HCR; have HB := n0_; have B2 := n1_; have B6 := n2_; have HR := n3_; have HCR := n4_; clear n0_ n1_ n2_ n3_ n4_; have c60 := (blk_cell B6.out 0).trans rfl; have c61 := (blk_cell B6.out 1).trans rfl; have c20 := (blk_cell B2.out 0).trans rfl; have c21 := (blk_cell B2.out 1).trans rfl; clear hb) | ((with_reducible refine gate_store (t := 24) (p := 2) (v := .tmp 96) rfl ?_); go_must (refine sagg_event rfl 24 (.tmp 2) (.tmp 96) rfl rfl g2 #[.int .i64 0, .slice none 0 0] _ _ rfl rfl B2.out (by kernel_rfl) rfl rfl ?_); intro w11 hbk hu; have n0_ := Aside0.mk (hu.below HB.out G2.out); clear HB; have HB := n0_; clear n0_; clear B2; have B2 := Aside0.mk hbk; have c90 := (blk_cell B2.out 0).trans rfl; have c91 := (blk_cell B2.out 1).trans rfl; clear hbk hu))
        refine bodyPost_ret (v := .tuple #[.agg #[.int .i64 0, .slice none 0 0], .int .i64 0, .int .i64 4]) ?_ rfl ?_
        · simp [results, Try.results11, go_sem, c90, c91]
        · exact ⟨_, rfl, Kd.R_nil _ _ _ _ _, HB.out⟩
end Go.Proofs.Ytehcmedeeaoebaa.PB
end
