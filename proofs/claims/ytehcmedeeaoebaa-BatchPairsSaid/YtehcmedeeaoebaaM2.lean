import Derived.Test.YtehcmedeeaoebaaM1
import Derived.Test.YtehcmedeeaoebaaM0
import Derived.WalkMore
import Derived.BigRegion
import Derived.RegionTactic
import Derived.WalkSpells
import Derived.WalkLawsBesides
import Derived.Shelf.SlSortCmp.WholeK
import Derived.Shelf.Sort.Plain
import Derived.Test.YtehcmedeeaoebaaProg
import Derived.Shelf.SlSortCmp.NoneTotal
import Derived.BigQuiet
section
namespace Go.Proofs.Ytehcmedeeaoebaa.PB
open Go.RowKit Go.Proofs.YtehcmedeeaoebaaW.PrintWords Go.Proofs.YtehcmedeeaoebaaW.PrintLast Go.Proofs.YtehcmedeeaoebaaW.PrintMore
set_option linter.unusedVariables false
set_option linter.unusedSimpArgs false
abbrev RdR := Option (Int × List S52 × Int × Int)
def rdBad : RdR := some (0, [], 0, 4)
def readEnd (k : Nat) (s : ByteArray) (t at_ : Int) (acc : List S52) : RdR :=
  if at_ = s.size then (batch_Check.f k t acc).bind fun e => if e = 0 then some (t, acc, 0, 0) else rdBad else rdBad
def textP (s : ByteArray) (at_ : Int) : Option (ByteArray × Int) :=
  if at_ < s.size then if at_ + 1 + bt s at_ ≤ s.size then some (s.extract (at_ + 1).toNat (at_ + 1 + bt s at_).toNat, at_ + 1 + bt s at_) else none else none
def readLoop (k : Nat) (s : ByteArray) (t : Int) : Nat → Int → List S52 → RdR
  | 0, at_, acc => readEnd k s t at_ acc
  | n + 1, at_, acc => if at_ < s.size then if 1 < bt s at_ then rdBad else
      match textP s (at_ + 1) with
      | none => rdBad
      | some (key, at1) => match textP s at1 with
        | none => rdBad
        | some (val, at2) => readLoop k s t n at2 (acc ++ [⟨key, val, bt s at_ == 1⟩])
    else rdBad
def batch_Read.f (k : Nat) (s : ByteArray) : RdR :=
  if s.size < 9 then rdBad else if 16384 < s.size then rdBad else
    let t := wrap64 (be (bytesOf (s.extract 1 9)))
    if bt s 0 = 77 ∧ s.size = 9 ∧ 0 ≤ t ∧ t ≤ 1152921504606846976 then some (0, [], t, 0)
    else if bt s 0 ≠ 66 ∨ s.size = 9 then rdBad
    else readLoop k s t (bt s 9).toNat 10 []
theorem text_f (s : ByteArray) (at_ : Int) (h0 : 0 ≤ at_) (h1 : at_ ≤ s.size) (hs : s.size ≤ 16384) :
    ∃ r1 r2, batch_text.f s at_ = some (r1, r2, (textP s at_).isSome) ∧ ∀ q, textP s at_ = some q → q = (r1, r2) := by
  have hb := bt_range s at_
  have e1 : wrap64 (at_ + 1) = at_ + 1 := by unfold wrap64; omega
  have e2 : wrap64 (bt s at_) = bt s at_ := by unfold wrap64; omega
  have e3 : wrap64 (at_ + 1 + bt s at_) = at_ + 1 + bt s at_ := by unfold wrap64; omega
  unfold batch_text.f textP
  by_cases c1 : at_ < s.size
  · rw [if_neg (by omega), if_pos h0, if_pos c1, e1, e2, e3, if_pos c1]
    by_cases c2 : at_ + 1 + bt s at_ ≤ s.size
    · rw [if_neg (by omega), if_pos (by omega), if_pos (by omega), if_pos c2, if_pos c2]
      exact ⟨_, _, rfl, fun q hq => (Option.some.inj hq).symm⟩
    · rw [if_pos (by omega), if_neg c2]
      exact ⟨_, _, rfl, fun q hq => by cases hq⟩
  · rw [if_pos (by omega), if_neg c1]
    exact ⟨_, _, rfl, fun q hq => by cases hq⟩
theorem textP_le {s : ByteArray} {at_ : Int} {q : ByteArray × Int} (h0 : 0 ≤ at_) (h : textP s at_ = some q) : at_ < q.2 ∧ q.2 ≤ s.size := by
  have hb := bt_range s at_
  unfold textP at h
  by_cases c1 : at_ < s.size
  · rw [if_pos c1] at h
    by_cases c2 : at_ + 1 + bt s at_ ≤ s.size
    · rw [if_pos c2] at h
      cases h
      exact ⟨by simp only; omega, c2⟩
    · rw [if_neg c2] at h; cases h
  · rw [if_neg c1] at h; cases h
def RJ0 (k : Nat) (s : ByteArray) (w0 : World) (r : Int × List S52 × Int × Int) (g2 : Nat) (a : Act) (w : World) : Prop := ∃ u : Nat → Value, a = { tmps := #[.string s, u 1, .pointer (some ⟨g2, 0, none⟩), u 3, u 4, u 5, u 6, u 7, u 8, u 9, u 10, u 11, u 12, u 13, u 14, u 15, u 16, u 17, u 18, u 19, u 20, u 21, u 22, u 23, u 24, u 25, u 26, u 27, u 28, u 29, u 30, u 31, u 32, u 33, u 34, u 35, u 36, u 37, u 38, u 39, u 40, u 41, u 42, u 43, u 44, u 45, u 46, u 47, u 48, u 49, u 50, u 51, u 52, u 53, u 54, u 55, u 56, u 57, u 58, u 59, u 60, u 61, u 62, u 63, u 64, u 65, u 66, u 67, u 68, u 69, u 70, u 71, u 72, u 73, u 74, u 75, u 76, u 77, u 78, u 79, u 80, u 81, u 82, u 83, u 84, u 85, u 86, u 87, u 88, u 89, u 90, u 91, u 92, u 93, u 94, u 95, u 96, u 97, u 98, u 99, u 100, u 101, u 102, u 103, u 104, u 105, u 106, u 107, u 108, u 109, u 110, u 111, u 112, u 113, u 114], defers := [] } ∧ Aside0 (w0.heap.size ≤ g2) ∧ Aside0 (rdBad = some r) ∧ Aside0 (Below w0.heap.size w0 w) ∧ Aside0 (w.heap[g2]? = some (.cells #[.int .i64 0, .slice none 0 0] 24 (0, 0)))
def RJ1 (k : Nat) (s : ByteArray) (w0 : World) (r : Int × List S52 × Int × Int) (g2 : Nat) (a : Act) (w : World) : Prop := ∃ (u : Nat → Value) (v : Value), ∃ (g5 g6 : Nat) (t at_ : Int) (acc : List S52), a = { tmps := #[.string s, u 1, .pointer (some ⟨g2, 0, none⟩), u 3, u 4, .pointer (some ⟨g5, 0, none⟩), u 6, u 7, .int .i64 at_, u 9, u 10, u 11, u 12, u 13, u 14, u 15, u 16, u 17, u 18, u 19, u 20, u 21, u 22, u 23, u 24, u 25, u 26, u 27, u 28, u 29, u 30, u 31, u 32, u 33, u 34, u 35, u 36, u 37, u 38, u 39, u 40, u 41, u 42, u 43, u 44, u 45, u 46, u 47, u 48, u 49, u 50, u 51, u 52, u 53, u 54, u 55, u 56, u 57, u 58, u 59, u 60, u 61, u 62, u 63, u 64, u 65, u 66, u 67, u 68, u 69, u 70, u 71, u 72, u 73, u 74, u 75, u 76, u 77, u 78, u 79, u 80, u 81, u 82, u 83, u 84, u 85, u 86, u 87, u 88, u 89, u 90, u 91, u 92, u 93, u 94, u 95, u 96, u 97, u 98, u 99, u 100, u 101, u 102, u 103, u 104, u 105, u 106, u 107, u 108, u 109, u 110, u 111, u 112, u 113, u 114], defers := [] } ∧ Aside0 (g2 ≠ g5 ∧ g2 ≠ g6 ∧ g5 ≠ g6 ∧ w0.heap.size ≤ g2 ∧ w0.heap.size ≤ g5 ∧ w0.heap.size ≤ g6) ∧ Aside0 (readEnd k s t at_ acc = some r) ∧ Aside0 (Below w0.heap.size w0 w) ∧ Aside0 (w.heap[g2]? = some (.cells #[.int .i64 0, .slice none 0 0] 24 (0, 0))) ∧ Aside0 (w.heap[g5]? = some (.cells #[.int .i64 t, v] 24 (0, 0))) ∧ Aside0 (Kd.R k52 52 w w0.heap.size (fun k_ => k_ ≠ g6 ∧ k_ ≠ g5 ∧ k_ ≠ g2) v acc)
def RJ2 (k : Nat) (s : ByteArray) (w0 : World) (r : Int × List S52 × Int × Int) (g2 : Nat) (a : Act) (w : World) : Prop := ∃ (u : Nat → Value) (v : Value), ∃ (g5 g6 : Nat) (t at_ left : Int) (acc : List S52) (c0 c1 : ByteArray) (c2 : Bool), a = { tmps := #[.string s, u 1, .pointer (some ⟨g2, 0, none⟩), u 3, u 4, .pointer (some ⟨g5, 0, none⟩), .pointer (some ⟨g6, 0, none⟩), u 7, .int .i64 at_, .int .i64 left, u 10, u 11, u 12, u 13, u 14, u 15, u 16, u 17, u 18, u 19, u 20, u 21, u 22, u 23, u 24, u 25, u 26, u 27, u 28, u 29, u 30, u 31, u 32, u 33, u 34, u 35, u 36, u 37, u 38, u 39, u 40, u 41, u 42, u 43, u 44, u 45, u 46, u 47, u 48, u 49, u 50, u 51, u 52, u 53, u 54, u 55, u 56, u 57, u 58, u 59, u 60, u 61, u 62, u 63, u 64, u 65, u 66, u 67, u 68, u 69, u 70, u 71, u 72, u 73, u 74, u 75, u 76, u 77, u 78, u 79, u 80, u 81, u 82, u 83, u 84, u 85, u 86, u 87, u 88, u 89, u 90, u 91, u 92, u 93, u 94, u 95, u 96, u 97, u 98, u 99, u 100, u 101, u 102, u 103, u 104, u 105, u 106, u 107, u 108, u 109, u 110, u 111, u 112, u 113, u 114], defers := [] } ∧ Aside0 (g2 ≠ g5 ∧ g2 ≠ g6 ∧ g5 ≠ g6 ∧ w0.heap.size ≤ g2 ∧ w0.heap.size ≤ g5 ∧ w0.heap.size ≤ g6) ∧ (9 ≤ s.size ∧ s.size ≤ 16384) ∧ 0 ≤ at_ ∧ at_ ≤ s.size ∧ 0 ≤ left ∧ acc.length + left ≤ 255 ∧ Aside0 (readLoop k s t left.toNat at_ acc = some r) ∧ Aside0 (Below w0.heap.size w0 w) ∧ Aside0 (w.heap[g2]? = some (.cells #[.int .i64 0, .slice none 0 0] 24 (0, 0))) ∧ Aside0 (w.heap[g5]? = some (.cells #[.int .i64 t, v] 24 (0, 0))) ∧ Aside0 (w.heap[g6]? = some (.cells #[.string c0, .string c1, .bool c2] 52 (0, 0))) ∧ Aside0 (Kd.R k52 52 w w0.heap.size (fun k_ => k_ ≠ g6 ∧ k_ ≠ g5 ∧ k_ ≠ g2) v acc)
def RJ (k : Nat) (s : ByteArray) (w0 : World) (r : Int × List S52 × Int × Int) (g2 : Nat) : Nat → Act → World → Prop
  | 0 => RJ0 k s w0 r g2
  | 1 => RJ1 k s w0 r g2
  | 2 => RJ2 k s w0 r g2
  | _ => fun _ _ => False
def Rmu (l : Nat) (a : Act) (_ : World) : Nat := if l = 2 then 2 + (intOf (a.tmps.getD 9 undef)).toNat else l
theorem RJ0_mk {k : Nat} {s : ByteArray} {w0 : World} {r : Int × List S52 × Int × Int} {g2 : Nat} {w : World} {u1 u3 u4 u5 u6 u7 u8 u9 u10 u11 u12 u13 u14 u15 u16 u17 u18 u19 u20 u21 u22 u23 u24 u25 u26 u27 u28 u29 u30 u31 u32 u33 u34 u35 u36 u37 u38 u39 u40 u41 u42 u43 u44 u45 u46 u47 u48 u49 u50 u51 u52 u53 u54 u55 u56 u57 u58 u59 u60 u61 u62 u63 u64 u65 u66 u67 u68 u69 u70 u71 u72 u73 u74 u75 u76 u77 u78 u79 u80 u81 u82 u83 u84 u85 u86 u87 u88 u89 u90 u91 u92 u93 u94 u95 u96 u97 u98 u99 u100 u101 u102 u103 u104 u105 u106 u107 u108 u109 u110 u111 u112 u113 u114 : Value}  (h : Aside0 (w0.heap.size ≤ g2) ∧ Aside0 (rdBad = some r) ∧ Aside0 (Below w0.heap.size w0 w) ∧ Aside0 (w.heap[g2]? = some (.cells #[.int .i64 0, .slice none 0 0] 24 (0, 0)))) : RJ k s w0 r g2 0 { tmps := #[.string s, u1, .pointer (some ⟨g2, 0, none⟩), u3, u4, u5, u6, u7, u8, u9, u10, u11, u12, u13, u14, u15, u16, u17, u18, u19, u20, u21, u22, u23, u24, u25, u26, u27, u28, u29, u30, u31, u32, u33, u34, u35, u36, u37, u38, u39, u40, u41, u42, u43, u44, u45, u46, u47, u48, u49, u50, u51, u52, u53, u54, u55, u56, u57, u58, u59, u60, u61, u62, u63, u64, u65, u66, u67, u68, u69, u70, u71, u72, u73, u74, u75, u76, u77, u78, u79, u80, u81, u82, u83, u84, u85, u86, u87, u88, u89, u90, u91, u92, u93, u94, u95, u96, u97, u98, u99, u100, u101, u102, u103, u104, u105, u106, u107, u108, u109, u110, u111, u112, u113, u114], defers := [] } w := ⟨fun i => match i with | 1 => u1 | 3 => u3 | 4 => u4 | 5 => u5 | 6 => u6 | 7 => u7 | 8 => u8 | 9 => u9 | 10 => u10 | 11 => u11 | 12 => u12 | 13 => u13 | 14 => u14 | 15 => u15 | 16 => u16 | 17 => u17 | 18 => u18 | 19 => u19 | 20 => u20 | 21 => u21 | 22 => u22 | 23 => u23 | 24 => u24 | 25 => u25 | 26 => u26 | 27 => u27 | 28 => u28 | 29 => u29 | 30 => u30 | 31 => u31 | 32 => u32 | 33 => u33 | 34 => u34 | 35 => u35 | 36 => u36 | 37 => u37 | 38 => u38 | 39 => u39 | 40 => u40 | 41 => u41 | 42 => u42 | 43 => u43 | 44 => u44 | 45 => u45 | 46 => u46 | 47 => u47 | 48 => u48 | 49 => u49 | 50 => u50 | 51 => u51 | 52 => u52 | 53 => u53 | 54 => u54 | 55 => u55 | 56 => u56 | 57 => u57 | 58 => u58 | 59 => u59 | 60 => u60 | 61 => u61 | 62 => u62 | 63 => u63 | 64 => u64 | 65 => u65 | 66 => u66 | 67 => u67 | 68 => u68 | 69 => u69 | 70 => u70 | 71 => u71 | 72 => u72 | 73 => u73 | 74 => u74 | 75 => u75 | 76 => u76 | 77 => u77 | 78 => u78 | 79 => u79 | 80 => u80 | 81 => u81 | 82 => u82 | 83 => u83 | 84 => u84 | 85 => u85 | 86 => u86 | 87 => u87 | 88 => u88 | 89 => u89 | 90 => u90 | 91 => u91 | 92 => u92 | 93 => u93 | 94 => u94 | 95 => u95 | 96 => u96 | 97 => u97 | 98 => u98 | 99 => u99 | 100 => u100 | 101 => u101 | 102 => u102 | 103 => u103 | 104 => u104 | 105 => u105 | 106 => u106 | 107 => u107 | 108 => u108 | 109 => u109 | 110 => u110 | 111 => u111 | 112 => u112 | 113 => u113 | 114 => u114 | _ => undef, rfl, h⟩
theorem RJ1_mk {k : Nat} {s : ByteArray} {w0 : World} {r : Int × List S52 × Int × Int} {g2 : Nat} {w : World} {u1 u3 u4 u6 u7 u9 u10 u11 u12 u13 u14 u15 u16 u17 u18 u19 u20 u21 u22 u23 u24 u25 u26 u27 u28 u29 u30 u31 u32 u33 u34 u35 u36 u37 u38 u39 u40 u41 u42 u43 u44 u45 u46 u47 u48 u49 u50 u51 u52 u53 u54 u55 u56 u57 u58 u59 u60 u61 u62 u63 u64 u65 u66 u67 u68 u69 u70 u71 u72 u73 u74 u75 u76 u77 u78 u79 u80 u81 u82 u83 u84 u85 u86 u87 u88 u89 u90 u91 u92 u93 u94 u95 u96 u97 u98 u99 u100 u101 u102 u103 u104 u105 u106 u107 u108 u109 u110 u111 u112 u113 u114 : Value} {v : Value} {g5 g6 : Nat} {t at_ : Int} {acc : List S52} (h : Aside0 (g2 ≠ g5 ∧ g2 ≠ g6 ∧ g5 ≠ g6 ∧ w0.heap.size ≤ g2 ∧ w0.heap.size ≤ g5 ∧ w0.heap.size ≤ g6) ∧ Aside0 (readEnd k s t at_ acc = some r) ∧ Aside0 (Below w0.heap.size w0 w) ∧ Aside0 (w.heap[g2]? = some (.cells #[.int .i64 0, .slice none 0 0] 24 (0, 0))) ∧ Aside0 (w.heap[g5]? = some (.cells #[.int .i64 t, v] 24 (0, 0))) ∧ Aside0 (Kd.R k52 52 w w0.heap.size (fun k_ => k_ ≠ g6 ∧ k_ ≠ g5 ∧ k_ ≠ g2) v acc)) : RJ k s w0 r g2 1 { tmps := #[.string s, u1, .pointer (some ⟨g2, 0, none⟩), u3, u4, .pointer (some ⟨g5, 0, none⟩), u6, u7, .int .i64 at_, u9, u10, u11, u12, u13, u14, u15, u16, u17, u18, u19, u20, u21, u22, u23, u24, u25, u26, u27, u28, u29, u30, u31, u32, u33, u34, u35, u36, u37, u38, u39, u40, u41, u42, u43, u44, u45, u46, u47, u48, u49, u50, u51, u52, u53, u54, u55, u56, u57, u58, u59, u60, u61, u62, u63, u64, u65, u66, u67, u68, u69, u70, u71, u72, u73, u74, u75, u76, u77, u78, u79, u80, u81, u82, u83, u84, u85, u86, u87, u88, u89, u90, u91, u92, u93, u94, u95, u96, u97, u98, u99, u100, u101, u102, u103, u104, u105, u106, u107, u108, u109, u110, u111, u112, u113, u114], defers := [] } w := ⟨fun i => match i with | 1 => u1 | 3 => u3 | 4 => u4 | 6 => u6 | 7 => u7 | 9 => u9 | 10 => u10 | 11 => u11 | 12 => u12 | 13 => u13 | 14 => u14 | 15 => u15 | 16 => u16 | 17 => u17 | 18 => u18 | 19 => u19 | 20 => u20 | 21 => u21 | 22 => u22 | 23 => u23 | 24 => u24 | 25 => u25 | 26 => u26 | 27 => u27 | 28 => u28 | 29 => u29 | 30 => u30 | 31 => u31 | 32 => u32 | 33 => u33 | 34 => u34 | 35 => u35 | 36 => u36 | 37 => u37 | 38 => u38 | 39 => u39 | 40 => u40 | 41 => u41 | 42 => u42 | 43 => u43 | 44 => u44 | 45 => u45 | 46 => u46 | 47 => u47 | 48 => u48 | 49 => u49 | 50 => u50 | 51 => u51 | 52 => u52 | 53 => u53 | 54 => u54 | 55 => u55 | 56 => u56 | 57 => u57 | 58 => u58 | 59 => u59 | 60 => u60 | 61 => u61 | 62 => u62 | 63 => u63 | 64 => u64 | 65 => u65 | 66 => u66 | 67 => u67 | 68 => u68 | 69 => u69 | 70 => u70 | 71 => u71 | 72 => u72 | 73 => u73 | 74 => u74 | 75 => u75 | 76 => u76 | 77 => u77 | 78 => u78 | 79 => u79 | 80 => u80 | 81 => u81 | 82 => u82 | 83 => u83 | 84 => u84 | 85 => u85 | 86 => u86 | 87 => u87 | 88 => u88 | 89 => u89 | 90 => u90 | 91 => u91 | 92 => u92 | 93 => u93 | 94 => u94 | 95 => u95 | 96 => u96 | 97 => u97 | 98 => u98 | 99 => u99 | 100 => u100 | 101 => u101 | 102 => u102 | 103 => u103 | 104 => u104 | 105 => u105 | 106 => u106 | 107 => u107 | 108 => u108 | 109 => u109 | 110 => u110 | 111 => u111 | 112 => u112 | 113 => u113 | 114 => u114 | _ => undef, _, _, _, _, _, _, rfl, h⟩
theorem RJ2_mk {k : Nat} {s : ByteArray} {w0 : World} {r : Int × List S52 × Int × Int} {g2 : Nat} {w : World} {u1 u3 u4 u7 u10 u11 u12 u13 u14 u15 u16 u17 u18 u19 u20 u21 u22 u23 u24 u25 u26 u27 u28 u29 u30 u31 u32 u33 u34 u35 u36 u37 u38 u39 u40 u41 u42 u43 u44 u45 u46 u47 u48 u49 u50 u51 u52 u53 u54 u55 u56 u57 u58 u59 u60 u61 u62 u63 u64 u65 u66 u67 u68 u69 u70 u71 u72 u73 u74 u75 u76 u77 u78 u79 u80 u81 u82 u83 u84 u85 u86 u87 u88 u89 u90 u91 u92 u93 u94 u95 u96 u97 u98 u99 u100 u101 u102 u103 u104 u105 u106 u107 u108 u109 u110 u111 u112 u113 u114 : Value} {v : Value} {g5 g6 : Nat} {t at_ left : Int} {acc : List S52} {c0 c1 : ByteArray} {c2 : Bool} (h : Aside0 (g2 ≠ g5 ∧ g2 ≠ g6 ∧ g5 ≠ g6 ∧ w0.heap.size ≤ g2 ∧ w0.heap.size ≤ g5 ∧ w0.heap.size ≤ g6) ∧ (9 ≤ s.size ∧ s.size ≤ 16384) ∧ 0 ≤ at_ ∧ at_ ≤ s.size ∧ 0 ≤ left ∧ acc.length + left ≤ 255 ∧ Aside0 (readLoop k s t left.toNat at_ acc = some r) ∧ Aside0 (Below w0.heap.size w0 w) ∧ Aside0 (w.heap[g2]? = some (.cells #[.int .i64 0, .slice none 0 0] 24 (0, 0))) ∧ Aside0 (w.heap[g5]? = some (.cells #[.int .i64 t, v] 24 (0, 0))) ∧ Aside0 (w.heap[g6]? = some (.cells #[.string c0, .string c1, .bool c2] 52 (0, 0))) ∧ Aside0 (Kd.R k52 52 w w0.heap.size (fun k_ => k_ ≠ g6 ∧ k_ ≠ g5 ∧ k_ ≠ g2) v acc)) : RJ k s w0 r g2 2 { tmps := #[.string s, u1, .pointer (some ⟨g2, 0, none⟩), u3, u4, .pointer (some ⟨g5, 0, none⟩), .pointer (some ⟨g6, 0, none⟩), u7, .int .i64 at_, .int .i64 left, u10, u11, u12, u13, u14, u15, u16, u17, u18, u19, u20, u21, u22, u23, u24, u25, u26, u27, u28, u29, u30, u31, u32, u33, u34, u35, u36, u37, u38, u39, u40, u41, u42, u43, u44, u45, u46, u47, u48, u49, u50, u51, u52, u53, u54, u55, u56, u57, u58, u59, u60, u61, u62, u63, u64, u65, u66, u67, u68, u69, u70, u71, u72, u73, u74, u75, u76, u77, u78, u79, u80, u81, u82, u83, u84, u85, u86, u87, u88, u89, u90, u91, u92, u93, u94, u95, u96, u97, u98, u99, u100, u101, u102, u103, u104, u105, u106, u107, u108, u109, u110, u111, u112, u113, u114], defers := [] } w := ⟨fun i => match i with | 1 => u1 | 3 => u3 | 4 => u4 | 7 => u7 | 10 => u10 | 11 => u11 | 12 => u12 | 13 => u13 | 14 => u14 | 15 => u15 | 16 => u16 | 17 => u17 | 18 => u18 | 19 => u19 | 20 => u20 | 21 => u21 | 22 => u22 | 23 => u23 | 24 => u24 | 25 => u25 | 26 => u26 | 27 => u27 | 28 => u28 | 29 => u29 | 30 => u30 | 31 => u31 | 32 => u32 | 33 => u33 | 34 => u34 | 35 => u35 | 36 => u36 | 37 => u37 | 38 => u38 | 39 => u39 | 40 => u40 | 41 => u41 | 42 => u42 | 43 => u43 | 44 => u44 | 45 => u45 | 46 => u46 | 47 => u47 | 48 => u48 | 49 => u49 | 50 => u50 | 51 => u51 | 52 => u52 | 53 => u53 | 54 => u54 | 55 => u55 | 56 => u56 | 57 => u57 | 58 => u58 | 59 => u59 | 60 => u60 | 61 => u61 | 62 => u62 | 63 => u63 | 64 => u64 | 65 => u65 | 66 => u66 | 67 => u67 | 68 => u68 | 69 => u69 | 70 => u70 | 71 => u71 | 72 => u72 | 73 => u73 | 74 => u74 | 75 => u75 | 76 => u76 | 77 => u77 | 78 => u78 | 79 => u79 | 80 => u80 | 81 => u81 | 82 => u82 | 83 => u83 | 84 => u84 | 85 => u85 | 86 => u86 | 87 => u87 | 88 => u88 | 89 => u89 | 90 => u90 | 91 => u91 | 92 => u92 | 93 => u93 | 94 => u94 | 95 => u95 | 96 => u96 | 97 => u97 | 98 => u98 | 99 => u99 | 100 => u100 | 101 => u101 | 102 => u102 | 103 => u103 | 104 => u104 | 105 => u105 | 106 => u106 | 107 => u107 | 108 => u108 | 109 => u109 | 110 => u110 | 111 => u111 | 112 => u112 | 113 => u113 | 114 => u114 | _ => undef, _, _, _, _, _, _, _, _, _, _, rfl, h⟩
set_option maxHeartbeats 16000000 in
set_option maxRecDepth 100000 in
theorem batch_Read.calls (k : Nat) (a0 : ByteArray) (r1 : Int) (r2 : List (S52)) (r3 : Int) (r4 : Int) (w : World) (h : batch_Read.f k a0 = some (r1, r2, r3, r4)) :
    Calls Try.prog 10 #[.string a0] w fun e w' => ∃ v1_ : Value, e = .returned (.tuple #[.agg #[.int .i64 r1, v1_], .int .i64 r3, .int .i64 r4]) ∧ Kd.R k52 52 w' w.heap.size (fun _ => True) v1_ r2 ∧ Below w.heap.size w w' := by
  obtain ⟨r, hr⟩ : ∃ r, r = (r1, r2, r3, r4) := ⟨_, rfl⟩
  rw [← hr] at h
  have HRR := Aside0.mk hr
  clear hr
  have HF := Aside0.mk h
  clear h
  have HB := Aside0.mk (Below.refl w.heap.size w)
  go_enter Try.func10, Try.ntmps10
  go_wp2_with (first | ((with_reducible refine gate_dst (N := 2) rfl ?_); refine box_event ?hg (N := 2) ?hd (cs := #[.int .i64 0, .slice none 0 0]) (t := 24) ?hr ?_; (case hd => rfl); (case hg => rfl); (case hr => first | (go_simp; done) | (go_simp; rfl)); intro g2 hg w1 hbox hb; have G2 := Aside0.mk (show w.heap.size ≤ g2 from (by rw [hg]; exact HB.out.size)); have B2 := Aside0.mk hbox; clear hbox hg; have n0_ := Aside0.mk (below_then HB.out HB.out.size hb); clear HB; have HB := n0_; clear n0_; clear hb))
  refine wp_scope_labels (RJ k a0 w r g2) Rmu ?_ ?_
  · have hF := HF.out
    unfold batch_Read.f at hF
    by_cases c1 : a0.size < 9
    · rw [if_pos c1] at hF
      have HF2 := Aside0.mk hF
      clear hF HF
      have d1 : decide ((a0.size : Int) < 9) = true := decide_eq_true (by omega)
      go_wp2_with (first | ((with_reducible refine gate_dst (N := 5) rfl ?_); refine box_event ?hg (N := 5) ?hd (cs := #[.int .i64 0, .slice none 0 0]) (t := 24) ?hr ?_; (case hd => rfl); (case hg => rfl); (case hr => first | (go_simp; done) | (go_simp; rfl)); intro g5 hg w2 hbox hb; have G5 := Aside0.mk (show w.heap.size ≤ g5 from (by rw [hg]; exact HB.out.size)); have H25 := Aside0.mk (show g2 ≠ g5 from fun e => absurd (blk_lt B2.out) (by omega)); have B5 := Aside0.mk hbox; clear hbox hg; have n0_ := Aside0.mk (below_then HB.out HB.out.size hb); have n1_ := Aside0.mk ((hb.block _ (blk_lt B2.out)).trans B2.out); clear HB B2; have HB := n0_; have B2 := n1_; clear n0_ n1_; clear hb) | ((with_reducible refine gate_dst (N := 6) rfl ?_); refine box_event ?hg (N := 6) ?hd (cs := #[.string ⟨#[]⟩, .string ⟨#[]⟩, .bool false]) (t := 52) ?hr ?_; (case hd => rfl); (case hg => rfl); (case hr => first | (go_simp; done) | (go_simp; rfl)); intro g6 hg w3 hbox hb; have G6 := Aside0.mk (show w.heap.size ≤ g6 from (by rw [hg]; exact HB.out.size)); have H26 := Aside0.mk (show g2 ≠ g6 from fun e => absurd (blk_lt B2.out) (by omega)); have H56 := Aside0.mk (show g5 ≠ g6 from fun e => absurd (blk_lt B5.out) (by omega)); have B6 := Aside0.mk hbox; clear hbox hg; have n0_ := Aside0.mk (below_then HB.out HB.out.size hb); have n1_ := Aside0.mk ((hb.block _ (blk_lt B2.out)).trans B2.out); have n2_ := Aside0.mk ((hb.block _ (blk_lt B5.out)).trans B5.out); clear HB B2 B5; have HB := n0_; have B2 := n1_; have B5 := n2_; clear n0_ n1_ n2_; clear hb) | go_step3)
      exact RJ0_mk (k := k) ⟨G2, HF2, HB, B2⟩
    rw [if_neg c1] at hF
    have d1 : decide ((a0.size : Int) < 9) = false := decide_eq_false (by omega)
    by_cases c2 : 16384 < a0.size
    · rw [if_pos c2] at hF
      have HF2 := Aside0.mk hF
      clear hF HF
      have d2 : decide (16384 < (a0.size : Int)) = true := decide_eq_true (by omega)
      go_wp2_with (first | ((with_reducible refine gate_dst (N := 5) rfl ?_); refine box_event ?hg (N := 5) ?hd (cs := #[.int .i64 0, .slice none 0 0]) (t := 24) ?hr ?_; (case hd => rfl); (case hg => rfl); (case hr => first | (go_simp; done) | (go_simp; rfl)); intro g5 hg w2 hbox hb; have G5 := Aside0.mk (show w.heap.size ≤ g5 from (by rw [hg]; exact HB.out.size)); have H25 := Aside0.mk (show g2 ≠ g5 from fun e => absurd (blk_lt B2.out) (by omega)); have B5 := Aside0.mk hbox; clear hbox hg; have n0_ := Aside0.mk (below_then HB.out HB.out.size hb); have n1_ := Aside0.mk ((hb.block _ (blk_lt B2.out)).trans B2.out); clear HB B2; have HB := n0_; have B2 := n1_; clear n0_ n1_; clear hb) | ((with_reducible refine gate_dst (N := 6) rfl ?_); refine box_event ?hg (N := 6) ?hd (cs := #[.string ⟨#[]⟩, .string ⟨#[]⟩, .bool false]) (t := 52) ?hr ?_; (case hd => rfl); (case hg => rfl); (case hr => first | (go_simp; done) | (go_simp; rfl)); intro g6 hg w3 hbox hb; have G6 := Aside0.mk (show w.heap.size ≤ g6 from (by rw [hg]; exact HB.out.size)); have H26 := Aside0.mk (show g2 ≠ g6 from fun e => absurd (blk_lt B2.out) (by omega)); have H56 := Aside0.mk (show g5 ≠ g6 from fun e => absurd (blk_lt B5.out) (by omega)); have B6 := Aside0.mk hbox; clear hbox hg; have n0_ := Aside0.mk (below_then HB.out HB.out.size hb); have n1_ := Aside0.mk ((hb.block _ (blk_lt B2.out)).trans B2.out); have n2_ := Aside0.mk ((hb.block _ (blk_lt B5.out)).trans B5.out); clear HB B2 B5; have HB := n0_; have B2 := n1_; have B5 := n2_; clear n0_ n1_ n2_; clear hb) | go_step3)
      exact RJ0_mk (k := k) ⟨G2, HF2, HB, B2⟩
    rw [if_neg c2] at hF
    have d2 : decide (16384 < (a0.size : Int)) = false := decide_eq_false (by omega)
    have c0 : 9 ≤ a0.size ∧ a0.size ≤ 16384 := by omega
    obtain ⟨tail, htail⟩ : ∃ tail, tail = a0.extract 1 9 := ⟨_, rfl⟩
    have htl : tail.size = 8 := by rw [htail, ByteArray.size_extract]; omega
    obtain ⟨t, ht⟩ : ∃ t, wrap64 (be (bytesOf tail)) = t := ⟨_, rfl⟩
    rw [← htail, ht] at hF
    simp only at hF
    have HT := Aside0.mk (show wrap64 (be (((bytesOf tail).take ((0 : Int) + 8).toNat).drop (0 : Int).toNat)) = t from by simp only [Int.zero_add, Int.toNat_zero, List.drop_zero]; rw [List.take_of_length_le (by rw [bytesOf_length]; simp; omega)]; exact ht)
    have HTL := Aside0.mk htail
    have kb := fun W => print_bytes (P := Try.prog) 9 72 5 Try.underlying9 Try.underlying72 Try.underlying5 tail W
    have htl1 : tail.size ≤ 8 := by omega
    have htl2 : 8 ≤ tail.size := by omega
    have hex : a0.extract 1 9 = tail := htail.symm
    clear htl ht htail HF
    have h0s : 0 < a0.size := by omega
    have hbt : ((a0[0]'h0s).toNat : Int) = bt a0 0 := bt_at a0 0 h0s
    have HFF := Aside0.mk hF
    clear hF
    by_cases h77 : bt a0 0 = 77
    · have e77 : (bt a0 0 == 77) = true := by simpa using h77
      have e66 : (bt a0 0 != 66) = true := by rw [bne_iff_ne]; omega
      have hbad : ¬ (bt a0 0 = 77 ∧ a0.size = 9 ∧ 0 ≤ t ∧ t ≤ 1152921504606846976) → Aside0 (rdBad = some r) := fun hn => ⟨by have := HFF.out; rw [if_neg hn, if_pos (by omega)] at this; exact this⟩
      by_cases h9 : a0.size = 9
      · have e9 : ((a0.size : Int) == 9) = true := beq_iff_eq.2 (by omega)
        by_cases ht0 : 0 ≤ t
        · have et0 : decide (0 ≤ t) = true := decide_eq_true ht0
          by_cases ht1 : t ≤ 1152921504606846976
          · have et1 : decide (t ≤ 1152921504606846976) = true := decide_eq_true ht1
            have hq : (0, [], t, 0) = r := by have := HFF.out; rw [if_pos ⟨h77, h9, ht0, ht1⟩] at this; exact Option.some.inj this
            obtain ⟨rfl, rfl, rfl, rfl⟩ : 0 = r1 ∧ [] = r2 ∧ t = r3 ∧ 0 = r4 := by have := hq.trans HRR.out; simpa using this
            clear hq hbad HFF h77 h9
            go_wp2_with (first | ((with_reducible refine gate_dst (N := 5) rfl ?_); refine box_event ?hg (N := 5) ?hd (cs := #[.int .i64 0, .slice none 0 0]) (t := 24) ?hr ?_; (case hd => rfl); (case hg => rfl); (case hr => first | (go_simp; done) | (go_simp; rfl)); intro g5 hg w2 hbox hb; have G5 := Aside0.mk (show w.heap.size ≤ g5 from (by rw [hg]; exact HB.out.size)); have H25 := Aside0.mk (show g2 ≠ g5 from fun e => absurd (blk_lt B2.out) (by omega)); have B5 := Aside0.mk hbox; clear hbox hg; have n0_ := Aside0.mk (below_then HB.out HB.out.size hb); have n1_ := Aside0.mk ((hb.block _ (blk_lt B2.out)).trans B2.out); clear HB B2; have HB := n0_; have B2 := n1_; clear n0_ n1_; clear hb) | ((with_reducible refine gate_dst (N := 6) rfl ?_); refine box_event ?hg (N := 6) ?hd (cs := #[.string ⟨#[]⟩, .string ⟨#[]⟩, .bool false]) (t := 52) ?hr ?_; (case hd => rfl); (case hg => rfl); (case hr => first | (go_simp; done) | (go_simp; rfl)); intro g6 hg w3 hbox hb; have G6 := Aside0.mk (show w.heap.size ≤ g6 from (by rw [hg]; exact HB.out.size)); have H26 := Aside0.mk (show g2 ≠ g6 from fun e => absurd (blk_lt B2.out) (by omega)); have H56 := Aside0.mk (show g5 ≠ g6 from fun e => absurd (blk_lt B5.out) (by omega)); have B6 := Aside0.mk hbox; clear hbox hg; have n0_ := Aside0.mk (below_then HB.out HB.out.size hb); have n1_ := Aside0.mk ((hb.block _ (blk_lt B2.out)).trans B2.out); have n2_ := Aside0.mk ((hb.block _ (blk_lt B5.out)).trans B5.out); clear HB B2 B5; have HB := n0_; have B2 := n1_; have B5 := n2_; clear n0_ n1_ n2_; clear hb) | ((with_reducible refine gate_dst (N := 20) rfl ?_); refine conv_event ?hg (N := 20) ?hd tail (by omega) ?hr ?_; (case hd => rfl); (case hg => rfl); (case hr => first | (go_simp; done) | (go_simp; rfl)); intro v20 w4 hv20 hrow hb; have n0_ := Aside0.mk (below_then HB.out HB.out.size hb); have n1_ := Aside0.mk ((hb.block _ (blk_lt B2.out)).trans B2.out); have n2_ := Aside0.mk ((hb.block _ (blk_lt B5.out)).trans B5.out); have n3_ := Aside0.mk ((hb.block _ (blk_lt B6.out)).trans B6.out); clear HB B2 B5 B6; have HB := n0_; have B2 := n1_; have B5 := n2_; have B6 := n3_; clear n0_ n1_ n2_ n3_; obtain ⟨gv, capv, rfl, _, _, hcv⟩ := hrow.reads; have HCV := Aside0.mk hcv; clear hrow hb hv20 hcv) | (go_at_call 33; go_must (refine (NewReader.calls _ capv (bytesOf tail) w4 HCV.out (by rw [bytesOf_length]; omega)).mono ?_); rintro e w5 ⟨gr, Ar, cr, rfl, hgr, hrd, hb⟩; have LR := Aside0.mk hgr; have L2 := Aside0.mk (Nat.lt_of_lt_of_le (blk_lt B2.out) hgr); have L5 := Aside0.mk (Nat.lt_of_lt_of_le (blk_lt B5.out) hgr); have L6 := Aside0.mk (Nat.lt_of_lt_of_le (blk_lt B6.out) hgr); have LBW := Aside0.mk (Nat.le_trans HB.out.size hgr); have n0_ := Aside0.mk (below_then HB.out HB.out.size hb); have n1_ := Aside0.mk ((hb.block _ (blk_lt B2.out)).trans B2.out); have n2_ := Aside0.mk ((hb.block _ (blk_lt B5.out)).trans B5.out); have n3_ := Aside0.mk ((hb.block _ (blk_lt B6.out)).trans B6.out); clear HB B2 B5 B6; have HB := n0_; have B2 := n1_; have B5 := n2_; have B6 := n3_; clear n0_ n1_ n2_ n3_; have RD := Aside0.mk hrd; clear hgr hrd hb) | (go_at_call 34; go_must (refine (I64.calls gr Ar cr (bytesOf tail) 0 w5 RD.out (by omega) (by rw [bytesOf_length]; omega)).mono ?_); rintro e w6 ⟨rfl, hb⟩; have n0_ := Aside0.mk (HB.out.trans (hb.mono LBW.out)); have n1_ := Aside0.mk ((hb.block _ L2.out).trans B2.out); have n2_ := Aside0.mk ((hb.block _ L5.out).trans B5.out); have n3_ := Aside0.mk ((hb.block _ L6.out).trans B6.out); clear HB B2 B5 B6 hb; have HB := n0_; have B2 := n1_; have B5 := n2_; have B6 := n3_; clear n0_ n1_ n2_ n3_; rw [HT.out]) | ((with_reducible refine gate_store (t := 3) (p := 23) (v := .tmp 22) rfl ?_); go_must (refine scell_event rfl rfl g5 0 (.int .i64 t) _ _ B5.out ?hr ?_); (case hr => have q1_ := (blk_cell B5.out 0).trans rfl; have q2_ := blk_frozen B5.out 0; first | (go_simp; done) | (go_simp; rfl)); intro w7 hbk hu; have n0_ := Aside0.mk (hu.below HB.out G5.out); have n1_ := Aside0.mk (hu.blk B2.out H25.out); have n2_ := Aside0.mk (hu.blk B6.out H56.out.symm); clear HB B2 B6; have HB := n0_; have B2 := n1_; have B6 := n2_; clear n0_ n1_ n2_; clear B5; have B5 := Aside0.mk (show w7.heap[g5]? = some (.cells #[.int .i64 t, .slice none 0 0] 24 (0, 0)) from hbk); have H52 := Aside0.mk (Ne.symm H25.out); have c50 := (blk_cell B5.out 0).trans rfl; have c51 := (blk_cell B5.out 1).trans rfl; have c20 := (blk_cell B2.out 0).trans rfl; have c21 := (blk_cell B2.out 1).trans rfl; have f20 := blk_frozen B2.out 0; have f21 := blk_frozen B2.out 1; have hr7 : Kd.R k52 52 w7 w.heap.size (fun k_ => k_ ≠ g6 ∧ k_ ≠ g5 ∧ k_ ≠ g2) (.slice none 0 0) [] := Kd.R_nil _ _ _ _ _; have HR := Aside0.mk hr7; clear hr7; clear hbk hu) | go_step3)
            have ne25 := H25.out
            have ne52 := H52.out
            go_region
            go_wp2_with (first | go_step3)
            rw [jumps_ret]
            refine bodyPost_ret (v := .tuple #[.agg #[.int .i64 0, .slice none 0 0], .int .i64 t, .int .i64 0]) ?_ rfl ?_
            · simp [results, Try.results10, go_sem, c20, c21]
            · refine ⟨.slice none 0 0, rfl, Kd.R_nil _ _ _ _ _, ?_⟩
              repeat (first | exact HB.out | refine below_drew ?_ | refine Below.setCell ?_ G2.out _)
          · have et1 : decide (t ≤ 1152921504606846976) = false := decide_eq_false ht1
            have HF2 := hbad (by omega)
            clear hbad HFF h77 h9
            go_wp2_with (first | ((with_reducible refine gate_dst (N := 5) rfl ?_); refine box_event ?hg (N := 5) ?hd (cs := #[.int .i64 0, .slice none 0 0]) (t := 24) ?hr ?_; (case hd => rfl); (case hg => rfl); (case hr => first | (go_simp; done) | (go_simp; rfl)); intro g5 hg w2 hbox hb; have G5 := Aside0.mk (show w.heap.size ≤ g5 from (by rw [hg]; exact HB.out.size)); have H25 := Aside0.mk (show g2 ≠ g5 from fun e => absurd (blk_lt B2.out) (by omega)); have B5 := Aside0.mk hbox; clear hbox hg; have n0_ := Aside0.mk (below_then HB.out HB.out.size hb); have n1_ := Aside0.mk ((hb.block _ (blk_lt B2.out)).trans B2.out); clear HB B2; have HB := n0_; have B2 := n1_; clear n0_ n1_; clear hb) | ((with_reducible refine gate_dst (N := 6) rfl ?_); refine box_event ?hg (N := 6) ?hd (cs := #[.string ⟨#[]⟩, .string ⟨#[]⟩, .bool false]) (t := 52) ?hr ?_; (case hd => rfl); (case hg => rfl); (case hr => first | (go_simp; done) | (go_simp; rfl)); intro g6 hg w3 hbox hb; have G6 := Aside0.mk (show w.heap.size ≤ g6 from (by rw [hg]; exact HB.out.size)); have H26 := Aside0.mk (show g2 ≠ g6 from fun e => absurd (blk_lt B2.out) (by omega)); have H56 := Aside0.mk (show g5 ≠ g6 from fun e => absurd (blk_lt B5.out) (by omega)); have B6 := Aside0.mk hbox; clear hbox hg; have n0_ := Aside0.mk (below_then HB.out HB.out.size hb); have n1_ := Aside0.mk ((hb.block _ (blk_lt B2.out)).trans B2.out); have n2_ := Aside0.mk ((hb.block _ (blk_lt B5.out)).trans B5.out); clear HB B2 B5; have HB := n0_; have B2 := n1_; have B5 := n2_; clear n0_ n1_ n2_; clear hb) | ((with_reducible refine gate_dst (N := 20) rfl ?_); refine conv_event ?hg (N := 20) ?hd tail (by omega) ?hr ?_; (case hd => rfl); (case hg => rfl); (case hr => first | (go_simp; done) | (go_simp; rfl)); intro v20 w4 hv20 hrow hb; have n0_ := Aside0.mk (below_then HB.out HB.out.size hb); have n1_ := Aside0.mk ((hb.block _ (blk_lt B2.out)).trans B2.out); have n2_ := Aside0.mk ((hb.block _ (blk_lt B5.out)).trans B5.out); have n3_ := Aside0.mk ((hb.block _ (blk_lt B6.out)).trans B6.out); clear HB B2 B5 B6; have HB := n0_; have B2 := n1_; have B5 := n2_; have B6 := n3_; clear n0_ n1_ n2_ n3_; obtain ⟨gv, capv, rfl, _, _, hcv⟩ := hrow.reads; have HCV := Aside0.mk hcv; clear hrow hb hv20 hcv) | (go_at_call 33; go_must (refine (NewReader.calls _ capv (bytesOf tail) w4 HCV.out (by rw [bytesOf_length]; omega)).mono ?_); rintro e w5 ⟨gr, Ar, cr, rfl, hgr, hrd, hb⟩; have LR := Aside0.mk hgr; have L2 := Aside0.mk (Nat.lt_of_lt_of_le (blk_lt B2.out) hgr); have L5 := Aside0.mk (Nat.lt_of_lt_of_le (blk_lt B5.out) hgr); have L6 := Aside0.mk (Nat.lt_of_lt_of_le (blk_lt B6.out) hgr); have LBW := Aside0.mk (Nat.le_trans HB.out.size hgr); have n0_ := Aside0.mk (below_then HB.out HB.out.size hb); have n1_ := Aside0.mk ((hb.block _ (blk_lt B2.out)).trans B2.out); have n2_ := Aside0.mk ((hb.block _ (blk_lt B5.out)).trans B5.out); have n3_ := Aside0.mk ((hb.block _ (blk_lt B6.out)).trans B6.out); clear HB B2 B5 B6; have HB := n0_; have B2 := n1_; have B5 := n2_; have B6 := n3_; clear n0_ n1_ n2_ n3_; have RD := Aside0.mk hrd; clear hgr hrd hb) | (go_at_call 34; go_must (refine (I64.calls gr Ar cr (bytesOf tail) 0 w5 RD.out (by omega) (by rw [bytesOf_length]; omega)).mono ?_); rintro e w6 ⟨rfl, hb⟩; have n0_ := Aside0.mk (HB.out.trans (hb.mono LBW.out)); have n1_ := Aside0.mk ((hb.block _ L2.out).trans B2.out); have n2_ := Aside0.mk ((hb.block _ L5.out).trans B5.out); have n3_ := Aside0.mk ((hb.block _ L6.out).trans B6.out); clear HB B2 B5 B6 hb; have HB := n0_; have B2 := n1_; have B5 := n2_; have B6 := n3_; clear n0_ n1_ n2_ n3_; rw [HT.out]) | ((with_reducible refine gate_store (t := 3) (p := 23) (v := .tmp 22) rfl ?_); go_must (refine scell_event rfl rfl g5 0 (.int .i64 t) _ _ B5.out ?hr ?_); (case hr => have q1_ := (blk_cell B5.out 0).trans rfl; have q2_ := blk_frozen B5.out 0; first | (go_simp; done) | (go_simp; rfl)); intro w7 hbk hu; have n0_ := Aside0.mk (hu.below HB.out G5.out); have n1_ := Aside0.mk (hu.blk B2.out H25.out); have n2_ := Aside0.mk (hu.blk B6.out H56.out.symm); clear HB B2 B6; have HB := n0_; have B2 := n1_; have B6 := n2_; clear n0_ n1_ n2_; clear B5; have B5 := Aside0.mk (show w7.heap[g5]? = some (.cells #[.int .i64 t, .slice none 0 0] 24 (0, 0)) from hbk); have H52 := Aside0.mk (Ne.symm H25.out); have c50 := (blk_cell B5.out 0).trans rfl; have c51 := (blk_cell B5.out 1).trans rfl; have c20 := (blk_cell B2.out 0).trans rfl; have c21 := (blk_cell B2.out 1).trans rfl; have f20 := blk_frozen B2.out 0; have f21 := blk_frozen B2.out 1; have hr7 : Kd.R k52 52 w7 w.heap.size (fun k_ => k_ ≠ g6 ∧ k_ ≠ g5 ∧ k_ ≠ g2) (.slice none 0 0) [] := Kd.R_nil _ _ _ _ _; have HR := Aside0.mk hr7; clear hr7; clear hbk hu) | go_step3)
            exact RJ0_mk (k := k) ⟨G2, HF2, HB, B2⟩
        · have et0 : decide (0 ≤ t) = false := decide_eq_false ht0
          have HF2 := hbad (by omega)
          clear hbad HFF h77 h9
          go_wp2_with (first | ((with_reducible refine gate_dst (N := 5) rfl ?_); refine box_event ?hg (N := 5) ?hd (cs := #[.int .i64 0, .slice none 0 0]) (t := 24) ?hr ?_; (case hd => rfl); (case hg => rfl); (case hr => first | (go_simp; done) | (go_simp; rfl)); intro g5 hg w2 hbox hb; have G5 := Aside0.mk (show w.heap.size ≤ g5 from (by rw [hg]; exact HB.out.size)); have H25 := Aside0.mk (show g2 ≠ g5 from fun e => absurd (blk_lt B2.out) (by omega)); have B5 := Aside0.mk hbox; clear hbox hg; have n0_ := Aside0.mk (below_then HB.out HB.out.size hb); have n1_ := Aside0.mk ((hb.block _ (blk_lt B2.out)).trans B2.out); clear HB B2; have HB := n0_; have B2 := n1_; clear n0_ n1_; clear hb) | ((with_reducible refine gate_dst (N := 6) rfl ?_); refine box_event ?hg (N := 6) ?hd (cs := #[.string ⟨#[]⟩, .string ⟨#[]⟩, .bool false]) (t := 52) ?hr ?_; (case hd => rfl); (case hg => rfl); (case hr => first | (go_simp; done) | (go_simp; rfl)); intro g6 hg w3 hbox hb; have G6 := Aside0.mk (show w.heap.size ≤ g6 from (by rw [hg]; exact HB.out.size)); have H26 := Aside0.mk (show g2 ≠ g6 from fun e => absurd (blk_lt B2.out) (by omega)); have H56 := Aside0.mk (show g5 ≠ g6 from fun e => absurd (blk_lt B5.out) (by omega)); have B6 := Aside0.mk hbox; clear hbox hg; have n0_ := Aside0.mk (below_then HB.out HB.out.size hb); have n1_ := Aside0.mk ((hb.block _ (blk_lt B2.out)).trans B2.out); have n2_ := Aside0.mk ((hb.block _ (blk_lt B5.out)).trans B5.out); clear HB B2 B5; have HB := n0_; have B2 := n1_; have B5 := n2_; clear n0_ n1_ n2_; clear hb) | ((with_reducible refine gate_dst (N := 20) rfl ?_); refine conv_event ?hg (N := 20) ?hd tail (by omega) ?hr ?_; (case hd => rfl); (case hg => rfl); (case hr => first | (go_simp; done) | (go_simp; rfl)); intro v20 w4 hv20 hrow hb; have n0_ := Aside0.mk (below_then HB.out HB.out.size hb); have n1_ := Aside0.mk ((hb.block _ (blk_lt B2.out)).trans B2.out); have n2_ := Aside0.mk ((hb.block _ (blk_lt B5.out)).trans B5.out); have n3_ := Aside0.mk ((hb.block _ (blk_lt B6.out)).trans B6.out); clear HB B2 B5 B6; have HB := n0_; have B2 := n1_; have B5 := n2_; have B6 := n3_; clear n0_ n1_ n2_ n3_; obtain ⟨gv, capv, rfl, _, _, hcv⟩ := hrow.reads; have HCV := Aside0.mk hcv; clear hrow hb hv20 hcv) | (go_at_call 33; go_must (refine (NewReader.calls _ capv (bytesOf tail) w4 HCV.out (by rw [bytesOf_length]; omega)).mono ?_); rintro e w5 ⟨gr, Ar, cr, rfl, hgr, hrd, hb⟩; have LR := Aside0.mk hgr; have L2 := Aside0.mk (Nat.lt_of_lt_of_le (blk_lt B2.out) hgr); have L5 := Aside0.mk (Nat.lt_of_lt_of_le (blk_lt B5.out) hgr); have L6 := Aside0.mk (Nat.lt_of_lt_of_le (blk_lt B6.out) hgr); have LBW := Aside0.mk (Nat.le_trans HB.out.size hgr); have n0_ := Aside0.mk (below_then HB.out HB.out.size hb); have n1_ := Aside0.mk ((hb.block _ (blk_lt B2.out)).trans B2.out); have n2_ := Aside0.mk ((hb.block _ (blk_lt B5.out)).trans B5.out); have n3_ := Aside0.mk ((hb.block _ (blk_lt B6.out)).trans B6.out); clear HB B2 B5 B6; have HB := n0_; have B2 := n1_; have B5 := n2_; have B6 := n3_; clear n0_ n1_ n2_ n3_; have RD := Aside0.mk hrd; clear hgr hrd hb) | (go_at_call 34; go_must (refine (I64.calls gr Ar cr (bytesOf tail) 0 w5 RD.out (by omega) (by rw [bytesOf_length]; omega)).mono ?_); rintro e w6 ⟨rfl, hb⟩; have n0_ := Aside0.mk (HB.out.trans (hb.mono LBW.out)); have n1_ := Aside0.mk ((hb.block _ L2.out).trans B2.out); have n2_ := Aside0.mk ((hb.block _ L5.out).trans B5.out); have n3_ := Aside0.mk ((hb.block _ L6.out).trans B6.out); clear HB B2 B5 B6 hb; have HB := n0_; have B2 := n1_; have B5 := n2_; have B6 := n3_; clear n0_ n1_ n2_ n3_; rw [HT.out]) | ((with_reducible refine gate_store (t := 3) (p := 23) (v := .tmp 22) rfl ?_); go_must (refine scell_event rfl rfl g5 0 (.int .i64 t) _ _ B5.out ?hr ?_); (case hr => have q1_ := (blk_cell B5.out 0).trans rfl; have q2_ := blk_frozen B5.out 0; first | (go_simp; done) | (go_simp; rfl)); intro w7 hbk hu; have n0_ := Aside0.mk (hu.below HB.out G5.out); have n1_ := Aside0.mk (hu.blk B2.out H25.out); have n2_ := Aside0.mk (hu.blk B6.out H56.out.symm); clear HB B2 B6; have HB := n0_; have B2 := n1_; have B6 := n2_; clear n0_ n1_ n2_; clear B5; have B5 := Aside0.mk (show w7.heap[g5]? = some (.cells #[.int .i64 t, .slice none 0 0] 24 (0, 0)) from hbk); have H52 := Aside0.mk (Ne.symm H25.out); have c50 := (blk_cell B5.out 0).trans rfl; have c51 := (blk_cell B5.out 1).trans rfl; have c20 := (blk_cell B2.out 0).trans rfl; have c21 := (blk_cell B2.out 1).trans rfl; have f20 := blk_frozen B2.out 0; have f21 := blk_frozen B2.out 1; have hr7 : Kd.R k52 52 w7 w.heap.size (fun k_ => k_ ≠ g6 ∧ k_ ≠ g5 ∧ k_ ≠ g2) (.slice none 0 0) [] := Kd.R_nil _ _ _ _ _; have HR := Aside0.mk hr7; clear hr7; clear hbk hu) | go_step3)
          exact RJ0_mk (k := k) ⟨G2, HF2, HB, B2⟩
      · have e9 : ((a0.size : Int) == 9) = false := beq_eq_false_iff_ne.2 (by omega)
        have HF2 := hbad (by omega)
        clear hbad HFF h77 h9
        go_wp2_with (first | ((with_reducible refine gate_dst (N := 5) rfl ?_); refine box_event ?hg (N := 5) ?hd (cs := #[.int .i64 0, .slice none 0 0]) (t := 24) ?hr ?_; (case hd => rfl); (case hg => rfl); (case hr => first | (go_simp; done) | (go_simp; rfl)); intro g5 hg w2 hbox hb; have G5 := Aside0.mk (show w.heap.size ≤ g5 from (by rw [hg]; exact HB.out.size)); have H25 := Aside0.mk (show g2 ≠ g5 from fun e => absurd (blk_lt B2.out) (by omega)); have B5 := Aside0.mk hbox; clear hbox hg; have n0_ := Aside0.mk (below_then HB.out HB.out.size hb); have n1_ := Aside0.mk ((hb.block _ (blk_lt B2.out)).trans B2.out); clear HB B2; have HB := n0_; have B2 := n1_; clear n0_ n1_; clear hb) | ((with_reducible refine gate_dst (N := 6) rfl ?_); refine box_event ?hg (N := 6) ?hd (cs := #[.string ⟨#[]⟩, .string ⟨#[]⟩, .bool false]) (t := 52) ?hr ?_; (case hd => rfl); (case hg => rfl); (case hr => first | (go_simp; done) | (go_simp; rfl)); intro g6 hg w3 hbox hb; have G6 := Aside0.mk (show w.heap.size ≤ g6 from (by rw [hg]; exact HB.out.size)); have H26 := Aside0.mk (show g2 ≠ g6 from fun e => absurd (blk_lt B2.out) (by omega)); have H56 := Aside0.mk (show g5 ≠ g6 from fun e => absurd (blk_lt B5.out) (by omega)); have B6 := Aside0.mk hbox; clear hbox hg; have n0_ := Aside0.mk (below_then HB.out HB.out.size hb); have n1_ := Aside0.mk ((hb.block _ (blk_lt B2.out)).trans B2.out); have n2_ := Aside0.mk ((hb.block _ (blk_lt B5.out)).trans B5.out); clear HB B2 B5; have HB := n0_; have B2 := n1_; have B5 := n2_; clear n0_ n1_ n2_; clear hb) | ((with_reducible refine gate_dst (N := 20) rfl ?_); refine conv_event ?hg (N := 20) ?hd tail (by omega) ?hr ?_; (case hd => rfl); (case hg => rfl); (case hr => first | (go_simp; done) | (go_simp; rfl)); intro v20 w4 hv20 hrow hb; have n0_ := Aside0.mk (below_then HB.out HB.out.size hb); have n1_ := Aside0.mk ((hb.block _ (blk_lt B2.out)).trans B2.out); have n2_ := Aside0.mk ((hb.block _ (blk_lt B5.out)).trans B5.out); have n3_ := Aside0.mk ((hb.block _ (blk_lt B6.out)).trans B6.out); clear HB B2 B5 B6; have HB := n0_; have B2 := n1_; have B5 := n2_; have B6 := n3_; clear n0_ n1_ n2_ n3_; obtain ⟨gv, capv, rfl, _, _, hcv⟩ := hrow.reads; have HCV := Aside0.mk hcv; clear hrow hb hv20 hcv) | (go_at_call 33; go_must (refine (NewReader.calls _ capv (bytesOf tail) w4 HCV.out (by rw [bytesOf_length]; omega)).mono ?_); rintro e w5 ⟨gr, Ar, cr, rfl, hgr, hrd, hb⟩; have LR := Aside0.mk hgr; have L2 := Aside0.mk (Nat.lt_of_lt_of_le (blk_lt B2.out) hgr); have L5 := Aside0.mk (Nat.lt_of_lt_of_le (blk_lt B5.out) hgr); have L6 := Aside0.mk (Nat.lt_of_lt_of_le (blk_lt B6.out) hgr); have LBW := Aside0.mk (Nat.le_trans HB.out.size hgr); have n0_ := Aside0.mk (below_then HB.out HB.out.size hb); have n1_ := Aside0.mk ((hb.block _ (blk_lt B2.out)).trans B2.out); have n2_ := Aside0.mk ((hb.block _ (blk_lt B5.out)).trans B5.out); have n3_ := Aside0.mk ((hb.block _ (blk_lt B6.out)).trans B6.out); clear HB B2 B5 B6; have HB := n0_; have B2 := n1_; have B5 := n2_; have B6 := n3_; clear n0_ n1_ n2_ n3_; have RD := Aside0.mk hrd; clear hgr hrd hb) | (go_at_call 34; go_must (refine (I64.calls gr Ar cr (bytesOf tail) 0 w5 RD.out (by omega) (by rw [bytesOf_length]; omega)).mono ?_); rintro e w6 ⟨rfl, hb⟩; have n0_ := Aside0.mk (HB.out.trans (hb.mono LBW.out)); have n1_ := Aside0.mk ((hb.block _ L2.out).trans B2.out); have n2_ := Aside0.mk ((hb.block _ L5.out).trans B5.out); have n3_ := Aside0.mk ((hb.block _ L6.out).trans B6.out); clear HB B2 B5 B6 hb; have HB := n0_; have B2 := n1_; have B5 := n2_; have B6 := n3_; clear n0_ n1_ n2_ n3_; rw [HT.out]) | ((with_reducible refine gate_store (t := 3) (p := 23) (v := .tmp 22) rfl ?_); go_must (refine scell_event rfl rfl g5 0 (.int .i64 t) _ _ B5.out ?hr ?_); (case hr => have q1_ := (blk_cell B5.out 0).trans rfl; have q2_ := blk_frozen B5.out 0; first | (go_simp; done) | (go_simp; rfl)); intro w7 hbk hu; have n0_ := Aside0.mk (hu.below HB.out G5.out); have n1_ := Aside0.mk (hu.blk B2.out H25.out); have n2_ := Aside0.mk (hu.blk B6.out H56.out.symm); clear HB B2 B6; have HB := n0_; have B2 := n1_; have B6 := n2_; clear n0_ n1_ n2_; clear B5; have B5 := Aside0.mk (show w7.heap[g5]? = some (.cells #[.int .i64 t, .slice none 0 0] 24 (0, 0)) from hbk); have H52 := Aside0.mk (Ne.symm H25.out); have c50 := (blk_cell B5.out 0).trans rfl; have c51 := (blk_cell B5.out 1).trans rfl; have c20 := (blk_cell B2.out 0).trans rfl; have c21 := (blk_cell B2.out 1).trans rfl; have f20 := blk_frozen B2.out 0; have f21 := blk_frozen B2.out 1; have hr7 : Kd.R k52 52 w7 w.heap.size (fun k_ => k_ ≠ g6 ∧ k_ ≠ g5 ∧ k_ ≠ g2) (.slice none 0 0) [] := Kd.R_nil _ _ _ _ _; have HR := Aside0.mk hr7; clear hr7; clear hbk hu) | go_step3)
        exact RJ0_mk (k := k) ⟨G2, HF2, HB, B2⟩
    · have e77 : (bt a0 0 == 77) = false := by simpa using h77
      by_cases h66 : bt a0 0 = 66
      · have e66 : (bt a0 0 != 66) = false := by simpa using h66
        by_cases h9 : a0.size = 9
        · have e9 : ((a0.size : Int) == 9) = true := beq_iff_eq.2 (by omega)
          have HF2 : Aside0 (rdBad = some r) := ⟨by have := HFF.out; rw [if_neg (by omega), if_pos (by omega)] at this; exact this⟩
          clear HFF h77 h9 h66
          go_wp2_with (first | ((with_reducible refine gate_dst (N := 5) rfl ?_); refine box_event ?hg (N := 5) ?hd (cs := #[.int .i64 0, .slice none 0 0]) (t := 24) ?hr ?_; (case hd => rfl); (case hg => rfl); (case hr => first | (go_simp; done) | (go_simp; rfl)); intro g5 hg w2 hbox hb; have G5 := Aside0.mk (show w.heap.size ≤ g5 from (by rw [hg]; exact HB.out.size)); have H25 := Aside0.mk (show g2 ≠ g5 from fun e => absurd (blk_lt B2.out) (by omega)); have B5 := Aside0.mk hbox; clear hbox hg; have n0_ := Aside0.mk (below_then HB.out HB.out.size hb); have n1_ := Aside0.mk ((hb.block _ (blk_lt B2.out)).trans B2.out); clear HB B2; have HB := n0_; have B2 := n1_; clear n0_ n1_; clear hb) | ((with_reducible refine gate_dst (N := 6) rfl ?_); refine box_event ?hg (N := 6) ?hd (cs := #[.string ⟨#[]⟩, .string ⟨#[]⟩, .bool false]) (t := 52) ?hr ?_; (case hd => rfl); (case hg => rfl); (case hr => first | (go_simp; done) | (go_simp; rfl)); intro g6 hg w3 hbox hb; have G6 := Aside0.mk (show w.heap.size ≤ g6 from (by rw [hg]; exact HB.out.size)); have H26 := Aside0.mk (show g2 ≠ g6 from fun e => absurd (blk_lt B2.out) (by omega)); have H56 := Aside0.mk (show g5 ≠ g6 from fun e => absurd (blk_lt B5.out) (by omega)); have B6 := Aside0.mk hbox; clear hbox hg; have n0_ := Aside0.mk (below_then HB.out HB.out.size hb); have n1_ := Aside0.mk ((hb.block _ (blk_lt B2.out)).trans B2.out); have n2_ := Aside0.mk ((hb.block _ (blk_lt B5.out)).trans B5.out); clear HB B2 B5; have HB := n0_; have B2 := n1_; have B5 := n2_; clear n0_ n1_ n2_; clear hb) | ((with_reducible refine gate_dst (N := 20) rfl ?_); refine conv_event ?hg (N := 20) ?hd tail (by omega) ?hr ?_; (case hd => rfl); (case hg => rfl); (case hr => first | (go_simp; done) | (go_simp; rfl)); intro v20 w4 hv20 hrow hb; have n0_ := Aside0.mk (below_then HB.out HB.out.size hb); have n1_ := Aside0.mk ((hb.block _ (blk_lt B2.out)).trans B2.out); have n2_ := Aside0.mk ((hb.block _ (blk_lt B5.out)).trans B5.out); have n3_ := Aside0.mk ((hb.block _ (blk_lt B6.out)).trans B6.out); clear HB B2 B5 B6; have HB := n0_; have B2 := n1_; have B5 := n2_; have B6 := n3_; clear n0_ n1_ n2_ n3_; obtain ⟨gv, capv, rfl, _, _, hcv⟩ := hrow.reads; have HCV := Aside0.mk hcv; clear hrow hb hv20 hcv) | (go_at_call 33; go_must (refine (NewReader.calls _ capv (bytesOf tail) w4 HCV.out (by rw [bytesOf_length]; omega)).mono ?_); rintro e w5 ⟨gr, Ar, cr, rfl, hgr, hrd, hb⟩; have LR := Aside0.mk hgr; have L2 := Aside0.mk (Nat.lt_of_lt_of_le (blk_lt B2.out) hgr); have L5 := Aside0.mk (Nat.lt_of_lt_of_le (blk_lt B5.out) hgr); have L6 := Aside0.mk (Nat.lt_of_lt_of_le (blk_lt B6.out) hgr); have LBW := Aside0.mk (Nat.le_trans HB.out.size hgr); have n0_ := Aside0.mk (below_then HB.out HB.out.size hb); have n1_ := Aside0.mk ((hb.block _ (blk_lt B2.out)).trans B2.out); have n2_ := Aside0.mk ((hb.block _ (blk_lt B5.out)).trans B5.out); have n3_ := Aside0.mk ((hb.block _ (blk_lt B6.out)).trans B6.out); clear HB B2 B5 B6; have HB := n0_; have B2 := n1_; have B5 := n2_; have B6 := n3_; clear n0_ n1_ n2_ n3_; have RD := Aside0.mk hrd; clear hgr hrd hb) | (go_at_call 34; go_must (refine (I64.calls gr Ar cr (bytesOf tail) 0 w5 RD.out (by omega) (by rw [bytesOf_length]; omega)).mono ?_); rintro e w6 ⟨rfl, hb⟩; have n0_ := Aside0.mk (HB.out.trans (hb.mono LBW.out)); have n1_ := Aside0.mk ((hb.block _ L2.out).trans B2.out); have n2_ := Aside0.mk ((hb.block _ L5.out).trans B5.out); have n3_ := Aside0.mk ((hb.block _ L6.out).trans B6.out); clear HB B2 B5 B6 hb; have HB := n0_; have B2 := n1_; have B5 := n2_; have B6 := n3_; clear n0_ n1_ n2_ n3_; rw [HT.out]) | ((with_reducible refine gate_store (t := 3) (p := 23) (v := .tmp 22) rfl ?_); go_must (refine scell_event rfl rfl g5 0 (.int .i64 t) _ _ B5.out ?hr ?_); (case hr => have q1_ := (blk_cell B5.out 0).trans rfl; have q2_ := blk_frozen B5.out 0; first | (go_simp; done) | (go_simp; rfl)); intro w7 hbk hu; have n0_ := Aside0.mk (hu.below HB.out G5.out); have n1_ := Aside0.mk (hu.blk B2.out H25.out); have n2_ := Aside0.mk (hu.blk B6.out H56.out.symm); clear HB B2 B6; have HB := n0_; have B2 := n1_; have B6 := n2_; clear n0_ n1_ n2_; clear B5; have B5 := Aside0.mk (show w7.heap[g5]? = some (.cells #[.int .i64 t, .slice none 0 0] 24 (0, 0)) from hbk); have H52 := Aside0.mk (Ne.symm H25.out); have c50 := (blk_cell B5.out 0).trans rfl; have c51 := (blk_cell B5.out 1).trans rfl; have c20 := (blk_cell B2.out 0).trans rfl; have c21 := (blk_cell B2.out 1).trans rfl; have f20 := blk_frozen B2.out 0; have f21 := blk_frozen B2.out 1; have hr7 : Kd.R k52 52 w7 w.heap.size (fun k_ => k_ ≠ g6 ∧ k_ ≠ g5 ∧ k_ ≠ g2) (.slice none 0 0) [] := Kd.R_nil _ _ _ _ _; have HR := Aside0.mk hr7; clear hr7; clear hbk hu) | go_step3)
          exact RJ0_mk (k := k) ⟨G2, HF2, HB, B2⟩
        · have e9 : ((a0.size : Int) == 9) = false := beq_eq_false_iff_ne.2 (by omega)
          have hlt9 : 9 < a0.size := by omega
          have hb9 : ((a0[9]'hlt9).toNat : Int) = bt a0 9 := bt_at a0 9 hlt9
          have hr9 := bt_range a0 9
          have hF := HFF.out
          rw [if_neg (by omega), if_neg (by omega)] at hF
          have HF := Aside0.mk hF
          clear hF HFF h66 h77 h9
          have hrb := bt_range a0 10
          by_cases q0 : (bt a0 9) = 0
          · have e0 : ((bt a0 9) == 0) = true := by rw [beq_iff_eq]; exact q0
            have HF1 : Aside0 (readEnd k a0 t 10 [] = some r) := ⟨by have := HF.out; rw [q0] at this; exact this⟩
            have HQ0 := Aside0.mk q0
            clear q0 HF
            go_wp2_with (first | ((with_reducible refine gate_dst (N := 5) rfl ?_); refine box_event ?hg (N := 5) ?hd (cs := #[.int .i64 0, .slice none 0 0]) (t := 24) ?hr ?_; (case hd => rfl); (case hg => rfl); (case hr => first | (go_simp; done) | (go_simp; rfl)); intro g5 hg w2 hbox hb; have G5 := Aside0.mk (show w.heap.size ≤ g5 from (by rw [hg]; exact HB.out.size)); have H25 := Aside0.mk (show g2 ≠ g5 from fun e => absurd (blk_lt B2.out) (by omega)); have B5 := Aside0.mk hbox; clear hbox hg; have n0_ := Aside0.mk (below_then HB.out HB.out.size hb); have n1_ := Aside0.mk ((hb.block _ (blk_lt B2.out)).trans B2.out); clear HB B2; have HB := n0_; have B2 := n1_; clear n0_ n1_; clear hb) | ((with_reducible refine gate_dst (N := 6) rfl ?_); refine box_event ?hg (N := 6) ?hd (cs := #[.string ⟨#[]⟩, .string ⟨#[]⟩, .bool false]) (t := 52) ?hr ?_; (case hd => rfl); (case hg => rfl); (case hr => first | (go_simp; done) | (go_simp; rfl)); intro g6 hg w3 hbox hb; have G6 := Aside0.mk (show w.heap.size ≤ g6 from (by rw [hg]; exact HB.out.size)); have H26 := Aside0.mk (show g2 ≠ g6 from fun e => absurd (blk_lt B2.out) (by omega)); have H56 := Aside0.mk (show g5 ≠ g6 from fun e => absurd (blk_lt B5.out) (by omega)); have B6 := Aside0.mk hbox; clear hbox hg; have n0_ := Aside0.mk (below_then HB.out HB.out.size hb); have n1_ := Aside0.mk ((hb.block _ (blk_lt B2.out)).trans B2.out); have n2_ := Aside0.mk ((hb.block _ (blk_lt B5.out)).trans B5.out); clear HB B2 B5; have HB := n0_; have B2 := n1_; have B5 := n2_; clear n0_ n1_ n2_; clear hb) | ((with_reducible refine gate_dst (N := 20) rfl ?_); refine conv_event ?hg (N := 20) ?hd tail (by omega) ?hr ?_; (case hd => rfl); (case hg => rfl); (case hr => first | (go_simp; done) | (go_simp; rfl)); intro v20 w4 hv20 hrow hb; have n0_ := Aside0.mk (below_then HB.out HB.out.size hb); have n1_ := Aside0.mk ((hb.block _ (blk_lt B2.out)).trans B2.out); have n2_ := Aside0.mk ((hb.block _ (blk_lt B5.out)).trans B5.out); have n3_ := Aside0.mk ((hb.block _ (blk_lt B6.out)).trans B6.out); clear HB B2 B5 B6; have HB := n0_; have B2 := n1_; have B5 := n2_; have B6 := n3_; clear n0_ n1_ n2_ n3_; obtain ⟨gv, capv, rfl, _, _, hcv⟩ := hrow.reads; have HCV := Aside0.mk hcv; clear hrow hb hv20 hcv) | (go_at_call 33; go_must (refine (NewReader.calls _ capv (bytesOf tail) w4 HCV.out (by rw [bytesOf_length]; omega)).mono ?_); rintro e w5 ⟨gr, Ar, cr, rfl, hgr, hrd, hb⟩; have LR := Aside0.mk hgr; have L2 := Aside0.mk (Nat.lt_of_lt_of_le (blk_lt B2.out) hgr); have L5 := Aside0.mk (Nat.lt_of_lt_of_le (blk_lt B5.out) hgr); have L6 := Aside0.mk (Nat.lt_of_lt_of_le (blk_lt B6.out) hgr); have LBW := Aside0.mk (Nat.le_trans HB.out.size hgr); have n0_ := Aside0.mk (below_then HB.out HB.out.size hb); have n1_ := Aside0.mk ((hb.block _ (blk_lt B2.out)).trans B2.out); have n2_ := Aside0.mk ((hb.block _ (blk_lt B5.out)).trans B5.out); have n3_ := Aside0.mk ((hb.block _ (blk_lt B6.out)).trans B6.out); clear HB B2 B5 B6; have HB := n0_; have B2 := n1_; have B5 := n2_; have B6 := n3_; clear n0_ n1_ n2_ n3_; have RD := Aside0.mk hrd; clear hgr hrd hb) | (go_at_call 34; go_must (refine (I64.calls gr Ar cr (bytesOf tail) 0 w5 RD.out (by omega) (by rw [bytesOf_length]; omega)).mono ?_); rintro e w6 ⟨rfl, hb⟩; have n0_ := Aside0.mk (HB.out.trans (hb.mono LBW.out)); have n1_ := Aside0.mk ((hb.block _ L2.out).trans B2.out); have n2_ := Aside0.mk ((hb.block _ L5.out).trans B5.out); have n3_ := Aside0.mk ((hb.block _ L6.out).trans B6.out); clear HB B2 B5 B6 hb; have HB := n0_; have B2 := n1_; have B5 := n2_; have B6 := n3_; clear n0_ n1_ n2_ n3_; rw [HT.out]) | ((with_reducible refine gate_store (t := 3) (p := 23) (v := .tmp 22) rfl ?_); go_must (refine scell_event rfl rfl g5 0 (.int .i64 t) _ _ B5.out ?hr ?_); (case hr => have q1_ := (blk_cell B5.out 0).trans rfl; have q2_ := blk_frozen B5.out 0; first | (go_simp; done) | (go_simp; rfl)); intro w7 hbk hu; have n0_ := Aside0.mk (hu.below HB.out G5.out); have n1_ := Aside0.mk (hu.blk B2.out H25.out); have n2_ := Aside0.mk (hu.blk B6.out H56.out.symm); clear HB B2 B6; have HB := n0_; have B2 := n1_; have B6 := n2_; clear n0_ n1_ n2_; clear B5; have B5 := Aside0.mk (show w7.heap[g5]? = some (.cells #[.int .i64 t, .slice none 0 0] 24 (0, 0)) from hbk); have H52 := Aside0.mk (Ne.symm H25.out); have c50 := (blk_cell B5.out 0).trans rfl; have c51 := (blk_cell B5.out 1).trans rfl; have c20 := (blk_cell B2.out 0).trans rfl; have c21 := (blk_cell B2.out 1).trans rfl; have f20 := blk_frozen B2.out 0; have f21 := blk_frozen B2.out 1; have hr7 : Kd.R k52 52 w7 w.heap.size (fun k_ => k_ ≠ g6 ∧ k_ ≠ g5 ∧ k_ ≠ g2) (.slice none 0 0) [] := Kd.R_nil _ _ _ _ _; have HR := Aside0.mk hr7; clear hr7; clear hbk hu) | go_step3)
            exact (RJ1_mk (k := k) ⟨⟨⟨H25.out, H26.out, H56.out, G2.out, G5.out, G6.out⟩⟩, HF1, HB, B2, B5, HR⟩)
          have e0 : ((bt a0 9) == 0) = false := by rw [beq_eq_false_iff_ne]; exact q0
          obtain ⟨n, hn⟩ : ∃ n : Nat, (bt a0 9) = n + 1 := ⟨((bt a0 9) - 1).toNat, by omega⟩
          have hnn : ((bt a0 9) - 1).toNat = n := by omega
          have hlp : 1 ≤ (bt a0 9) := by omega
          have hF := HF.out
          rw [show ((bt a0 9)).toNat = n + 1 by omega] at hF
          rw [readLoop] at hF
          have HN := Aside0.mk hn
          have HNN := Aside0.mk hnn
          clear hn hnn HF q0
          by_cases q1 : ¬ (10 < (a0.size : Int))
          · rw [if_neg q1] at hF
            have HF1 := Aside0.mk hF
            clear hF
            have e1 : decide ((a0.size : Int) ≤ 10) = true := decide_eq_true (by omega)
            go_wp2_with (first | ((with_reducible refine gate_dst (N := 5) rfl ?_); refine box_event ?hg (N := 5) ?hd (cs := #[.int .i64 0, .slice none 0 0]) (t := 24) ?hr ?_; (case hd => rfl); (case hg => rfl); (case hr => first | (go_simp; done) | (go_simp; rfl)); intro g5 hg w2 hbox hb; have G5 := Aside0.mk (show w.heap.size ≤ g5 from (by rw [hg]; exact HB.out.size)); have H25 := Aside0.mk (show g2 ≠ g5 from fun e => absurd (blk_lt B2.out) (by omega)); have B5 := Aside0.mk hbox; clear hbox hg; have n0_ := Aside0.mk (below_then HB.out HB.out.size hb); have n1_ := Aside0.mk ((hb.block _ (blk_lt B2.out)).trans B2.out); clear HB B2; have HB := n0_; have B2 := n1_; clear n0_ n1_; clear hb) | ((with_reducible refine gate_dst (N := 6) rfl ?_); refine box_event ?hg (N := 6) ?hd (cs := #[.string ⟨#[]⟩, .string ⟨#[]⟩, .bool false]) (t := 52) ?hr ?_; (case hd => rfl); (case hg => rfl); (case hr => first | (go_simp; done) | (go_simp; rfl)); intro g6 hg w3 hbox hb; have G6 := Aside0.mk (show w.heap.size ≤ g6 from (by rw [hg]; exact HB.out.size)); have H26 := Aside0.mk (show g2 ≠ g6 from fun e => absurd (blk_lt B2.out) (by omega)); have H56 := Aside0.mk (show g5 ≠ g6 from fun e => absurd (blk_lt B5.out) (by omega)); have B6 := Aside0.mk hbox; clear hbox hg; have n0_ := Aside0.mk (below_then HB.out HB.out.size hb); have n1_ := Aside0.mk ((hb.block _ (blk_lt B2.out)).trans B2.out); have n2_ := Aside0.mk ((hb.block _ (blk_lt B5.out)).trans B5.out); clear HB B2 B5; have HB := n0_; have B2 := n1_; have B5 := n2_; clear n0_ n1_ n2_; clear hb) | ((with_reducible refine gate_dst (N := 20) rfl ?_); refine conv_event ?hg (N := 20) ?hd tail (by omega) ?hr ?_; (case hd => rfl); (case hg => rfl); (case hr => first | (go_simp; done) | (go_simp; rfl)); intro v20 w4 hv20 hrow hb; have n0_ := Aside0.mk (below_then HB.out HB.out.size hb); have n1_ := Aside0.mk ((hb.block _ (blk_lt B2.out)).trans B2.out); have n2_ := Aside0.mk ((hb.block _ (blk_lt B5.out)).trans B5.out); have n3_ := Aside0.mk ((hb.block _ (blk_lt B6.out)).trans B6.out); clear HB B2 B5 B6; have HB := n0_; have B2 := n1_; have B5 := n2_; have B6 := n3_; clear n0_ n1_ n2_ n3_; obtain ⟨gv, capv, rfl, _, _, hcv⟩ := hrow.reads; have HCV := Aside0.mk hcv; clear hrow hb hv20 hcv) | (go_at_call 33; go_must (refine (NewReader.calls _ capv (bytesOf tail) w4 HCV.out (by rw [bytesOf_length]; omega)).mono ?_); rintro e w5 ⟨gr, Ar, cr, rfl, hgr, hrd, hb⟩; have LR := Aside0.mk hgr; have L2 := Aside0.mk (Nat.lt_of_lt_of_le (blk_lt B2.out) hgr); have L5 := Aside0.mk (Nat.lt_of_lt_of_le (blk_lt B5.out) hgr); have L6 := Aside0.mk (Nat.lt_of_lt_of_le (blk_lt B6.out) hgr); have LBW := Aside0.mk (Nat.le_trans HB.out.size hgr); have n0_ := Aside0.mk (below_then HB.out HB.out.size hb); have n1_ := Aside0.mk ((hb.block _ (blk_lt B2.out)).trans B2.out); have n2_ := Aside0.mk ((hb.block _ (blk_lt B5.out)).trans B5.out); have n3_ := Aside0.mk ((hb.block _ (blk_lt B6.out)).trans B6.out); clear HB B2 B5 B6; have HB := n0_; have B2 := n1_; have B5 := n2_; have B6 := n3_; clear n0_ n1_ n2_ n3_; have RD := Aside0.mk hrd; clear hgr hrd hb) | (go_at_call 34; go_must (refine (I64.calls gr Ar cr (bytesOf tail) 0 w5 RD.out (by omega) (by rw [bytesOf_length]; omega)).mono ?_); rintro e w6 ⟨rfl, hb⟩; have n0_ := Aside0.mk (HB.out.trans (hb.mono LBW.out)); have n1_ := Aside0.mk ((hb.block _ L2.out).trans B2.out); have n2_ := Aside0.mk ((hb.block _ L5.out).trans B5.out); have n3_ := Aside0.mk ((hb.block _ L6.out).trans B6.out); clear HB B2 B5 B6 hb; have HB := n0_; have B2 := n1_; have B5 := n2_; have B6 := n3_; clear n0_ n1_ n2_ n3_; rw [HT.out]) | ((with_reducible refine gate_store (t := 3) (p := 23) (v := .tmp 22) rfl ?_); go_must (refine scell_event rfl rfl g5 0 (.int .i64 t) _ _ B5.out ?hr ?_); (case hr => have q1_ := (blk_cell B5.out 0).trans rfl; have q2_ := blk_frozen B5.out 0; first | (go_simp; done) | (go_simp; rfl)); intro w7 hbk hu; have n0_ := Aside0.mk (hu.below HB.out G5.out); have n1_ := Aside0.mk (hu.blk B2.out H25.out); have n2_ := Aside0.mk (hu.blk B6.out H56.out.symm); clear HB B2 B6; have HB := n0_; have B2 := n1_; have B6 := n2_; clear n0_ n1_ n2_; clear B5; have B5 := Aside0.mk (show w7.heap[g5]? = some (.cells #[.int .i64 t, .slice none 0 0] 24 (0, 0)) from hbk); have H52 := Aside0.mk (Ne.symm H25.out); have c50 := (blk_cell B5.out 0).trans rfl; have c51 := (blk_cell B5.out 1).trans rfl; have c20 := (blk_cell B2.out 0).trans rfl; have c21 := (blk_cell B2.out 1).trans rfl; have f20 := blk_frozen B2.out 0; have f21 := blk_frozen B2.out 1; have hr7 : Kd.R k52 52 w7 w.heap.size (fun k_ => k_ ≠ g6 ∧ k_ ≠ g5 ∧ k_ ≠ g2) (.slice none 0 0) [] := Kd.R_nil _ _ _ _ _; have HR := Aside0.mk hr7; clear hr7; clear hbk hu) | go_step3)
            exact (RJ0_mk (k := k) ⟨G2, HF1, HB, B2⟩)
          replace q1 := Decidable.not_not.1 q1
          rw [if_pos q1] at hF
          have e1 : decide ((a0.size : Int) ≤ 10) = false := decide_eq_false (by omega)
          have hix : 10 < a0.size := by omega
          have hba : ((a0[10]'hix).toNat : Int) = bt a0 10 := bt_at a0 10 hix
          by_cases q2 : 1 < bt a0 10
          · rw [if_pos q2] at hF
            have HF1 := Aside0.mk hF
            clear hF
            have e2 : decide (1 < bt a0 10) = true := decide_eq_true q2
            go_wp2_with (first | ((with_reducible refine gate_dst (N := 5) rfl ?_); refine box_event ?hg (N := 5) ?hd (cs := #[.int .i64 0, .slice none 0 0]) (t := 24) ?hr ?_; (case hd => rfl); (case hg => rfl); (case hr => first | (go_simp; done) | (go_simp; rfl)); intro g5 hg w2 hbox hb; have G5 := Aside0.mk (show w.heap.size ≤ g5 from (by rw [hg]; exact HB.out.size)); have H25 := Aside0.mk (show g2 ≠ g5 from fun e => absurd (blk_lt B2.out) (by omega)); have B5 := Aside0.mk hbox; clear hbox hg; have n0_ := Aside0.mk (below_then HB.out HB.out.size hb); have n1_ := Aside0.mk ((hb.block _ (blk_lt B2.out)).trans B2.out); clear HB B2; have HB := n0_; have B2 := n1_; clear n0_ n1_; clear hb) | ((with_reducible refine gate_dst (N := 6) rfl ?_); refine box_event ?hg (N := 6) ?hd (cs := #[.string ⟨#[]⟩, .string ⟨#[]⟩, .bool false]) (t := 52) ?hr ?_; (case hd => rfl); (case hg => rfl); (case hr => first | (go_simp; done) | (go_simp; rfl)); intro g6 hg w3 hbox hb; have G6 := Aside0.mk (show w.heap.size ≤ g6 from (by rw [hg]; exact HB.out.size)); have H26 := Aside0.mk (show g2 ≠ g6 from fun e => absurd (blk_lt B2.out) (by omega)); have H56 := Aside0.mk (show g5 ≠ g6 from fun e => absurd (blk_lt B5.out) (by omega)); have B6 := Aside0.mk hbox; clear hbox hg; have n0_ := Aside0.mk (below_then HB.out HB.out.size hb); have n1_ := Aside0.mk ((hb.block _ (blk_lt B2.out)).trans B2.out); have n2_ := Aside0.mk ((hb.block _ (blk_lt B5.out)).trans B5.out); clear HB B2 B5; have HB := n0_; have B2 := n1_; have B5 := n2_; clear n0_ n1_ n2_; clear hb) | ((with_reducible refine gate_dst (N := 20) rfl ?_); refine conv_event ?hg (N := 20) ?hd tail (by omega) ?hr ?_; (case hd => rfl); (case hg => rfl); (case hr => first | (go_simp; done) | (go_simp; rfl)); intro v20 w4 hv20 hrow hb; have n0_ := Aside0.mk (below_then HB.out HB.out.size hb); have n1_ := Aside0.mk ((hb.block _ (blk_lt B2.out)).trans B2.out); have n2_ := Aside0.mk ((hb.block _ (blk_lt B5.out)).trans B5.out); have n3_ := Aside0.mk ((hb.block _ (blk_lt B6.out)).trans B6.out); clear HB B2 B5 B6; have HB := n0_; have B2 := n1_; have B5 := n2_; have B6 := n3_; clear n0_ n1_ n2_ n3_; obtain ⟨gv, capv, rfl, _, _, hcv⟩ := hrow.reads; have HCV := Aside0.mk hcv; clear hrow hb hv20 hcv) | (go_at_call 33; go_must (refine (NewReader.calls _ capv (bytesOf tail) w4 HCV.out (by rw [bytesOf_length]; omega)).mono ?_); rintro e w5 ⟨gr, Ar, cr, rfl, hgr, hrd, hb⟩; have LR := Aside0.mk hgr; have L2 := Aside0.mk (Nat.lt_of_lt_of_le (blk_lt B2.out) hgr); have L5 := Aside0.mk (Nat.lt_of_lt_of_le (blk_lt B5.out) hgr); have L6 := Aside0.mk (Nat.lt_of_lt_of_le (blk_lt B6.out) hgr); have LBW := Aside0.mk (Nat.le_trans HB.out.size hgr); have n0_ := Aside0.mk (below_then HB.out HB.out.size hb); have n1_ := Aside0.mk ((hb.block _ (blk_lt B2.out)).trans B2.out); have n2_ := Aside0.mk ((hb.block _ (blk_lt B5.out)).trans B5.out); have n3_ := Aside0.mk ((hb.block _ (blk_lt B6.out)).trans B6.out); clear HB B2 B5 B6; have HB := n0_; have B2 := n1_; have B5 := n2_; have B6 := n3_; clear n0_ n1_ n2_ n3_; have RD := Aside0.mk hrd; clear hgr hrd hb) | (go_at_call 34; go_must (refine (I64.calls gr Ar cr (bytesOf tail) 0 w5 RD.out (by omega) (by rw [bytesOf_length]; omega)).mono ?_); rintro e w6 ⟨rfl, hb⟩; have n0_ := Aside0.mk (HB.out.trans (hb.mono LBW.out)); have n1_ := Aside0.mk ((hb.block _ L2.out).trans B2.out); have n2_ := Aside0.mk ((hb.block _ L5.out).trans B5.out); have n3_ := Aside0.mk ((hb.block _ L6.out).trans B6.out); clear HB B2 B5 B6 hb; have HB := n0_; have B2 := n1_; have B5 := n2_; have B6 := n3_; clear n0_ n1_ n2_ n3_; rw [HT.out]) | ((with_reducible refine gate_store (t := 3) (p := 23) (v := .tmp 22) rfl ?_); go_must (refine scell_event rfl rfl g5 0 (.int .i64 t) _ _ B5.out ?hr ?_); (case hr => have q1_ := (blk_cell B5.out 0).trans rfl; have q2_ := blk_frozen B5.out 0; first | (go_simp; done) | (go_simp; rfl)); intro w7 hbk hu; have n0_ := Aside0.mk (hu.below HB.out G5.out); have n1_ := Aside0.mk (hu.blk B2.out H25.out); have n2_ := Aside0.mk (hu.blk B6.out H56.out.symm); clear HB B2 B6; have HB := n0_; have B2 := n1_; have B6 := n2_; clear n0_ n1_ n2_; clear B5; have B5 := Aside0.mk (show w7.heap[g5]? = some (.cells #[.int .i64 t, .slice none 0 0] 24 (0, 0)) from hbk); have H52 := Aside0.mk (Ne.symm H25.out); have c50 := (blk_cell B5.out 0).trans rfl; have c51 := (blk_cell B5.out 1).trans rfl; have c20 := (blk_cell B2.out 0).trans rfl; have c21 := (blk_cell B2.out 1).trans rfl; have f20 := blk_frozen B2.out 0; have f21 := blk_frozen B2.out 1; have hr7 : Kd.R k52 52 w7 w.heap.size (fun k_ => k_ ≠ g6 ∧ k_ ≠ g5 ∧ k_ ≠ g2) (.slice none 0 0) [] := Kd.R_nil _ _ _ _ _; have HR := Aside0.mk hr7; clear hr7; clear hbk hu) | go_step3)
            exact (RJ0_mk (k := k) ⟨G2, HF1, HB, B2⟩)
          rw [if_neg q2] at hF
          have e2 : decide (1 < bt a0 10) = false := decide_eq_false q2
          obtain ⟨x1, x2, hx, hxq⟩ := text_f a0 (10 + 1) (by omega) (by omega) c0.2
          rcases hp1 : textP a0 (10 + 1) with _ | ⟨key, at1⟩
          · rw [hp1] at hF hx
            have HF1 := Aside0.mk hF
            have HX := Aside0.mk (show batch_text.f a0 (11) = some (x1, x2, false) from hx)
            clear hF hx hxq hp1
            go_wp2_with (first | ((with_reducible refine gate_dst (N := 5) rfl ?_); refine box_event ?hg (N := 5) ?hd (cs := #[.int .i64 0, .slice none 0 0]) (t := 24) ?hr ?_; (case hd => rfl); (case hg => rfl); (case hr => first | (go_simp; done) | (go_simp; rfl)); intro g5 hg w2 hbox hb; have G5 := Aside0.mk (show w.heap.size ≤ g5 from (by rw [hg]; exact HB.out.size)); have H25 := Aside0.mk (show g2 ≠ g5 from fun e => absurd (blk_lt B2.out) (by omega)); have B5 := Aside0.mk hbox; clear hbox hg; have n0_ := Aside0.mk (below_then HB.out HB.out.size hb); have n1_ := Aside0.mk ((hb.block _ (blk_lt B2.out)).trans B2.out); clear HB B2; have HB := n0_; have B2 := n1_; clear n0_ n1_; clear hb) | ((with_reducible refine gate_dst (N := 6) rfl ?_); refine box_event ?hg (N := 6) ?hd (cs := #[.string ⟨#[]⟩, .string ⟨#[]⟩, .bool false]) (t := 52) ?hr ?_; (case hd => rfl); (case hg => rfl); (case hr => first | (go_simp; done) | (go_simp; rfl)); intro g6 hg w3 hbox hb; have G6 := Aside0.mk (show w.heap.size ≤ g6 from (by rw [hg]; exact HB.out.size)); have H26 := Aside0.mk (show g2 ≠ g6 from fun e => absurd (blk_lt B2.out) (by omega)); have H56 := Aside0.mk (show g5 ≠ g6 from fun e => absurd (blk_lt B5.out) (by omega)); have B6 := Aside0.mk hbox; clear hbox hg; have n0_ := Aside0.mk (below_then HB.out HB.out.size hb); have n1_ := Aside0.mk ((hb.block _ (blk_lt B2.out)).trans B2.out); have n2_ := Aside0.mk ((hb.block _ (blk_lt B5.out)).trans B5.out); clear HB B2 B5; have HB := n0_; have B2 := n1_; have B5 := n2_; clear n0_ n1_ n2_; clear hb) | ((with_reducible refine gate_dst (N := 20) rfl ?_); refine conv_event ?hg (N := 20) ?hd tail (by omega) ?hr ?_; (case hd => rfl); (case hg => rfl); (case hr => first | (go_simp; done) | (go_simp; rfl)); intro v20 w4 hv20 hrow hb; have n0_ := Aside0.mk (below_then HB.out HB.out.size hb); have n1_ := Aside0.mk ((hb.block _ (blk_lt B2.out)).trans B2.out); have n2_ := Aside0.mk ((hb.block _ (blk_lt B5.out)).trans B5.out); have n3_ := Aside0.mk ((hb.block _ (blk_lt B6.out)).trans B6.out); clear HB B2 B5 B6; have HB := n0_; have B2 := n1_; have B5 := n2_; have B6 := n3_; clear n0_ n1_ n2_ n3_; obtain ⟨gv, capv, rfl, _, _, hcv⟩ := hrow.reads; have HCV := Aside0.mk hcv; clear hrow hb hv20 hcv) | (go_at_call 33; go_must (refine (NewReader.calls _ capv (bytesOf tail) w4 HCV.out (by rw [bytesOf_length]; omega)).mono ?_); rintro e w5 ⟨gr, Ar, cr, rfl, hgr, hrd, hb⟩; have LR := Aside0.mk hgr; have L2 := Aside0.mk (Nat.lt_of_lt_of_le (blk_lt B2.out) hgr); have L5 := Aside0.mk (Nat.lt_of_lt_of_le (blk_lt B5.out) hgr); have L6 := Aside0.mk (Nat.lt_of_lt_of_le (blk_lt B6.out) hgr); have LBW := Aside0.mk (Nat.le_trans HB.out.size hgr); have n0_ := Aside0.mk (below_then HB.out HB.out.size hb); have n1_ := Aside0.mk ((hb.block _ (blk_lt B2.out)).trans B2.out); have n2_ := Aside0.mk ((hb.block _ (blk_lt B5.out)).trans B5.out); have n3_ := Aside0.mk ((hb.block _ (blk_lt B6.out)).trans B6.out); clear HB B2 B5 B6; have HB := n0_; have B2 := n1_; have B5 := n2_; have B6 := n3_; clear n0_ n1_ n2_ n3_; have RD := Aside0.mk hrd; clear hgr hrd hb) | (go_at_call 34; go_must (refine (I64.calls gr Ar cr (bytesOf tail) 0 w5 RD.out (by omega) (by rw [bytesOf_length]; omega)).mono ?_); rintro e w6 ⟨rfl, hb⟩; have n0_ := Aside0.mk (HB.out.trans (hb.mono LBW.out)); have n1_ := Aside0.mk ((hb.block _ L2.out).trans B2.out); have n2_ := Aside0.mk ((hb.block _ L5.out).trans B5.out); have n3_ := Aside0.mk ((hb.block _ L6.out).trans B6.out); clear HB B2 B5 B6 hb; have HB := n0_; have B2 := n1_; have B5 := n2_; have B6 := n3_; clear n0_ n1_ n2_ n3_; rw [HT.out]) | ((with_reducible refine gate_store (t := 3) (p := 23) (v := .tmp 22) rfl ?_); go_must (refine scell_event rfl rfl g5 0 (.int .i64 t) _ _ B5.out ?hr ?_); (case hr => have q1_ := (blk_cell B5.out 0).trans rfl; have q2_ := blk_frozen B5.out 0; first | (go_simp; done) | (go_simp; rfl)); intro w7 hbk hu; have n0_ := Aside0.mk (hu.below HB.out G5.out); have n1_ := Aside0.mk (hu.blk B2.out H25.out); have n2_ := Aside0.mk (hu.blk B6.out H56.out.symm); clear HB B2 B6; have HB := n0_; have B2 := n1_; have B6 := n2_; clear n0_ n1_ n2_; clear B5; have B5 := Aside0.mk (show w7.heap[g5]? = some (.cells #[.int .i64 t, .slice none 0 0] 24 (0, 0)) from hbk); have H52 := Aside0.mk (Ne.symm H25.out); have c50 := (blk_cell B5.out 0).trans rfl; have c51 := (blk_cell B5.out 1).trans rfl; have c20 := (blk_cell B2.out 0).trans rfl; have c21 := (blk_cell B2.out 1).trans rfl; have f20 := blk_frozen B2.out 0; have f21 := blk_frozen B2.out 1; have hr7 : Kd.R k52 52 w7 w.heap.size (fun k_ => k_ ≠ g6 ∧ k_ ≠ g5 ∧ k_ ≠ g2) (.slice none 0 0) [] := Kd.R_nil _ _ _ _ _; have HR := Aside0.mk hr7; clear hr7; clear hbk hu) | ((with_reducible refine gate_store (t := 52) (p := 6) (v := .tmp 76) rfl ?_); go_must (refine sagg_event rfl 52 (.tmp 6) (.tmp 76) rfl rfl g6 #[.string ⟨#[]⟩, .string ⟨#[]⟩, .bool (bt a0 10 == 1)] _ _ rfl rfl B6.out (by kernel_rfl) rfl rfl ?_); intro w8 hbk hu; have n0_ := Aside0.mk (hu.below HB.out G6.out); have n1_ := Aside0.mk (hu.blk B2.out H26.out); have n2_ := Aside0.mk (hu.blk B5.out H56.out); clear HB B2 B5; have HB := n0_; have B2 := n1_; have B5 := n2_; clear n0_ n1_ n2_; clear B6; have B6 := Aside0.mk hbk; have nR_ := Aside0.mk (Kd.R_step HR.out (fun k_ hk_ _ => hu.block k_ hk_.1)); clear HR; have HR := nR_; clear nR_; clear hbk hu) | (go_at_call 35; go_must (with_reducible refine (batch_text.calls a0 (11) x1 x2 false _ HX.out).mono ?_); rintro e w9 ⟨rfl, hd⟩; have hb := hd.below; have n0_ := Aside0.mk (below_then HB.out HB.out.size hb); have n1_ := Aside0.mk ((hb.block _ (blk_lt B2.out)).trans B2.out); have n2_ := Aside0.mk ((hb.block _ (blk_lt B5.out)).trans B5.out); have n3_ := Aside0.mk ((hb.block _ (blk_lt B6.out)).trans B6.out); have n4_ := Aside0.mk (Kd.R_below HR.out hb); clear HB B2 B5 B6 HR; have HB := n0_; have B2 := n1_; have B5 := n2_; have B6 := n3_; have HR := n4_; clear n0_ n1_ n2_ n3_ n4_; clear hb hd) | ((with_reducible refine gate_store (t := 9) (p := 85) (v := .tmp 82) rfl ?_); go_must (refine scell_event rfl rfl g6 0 (.string x1) _ _ B6.out ?hr ?_); (case hr => have q1_ := (blk_cell B6.out 0).trans rfl; have q2_ := blk_frozen B6.out 0; first | (go_simp; done) | (go_simp; rfl)); intro w10 hbk hu; have n0_ := Aside0.mk (hu.below HB.out G6.out); have n1_ := Aside0.mk (hu.blk B2.out H26.out); have n2_ := Aside0.mk (hu.blk B5.out H56.out); clear HB B2 B5; have HB := n0_; have B2 := n1_; have B5 := n2_; clear n0_ n1_ n2_; clear B6; have B6 := Aside0.mk (show w10.heap[g6]? = some (.cells #[.string x1, .string ⟨#[]⟩, .bool (bt a0 10 == 1)] 52 (0, 0)) from hbk); have nR_ := Aside0.mk (Kd.R_step HR.out (fun k_ hk_ _ => hu.block k_ hk_.1)); clear HR; have HR := nR_; clear nR_; clear hbk hu) | go_step3)
            exact (RJ0_mk (k := k) ⟨G2, HF1, HB, B2⟩)
          have hle := textP_le (by omega) hp1
          rw [hp1] at hF hx hxq
          have hq1 := hxq _ rfl
          simp only [Prod.mk.injEq] at hq1
          obtain ⟨rfl, rfl⟩ := hq1
          simp only at hF hle
          have HX := Aside0.mk (show batch_text.f a0 (11) = some (key, at1, true) from hx)
          clear hx hxq hp1
          obtain ⟨y1, y2, hy, hyq⟩ := text_f a0 at1 (by omega) (by omega) c0.2
          rcases hp2 : textP a0 at1 with _ | ⟨val, at2⟩
          · rw [hp2] at hF hy
            have HF1 := Aside0.mk hF
            have HY := Aside0.mk (show batch_text.f a0 at1 = some (y1, y2, false) from hy)
            clear hF hy hyq hp2
            have tok1 : True := trivial
            go_wp2_with (first | ((with_reducible refine gate_dst (N := 5) rfl ?_); refine box_event ?hg (N := 5) ?hd (cs := #[.int .i64 0, .slice none 0 0]) (t := 24) ?hr ?_; (case hd => rfl); (case hg => rfl); (case hr => first | (go_simp; done) | (go_simp; rfl)); intro g5 hg w2 hbox hb; have G5 := Aside0.mk (show w.heap.size ≤ g5 from (by rw [hg]; exact HB.out.size)); have H25 := Aside0.mk (show g2 ≠ g5 from fun e => absurd (blk_lt B2.out) (by omega)); have B5 := Aside0.mk hbox; clear hbox hg; have n0_ := Aside0.mk (below_then HB.out HB.out.size hb); have n1_ := Aside0.mk ((hb.block _ (blk_lt B2.out)).trans B2.out); clear HB B2; have HB := n0_; have B2 := n1_; clear n0_ n1_; clear hb) | ((with_reducible refine gate_dst (N := 6) rfl ?_); refine box_event ?hg (N := 6) ?hd (cs := #[.string ⟨#[]⟩, .string ⟨#[]⟩, .bool false]) (t := 52) ?hr ?_; (case hd => rfl); (case hg => rfl); (case hr => first | (go_simp; done) | (go_simp; rfl)); intro g6 hg w3 hbox hb; have G6 := Aside0.mk (show w.heap.size ≤ g6 from (by rw [hg]; exact HB.out.size)); have H26 := Aside0.mk (show g2 ≠ g6 from fun e => absurd (blk_lt B2.out) (by omega)); have H56 := Aside0.mk (show g5 ≠ g6 from fun e => absurd (blk_lt B5.out) (by omega)); have B6 := Aside0.mk hbox; clear hbox hg; have n0_ := Aside0.mk (below_then HB.out HB.out.size hb); have n1_ := Aside0.mk ((hb.block _ (blk_lt B2.out)).trans B2.out); have n2_ := Aside0.mk ((hb.block _ (blk_lt B5.out)).trans B5.out); clear HB B2 B5; have HB := n0_; have B2 := n1_; have B5 := n2_; clear n0_ n1_ n2_; clear hb) | ((with_reducible refine gate_dst (N := 20) rfl ?_); refine conv_event ?hg (N := 20) ?hd tail (by omega) ?hr ?_; (case hd => rfl); (case hg => rfl); (case hr => first | (go_simp; done) | (go_simp; rfl)); intro v20 w4 hv20 hrow hb; have n0_ := Aside0.mk (below_then HB.out HB.out.size hb); have n1_ := Aside0.mk ((hb.block _ (blk_lt B2.out)).trans B2.out); have n2_ := Aside0.mk ((hb.block _ (blk_lt B5.out)).trans B5.out); have n3_ := Aside0.mk ((hb.block _ (blk_lt B6.out)).trans B6.out); clear HB B2 B5 B6; have HB := n0_; have B2 := n1_; have B5 := n2_; have B6 := n3_; clear n0_ n1_ n2_ n3_; obtain ⟨gv, capv, rfl, _, _, hcv⟩ := hrow.reads; have HCV := Aside0.mk hcv; clear hrow hb hv20 hcv) | (go_at_call 33; go_must (refine (NewReader.calls _ capv (bytesOf tail) w4 HCV.out (by rw [bytesOf_length]; omega)).mono ?_); rintro e w5 ⟨gr, Ar, cr, rfl, hgr, hrd, hb⟩; have LR := Aside0.mk hgr; have L2 := Aside0.mk (Nat.lt_of_lt_of_le (blk_lt B2.out) hgr); have L5 := Aside0.mk (Nat.lt_of_lt_of_le (blk_lt B5.out) hgr); have L6 := Aside0.mk (Nat.lt_of_lt_of_le (blk_lt B6.out) hgr); have LBW := Aside0.mk (Nat.le_trans HB.out.size hgr); have n0_ := Aside0.mk (below_then HB.out HB.out.size hb); have n1_ := Aside0.mk ((hb.block _ (blk_lt B2.out)).trans B2.out); have n2_ := Aside0.mk ((hb.block _ (blk_lt B5.out)).trans B5.out); have n3_ := Aside0.mk ((hb.block _ (blk_lt B6.out)).trans B6.out); clear HB B2 B5 B6; have HB := n0_; have B2 := n1_; have B5 := n2_; have B6 := n3_; clear n0_ n1_ n2_ n3_; have RD := Aside0.mk hrd; clear hgr hrd hb) | (go_at_call 34; go_must (refine (I64.calls gr Ar cr (bytesOf tail) 0 w5 RD.out (by omega) (by rw [bytesOf_length]; omega)).mono ?_); rintro e w6 ⟨rfl, hb⟩; have n0_ := Aside0.mk (HB.out.trans (hb.mono LBW.out)); have n1_ := Aside0.mk ((hb.block _ L2.out).trans B2.out); have n2_ := Aside0.mk ((hb.block _ L5.out).trans B5.out); have n3_ := Aside0.mk ((hb.block _ L6.out).trans B6.out); clear HB B2 B5 B6 hb; have HB := n0_; have B2 := n1_; have B5 := n2_; have B6 := n3_; clear n0_ n1_ n2_ n3_; rw [HT.out]) | ((with_reducible refine gate_store (t := 3) (p := 23) (v := .tmp 22) rfl ?_); go_must (refine scell_event rfl rfl g5 0 (.int .i64 t) _ _ B5.out ?hr ?_); (case hr => have q1_ := (blk_cell B5.out 0).trans rfl; have q2_ := blk_frozen B5.out 0; first | (go_simp; done) | (go_simp; rfl)); intro w7 hbk hu; have n0_ := Aside0.mk (hu.below HB.out G5.out); have n1_ := Aside0.mk (hu.blk B2.out H25.out); have n2_ := Aside0.mk (hu.blk B6.out H56.out.symm); clear HB B2 B6; have HB := n0_; have B2 := n1_; have B6 := n2_; clear n0_ n1_ n2_; clear B5; have B5 := Aside0.mk (show w7.heap[g5]? = some (.cells #[.int .i64 t, .slice none 0 0] 24 (0, 0)) from hbk); have H52 := Aside0.mk (Ne.symm H25.out); have c50 := (blk_cell B5.out 0).trans rfl; have c51 := (blk_cell B5.out 1).trans rfl; have c20 := (blk_cell B2.out 0).trans rfl; have c21 := (blk_cell B2.out 1).trans rfl; have f20 := blk_frozen B2.out 0; have f21 := blk_frozen B2.out 1; have hr7 : Kd.R k52 52 w7 w.heap.size (fun k_ => k_ ≠ g6 ∧ k_ ≠ g5 ∧ k_ ≠ g2) (.slice none 0 0) [] := Kd.R_nil _ _ _ _ _; have HR := Aside0.mk hr7; clear hr7; clear hbk hu) | ((with_reducible refine gate_store (t := 52) (p := 6) (v := .tmp 76) rfl ?_); go_must (refine sagg_event rfl 52 (.tmp 6) (.tmp 76) rfl rfl g6 #[.string ⟨#[]⟩, .string ⟨#[]⟩, .bool (bt a0 10 == 1)] _ _ rfl rfl B6.out (by kernel_rfl) rfl rfl ?_); intro w8 hbk hu; have n0_ := Aside0.mk (hu.below HB.out G6.out); have n1_ := Aside0.mk (hu.blk B2.out H26.out); have n2_ := Aside0.mk (hu.blk B5.out H56.out); clear HB B2 B5; have HB := n0_; have B2 := n1_; have B5 := n2_; clear n0_ n1_ n2_; clear B6; have B6 := Aside0.mk hbk; have nR_ := Aside0.mk (Kd.R_step HR.out (fun k_ hk_ _ => hu.block k_ hk_.1)); clear HR; have HR := nR_; clear nR_; clear hbk hu) | (have t1_ := tok1; go_at_call 35; go_must (with_reducible refine (batch_text.calls a0 (11) key at1 true _ HX.out).mono ?_); rintro e w9 ⟨rfl, hd⟩; have hb := hd.below; have n0_ := Aside0.mk (below_then HB.out HB.out.size hb); have n1_ := Aside0.mk ((hb.block _ (blk_lt B2.out)).trans B2.out); have n2_ := Aside0.mk ((hb.block _ (blk_lt B5.out)).trans B5.out); have n3_ := Aside0.mk ((hb.block _ (blk_lt B6.out)).trans B6.out); have n4_ := Aside0.mk (Kd.R_below HR.out hb); clear HB B2 B5 B6 HR; have HB := n0_; have B2 := n1_; have B5 := n2_; have B6 := n3_; have HR := n4_; clear n0_ n1_ n2_ n3_ n4_; clear hb hd; clear tok1) | ((with_reducible refine gate_store (t := 9) (p := 85) (v := .tmp 82) rfl ?_); go_must (refine scell_event rfl rfl g6 0 (.string key) _ _ B6.out ?hr ?_); (case hr => have q1_ := (blk_cell B6.out 0).trans rfl; have q2_ := blk_frozen B6.out 0; first | (go_simp; done) | (go_simp; rfl)); intro w10 hbk hu; have n0_ := Aside0.mk (hu.below HB.out G6.out); have n1_ := Aside0.mk (hu.blk B2.out H26.out); have n2_ := Aside0.mk (hu.blk B5.out H56.out); clear HB B2 B5; have HB := n0_; have B2 := n1_; have B5 := n2_; clear n0_ n1_ n2_; clear B6; have B6 := Aside0.mk (show w10.heap[g6]? = some (.cells #[.string key, .string ⟨#[]⟩, .bool (bt a0 10 == 1)] 52 (0, 0)) from hbk); have nR_ := Aside0.mk (Kd.R_step HR.out (fun k_ hk_ _ => hu.block k_ hk_.1)); clear HR; have HR := nR_; clear nR_; clear hbk hu) | (go_at_call 35; go_must (with_reducible refine (batch_text.calls a0 (at1) y1 y2 false _ HY.out).mono ?_); rintro e w11 ⟨rfl, hd⟩; have hb := hd.below; have n0_ := Aside0.mk (below_then HB.out HB.out.size hb); have n1_ := Aside0.mk ((hb.block _ (blk_lt B2.out)).trans B2.out); have n2_ := Aside0.mk ((hb.block _ (blk_lt B5.out)).trans B5.out); have n3_ := Aside0.mk ((hb.block _ (blk_lt B6.out)).trans B6.out); have n4_ := Aside0.mk (Kd.R_below HR.out hb); clear HB B2 B5 B6 HR; have HB := n0_; have B2 := n1_; have B5 := n2_; have B6 := n3_; have HR := n4_; clear n0_ n1_ n2_ n3_ n4_; clear hb hd) | ((with_reducible refine gate_store (t := 9) (p := 95) (v := .tmp 92) rfl ?_); go_must (refine scell_event rfl rfl g6 1 (.string y1) _ _ B6.out ?hr ?_); (case hr => have q1_ := (blk_cell B6.out 1).trans rfl; have q2_ := blk_frozen B6.out 1; first | (go_simp; done) | (go_simp; rfl)); intro w12 hbk hu; have n0_ := Aside0.mk (hu.below HB.out G6.out); have n1_ := Aside0.mk (hu.blk B2.out H26.out); have n2_ := Aside0.mk (hu.blk B5.out H56.out); clear HB B2 B5; have HB := n0_; have B2 := n1_; have B5 := n2_; clear n0_ n1_ n2_; clear B6; have B6 := Aside0.mk (show w12.heap[g6]? = some (.cells #[.string key, .string y1, .bool (bt a0 10 == 1)] 52 (0, 0)) from hbk); have nR_ := Aside0.mk (Kd.R_step HR.out (fun k_ hk_ _ => hu.block k_ hk_.1)); clear HR; have HR := nR_; clear nR_; have d51 := (blk_cell B5.out 1).trans rfl; have d60 := (blk_cell B6.out 0).trans rfl; have d61 := (blk_cell B6.out 1).trans rfl; have d62 := (blk_cell B6.out 2).trans rfl; clear hbk hu) | go_step3)
            exact (RJ0_mk (k := k) ⟨G2, HF1, HB, B2⟩)
          have hle2 := textP_le (by omega) hp2
          rw [hp2] at hF hy hyq
          have hq2 := hyq _ rfl
          simp only [Prod.mk.injEq] at hq2
          obtain ⟨rfl, rfl⟩ := hq2
          simp only at hF hle2
          have HY := Aside0.mk (show batch_text.f a0 at1 = some (val, at2, true) from hy)
          clear hy hyq hp2
          have HF2 := Aside0.mk hF
          clear hF
          have tok1 : True := trivial
          go_wp2_with (first | ((with_reducible refine gate_dst (N := 5) rfl ?_); refine box_event ?hg (N := 5) ?hd (cs := #[.int .i64 0, .slice none 0 0]) (t := 24) ?hr ?_; (case hd => rfl); (case hg => rfl); (case hr => first | (go_simp; done) | (go_simp; rfl)); intro g5 hg w2 hbox hb; have G5 := Aside0.mk (show w.heap.size ≤ g5 from (by rw [hg]; exact HB.out.size)); have H25 := Aside0.mk (show g2 ≠ g5 from fun e => absurd (blk_lt B2.out) (by omega)); have B5 := Aside0.mk hbox; clear hbox hg; have n0_ := Aside0.mk (below_then HB.out HB.out.size hb); have n1_ := Aside0.mk ((hb.block _ (blk_lt B2.out)).trans B2.out); clear HB B2; have HB := n0_; have B2 := n1_; clear n0_ n1_; clear hb) | ((with_reducible refine gate_dst (N := 6) rfl ?_); refine box_event ?hg (N := 6) ?hd (cs := #[.string ⟨#[]⟩, .string ⟨#[]⟩, .bool false]) (t := 52) ?hr ?_; (case hd => rfl); (case hg => rfl); (case hr => first | (go_simp; done) | (go_simp; rfl)); intro g6 hg w3 hbox hb; have G6 := Aside0.mk (show w.heap.size ≤ g6 from (by rw [hg]; exact HB.out.size)); have H26 := Aside0.mk (show g2 ≠ g6 from fun e => absurd (blk_lt B2.out) (by omega)); have H56 := Aside0.mk (show g5 ≠ g6 from fun e => absurd (blk_lt B5.out) (by omega)); have B6 := Aside0.mk hbox; clear hbox hg; have n0_ := Aside0.mk (below_then HB.out HB.out.size hb); have n1_ := Aside0.mk ((hb.block _ (blk_lt B2.out)).trans B2.out); have n2_ := Aside0.mk ((hb.block _ (blk_lt B5.out)).trans B5.out); clear HB B2 B5; have HB := n0_; have B2 := n1_; have B5 := n2_; clear n0_ n1_ n2_; clear hb) | ((with_reducible refine gate_dst (N := 20) rfl ?_); refine conv_event ?hg (N := 20) ?hd tail (by omega) ?hr ?_; (case hd => rfl); (case hg => rfl); (case hr => first | (go_simp; done) | (go_simp; rfl)); intro v20 w4 hv20 hrow hb; have n0_ := Aside0.mk (below_then HB.out HB.out.size hb); have n1_ := Aside0.mk ((hb.block _ (blk_lt B2.out)).trans B2.out); have n2_ := Aside0.mk ((hb.block _ (blk_lt B5.out)).trans B5.out); have n3_ := Aside0.mk ((hb.block _ (blk_lt B6.out)).trans B6.out); clear HB B2 B5 B6; have HB := n0_; have B2 := n1_; have B5 := n2_; have B6 := n3_; clear n0_ n1_ n2_ n3_; obtain ⟨gv, capv, rfl, _, _, hcv⟩ := hrow.reads; have HCV := Aside0.mk hcv; clear hrow hb hv20 hcv) | (go_at_call 33; go_must (refine (NewReader.calls _ capv (bytesOf tail) w4 HCV.out (by rw [bytesOf_length]; omega)).mono ?_); rintro e w5 ⟨gr, Ar, cr, rfl, hgr, hrd, hb⟩; have LR := Aside0.mk hgr; have L2 := Aside0.mk (Nat.lt_of_lt_of_le (blk_lt B2.out) hgr); have L5 := Aside0.mk (Nat.lt_of_lt_of_le (blk_lt B5.out) hgr); have L6 := Aside0.mk (Nat.lt_of_lt_of_le (blk_lt B6.out) hgr); have LBW := Aside0.mk (Nat.le_trans HB.out.size hgr); have n0_ := Aside0.mk (below_then HB.out HB.out.size hb); have n1_ := Aside0.mk ((hb.block _ (blk_lt B2.out)).trans B2.out); have n2_ := Aside0.mk ((hb.block _ (blk_lt B5.out)).trans B5.out); have n3_ := Aside0.mk ((hb.block _ (blk_lt B6.out)).trans B6.out); clear HB B2 B5 B6; have HB := n0_; have B2 := n1_; have B5 := n2_; have B6 := n3_; clear n0_ n1_ n2_ n3_; have RD := Aside0.mk hrd; clear hgr hrd hb) | (go_at_call 34; go_must (refine (I64.calls gr Ar cr (bytesOf tail) 0 w5 RD.out (by omega) (by rw [bytesOf_length]; omega)).mono ?_); rintro e w6 ⟨rfl, hb⟩; have n0_ := Aside0.mk (HB.out.trans (hb.mono LBW.out)); have n1_ := Aside0.mk ((hb.block _ L2.out).trans B2.out); have n2_ := Aside0.mk ((hb.block _ L5.out).trans B5.out); have n3_ := Aside0.mk ((hb.block _ L6.out).trans B6.out); clear HB B2 B5 B6 hb; have HB := n0_; have B2 := n1_; have B5 := n2_; have B6 := n3_; clear n0_ n1_ n2_ n3_; rw [HT.out]) | ((with_reducible refine gate_store (t := 3) (p := 23) (v := .tmp 22) rfl ?_); go_must (refine scell_event rfl rfl g5 0 (.int .i64 t) _ _ B5.out ?hr ?_); (case hr => have q1_ := (blk_cell B5.out 0).trans rfl; have q2_ := blk_frozen B5.out 0; first | (go_simp; done) | (go_simp; rfl)); intro w7 hbk hu; have n0_ := Aside0.mk (hu.below HB.out G5.out); have n1_ := Aside0.mk (hu.blk B2.out H25.out); have n2_ := Aside0.mk (hu.blk B6.out H56.out.symm); clear HB B2 B6; have HB := n0_; have B2 := n1_; have B6 := n2_; clear n0_ n1_ n2_; clear B5; have B5 := Aside0.mk (show w7.heap[g5]? = some (.cells #[.int .i64 t, .slice none 0 0] 24 (0, 0)) from hbk); have H52 := Aside0.mk (Ne.symm H25.out); have c50 := (blk_cell B5.out 0).trans rfl; have c51 := (blk_cell B5.out 1).trans rfl; have c20 := (blk_cell B2.out 0).trans rfl; have c21 := (blk_cell B2.out 1).trans rfl; have f20 := blk_frozen B2.out 0; have f21 := blk_frozen B2.out 1; have hr7 : Kd.R k52 52 w7 w.heap.size (fun k_ => k_ ≠ g6 ∧ k_ ≠ g5 ∧ k_ ≠ g2) (.slice none 0 0) [] := Kd.R_nil _ _ _ _ _; have HR := Aside0.mk hr7; clear hr7; clear hbk hu) | ((with_reducible refine gate_store (t := 52) (p := 6) (v := .tmp 76) rfl ?_); go_must (refine sagg_event rfl 52 (.tmp 6) (.tmp 76) rfl rfl g6 #[.string ⟨#[]⟩, .string ⟨#[]⟩, .bool (bt a0 10 == 1)] _ _ rfl rfl B6.out (by kernel_rfl) rfl rfl ?_); intro w8 hbk hu; have n0_ := Aside0.mk (hu.below HB.out G6.out); have n1_ := Aside0.mk (hu.blk B2.out H26.out); have n2_ := Aside0.mk (hu.blk B5.out H56.out); clear HB B2 B5; have HB := n0_; have B2 := n1_; have B5 := n2_; clear n0_ n1_ n2_; clear B6; have B6 := Aside0.mk hbk; have nR_ := Aside0.mk (Kd.R_step HR.out (fun k_ hk_ _ => hu.block k_ hk_.1)); clear HR; have HR := nR_; clear nR_; clear hbk hu) | (have t1_ := tok1; go_at_call 35; go_must (with_reducible refine (batch_text.calls a0 (11) key at1 true _ HX.out).mono ?_); rintro e w9 ⟨rfl, hd⟩; have hb := hd.below; have n0_ := Aside0.mk (below_then HB.out HB.out.size hb); have n1_ := Aside0.mk ((hb.block _ (blk_lt B2.out)).trans B2.out); have n2_ := Aside0.mk ((hb.block _ (blk_lt B5.out)).trans B5.out); have n3_ := Aside0.mk ((hb.block _ (blk_lt B6.out)).trans B6.out); have n4_ := Aside0.mk (Kd.R_below HR.out hb); clear HB B2 B5 B6 HR; have HB := n0_; have B2 := n1_; have B5 := n2_; have B6 := n3_; have HR := n4_; clear n0_ n1_ n2_ n3_ n4_; clear hb hd; clear tok1) | ((with_reducible refine gate_store (t := 9) (p := 85) (v := .tmp 82) rfl ?_); go_must (refine scell_event rfl rfl g6 0 (.string key) _ _ B6.out ?hr ?_); (case hr => have q1_ := (blk_cell B6.out 0).trans rfl; have q2_ := blk_frozen B6.out 0; first | (go_simp; done) | (go_simp; rfl)); intro w10 hbk hu; have n0_ := Aside0.mk (hu.below HB.out G6.out); have n1_ := Aside0.mk (hu.blk B2.out H26.out); have n2_ := Aside0.mk (hu.blk B5.out H56.out); clear HB B2 B5; have HB := n0_; have B2 := n1_; have B5 := n2_; clear n0_ n1_ n2_; clear B6; have B6 := Aside0.mk (show w10.heap[g6]? = some (.cells #[.string key, .string ⟨#[]⟩, .bool (bt a0 10 == 1)] 52 (0, 0)) from hbk); have nR_ := Aside0.mk (Kd.R_step HR.out (fun k_ hk_ _ => hu.block k_ hk_.1)); clear HR; have HR := nR_; clear nR_; clear hbk hu) | (go_at_call 35; go_must (with_reducible refine (batch_text.calls a0 (at1) val at2 true _ HY.out).mono ?_); rintro e w11 ⟨rfl, hd⟩; have hb := hd.below; have n0_ := Aside0.mk (below_then HB.out HB.out.size hb); have n1_ := Aside0.mk ((hb.block _ (blk_lt B2.out)).trans B2.out); have n2_ := Aside0.mk ((hb.block _ (blk_lt B5.out)).trans B5.out); have n3_ := Aside0.mk ((hb.block _ (blk_lt B6.out)).trans B6.out); have n4_ := Aside0.mk (Kd.R_below HR.out hb); clear HB B2 B5 B6 HR; have HB := n0_; have B2 := n1_; have B5 := n2_; have B6 := n3_; have HR := n4_; clear n0_ n1_ n2_ n3_ n4_; clear hb hd) | ((with_reducible refine gate_store (t := 9) (p := 95) (v := .tmp 92) rfl ?_); go_must (refine scell_event rfl rfl g6 1 (.string val) _ _ B6.out ?hr ?_); (case hr => have q1_ := (blk_cell B6.out 1).trans rfl; have q2_ := blk_frozen B6.out 1; first | (go_simp; done) | (go_simp; rfl)); intro w12 hbk hu; have n0_ := Aside0.mk (hu.below HB.out G6.out); have n1_ := Aside0.mk (hu.blk B2.out H26.out); have n2_ := Aside0.mk (hu.blk B5.out H56.out); clear HB B2 B5; have HB := n0_; have B2 := n1_; have B5 := n2_; clear n0_ n1_ n2_; clear B6; have B6 := Aside0.mk (show w12.heap[g6]? = some (.cells #[.string key, .string val, .bool (bt a0 10 == 1)] 52 (0, 0)) from hbk); have nR_ := Aside0.mk (Kd.R_step HR.out (fun k_ hk_ _ => hu.block k_ hk_.1)); clear HR; have HR := nR_; clear nR_; have d51 := (blk_cell B5.out 1).trans rfl; have d60 := (blk_cell B6.out 0).trans rfl; have d61 := (blk_cell B6.out 1).trans rfl; have d62 := (blk_cell B6.out 2).trans rfl; clear hbk hu) | ((with_reducible refine gate_builtin (b := .append) (xs := #[.tmp 99, .tmp 101]) rfl ?_); at_builtin; go_must (refine Kd.R_append k52 (w0 := w) w.heap.size rfl (.tmp 99) (.tmp 101) 22 52 (.agg #[(.string ⟨#[]⟩), (.string ⟨#[]⟩), (.bool false)]) 40 rfl Try.underlying22 info52 rfl (by decide) (by decide) (.slice none 0 0) [] (⟨key, val, (bt a0 10 == 1)⟩ : S52) [.string key, .string val, .bool (bt a0 10 == 1)] (fun k_ => k_ ≠ g6 ∧ k_ ≠ g5 ∧ k_ ≠ g2) (fun _ => False) rfl rfl (k52_mkM _ _ _ (⟨key, val, (bt a0 10 == 1)⟩ : S52)) (fun _ hk => hk.elim) ?fr HR.out HB.out HB.out.size ?len ?_); (case fr => exact fun k_ hk_ => ⟨fun e_ => by have := blk_lt B6.out; omega, fun e_ => by have := blk_lt B5.out; omega, fun e_ => by have := blk_lt B2.out; omega⟩); (case len => first | omega | (simp; done) | (simp; omega)); intro v1 w13 ho hb hg hat; have n1_ := Aside0.mk (blk_grown B2.out hg (fun e_ => (HR.out.1 g2 e_.symm).2.2 rfl)); have n2_ := Aside0.mk (blk_grown B5.out hg (fun e_ => (HR.out.1 g5 e_.symm).2.1 rfl)); have n3_ := Aside0.mk (blk_grown B6.out hg (fun e_ => (HR.out.1 g6 e_.symm).1 rfl)); clear HB B2 B5 B6 HR; have HB := Aside0.mk hb; have B2 := n1_; have B5 := n2_; have B6 := n3_; clear n1_ n2_ n3_; obtain ⟨A1, c1, e1_⟩ := Kd.R_slice ho; simp only [List.length_append, List.length_singleton, List.length_nil, Nat.zero_add] at e1_; subst e1_; have HR := Aside0.mk ho; clear ho hb hg hat) | ((with_reducible refine gate_store (t := 22) (p := 103) (v := .tmp 102) rfl ?_); go_must (refine scell_event rfl rfl g5 1 (.slice A1 1 c1) _ _ B5.out ?hr ?_); (case hr => have q1_ := (blk_cell B5.out 1).trans rfl; have q2_ := blk_frozen B5.out 1; first | (go_simp; done) | (go_simp; rfl)); intro w14 hbk hu; have n0_ := Aside0.mk (hu.below HB.out G5.out); have n1_ := Aside0.mk (hu.blk B2.out H25.out); have n2_ := Aside0.mk (hu.blk B6.out H56.out.symm); clear HB B2 B6; have HB := n0_; have B2 := n1_; have B6 := n2_; clear n0_ n1_ n2_; clear B5; have B5 := Aside0.mk (show w14.heap[g5]? = some (.cells #[.int .i64 t, .slice A1 1 c1] 24 (0, 0)) from hbk); have nR_ := Aside0.mk (Kd.R_step HR.out (fun k_ hk_ _ => hu.block k_ hk_.2.1)); clear HR; have HR := nR_; clear nR_; clear hbk hu) | go_step3)
          exact (RJ2_mk (k := k) ⟨⟨⟨H25.out, H26.out, H56.out, G2.out, G5.out, G6.out⟩⟩, c0, by omega, by omega, by omega, by (first | omega | (simp; omega)), ⟨by rw [HNN.out]; exact HF2.out⟩, HB, B2, B5, B6, HR⟩)
      · have e66 : (bt a0 0 != 66) = true := by simpa using h66
        have HF2 : Aside0 (rdBad = some r) := ⟨by have := HFF.out; rw [if_neg (by omega), if_pos (by omega)] at this; exact this⟩
        clear HFF h77 h66
        go_wp2_with (first | ((with_reducible refine gate_dst (N := 5) rfl ?_); refine box_event ?hg (N := 5) ?hd (cs := #[.int .i64 0, .slice none 0 0]) (t := 24) ?hr ?_; (case hd => rfl); (case hg => rfl); (case hr => first | (go_simp; done) | (go_simp; rfl)); intro g5 hg w2 hbox hb; have G5 := Aside0.mk (show w.heap.size ≤ g5 from (by rw [hg]; exact HB.out.size)); have H25 := Aside0.mk (show g2 ≠ g5 from fun e => absurd (blk_lt B2.out) (by omega)); have B5 := Aside0.mk hbox; clear hbox hg; have n0_ := Aside0.mk (below_then HB.out HB.out.size hb); have n1_ := Aside0.mk ((hb.block _ (blk_lt B2.out)).trans B2.out); clear HB B2; have HB := n0_; have B2 := n1_; clear n0_ n1_; clear hb) | ((with_reducible refine gate_dst (N := 6) rfl ?_); refine box_event ?hg (N := 6) ?hd (cs := #[.string ⟨#[]⟩, .string ⟨#[]⟩, .bool false]) (t := 52) ?hr ?_; (case hd => rfl); (case hg => rfl); (case hr => first | (go_simp; done) | (go_simp; rfl)); intro g6 hg w3 hbox hb; have G6 := Aside0.mk (show w.heap.size ≤ g6 from (by rw [hg]; exact HB.out.size)); have H26 := Aside0.mk (show g2 ≠ g6 from fun e => absurd (blk_lt B2.out) (by omega)); have H56 := Aside0.mk (show g5 ≠ g6 from fun e => absurd (blk_lt B5.out) (by omega)); have B6 := Aside0.mk hbox; clear hbox hg; have n0_ := Aside0.mk (below_then HB.out HB.out.size hb); have n1_ := Aside0.mk ((hb.block _ (blk_lt B2.out)).trans B2.out); have n2_ := Aside0.mk ((hb.block _ (blk_lt B5.out)).trans B5.out); clear HB B2 B5; have HB := n0_; have B2 := n1_; have B5 := n2_; clear n0_ n1_ n2_; clear hb) | ((with_reducible refine gate_dst (N := 20) rfl ?_); refine conv_event ?hg (N := 20) ?hd tail (by omega) ?hr ?_; (case hd => rfl); (case hg => rfl); (case hr => first | (go_simp; done) | (go_simp; rfl)); intro v20 w4 hv20 hrow hb; have n0_ := Aside0.mk (below_then HB.out HB.out.size hb); have n1_ := Aside0.mk ((hb.block _ (blk_lt B2.out)).trans B2.out); have n2_ := Aside0.mk ((hb.block _ (blk_lt B5.out)).trans B5.out); have n3_ := Aside0.mk ((hb.block _ (blk_lt B6.out)).trans B6.out); clear HB B2 B5 B6; have HB := n0_; have B2 := n1_; have B5 := n2_; have B6 := n3_; clear n0_ n1_ n2_ n3_; obtain ⟨gv, capv, rfl, _, _, hcv⟩ := hrow.reads; have HCV := Aside0.mk hcv; clear hrow hb hv20 hcv) | (go_at_call 33; go_must (refine (NewReader.calls _ capv (bytesOf tail) w4 HCV.out (by rw [bytesOf_length]; omega)).mono ?_); rintro e w5 ⟨gr, Ar, cr, rfl, hgr, hrd, hb⟩; have LR := Aside0.mk hgr; have L2 := Aside0.mk (Nat.lt_of_lt_of_le (blk_lt B2.out) hgr); have L5 := Aside0.mk (Nat.lt_of_lt_of_le (blk_lt B5.out) hgr); have L6 := Aside0.mk (Nat.lt_of_lt_of_le (blk_lt B6.out) hgr); have LBW := Aside0.mk (Nat.le_trans HB.out.size hgr); have n0_ := Aside0.mk (below_then HB.out HB.out.size hb); have n1_ := Aside0.mk ((hb.block _ (blk_lt B2.out)).trans B2.out); have n2_ := Aside0.mk ((hb.block _ (blk_lt B5.out)).trans B5.out); have n3_ := Aside0.mk ((hb.block _ (blk_lt B6.out)).trans B6.out); clear HB B2 B5 B6; have HB := n0_; have B2 := n1_; have B5 := n2_; have B6 := n3_; clear n0_ n1_ n2_ n3_; have RD := Aside0.mk hrd; clear hgr hrd hb) | (go_at_call 34; go_must (refine (I64.calls gr Ar cr (bytesOf tail) 0 w5 RD.out (by omega) (by rw [bytesOf_length]; omega)).mono ?_); rintro e w6 ⟨rfl, hb⟩; have n0_ := Aside0.mk (HB.out.trans (hb.mono LBW.out)); have n1_ := Aside0.mk ((hb.block _ L2.out).trans B2.out); have n2_ := Aside0.mk ((hb.block _ L5.out).trans B5.out); have n3_ := Aside0.mk ((hb.block _ L6.out).trans B6.out); clear HB B2 B5 B6 hb; have HB := n0_; have B2 := n1_; have B5 := n2_; have B6 := n3_; clear n0_ n1_ n2_ n3_; rw [HT.out]) | ((with_reducible refine gate_store (t := 3) (p := 23) (v := .tmp 22) rfl ?_); go_must (refine scell_event rfl rfl g5 0 (.int .i64 t) _ _ B5.out ?hr ?_); (case hr => have q1_ := (blk_cell B5.out 0).trans rfl; have q2_ := blk_frozen B5.out 0; first | (go_simp; done) | (go_simp; rfl)); intro w7 hbk hu; have n0_ := Aside0.mk (hu.below HB.out G5.out); have n1_ := Aside0.mk (hu.blk B2.out H25.out); have n2_ := Aside0.mk (hu.blk B6.out H56.out.symm); clear HB B2 B6; have HB := n0_; have B2 := n1_; have B6 := n2_; clear n0_ n1_ n2_; clear B5; have B5 := Aside0.mk (show w7.heap[g5]? = some (.cells #[.int .i64 t, .slice none 0 0] 24 (0, 0)) from hbk); have H52 := Aside0.mk (Ne.symm H25.out); have c50 := (blk_cell B5.out 0).trans rfl; have c51 := (blk_cell B5.out 1).trans rfl; have c20 := (blk_cell B2.out 0).trans rfl; have c21 := (blk_cell B2.out 1).trans rfl; have f20 := blk_frozen B2.out 0; have f21 := blk_frozen B2.out 1; have hr7 : Kd.R k52 52 w7 w.heap.size (fun k_ => k_ ≠ g6 ∧ k_ ≠ g5 ∧ k_ ≠ g2) (.slice none 0 0) [] := Kd.R_nil _ _ _ _ _; have HR := Aside0.mk hr7; clear hr7; clear hbk hu) | go_step3)
        exact RJ0_mk (k := k) ⟨G2, HF2, HB, B2⟩
  · intro l a w1 hJ
    clear HB B2 HF
    match l, hJ with
    | 0, hJ =>
      obtain ⟨u, rfl, G2, HF, HB, B2⟩ := hJ
      refine ⟨_, rfl, ?_⟩
      have hF := HF.out
      unfold rdBad at hF
      have hq := Option.some.inj hF
      obtain ⟨rfl, rfl, rfl, rfl⟩ : 0 = r1 ∧ [] = r2 ∧ 0 = r3 ∧ 4 = r4 := by have := hq.trans HRR.out; simpa using this
      go_wp2_with (first | ((with_reducible refine gate_store (t := 24) (p := 2) (v := .tmp 114) rfl ?_); go_must (refine sagg_event rfl 24 (.tmp 2) (.tmp 114) rfl rfl g2 #[.int .i64 0, .slice none 0 0] _ _ rfl rfl B2.out (by kernel_rfl) rfl rfl ?_); intro w9 hbk hu; have n0_ := Aside0.mk (hu.below HB.out G2.out); clear HB; have HB := n0_; clear n0_; clear B2; have B2 := Aside0.mk hbk; have c20 := (blk_cell B2.out 0).trans rfl; have c21 := (blk_cell B2.out 1).trans rfl; clear hbk hu) | go_step3)
      refine bodyPost_ret (v := .tuple #[.agg #[.int .i64 0, .slice none 0 0], .int .i64 0, .int .i64 4]) ?_ rfl ?_
      · simp [results, Try.results10, go_sem, c20, c21]
      · exact ⟨.slice none 0 0, rfl, Kd.R_nil _ _ _ _ _, HB.out⟩
    | 1, hJ =>
      obtain ⟨u, v, g5, g6, t, at_, acc, rfl, NE, HF, HB, B2, B5, HR⟩ := hJ
      refine ⟨_, rfl, ?_⟩
      have H25 := Aside0.mk NE.out.1
      have G2 := Aside0.mk NE.out.2.2.2.1
      have G5 := Aside0.mk NE.out.2.2.2.2.1
      have hF := HF.out
      unfold readEnd at hF
      by_cases q0 : ¬ (at_ = (a0.size : Int))
      · rw [if_neg q0] at hF
        have hq := Option.some.inj hF
        obtain ⟨rfl, rfl, rfl, rfl⟩ : 0 = r1 ∧ [] = r2 ∧ 0 = r3 ∧ 4 = r4 := by have := hq.trans HRR.out; simpa using this
        have e0 : (at_ == (a0.size : Int)) = false := by rw [beq_eq_false_iff_ne]; exact q0
        clear hF hq HF q0
        go_wp2_with (first | ((with_reducible refine gate_store (t := 24) (p := 2) (v := .tmp 114) rfl ?_); go_must (refine sagg_event rfl 24 (.tmp 2) (.tmp 114) rfl rfl g2 #[.int .i64 0, .slice none 0 0] _ _ rfl rfl B2.out (by kernel_rfl) rfl rfl ?_); intro w9 hbk hu; have n0_ := Aside0.mk (hu.below HB.out G2.out); clear HB; have HB := n0_; clear n0_; clear B2; have B2 := Aside0.mk hbk; have c90 := (blk_cell B2.out 0).trans rfl; have c91 := (blk_cell B2.out 1).trans rfl; clear hbk hu) | go_step3)
        refine bodyPost_ret (v := .tuple #[.agg #[.int .i64 0, .slice none 0 0], .int .i64 0, .int .i64 4]) ?_ rfl ?_
        · simp [results, Try.results10, go_sem, c90, c91]
        · exact ⟨.slice none 0 0, rfl, Kd.R_nil _ _ _ _ _, HB.out⟩
      replace q0 := Decidable.not_not.1 q0
      rw [if_pos q0] at hF
      obtain ⟨e0_, hck, hF⟩ := Option.bind_eq_some_iff.1 hF
      have HCK := Aside0.mk hck
      have e0 : (at_ == (a0.size : Int)) = true := by rw [beq_iff_eq]; exact q0
      obtain ⟨A1, c1, hv, hlc, hcr⟩ := Kd.R_reads HR.out
      subst hv
      have HCR := Aside0.mk hcr
      have HLC := Aside0.mk hlc
      have c50 := (blk_cell B5.out 0).trans rfl
      have c51 := (blk_cell B5.out 1).trans rfl
      have HQ0 := Aside0.mk q0
      clear hck hlc hcr HF q0
      by_cases q1 : e0_ = 0
      · rw [if_pos q1] at hF
        subst q1
        have hq := Option.some.inj hF
        obtain ⟨rfl, rfl, rfl, rfl⟩ : t = r1 ∧ acc = r2 ∧ 0 = r3 ∧ 0 = r4 := by have := hq.trans HRR.out; simpa using this
        clear hF hq
        go_wp2_with (first | (go_at_call 18; go_must (with_reducible refine (batch_Check.calls k t (A1) c1 acc _ _ HCR.out HLC.out HCK.out).mono ?_); rintro e w8 ⟨rfl, hb⟩; have n0_ := Aside0.mk (below_then HB.out HB.out.size hb); have n1_ := Aside0.mk ((hb.block _ (blk_lt B2.out)).trans B2.out); have n2_ := Aside0.mk ((hb.block _ (blk_lt B5.out)).trans B5.out); have n3_ := Aside0.mk (Kd.R_below HR.out hb); clear HB B2 B5 HR; have HB := n0_; have B2 := n1_; have B5 := n2_; have HR := n3_; clear n0_ n1_ n2_ n3_; have c50 := (blk_cell B5.out 0).trans rfl; have c51 := (blk_cell B5.out 1).trans rfl; have c20 := (blk_cell B2.out 0).trans rfl; have c21 := (blk_cell B2.out 1).trans rfl; clear hb) | ((with_reducible refine gate_store (t := 24) (p := 2) (v := .tmp 114) rfl ?_); go_must (refine sagg_event rfl 24 (.tmp 2) (.tmp 114) rfl rfl g2 #[.int .i64 0, .slice none 0 0] _ _ rfl rfl B2.out (by kernel_rfl) rfl rfl ?_); intro w9 hbk hu; have n0_ := Aside0.mk (hu.below HB.out G2.out); clear HB; have HB := n0_; clear n0_; clear B2; have B2 := Aside0.mk hbk; have c90 := (blk_cell B2.out 0).trans rfl; have c91 := (blk_cell B2.out 1).trans rfl; clear hbk hu) | ((with_reducible refine gate_store (t := 24) (p := 2) (v := .tmp 113) rfl ?_); go_must (refine sagg_event rfl 24 (.tmp 2) (.tmp 113) rfl rfl g2 #[.int .i64 t, .slice A1 acc.length c1] _ _ rfl rfl B2.out (by kernel_rfl) rfl rfl ?_); intro w9 hbk hu; have n0_ := Aside0.mk (hu.below HB.out G2.out); clear HB; have HB := n0_; clear n0_; clear B2; have B2 := Aside0.mk hbk; have nR_ := Aside0.mk (Kd.R_step HR.out (fun k_ hk_ _ => hu.block k_ hk_.2.2)); clear HR; have HR := nR_; clear nR_; have c90 := (blk_cell B2.out 0).trans rfl; have c91 := (blk_cell B2.out 1).trans rfl; clear hbk hu) | go_step3)
        refine bodyPost_ret (v := .tuple #[.agg #[.int .i64 t, .slice A1 acc.length c1], .int .i64 0, .int .i64 0]) ?_ rfl ?_
        · simp [results, Try.results10, go_sem, c90, c91]
        · exact ⟨_, rfl, Kd.R_mono HR.out (fun _ _ => trivial), HB.out⟩
      · rw [if_neg q1] at hF
        have hq := Option.some.inj hF
        obtain ⟨rfl, rfl, rfl, rfl⟩ : 0 = r1 ∧ [] = r2 ∧ 0 = r3 ∧ 4 = r4 := by have := hq.trans HRR.out; simpa using this
        have e1 : (e0_ == 0) = false := by rw [beq_eq_false_iff_ne]; exact q1
        clear hF hq q1
        go_wp2_with (first | (go_at_call 18; go_must (with_reducible refine (batch_Check.calls k t (A1) c1 acc _ _ HCR.out HLC.out HCK.out).mono ?_); rintro e w8 ⟨rfl, hb⟩; have n0_ := Aside0.mk (below_then HB.out HB.out.size hb); have n1_ := Aside0.mk ((hb.block _ (blk_lt B2.out)).trans B2.out); have n2_ := Aside0.mk ((hb.block _ (blk_lt B5.out)).trans B5.out); have n3_ := Aside0.mk (Kd.R_below HR.out hb); clear HB B2 B5 HR; have HB := n0_; have B2 := n1_; have B5 := n2_; have HR := n3_; clear n0_ n1_ n2_ n3_; have c50 := (blk_cell B5.out 0).trans rfl; have c51 := (blk_cell B5.out 1).trans rfl; have c20 := (blk_cell B2.out 0).trans rfl; have c21 := (blk_cell B2.out 1).trans rfl; clear hb) | ((with_reducible refine gate_store (t := 24) (p := 2) (v := .tmp 114) rfl ?_); go_must (refine sagg_event rfl 24 (.tmp 2) (.tmp 114) rfl rfl g2 #[.int .i64 0, .slice none 0 0] _ _ rfl rfl B2.out (by kernel_rfl) rfl rfl ?_); intro w9 hbk hu; have n0_ := Aside0.mk (hu.below HB.out G2.out); clear HB; have HB := n0_; clear n0_; clear B2; have B2 := Aside0.mk hbk; have c90 := (blk_cell B2.out 0).trans rfl; have c91 := (blk_cell B2.out 1).trans rfl; clear hbk hu) | ((with_reducible refine gate_store (t := 24) (p := 2) (v := .tmp 113) rfl ?_); go_must (refine sagg_event rfl 24 (.tmp 2) (.tmp 113) rfl rfl g2 #[.int .i64 t, .slice A1 acc.length c1] _ _ rfl rfl B2.out (by kernel_rfl) rfl rfl ?_); intro w9 hbk hu; have n0_ := Aside0.mk (hu.below HB.out G2.out); clear HB; have HB := n0_; clear n0_; clear B2; have B2 := Aside0.mk hbk; have nR_ := Aside0.mk (Kd.R_step HR.out (fun k_ hk_ _ => hu.block k_ hk_.2.2)); clear HR; have HR := nR_; clear nR_; have c90 := (blk_cell B2.out 0).trans rfl; have c91 := (blk_cell B2.out 1).trans rfl; clear hbk hu) | go_step3)
        refine bodyPost_ret (v := .tuple #[.agg #[.int .i64 0, .slice none 0 0], .int .i64 0, .int .i64 4]) ?_ rfl ?_
        · simp [results, Try.results10, go_sem, c90, c91]
        · exact ⟨.slice none 0 0, rfl, Kd.R_nil _ _ _ _ _, HB.out⟩
    | 2, hJ =>
      obtain ⟨u, v, g5, g6, t, at_, left, acc, c0_, c1_, c2_, rfl, NE, c0, hat0, hat1, hl0, hla, HF, HB, B2, B5, B6, HR⟩ := hJ
      refine ⟨_, rfl, ?_⟩
      have H25 := Aside0.mk NE.out.1
      have H26 := Aside0.mk NE.out.2.1
      have H56 := Aside0.mk NE.out.2.2.1
      have G5 := Aside0.mk NE.out.2.2.2.2.1
      have G6 := Aside0.mk NE.out.2.2.2.2.2
      have c20 := (blk_cell B2.out 0).trans rfl
      have hrb := bt_range a0 at_
      by_cases q0 : left = 0
      · have e0 : (left == 0) = true := by rw [beq_iff_eq]; exact q0
        have HF1 : Aside0 (readEnd k a0 t at_ acc = some r) := ⟨by have := HF.out; rw [q0] at this; exact this⟩
        have HQ0 := Aside0.mk q0
        clear q0 HF
        go_wp2_with (first | go_step3)
        exact ⟨(RJ1_mk (k := k) ⟨⟨⟨H25.out, H26.out, H56.out, G2.out, G5.out, G6.out⟩⟩, HF1, HB, B2, B5, HR⟩), by unfold Rmu; simp [intOf]; try omega⟩
      have e0 : (left == 0) = false := by rw [beq_eq_false_iff_ne]; exact q0
      obtain ⟨n, hn⟩ : ∃ n : Nat, left = n + 1 := ⟨(left - 1).toNat, by omega⟩
      have hnn : (left - 1).toNat = n := by omega
      have hlp : 1 ≤ left := by omega
      have hF := HF.out
      rw [show (left).toNat = n + 1 by omega] at hF
      rw [readLoop] at hF
      have HN := Aside0.mk hn
      have HNN := Aside0.mk hnn
      clear hn hnn HF q0
      by_cases q1 : ¬ (at_ < (a0.size : Int))
      · rw [if_neg q1] at hF
        have HF1 := Aside0.mk hF
        clear hF
        have e1 : decide ((a0.size : Int) ≤ at_) = true := decide_eq_true (by omega)
        go_wp2_with (first | go_step3)
        exact ⟨(RJ0_mk (k := k) ⟨G2, HF1, HB, B2⟩), by unfold Rmu; simp [intOf]; try omega⟩
      replace q1 := Decidable.not_not.1 q1
      rw [if_pos q1] at hF
      have e1 : decide ((a0.size : Int) ≤ at_) = false := decide_eq_false (by omega)
      have hix : at_.toNat < a0.size := by omega
      have hba : ((a0[at_.toNat]'hix).toNat : Int) = bt a0 at_ := bt_at a0 at_ hix
      by_cases q2 : 1 < bt a0 at_
      · rw [if_pos q2] at hF
        have HF1 := Aside0.mk hF
        clear hF
        have e2 : decide (1 < bt a0 at_) = true := decide_eq_true q2
        go_wp2_with (first | go_step3)
        exact ⟨(RJ0_mk (k := k) ⟨G2, HF1, HB, B2⟩), by unfold Rmu; simp [intOf]; try omega⟩
      rw [if_neg q2] at hF
      have e2 : decide (1 < bt a0 at_) = false := decide_eq_false q2
      obtain ⟨x1, x2, hx, hxq⟩ := text_f a0 (at_ + 1) (by omega) (by omega) c0.2
      rcases hp1 : textP a0 (at_ + 1) with _ | ⟨key, at1⟩
      · rw [hp1] at hF hx
        have HF1 := Aside0.mk hF
        have HX := Aside0.mk (show batch_text.f a0 (at_ + 1) = some (x1, x2, false) from hx)
        clear hF hx hxq hp1
        go_wp2_with (first | ((with_reducible refine gate_store (t := 52) (p := 6) (v := .tmp 76) rfl ?_); go_must (refine sagg_event rfl 52 (.tmp 6) (.tmp 76) rfl rfl g6 #[.string ⟨#[]⟩, .string ⟨#[]⟩, .bool (bt a0 at_ == 1)] _ _ rfl rfl B6.out (by kernel_rfl) rfl rfl ?_); intro w8 hbk hu; have n0_ := Aside0.mk (hu.below HB.out G6.out); have n1_ := Aside0.mk (hu.blk B2.out H26.out); have n2_ := Aside0.mk (hu.blk B5.out H56.out); clear HB B2 B5; have HB := n0_; have B2 := n1_; have B5 := n2_; clear n0_ n1_ n2_; clear B6; have B6 := Aside0.mk hbk; have nR_ := Aside0.mk (Kd.R_step HR.out (fun k_ hk_ _ => hu.block k_ hk_.1)); clear HR; have HR := nR_; clear nR_; clear hbk hu) | (go_at_call 35; go_must (with_reducible refine (batch_text.calls a0 (at_ + 1) x1 x2 false _ HX.out).mono ?_); rintro e w9 ⟨rfl, hd⟩; have hb := hd.below; have n0_ := Aside0.mk (below_then HB.out HB.out.size hb); have n1_ := Aside0.mk ((hb.block _ (blk_lt B2.out)).trans B2.out); have n2_ := Aside0.mk ((hb.block _ (blk_lt B5.out)).trans B5.out); have n3_ := Aside0.mk ((hb.block _ (blk_lt B6.out)).trans B6.out); have n4_ := Aside0.mk (Kd.R_below HR.out hb); clear HB B2 B5 B6 HR; have HB := n0_; have B2 := n1_; have B5 := n2_; have B6 := n3_; have HR := n4_; clear n0_ n1_ n2_ n3_ n4_; clear hb hd) | ((with_reducible refine gate_store (t := 9) (p := 85) (v := .tmp 82) rfl ?_); go_must (refine scell_event rfl rfl g6 0 (.string x1) _ _ B6.out ?hr ?_); (case hr => have q1_ := (blk_cell B6.out 0).trans rfl; have q2_ := blk_frozen B6.out 0; first | (go_simp; done) | (go_simp; rfl)); intro w10 hbk hu; have n0_ := Aside0.mk (hu.below HB.out G6.out); have n1_ := Aside0.mk (hu.blk B2.out H26.out); have n2_ := Aside0.mk (hu.blk B5.out H56.out); clear HB B2 B5; have HB := n0_; have B2 := n1_; have B5 := n2_; clear n0_ n1_ n2_; clear B6; have B6 := Aside0.mk (show w10.heap[g6]? = some (.cells #[.string x1, .string ⟨#[]⟩, .bool (bt a0 at_ == 1)] 52 (0, 0)) from hbk); have nR_ := Aside0.mk (Kd.R_step HR.out (fun k_ hk_ _ => hu.block k_ hk_.1)); clear HR; have HR := nR_; clear nR_; clear hbk hu) | go_step3)
        exact ⟨(RJ0_mk (k := k) ⟨G2, HF1, HB, B2⟩), by unfold Rmu; simp [intOf]; try omega⟩
      have hle := textP_le (by omega) hp1
      rw [hp1] at hF hx hxq
      have hq1 := hxq _ rfl
      simp only [Prod.mk.injEq] at hq1
      obtain ⟨rfl, rfl⟩ := hq1
      simp only at hF hle
      have HX := Aside0.mk (show batch_text.f a0 (at_ + 1) = some (key, at1, true) from hx)
      clear hx hxq hp1
      obtain ⟨y1, y2, hy, hyq⟩ := text_f a0 at1 (by omega) (by omega) c0.2
      rcases hp2 : textP a0 at1 with _ | ⟨val, at2⟩
      · rw [hp2] at hF hy
        have HF1 := Aside0.mk hF
        have HY := Aside0.mk (show batch_text.f a0 at1 = some (y1, y2, false) from hy)
        clear hF hy hyq hp2
        have tok1 : True := trivial
        go_wp2_with (first | ((with_reducible refine gate_store (t := 52) (p := 6) (v := .tmp 76) rfl ?_); go_must (refine sagg_event rfl 52 (.tmp 6) (.tmp 76) rfl rfl g6 #[.string ⟨#[]⟩, .string ⟨#[]⟩, .bool (bt a0 at_ == 1)] _ _ rfl rfl B6.out (by kernel_rfl) rfl rfl ?_); intro w8 hbk hu; have n0_ := Aside0.mk (hu.below HB.out G6.out); have n1_ := Aside0.mk (hu.blk B2.out H26.out); have n2_ := Aside0.mk (hu.blk B5.out H56.out); clear HB B2 B5; have HB := n0_; have B2 := n1_; have B5 := n2_; clear n0_ n1_ n2_; clear B6; have B6 := Aside0.mk hbk; have nR_ := Aside0.mk (Kd.R_step HR.out (fun k_ hk_ _ => hu.block k_ hk_.1)); clear HR; have HR := nR_; clear nR_; clear hbk hu) | (have t1_ := tok1; go_at_call 35; go_must (with_reducible refine (batch_text.calls a0 (at_ + 1) key at1 true _ HX.out).mono ?_); rintro e w9 ⟨rfl, hd⟩; have hb := hd.below; have n0_ := Aside0.mk (below_then HB.out HB.out.size hb); have n1_ := Aside0.mk ((hb.block _ (blk_lt B2.out)).trans B2.out); have n2_ := Aside0.mk ((hb.block _ (blk_lt B5.out)).trans B5.out); have n3_ := Aside0.mk ((hb.block _ (blk_lt B6.out)).trans B6.out); have n4_ := Aside0.mk (Kd.R_below HR.out hb); clear HB B2 B5 B6 HR; have HB := n0_; have B2 := n1_; have B5 := n2_; have B6 := n3_; have HR := n4_; clear n0_ n1_ n2_ n3_ n4_; clear hb hd; clear tok1) | ((with_reducible refine gate_store (t := 9) (p := 85) (v := .tmp 82) rfl ?_); go_must (refine scell_event rfl rfl g6 0 (.string key) _ _ B6.out ?hr ?_); (case hr => have q1_ := (blk_cell B6.out 0).trans rfl; have q2_ := blk_frozen B6.out 0; first | (go_simp; done) | (go_simp; rfl)); intro w10 hbk hu; have n0_ := Aside0.mk (hu.below HB.out G6.out); have n1_ := Aside0.mk (hu.blk B2.out H26.out); have n2_ := Aside0.mk (hu.blk B5.out H56.out); clear HB B2 B5; have HB := n0_; have B2 := n1_; have B5 := n2_; clear n0_ n1_ n2_; clear B6; have B6 := Aside0.mk (show w10.heap[g6]? = some (.cells #[.string key, .string ⟨#[]⟩, .bool (bt a0 at_ == 1)] 52 (0, 0)) from hbk); have nR_ := Aside0.mk (Kd.R_step HR.out (fun k_ hk_ _ => hu.block k_ hk_.1)); clear HR; have HR := nR_; clear nR_; clear hbk hu) | (go_at_call 35; go_must (with_reducible refine (batch_text.calls a0 (at1) y1 y2 false _ HY.out).mono ?_); rintro e w11 ⟨rfl, hd⟩; have hb := hd.below; have n0_ := Aside0.mk (below_then HB.out HB.out.size hb); have n1_ := Aside0.mk ((hb.block _ (blk_lt B2.out)).trans B2.out); have n2_ := Aside0.mk ((hb.block _ (blk_lt B5.out)).trans B5.out); have n3_ := Aside0.mk ((hb.block _ (blk_lt B6.out)).trans B6.out); have n4_ := Aside0.mk (Kd.R_below HR.out hb); clear HB B2 B5 B6 HR; have HB := n0_; have B2 := n1_; have B5 := n2_; have B6 := n3_; have HR := n4_; clear n0_ n1_ n2_ n3_ n4_; clear hb hd) | ((with_reducible refine gate_store (t := 9) (p := 95) (v := .tmp 92) rfl ?_); go_must (refine scell_event rfl rfl g6 1 (.string y1) _ _ B6.out ?hr ?_); (case hr => have q1_ := (blk_cell B6.out 1).trans rfl; have q2_ := blk_frozen B6.out 1; first | (go_simp; done) | (go_simp; rfl)); intro w12 hbk hu; have n0_ := Aside0.mk (hu.below HB.out G6.out); have n1_ := Aside0.mk (hu.blk B2.out H26.out); have n2_ := Aside0.mk (hu.blk B5.out H56.out); clear HB B2 B5; have HB := n0_; have B2 := n1_; have B5 := n2_; clear n0_ n1_ n2_; clear B6; have B6 := Aside0.mk (show w12.heap[g6]? = some (.cells #[.string key, .string y1, .bool (bt a0 at_ == 1)] 52 (0, 0)) from hbk); have nR_ := Aside0.mk (Kd.R_step HR.out (fun k_ hk_ _ => hu.block k_ hk_.1)); clear HR; have HR := nR_; clear nR_; have d51 := (blk_cell B5.out 1).trans rfl; have d60 := (blk_cell B6.out 0).trans rfl; have d61 := (blk_cell B6.out 1).trans rfl; have d62 := (blk_cell B6.out 2).trans rfl; clear hbk hu) | go_step3)
        exact ⟨(RJ0_mk (k := k) ⟨G2, HF1, HB, B2⟩), by unfold Rmu; simp [intOf]; try omega⟩
      have hle2 := textP_le (by omega) hp2
      rw [hp2] at hF hy hyq
      have hq2 := hyq _ rfl
      simp only [Prod.mk.injEq] at hq2
      obtain ⟨rfl, rfl⟩ := hq2
      simp only at hF hle2
      have HY := Aside0.mk (show batch_text.f a0 at1 = some (val, at2, true) from hy)
      clear hy hyq hp2
      have HF2 := Aside0.mk hF
      clear hF
      have tok1 : True := trivial
      go_wp2_with (first | ((with_reducible refine gate_store (t := 52) (p := 6) (v := .tmp 76) rfl ?_); go_must (refine sagg_event rfl 52 (.tmp 6) (.tmp 76) rfl rfl g6 #[.string ⟨#[]⟩, .string ⟨#[]⟩, .bool (bt a0 at_ == 1)] _ _ rfl rfl B6.out (by kernel_rfl) rfl rfl ?_); intro w8 hbk hu; have n0_ := Aside0.mk (hu.below HB.out G6.out); have n1_ := Aside0.mk (hu.blk B2.out H26.out); have n2_ := Aside0.mk (hu.blk B5.out H56.out); clear HB B2 B5; have HB := n0_; have B2 := n1_; have B5 := n2_; clear n0_ n1_ n2_; clear B6; have B6 := Aside0.mk hbk; have nR_ := Aside0.mk (Kd.R_step HR.out (fun k_ hk_ _ => hu.block k_ hk_.1)); clear HR; have HR := nR_; clear nR_; clear hbk hu) | (have t1_ := tok1; go_at_call 35; go_must (with_reducible refine (batch_text.calls a0 (at_ + 1) key at1 true _ HX.out).mono ?_); rintro e w9 ⟨rfl, hd⟩; have hb := hd.below; have n0_ := Aside0.mk (below_then HB.out HB.out.size hb); have n1_ := Aside0.mk ((hb.block _ (blk_lt B2.out)).trans B2.out); have n2_ := Aside0.mk ((hb.block _ (blk_lt B5.out)).trans B5.out); have n3_ := Aside0.mk ((hb.block _ (blk_lt B6.out)).trans B6.out); have n4_ := Aside0.mk (Kd.R_below HR.out hb); clear HB B2 B5 B6 HR; have HB := n0_; have B2 := n1_; have B5 := n2_; have B6 := n3_; have HR := n4_; clear n0_ n1_ n2_ n3_ n4_; clear hb hd; clear tok1) | ((with_reducible refine gate_store (t := 9) (p := 85) (v := .tmp 82) rfl ?_); go_must (refine scell_event rfl rfl g6 0 (.string key) _ _ B6.out ?hr ?_); (case hr => have q1_ := (blk_cell B6.out 0).trans rfl; have q2_ := blk_frozen B6.out 0; first | (go_simp; done) | (go_simp; rfl)); intro w10 hbk hu; have n0_ := Aside0.mk (hu.below HB.out G6.out); have n1_ := Aside0.mk (hu.blk B2.out H26.out); have n2_ := Aside0.mk (hu.blk B5.out H56.out); clear HB B2 B5; have HB := n0_; have B2 := n1_; have B5 := n2_; clear n0_ n1_ n2_; clear B6; have B6 := Aside0.mk (show w10.heap[g6]? = some (.cells #[.string key, .string ⟨#[]⟩, .bool (bt a0 at_ == 1)] 52 (0, 0)) from hbk); have nR_ := Aside0.mk (Kd.R_step HR.out (fun k_ hk_ _ => hu.block k_ hk_.1)); clear HR; have HR := nR_; clear nR_; clear hbk hu) | (go_at_call 35; go_must (with_reducible refine (batch_text.calls a0 (at1) val at2 true _ HY.out).mono ?_); rintro e w11 ⟨rfl, hd⟩; have hb := hd.below; have n0_ := Aside0.mk (below_then HB.out HB.out.size hb); have n1_ := Aside0.mk ((hb.block _ (blk_lt B2.out)).trans B2.out); have n2_ := Aside0.mk ((hb.block _ (blk_lt B5.out)).trans B5.out); have n3_ := Aside0.mk ((hb.block _ (blk_lt B6.out)).trans B6.out); have n4_ := Aside0.mk (Kd.R_below HR.out hb); clear HB B2 B5 B6 HR; have HB := n0_; have B2 := n1_; have B5 := n2_; have B6 := n3_; have HR := n4_; clear n0_ n1_ n2_ n3_ n4_; clear hb hd) | ((with_reducible refine gate_store (t := 9) (p := 95) (v := .tmp 92) rfl ?_); go_must (refine scell_event rfl rfl g6 1 (.string val) _ _ B6.out ?hr ?_); (case hr => have q1_ := (blk_cell B6.out 1).trans rfl; have q2_ := blk_frozen B6.out 1; first | (go_simp; done) | (go_simp; rfl)); intro w12 hbk hu; have n0_ := Aside0.mk (hu.below HB.out G6.out); have n1_ := Aside0.mk (hu.blk B2.out H26.out); have n2_ := Aside0.mk (hu.blk B5.out H56.out); clear HB B2 B5; have HB := n0_; have B2 := n1_; have B5 := n2_; clear n0_ n1_ n2_; clear B6; have B6 := Aside0.mk (show w12.heap[g6]? = some (.cells #[.string key, .string val, .bool (bt a0 at_ == 1)] 52 (0, 0)) from hbk); have nR_ := Aside0.mk (Kd.R_step HR.out (fun k_ hk_ _ => hu.block k_ hk_.1)); clear HR; have HR := nR_; clear nR_; have d51 := (blk_cell B5.out 1).trans rfl; have d60 := (blk_cell B6.out 0).trans rfl; have d61 := (blk_cell B6.out 1).trans rfl; have d62 := (blk_cell B6.out 2).trans rfl; clear hbk hu) | ((with_reducible refine gate_builtin (b := .append) (xs := #[.tmp 99, .tmp 101]) rfl ?_); at_builtin; go_must (refine Kd.R_append k52 (w0 := w) w.heap.size rfl (.tmp 99) (.tmp 101) 22 52 (.agg #[(.string ⟨#[]⟩), (.string ⟨#[]⟩), (.bool false)]) 40 rfl Try.underlying22 info52 rfl (by decide) (by decide) (v) acc (⟨key, val, (bt a0 at_ == 1)⟩ : S52) [.string key, .string val, .bool (bt a0 at_ == 1)] (fun k_ => k_ ≠ g6 ∧ k_ ≠ g5 ∧ k_ ≠ g2) (fun _ => False) rfl rfl (k52_mkM _ _ _ (⟨key, val, (bt a0 at_ == 1)⟩ : S52)) (fun _ hk => hk.elim) ?fr HR.out HB.out HB.out.size ?len ?_); (case fr => exact fun k_ hk_ => ⟨fun e_ => by have := blk_lt B6.out; omega, fun e_ => by have := blk_lt B5.out; omega, fun e_ => by have := blk_lt B2.out; omega⟩); (case len => first | omega | (simp; done) | (simp; omega)); intro v1 w13 ho hb hg hat; have n1_ := Aside0.mk (blk_grown B2.out hg (fun e_ => (HR.out.1 g2 e_.symm).2.2 rfl)); have n2_ := Aside0.mk (blk_grown B5.out hg (fun e_ => (HR.out.1 g5 e_.symm).2.1 rfl)); have n3_ := Aside0.mk (blk_grown B6.out hg (fun e_ => (HR.out.1 g6 e_.symm).1 rfl)); clear HB B2 B5 B6 HR; have HB := Aside0.mk hb; have B2 := n1_; have B5 := n2_; have B6 := n3_; clear n1_ n2_ n3_; obtain ⟨A1, c1, e1_⟩ := Kd.R_slice ho; simp only [List.length_append, List.length_singleton, List.length_nil, Nat.zero_add] at e1_; subst e1_; have HR := Aside0.mk ho; clear ho hb hg hat) | ((with_reducible refine gate_store (t := 22) (p := 103) (v := .tmp 102) rfl ?_); go_must (refine scell_event rfl rfl g5 1 (.slice A1 (acc.length + 1) c1) _ _ B5.out ?hr ?_); (case hr => have q1_ := (blk_cell B5.out 1).trans rfl; have q2_ := blk_frozen B5.out 1; first | (go_simp; done) | (go_simp; rfl)); intro w14 hbk hu; have n0_ := Aside0.mk (hu.below HB.out G5.out); have n1_ := Aside0.mk (hu.blk B2.out H25.out); have n2_ := Aside0.mk (hu.blk B6.out H56.out.symm); clear HB B2 B6; have HB := n0_; have B2 := n1_; have B6 := n2_; clear n0_ n1_ n2_; clear B5; have B5 := Aside0.mk (show w14.heap[g5]? = some (.cells #[.int .i64 t, .slice A1 (acc.length + 1) c1] 24 (0, 0)) from hbk); have nR_ := Aside0.mk (Kd.R_step HR.out (fun k_ hk_ _ => hu.block k_ hk_.2.1)); clear HR; have HR := nR_; clear nR_; clear hbk hu) | go_step3)
      exact ⟨(RJ2_mk (k := k) ⟨⟨⟨H25.out, H26.out, H56.out, G2.out, G5.out, G6.out⟩⟩, c0, by omega, by omega, by omega, by (first | omega | (simp; omega)), ⟨by rw [HNN.out]; exact HF2.out⟩, HB, B2, B5, B6, HR⟩), by unfold Rmu; simp [intOf]; try omega⟩
end Go.Proofs.Ytehcmedeeaoebaa.PB
end
section
namespace Go.Proofs.Ytehcmedeeaoebaa.PB
open Go.RowKit Go.Proofs.YtehcmedeeaoebaaW.PrintWords Go.Proofs.YtehcmedeeaoebaaW.PrintLast Go.Proofs.YtehcmedeeaoebaaW.PrintMore
attribute [local go_sem] max2_int min2_int max_two min_two max_three min_three max_four min_four
set_option linter.unusedVariables false
set_option linter.unusedSimpArgs false
def ambryref01_Number.l0 : Nat → ByteArray → Int → Int → Int → Int → Option (Int)
  | 0, _, _, _, _, _ => none
  | k + 1, x0, x1, x2, x7, x8 => if x8 < x2 then (if 0 ≤ (wrap64 (x1 + x8)) then (if (wrap64 (x1 + x8)) < (x0.size : Int) then (ambryref01_Number.l0 k x0 x1 x2 (Go.bits .or .u64 (IntKind.u64.wrap (x7 * 256)) (IntKind.u64.wrap (bt x0 (wrap64 (x1 + x8))))) (wrap64 (x8 + 1))) else (none)) else (none)) else (some (wrap64 (x7)))
def ambryref01_Number.f (k : Nat) (a0 : ByteArray) (a1 : Int) (a2 : Int) : Option (Int) := ambryref01_Number.l0 k a0 a1 a2 0 0
set_option maxHeartbeats 8000000 in
set_option maxRecDepth 100000 in
theorem ambryref01_Number.calls (k : Nat) (a0 : ByteArray) (a1 : Int) (a2 : Int) (r : Int) (w : World) (h : ambryref01_Number.f k a0 a1 a2 = some r) :
    Calls Try.prog 36 #[.string a0, .int .i64 a1, .int .i64 a2] w fun e w' => e = .returned (.int .i64 r) ∧ Drawn0 w w' := by
  have H : (ambryref01_Number.l0 k a0 a1 a2 0 0) = some r := h
  clear h
  have H' := Aside0.mk H
  clear H
  go_enter Try.func36, Try.ntmps36
  go_wp2
  go_loopg [7, 8] k (fun kq v7 v8 w' => ∃ (x7_1 : Int) (x8_1 : Int), v7 = .int .u64 x7_1 ∧ v8 = .int .i64 x8_1 ∧ Aside0 (ambryref01_Number.l0 kq a0 a1 a2 x7_1 x8_1 = some r) ∧ Aside0 (kq ≤ k) ∧ Drawn0 w w')
  case atStart => exact ⟨(0), (0), (by first | rfl | (simp; done) | (simp [*]; done)), (by first | rfl | (simp; done) | (simp [*]; done)), H', ⟨Nat.le_refl _⟩, by repeat (first | exact Drawn0.refl _ | apply Drawn0.step)⟩
  case round =>
    clear H'
    try clear p2
    try clear c3
    obtain ⟨x7_1, x8_1, rfl, rfl, HA, HK1, ⟨m1, rfl⟩⟩ := hrel
    cases gk with
    | zero => exact absurd HA.out (by simp [ambryref01_Number.l0])
    | succ k1 =>
      have H := HA.out
      clear HA
      simp only [ambryref01_Number.l0] at H
      by_cases c4 : x8_1 < a2
      · rw [if_pos c4] at H
        have c4b0 : decide (x8_1 < a2) = true := decide_eq_true c4
        clear c4
        obtain ⟨ji5, hji5⟩ : ∃ j_ : Int, (wrap64 (a1 + x8_1)) = j_ := ⟨_, rfl⟩
        replace H : (if 0 ≤ (ji5) then (if (ji5) < (a0.size : Int) then (ambryref01_Number.l0 k1 a0 a1 a2 (Go.bits .or .u64 (IntKind.u64.wrap (x7_1 * 256)) (IntKind.u64.wrap (bt a0 (ji5)))) (wrap64 (x8_1 + 1))) else (none)) else (none)) = some r := by first | (rw [hji5] at H; exact H) | (simp only [hji5] at H ⊢; exact H)
        have hji5w : (IntKind.i64.wrap (a1 + x8_1)) = ji5 := (i64_w _).trans hji5
        by_cases c6 : 0 ≤ (ji5)
        · rw [if_pos c6] at H
          have c6b0 : decide (0 ≤ (ji5)) = true := decide_eq_true c6
          clear c6
          by_cases c7 : (ji5) < (a0.size : Int)
          · rw [if_pos c7] at H
            have c7b0 : decide ((ji5) < (a0.size : Int)) = true := decide_eq_true c7
            clear c7
            have H' := Aside0.mk H
            clear H
            have p8 : 0 ≤ ((ji5) : Int) := of_decide_eq_true (by first | (with_reducible assumption) | assumption)
            have q8 : (ji5) < (a0.size : Int) := of_decide_eq_true (by first | (with_reducible assumption) | assumption)
            have hx8 := bt_at a0 (ji5)
            replace p8 := eq_true p8
            replace q8 := eq_true q8
            go_wp2
            go_roundg k1
            case measure => have := HK1.out; omega
            case rel => exact ⟨(Go.bits .or .u64 (IntKind.u64.wrap (x7_1 * 256)) (IntKind.u64.wrap (bt a0 (ji5)))), (wrap64 (x8_1 + 1)), (by first | rfl | (simp; done) | (simp only [← hji5] <;> (first | rfl | simp)) | (simp [*]; done)), (by first | rfl | (simp; done) | (simp [*]; done)), H', ⟨by have := HK1.out; omega⟩, by repeat (first | exact Drawn0.refl _ | apply Drawn0.step)⟩
          · rw [if_neg c7] at H
            exact absurd H (by simp)
        · rw [if_neg c6] at H
          exact absurd H (by simp)
      · rw [if_neg c4] at H
        have c4b0 : decide (x8_1 < a2) = false := decide_eq_false c4
        clear c4
        obtain rfl := Option.some.inj H
        go_wp2
        go_ret
        exact ⟨by first | rfl | (simp; done) | (simp [*]; done), by repeat (first | exact Drawn0.refl _ | apply Drawn0.step)⟩
end Go.Proofs.Ytehcmedeeaoebaa.PB
end
section
namespace Go.Proofs.Ytehcmedeeaoebaa.PB
open Go.RowKit Go.Proofs.YtehcmedeeaoebaaW.PrintWords Go.Proofs.YtehcmedeeaoebaaW.PrintLast Go.Proofs.YtehcmedeeaoebaaW.PrintMore
attribute [local go_sem] max2_int min2_int max_two min_two max_three min_three max_four min_four
set_option linter.unusedVariables false
set_option linter.unusedSimpArgs false
end Go.Proofs.Ytehcmedeeaoebaa.PB
end
section
namespace Go.Proofs.Ytehcmedeeaoebaa.PB
open Go.RowKit Go.Proofs.YtehcmedeeaoebaaW.PrintWords Go.Proofs.YtehcmedeeaoebaaW.PrintLast Go.Proofs.YtehcmedeeaoebaaW.PrintMore
set_option linter.unusedVariables false
set_option linter.unusedSimpArgs false
end Go.Proofs.Ytehcmedeeaoebaa.PB
end
section
namespace Go.Proofs.Ytehcmedeeaoebaa.PB
open Go.RowKit Go.Proofs.YtehcmedeeaoebaaW.PrintWords Go.Proofs.YtehcmedeeaoebaaW.PrintLast Go.Proofs.YtehcmedeeaoebaaW.PrintMore
set_option linter.unusedVariables false
def frm (s : ByteArray) (p : Nat) : List UInt8 := s.data.toList.drop p
theorem frm_cons {s : ByteArray} {p : Nat} {b : UInt8} {rest : List UInt8} (h : frm s p = b :: rest) : p < s.size ∧ bt s (p : Int) = (b.toNat : Int) ∧ frm s (p + 1) = rest := by
  have hp : p < s.data.toList.length := by
    rcases Nat.lt_or_ge p s.data.toList.length with h1 | h1
    · exact h1
    · unfold frm at h; rw [List.drop_eq_nil_of_le h1] at h; cases h
  have hp' : p < s.size := by simpa using hp
  unfold frm at h ⊢
  rw [List.drop_eq_getElem_cons hp] at h
  injection h with h1 h2
  refine ⟨hp', ?_, h2⟩
  have := bt_at s (p : Int) (by simpa using hp')
  rw [← this, ← h1]
  simp only [Int.toNat_natCast]
  rfl
theorem frm_of_lt {s : ByteArray} {p : Nat} (h : p < s.size) : ∃ b, frm s p = b :: frm s (p + 1) := by
  have hp : p < s.data.toList.length := by simpa using h
  exact ⟨_, List.drop_eq_getElem_cons hp⟩
end Go.Proofs.Ytehcmedeeaoebaa.PB
end
section
namespace Go.Proofs.Ytehcmedeeaoebaa.PB
open Go.RowKit Go.Proofs.YtehcmedeeaoebaaW.PrintWords Go.Proofs.YtehcmedeeaoebaaW.PrintLast Go.Proofs.YtehcmedeeaoebaaW.PrintMore
set_option linter.unusedVariables false
set_option linter.unusedSimpArgs false
def ltS (a b : ByteArray) : Bool := Op.bytesLess a.toList b.toList
def risesP : List S69 → Bool
  | a :: b :: r => ltS a.f0 b.f0 && risesP (b :: r)
  | _ => true
theorem risesP_iff (l : List S69) : risesP l = true ↔ ∀ j, (h : j + 1 < l.length) → ltS (l[j]'(by omega)).f0 l[j + 1].f0 = true := by
  induction l with
  | nil => simp [risesP]
  | cons a r ih =>
    cases r with
    | nil => simp [risesP]
    | cons b r =>
      rw [risesP, Bool.and_eq_true, ih]
      constructor
      · rintro ⟨h0, h1⟩ j h
        cases j with
        | zero => exact h0
        | succ j => exact h1 j (by simpa using h)
      · intro h
        exact ⟨h 0 (by simp), fun j hj => h (j + 1) (by simpa using hj)⟩
theorem rdT69_get (l : List S69) (i : Nat) (h : i < l.length) : rd_T69 l (i : Int) = l[i] := by
  simp [rd_T69, List.getD_eq_getElem?_getD, h]
end Go.Proofs.Ytehcmedeeaoebaa.PB
end
section
namespace Go.Proofs
open Go.Shelf
def Try.sortPair_ren : Go.Shelf.Ren := ⟨fun | 6 => 55 | 15 => 74 | 14 => 73 | 28 => 91 | 29 => 92 | 20 => 83 | 21 => 84 | 22 => 85 | 23 => 86 | 24 => 87 | 25 => 88 | 26 => 89 | 27 => 90 | 46 => 103 | 47 => 104 | 48 => 105 | 49 => 106 | 50 => 107 | 57 => 111 | n => n, fun | 22 => 43 | 24 => 69 | 25 => 95 | 3 => 3 | 39 => 110 | 0 => 0 | 53 => 134 | 55 => 108 | 4 => 4 | 46 => 127 | 45 => 126 | 50 => 131 | 5 => 5 | 9 => 9 | 66 => 140 | 70 => 144 | 76 => 148 | 77 => 149 | n => n, fun | n => n⟩
theorem Try.sortPair : Go.Proofs.SlLaysF0.n6 Try.prog Try.sortPair_ren := {
  mixed := by kernel_rfl
  f6 := ⟨Try.f55.name, by decide, Try.func55.trans (congrArg some (by kernel_rfl))⟩
  f14 := ⟨Try.f73.name, by decide, Try.func73.trans (congrArg some (by kernel_rfl))⟩
  f15 := Try.func74.trans (congrArg some (by kernel_rfl))
  f20 := ⟨Try.f83.name, by decide, Try.func83.trans (congrArg some (by kernel_rfl))⟩
  f21 := ⟨Try.f84.name, by decide, Try.func84.trans (congrArg some (by kernel_rfl))⟩
  f22 := ⟨Try.f85.name, by decide, Try.func85.trans (congrArg some (by kernel_rfl))⟩
  f23 := ⟨Try.f86.name, by decide, Try.func86.trans (congrArg some (by kernel_rfl))⟩
  f24 := ⟨Try.f87.name, by decide, Try.func87.trans (congrArg some (by kernel_rfl))⟩
  f25 := ⟨Try.f88.name, by decide, Try.func88.trans (congrArg some (by kernel_rfl))⟩
  f26 := ⟨Try.f89.name, by decide, Try.func89.trans (congrArg some (by kernel_rfl))⟩
  f27 := ⟨Try.f90.name, by decide, Try.func90.trans (congrArg some (by kernel_rfl))⟩
  f28 := Try.func91.trans (congrArg some (by kernel_rfl))
  f29 := Try.func92.trans (congrArg some (by kernel_rfl))
  f46 := ⟨Try.f103.name, by decide, Try.func103.trans (congrArg some (by kernel_rfl))⟩
  f47 := Try.func104.trans (congrArg some (by kernel_rfl))
  f48 := Try.func105.trans (congrArg some (by kernel_rfl))
  f49 := ⟨Try.f106.name, by decide, Try.func106.trans (congrArg some (by kernel_rfl))⟩
  f50 := ⟨Try.f107.name, by decide, Try.func107.trans (congrArg some (by kernel_rfl))⟩
  f57 := ⟨Try.f111.name, by decide, Try.func111.trans (congrArg some (by kernel_rfl))⟩
  t0 := Try.underlying0
  a0 := Try.isAgg0
  z0 := Try.sizeOf0
  v0 := Try.zeroValue0
  t3 := Try.underlying3
  a3 := Try.isAgg3
  z3 := Try.sizeOf3
  v3 := Try.zeroValue3
  t4 := Try.underlying4
  a4 := Try.isAgg4
  z4 := Try.sizeOf4
  v4 := Try.zeroValue4
  t5 := Try.underlying5
  a5 := Try.isAgg5
  z5 := Try.sizeOf5
  v5 := Try.zeroValue5
  t9 := Try.underlying9
  a9 := Try.isAgg9
  z9 := Try.sizeOf9
  v9 := Try.zeroValue9
  t22 := Try.underlying43
  a22 := Try.isAgg43
  z22 := Try.sizeOf43
  v22 := Try.zeroValue43
  t25 := Try.underlying95
  a25 := Try.isAgg95
  z25 := Try.sizeOf95
  v25 := Try.zeroValue95
  t39 := Try.underlying110
  a39 := Try.isAgg110
  z39 := Try.sizeOf110
  v39 := Try.zeroValue110
  t45 := Try.underlying126
  a45 := Try.isAgg126
  z45 := Try.sizeOf126
  v45 := Try.zeroValue126
  t46 := Try.underlying127
  a46 := Try.isAgg127
  z46 := Try.sizeOf127
  v46 := Try.zeroValue127
  t50 := Try.underlying131
  a50 := Try.isAgg131
  z50 := Try.sizeOf131
  v50 := Try.zeroValue131
  t53 := Try.underlying134
  a53 := Try.isAgg134
  z53 := Try.sizeOf134
  v53 := Try.zeroValue134
  t55 := Try.underlying108
  a55 := Try.isAgg108
  z55 := Try.sizeOf108
  v55 := Try.zeroValue108
  t66 := Try.underlying140
  a66 := Try.isAgg140
  z66 := Try.sizeOf140
  v66 := Try.zeroValue140
  t70 := Try.underlying144
  a70 := Try.isAgg144
  z70 := Try.sizeOf144
  v70 := Try.zeroValue144
  t76 := Try.underlying148
  a76 := Try.isAgg148
  z76 := Try.sizeOf148
  v76 := Try.zeroValue148
  t77 := Try.underlying149
  a77 := Try.isAgg149
  z77 := Try.sizeOf149
  v77 := Try.zeroValue149 }
def Try.sortStr_ren : Go.Shelf.Ren := ⟨fun | 190 => 60 | 125 => 74 | 258 => 77 | 128 => 91 | 129 => 92 | 302 => 94 | 303 => 95 | 304 => 96 | 305 => 97 | 306 => 98 | 307 => 99 | 308 => 100 | 309 => 101 | 310 => 102 | 333 => 108 | 329 => 104 | 330 => 105 | 334 => 109 | 335 => 110 | 336 => 75 | 344 => 112 | n => n, fun | 31 => 97 | 9 => 9 | 3 => 3 | 46 => 110 | 0 => 0 | 51 => 134 | 53 => 108 | 4 => 4 | 183 => 127 | 182 => 126 | 131 => 131 | 5 => 5 | 218 => 140 | 222 => 144 | 228 => 148 | 229 => 149 | n => n, fun | n => n⟩
theorem Try.sortStr : Go.Proofs.Lays.n190 Try.prog Try.sortStr_ren := {
  mixed := by kernel_rfl
  f125 := Try.func74.trans (congrArg some (by kernel_rfl))
  f128 := Try.func91.trans (congrArg some (by kernel_rfl))
  f129 := Try.func92.trans (congrArg some (by kernel_rfl))
  f190 := Try.func60.trans (congrArg some (by kernel_rfl))
  f258 := Try.func77.trans (congrArg some (by kernel_rfl))
  f302 := Try.func94.trans (congrArg some (by kernel_rfl))
  f303 := Try.func95.trans (congrArg some (by kernel_rfl))
  f304 := Try.func96.trans (congrArg some (by kernel_rfl))
  f305 := Try.func97.trans (congrArg some (by kernel_rfl))
  f306 := Try.func98.trans (congrArg some (by kernel_rfl))
  f307 := Try.func99.trans (congrArg some (by kernel_rfl))
  f308 := Try.func100.trans (congrArg some (by kernel_rfl))
  f309 := Try.func101.trans (congrArg some (by kernel_rfl))
  f310 := Try.func102.trans (congrArg some (by kernel_rfl))
  f329 := Try.func104.trans (congrArg some (by kernel_rfl))
  f330 := Try.func105.trans (congrArg some (by kernel_rfl))
  f333 := Try.func108.trans (congrArg some (by kernel_rfl))
  f334 := Try.func109.trans (congrArg some (by kernel_rfl))
  f335 := Try.func110.trans (congrArg some (by kernel_rfl))
  f336 := Try.func75.trans (congrArg some (by kernel_rfl))
  f344 := Try.func112.trans (congrArg some (by kernel_rfl))
  t0 := Try.underlying0
  a0 := Try.isAgg0
  z0 := Try.sizeOf0
  v0 := Try.zeroValue0
  t3 := Try.underlying3
  a3 := Try.isAgg3
  z3 := Try.sizeOf3
  v3 := Try.zeroValue3
  t4 := Try.underlying4
  a4 := Try.isAgg4
  z4 := Try.sizeOf4
  v4 := Try.zeroValue4
  t5 := Try.underlying5
  a5 := Try.isAgg5
  z5 := Try.sizeOf5
  v5 := Try.zeroValue5
  t9 := Try.underlying9
  a9 := Try.isAgg9
  z9 := Try.sizeOf9
  v9 := Try.zeroValue9
  t31 := Try.underlying97
  a31 := Try.isAgg97
  z31 := Try.sizeOf97
  v31 := Try.zeroValue97
  t46 := Try.underlying110
  a46 := Try.isAgg110
  z46 := Try.sizeOf110
  v46 := Try.zeroValue110
  t51 := Try.underlying134
  a51 := Try.isAgg134
  z51 := Try.sizeOf134
  v51 := Try.zeroValue134
  t53 := Try.underlying108
  a53 := Try.isAgg108
  z53 := Try.sizeOf108
  v53 := Try.zeroValue108
  t131 := Try.underlying131
  a131 := Try.isAgg131
  z131 := Try.sizeOf131
  v131 := Try.zeroValue131
  t182 := Try.underlying126
  a182 := Try.isAgg126
  z182 := Try.sizeOf126
  v182 := Try.zeroValue126
  t183 := Try.underlying127
  a183 := Try.isAgg127
  z183 := Try.sizeOf127
  v183 := Try.zeroValue127
  t218 := Try.underlying140
  a218 := Try.isAgg140
  z218 := Try.sizeOf140
  v218 := Try.zeroValue140
  t222 := Try.underlying144
  a222 := Try.isAgg144
  z222 := Try.sizeOf144
  v222 := Try.zeroValue144
  t228 := Try.underlying148
  a228 := Try.isAgg148
  z228 := Try.sizeOf148
  v228 := Try.zeroValue148
  t229 := Try.underlying149
  a229 := Try.isAgg149
  z229 := Try.sizeOf149
  v229 := Try.zeroValue149 }
end Go.Proofs
end
section
namespace Go.Proofs.Ytehcmedeeaoebaa.PB
open Go.RowKit Go.Proofs.YtehcmedeeaoebaaW.PrintWords Go.Proofs.YtehcmedeeaoebaaW.PrintLast Go.Proofs.YtehcmedeeaoebaaW.PrintMore
attribute [local go_sem] max2_int min2_int max_two min_two max_three min_three max_four min_four
set_option linter.unusedVariables false
set_option linter.unusedSimpArgs false
end Go.Proofs.Ytehcmedeeaoebaa.PB
end
section
namespace Go.Proofs.Ytehcmedeeaoebaa.PB
open Go.RowKit Go.Proofs.YtehcmedeeaoebaaW.PrintWords Go.Proofs.YtehcmedeeaoebaaW.PrintLast Go.Proofs.YtehcmedeeaoebaaW.PrintMore
set_option linter.unusedVariables false
set_option linter.unusedSimpArgs false
instance : Inhabited S69 := ⟨⟨⟨#[]⟩, ⟨#[]⟩⟩⟩
def cmpS (a b : ByteArray) : Int := if ltS a b then -1 else if ltS b a then 1 else 0
theorem ltS_iff (a b : ByteArray) : ltS a b = true ↔ a.data.toList < b.data.toList := by
  unfold ltS; rw [bytesLess_eq, Lib.toList_data, Lib.toList_data]; simp
theorem ltS_false (a b : ByteArray) : ltS a b = false ↔ b.data.toList ≤ a.data.toList := by
  rw [← Bool.not_eq_true, ltS_iff, List.not_lt]
theorem ltS_trans {a b c : ByteArray} (h1 : ltS a b = true) (h2 : ltS b c = true) : ltS a c = true := by
  rw [ltS_iff] at *; exact List.lt_trans h1 h2
theorem ltS_irrefl (a : ByteArray) : ltS a a = false := by rw [ltS_false]; exact List.le_refl _
theorem ltS_asymm {a b : ByteArray} (h : ltS a b = true) : ltS b a = false := by
  rw [ltS_false]; rw [ltS_iff] at h; exact List.le_of_lt h
theorem ltS_ntrans {a b c : ByteArray} (h1 : ltS a b = false) (h2 : ltS b c = false) : ltS a c = false := by
  rw [ltS_false] at *; exact List.le_trans h2 h1
theorem ltS_eq {a b : ByteArray} (h1 : ltS a b = false) (h2 : ltS b a = false) : a = b := by
  rw [ltS_false] at *; exact ByteArray.ext (Array.toList_inj.1 (List.le_antisymm h2 h1))
def cmpP (x y : S69) : Int := cmpS x.f0 y.f0
theorem cmpP_lt (x y : S69) : Go.Proofs.ltOf cmpP x y = ltS x.f0 y.f0 := by
  unfold Go.Proofs.ltOf cmpP cmpS
  cases h1 : ltS x.f0 y.f0
  · cases h2 : ltS y.f0 x.f0 <;> simp
  · simp
theorem swoP : Go.Sort.SWO (Go.Proofs.ltOf cmpP) where
  irrefl x := by rw [cmpP_lt]; exact ltS_irrefl _
  trans x y z h1 h2 := by rw [cmpP_lt] at *; exact ltS_trans h1 h2
  ntrans x y z h1 h2 := by rw [cmpP_lt] at *; exact ltS_ntrans h1 h2
theorem isNaNS.calls (a : ByteArray) (W : World) : Calls Try.prog 75 #[.string a] W fun e w' => e = .returned (.bool false) ∧ w' = W := by
  go_enter Try.func75, Try.ntmps75
  go_wp2
  go_ret
  exact ⟨by simp, rfl⟩
theorem compareS.calls (x y : ByteArray) (W : World) : Calls Try.prog 57 #[.string x, .string y] W fun e w' => e = .returned (.int .i64 (cmpS x y)) ∧ w' = W := by
  have hn := isNaNS.calls
  by_cases h1 : ltS x y = true
  · have e1 : Op.bytesLess x.toList y.toList = true := h1
    go_enter Try.func57, Try.ntmps57
    go_wp2_with (go_at_call 75; refine (hn _ _).mono ?_; rintro e w' ⟨rfl, rfl⟩)
    go_ret
    exact ⟨by simp [cmpS, h1], rfl⟩
  · have h1' : ltS x y = false := by simpa using h1
    have e1 : Op.bytesLess x.toList y.toList = false := h1'
    by_cases h2 : ltS y x = true
    · have hne : (x.toList == y.toList) = false := by
        rw [beq_eq_false_iff_ne]; intro h
        have : Op.bytesLess y.toList x.toList = true := h2
        rw [h] at this e1; rw [this] at e1; cases e1
      go_enter Try.func57, Try.ntmps57
      go_wp2_with (go_at_call 75; refine (hn _ _).mono ?_; rintro e w' ⟨rfl, rfl⟩)
      go_ret
      exact ⟨by simp [cmpS, h1', h2], rfl⟩
    · have h2' : ltS y x = false := by simpa using h2
      have hxy := ltS_eq h1' h2'
      subst hxy
      clear h1 h1' h2 h2'
      go_enter Try.func57, Try.ntmps57
      go_wp2_with (go_at_call 75; refine (hn _ _).mono ?_; rintro e w' ⟨rfl, rfl⟩)
      go_ret
      exact ⟨by simp [cmpS, ltS_irrefl], rfl⟩
def encP (x : S69) : List Value := [.string x.f0, .string x.f1]
set_option maxHeartbeats 1000000 in
theorem pairs1.calls (x y : S69) (W : World) : Calls Try.prog 56 #[.agg #[.string x.f0, .string x.f1], .agg #[.string y.f0, .string y.f1]] W fun e w' => e = .returned (.int .i64 (cmpP x y)) ∧ ∃ q os', w' = Go.Sort.grow (W.drewN q) os' := by
  have hcon := fun W' => compareS.calls x.f0 y.f0 W'
  unfold cmpP
  generalize cmpS x.f0 y.f0 = r at hcon ⊢
  go_enter Try.func56, Try.ntmps56
  go_wp2_with (go_at_call 57; refine (hcon _).mono ?_; rintro e w' ⟨rfl, rfl⟩)
  go_ret
  exact ⟨rfl, 0, _, by rw [Go.Sort.alloc_eq_grow, Go.Sort.alloc_eq_grow, Go.Sort.grow_grow]; rfl⟩
theorem cmpLaysP (blk off size : Nat) (w : World) : Go.Proofs.CmpLays Try.prog 56 #[] encP 2 cmpP blk off size w :=
  fun _ _ _ _ x y => pairs1.calls x y _
def sortP (xs : List S69) : List S69 := if xs = [] then [] else (Go.Sort.pdq (Go.Proofs.ltOf cmpP) xs.toArray 0 xs.toArray.size (Go.Lib.bitLen xs.toArray.size) true true).toList
theorem sortP_spec (xs : List S69) : (sortP xs).Perm xs ∧ (sortP xs).Pairwise fun a b => ltS b.f0 a.f0 = false := by
  unfold sortP
  split
  · next h => subst h; simp
  next hne =>
  have h := Go.Sort.pdq_sorts (Go.Proofs.ltOf cmpP) swoP xs.toArray 0 xs.toArray.size (Go.Lib.bitLen xs.toArray.size) true true (Nat.zero_le _) (Nat.le_refl _) (Or.inl rfl)
  generalize Go.Sort.pdq (Go.Proofs.ltOf cmpP) xs.toArray 0 xs.toArray.size (Go.Lib.bitLen xs.toArray.size) true true = d at h ⊢
  obtain ⟨⟨hs, -, hp⟩, ho⟩ := h
  refine ⟨?_, ?_⟩
  · have : d.extract 0 xs.toArray.size = d := by rw [← hs]; simp
    rw [this] at hp
    simpa using hp
  · rw [List.pairwise_iff_getElem]
    intro i j hi hj hij
    have := ho i j (Nat.zero_le _) hij (by rw [← hs]; simpa using hj)
    rw [cmpP_lt] at this
    rw [getElem!_pos d j (by simpa using hj), getElem!_pos d i (by simpa using hi)] at this
    simpa using this
open Go.Sort in
theorem flat_at (d : Array S69) (t : Nat) (h : t < d.size * 2) : (flatK encP 2 d)[t]! = (encP d[t / 2]!)[t % 2]! := get_flatK encP 2 d t h
open Go.Sort in
theorem R_cells {w : World} {base : Nat} {ok : Nat → Prop} {v : Value} {xs : List S69} (h : Kd.R k69 69 w base ok v xs) (hne : xs ≠ []) :
    ∃ g cap cur, v = .slice (some ⟨g, 0, none⟩) xs.length cap ∧ base ≤ g ∧ w.heap[g]? = some (.cells cur 69 (0, 0)) ∧ xs.length ≤ cap ∧ cap ≤ maxLen ∧ cur.size = cap * 2 ∧ cur.toList.take (xs.length * 2) = (flatK encP 2 xs.toArray).toList ∧ ok g := by
  obtain ⟨hok, inner, ⟨hl, hor⟩, hr⟩ := h
  rcases hor with ⟨_, h0⟩ | ⟨g, cap, cur, rfl, hb, hg, h1, h2, h3, h4⟩
  · exact absurd (List.eq_nil_of_length_eq_zero h0) hne
  refine ⟨g, cap, cur, rfl, hb, hg, h1, h2, h3, ?_, hok g rfl⟩
  rw [show Kd.sz k69 = 2 from rfl] at *
  rw [h4]
  refine List.ext_getElem (by simp [hl]) fun t ht1 ht2 => ?_
  have ht : t < xs.length * 2 := by rw [← hl]; exact ht1
  have hj : t / 2 < xs.length := by omega
  have hp := k69_openM (hr.2 (t / 2) _ (List.getElem?_eq_getElem hj))
  have e1 : inner[t]? = (((inner.drop (t / 2 * 2)).take 2))[t % 2]? := by
    rw [List.getElem?_take, if_pos (by omega), List.getElem?_drop]; congr 1; omega
  have hf := flat_at xs.toArray t (by simpa using ht)
  rw [getElem!_pos (flatK encP 2 xs.toArray) t (by simpa using ht)] at hf
  refine Eq.trans ?_ (show _ = (flatK encP 2 xs.toArray).toList[t] from hf.symm)
  apply Option.some.inj
  rw [← List.getElem?_eq_getElem ht1, e1]
  replace hp : List.take 2 (List.drop (t / 2 * 2) inner) = [.string xs[t / 2].f0, .string xs[t / 2].f1] := hp
  rw [hp]
  rw [getElem!_pos xs.toArray (t / 2) (by simpa using hj)]
  rcases (show t % 2 = 0 ∨ t % 2 = 1 by omega) with e | e <;> rw [e] <;> simp [encP]
open Go.Sort in
theorem R_sorted {w : World} {base : Nat} {ok : Nat → Prop} {xs ys : List S69} {g cap : Nat} (h : Kd.R k69 69 w base ok (.slice (some ⟨g, 0, none⟩) xs.length cap) xs) (hne : xs ≠ []) (hy : ys.length = xs.length) (m : Nat) (os : Array Obj) :
    Kd.R k69 69 (sortWorldK encP 2 w g 0 m ys.toArray os) base ok (.slice (some ⟨g, 0, none⟩) xs.length cap) ys ∧ Below base w (sortWorldK encP 2 w g 0 m ys.toArray os) := by
  obtain ⟨g', cap', cur, hv, hb, hg, h1, h2, h3, h4, h5⟩ := R_cells h hne
  injection hv with ha _ hc
  injection ha with ha; injection ha with ha
  subst ha hc
  have hgl := blk_lt hg
  have hblk : (sortWorldK encP 2 w g 0 m ys.toArray os).heap[g]? = some (.cells (putCells id 0 (flatK encP 2 ys.toArray) cur) 69 (0, 0)) := by
    unfold sortWorldK grow putRowK putRow mapBlock Go.Sort.ahead
    simp only
    rw [Array.getElem?_append_left (by simpa using hgl), Array.getElem?_modify, if_pos rfl, hg]
    rfl
  refine ⟨⟨fun k hk => by simp only [Value.ownBlock, Option.some.injEq] at hk; subst hk; exact h5, (flatK encP 2 ys.toArray).toList, ⟨by simp [hy]; rfl, Or.inr ⟨g, cap, _, by rw [hy], hb, hblk, by omega, h2, by simp [putCells, h3]; rfl, ?_⟩⟩, ⟨by simp; rfl, ?_⟩⟩, ⟨rfl, rfl, rfl, by unfold sortWorldK grow putRowK putRow mapBlock Go.Sort.ahead; simp, fun k hk => ?_⟩⟩
  · rw [hy, show Kd.sz k69 = 2 from rfl]
    refine List.ext_getElem (by simp [putCells, h3, hy]; omega) fun t ht1 ht2 => ?_
    have ht : t < ys.length * 2 := by simpa using ht2
    rw [List.getElem_take, Array.getElem_toList, Array.getElem_toList]
    simp only [putCells, Array.getElem_mapIdx, size_flatK, Nat.zero_le, true_and, Nat.zero_add, Nat.sub_zero, id]
    rw [if_pos (by simpa using ht), getElem!_pos (flatK encP 2 ys.toArray) t (by simpa using ht)]
  · intro j p hj
    have hjl : j < ys.length := (List.getElem?_eq_some_iff.1 hj).1
    have e : ((flatK encP 2 ys.toArray).toList.drop (j * 2)).take 2 = [.string p.f0, .string p.f1] := by
      have hp : ys.toArray[j]! = p := by rw [getElem!_pos ys.toArray j (by simpa using hjl)]; simpa using (List.getElem?_eq_some_iff.1 hj).2
      refine List.ext_getElem (by simp; omega) fun t ht1 ht2 => ?_
      have ht : t < 2 := by simpa using ht2
      rw [List.getElem_take, List.getElem_drop, Array.getElem_toList]
      have hf := flat_at ys.toArray (j * 2 + t) (by simp; omega)
      rw [getElem!_pos (flatK encP 2 ys.toArray) (j * 2 + t) (by simp; omega), show (j * 2 + t) / 2 = j by omega, show (j * 2 + t) % 2 = t by omega, hp] at hf
      rw [hf]
      rcases (show t = 0 ∨ t = 1 by omega) with e | e <;> subst e <;> simp [encP]
    rw [show Kd.sz k69 = 2 from rfl, e]
    exact k69_mkM _ _ _ _
  · unfold sortWorldK grow putRowK putRow mapBlock Go.Sort.ahead
    simp only
    have : k < w.heap.size := by omega
    rw [Array.getElem?_append_left (by simpa using this), Array.getElem?_modify, if_neg (by omega)]
set_option maxHeartbeats 2000000 in
theorem SortFunc69.calls (base : Nat) (ok : Nat → Prop) (v : Value) (xs : List S69) (w : World) (hR : Kd.R k69 69 w base ok v xs) (hn : xs.length < 4611686018427387904) :
    Calls Try.prog 55 #[v, .func (.func 56) #[] #[]] w fun e w' => e = .returned (.tuple #[]) ∧ Kd.R k69 69 w' base ok v (sortP xs) ∧ Below base w w' := by
  by_cases hne : xs = []
  · subst hne
    obtain ⟨A, c, rfl⟩ := Kd.R_slice hR
    refine (Go.Proofs.AnyF.slices_SortFunc_none Try.sortPair A c _ w).mono ?_
    rintro e w' ⟨rfl, rfl⟩
    exact ⟨rfl, by unfold sortP; rw [if_pos rfl]; exact hR, Below.refl _ _⟩
  obtain ⟨g, cap, cur, rfl, hb, hg, h1, h2, h3, h4, h5⟩ := R_cells hR hne
  have hH : Go.Sort.HoldsK encP 2 w g 0 xs.toArray := by
    intro j hj
    have hj' : j < xs.length * 2 := by simpa using hj
    refine ⟨?_, blk_frozen hg _⟩
    rw [Nat.zero_add, blk_cell hg]
    have e : cur[j]? = (cur.toList.take (xs.length * 2))[j]? := by rw [List.getElem?_take, if_pos hj']; simp
    rw [e, h4, Array.getElem?_toList, Array.getElem?_eq_getElem (by simpa using hj), getElem!_pos _ j (by simpa using hj)]; rfl
  have eg : ∀ args w, (callFunc 56 args).run Try.prog w = .ok (.enter 56 args) w := enters_of Try.func56 (by kernel_rfl) rfl
  have hcon := Go.Proofs.AnyQ.slices_SortFunc_eq Try.sortPair 2 Try.isAgg69 Try.sizeOf69 encP (fun _ => rfl) (fun x v hv => by simp [encP] at hv; rcases hv with rfl | rfl <;> rfl) cmpP swoP 56 #[] g 0 cap xs.toArray w eg (cmpLaysP _ _ _ _) hH (blk_lt hg) (by simpa using hn)
  refine Calls.mono (show Calls Try.prog 55 _ _ _ from hcon) ?_
  rintro e w' ⟨rfl, n, os, rfl⟩
  have hy : (sortP xs).length = xs.length := (sortP_spec xs).1.length_eq
  have := R_sorted hR hne hy n os
  have e : (sortP xs).toArray = Go.Sort.pdq (Go.Proofs.ltOf cmpP) xs.toArray 0 xs.toArray.size (Go.Lib.bitLen xs.toArray.size) true true := by unfold sortP; rw [if_neg hne]
  rw [e] at this
  exact ⟨rfl, this⟩
end Go.Proofs.Ytehcmedeeaoebaa.PB
end
section
namespace Go.Proofs.Ytehcmedeeaoebaa.PB
open Go.RowKit Go.Proofs.YtehcmedeeaoebaaW.PrintWords Go.Proofs.YtehcmedeeaoebaaW.PrintLast Go.Proofs.YtehcmedeeaoebaaW.PrintMore
attribute [local go_sem] max2_int min2_int max_two min_two max_three min_three max_four min_four
set_option linter.unusedVariables false
set_option linter.unusedSimpArgs false
mutual
def ambryref02_Below.l0 : Nat → ByteArray → ByteArray → Int → Option (Bool)
  | 0, _, _, _ => none
  | k + 1, x0, x1, x5 => if x5 < (x0.size : Int) then (ambryref02_Below.j1 k x0 x1 x5 (decide (x5 < (x1.size : Int)))) else (ambryref02_Below.j1 k x0 x1 x5 false)
def ambryref02_Below.j1 : Nat → ByteArray → ByteArray → Int → Bool → Option (Bool)
  | 0, _, _, _, _ => none
  | k + 1, x0, x1, x5, x15 => if x15 = true then (if 0 ≤ x5 then (if x5 < (x0.size : Int) then (if x5 < (x1.size : Int) then (if (bt x0 x5) = (bt x1 x5) then (ambryref02_Below.l0 k x0 x1 (wrap64 (x5 + 1))) else (some (decide ((bt x0 x5) < (bt x1 x5))))) else (none)) else (none)) else (none)) else (some (decide ((x0.size : Int) < (x1.size : Int))))
end
def ambryref02_Below.f (k : Nat) (a0 : ByteArray) (a1 : ByteArray) : Option (Bool) := ambryref02_Below.l0 k a0 a1 0
set_option maxHeartbeats 8000000 in
set_option maxRecDepth 100000 in
theorem ambryref02_Below.calls (k : Nat) (a0 : ByteArray) (a1 : ByteArray) (r : Bool) (w : World) (h : ambryref02_Below.f k a0 a1 = some r) :
    Calls Try.prog 50 #[.string a0, .string a1] w fun e w' => e = .returned (.bool r) ∧ Drawn0 w w' := by
  have H : (ambryref02_Below.l0 k a0 a1 0) = some r := h
  clear h
  have H' := Aside0.mk H
  clear H
  go_enter Try.func50, Try.ntmps50
  go_wp2
  repeat (go_quiet (fail); try go_wp2)
  go_loopg [5] k (fun kq v5 w' => ∃ (x5_1 : Int), v5 = .int .i64 x5_1 ∧ Aside0 (ambryref02_Below.l0 kq a0 a1 x5_1 = some r) ∧ Aside0 (kq ≤ k) ∧ Drawn0 w w')
  case atStart => exact ⟨(0), (by first | rfl | (simp; done) | (simp [*]; done)), H', ⟨Nat.le_refl _⟩, by repeat (first | exact Drawn0.refl _ | apply Drawn0.step)⟩
  case round =>
    clear H'
    try clear p2
    obtain ⟨x5_1, rfl, HA, HK1, ⟨m1, rfl⟩⟩ := hrel
    cases gk with
    | zero => exact absurd HA.out (by simp [ambryref02_Below.l0])
    | succ k1 =>
      have H := HA.out
      clear HA
      simp only [ambryref02_Below.l0] at H
      have HC3 := Aside0.mk H
      clear H
      go_upto_region 2 with (fail)
      repeat (go_quiet (fail); go_upto_region 2 with (fail))
      go_cut [15] (fun v15 wc => ∃ (kq : Nat) (x15_2 : Bool), v15 = .bool x15_2 ∧ Aside0 (ambryref02_Below.j1 kq a0 a1 x5_1 x15_2 = some r) ∧ Aside0 (kq ≤ k1) ∧ Drawn0 w wc)
      case first =>
        have H := HC3.out
        clear HC3
        by_cases c4 : x5_1 < (a0.size : Int)
        · rw [if_pos c4] at H
          have c4b0 : decide (x5_1 < (a0.size : Int)) = true := decide_eq_true c4
          clear c4
          (first | rw [c4b0] | (simp only [i64_w, i32_w]; rw [c4b0]) | skip)
          have H' := Aside0.mk H
          clear H
          go_wp2
          repeat (go_quiet (fail); try go_wp2)
          go_meet
          case rel => exact ⟨_, (decide (x5_1 < (a1.size : Int))), (by first | rfl | (simp; done) | (simp [*]; done)), H', ⟨by have := HK1.out; first | omega | exact Nat.le_refl _⟩, by repeat (first | exact Drawn0.refl _ | apply Drawn0.step)⟩
        · rw [if_neg c4] at H
          have c4b0 : decide (x5_1 < (a0.size : Int)) = false := decide_eq_false c4
          clear c4
          (first | rw [c4b0] | (simp only [i64_w, i32_w]; rw [c4b0]) | skip)
          have H' := Aside0.mk H
          clear H
          go_wp2
          repeat (go_quiet (fail); try go_wp2)
          go_meet
          case rel => exact ⟨_, (false), (by first | rfl | (simp; done) | (simp [*]; done)), H', ⟨by have := HK1.out; first | omega | exact Nat.le_refl _⟩, by repeat (first | exact Drawn0.refl _ | apply Drawn0.step)⟩
      case rest =>
        clear HC3
        try clear p2
        try clear c4
        try clear c4b0
        try clear p2
        obtain ⟨kq, x15_2, rfl, HA, HJ2, ⟨mc2, rfl⟩⟩ := hcut
        cases kq with
        | zero => exact absurd HA.out (by simp [ambryref02_Below.j1])
        | succ kj2 =>
          have H := HA.out
          clear HA
          simp only [ambryref02_Below.j1] at H
          by_cases c5 : x15_2 = true
          · subst c5
            have H1 : (if 0 ≤ x5_1 then (if x5_1 < (a0.size : Int) then (if x5_1 < (a1.size : Int) then (if (bt a0 x5_1) = (bt a1 x5_1) then (ambryref02_Below.l0 kj2 a0 a1 (wrap64 (x5_1 + 1))) else (some (decide ((bt a0 x5_1) < (bt a1 x5_1))))) else (none)) else (none)) else (none)) = some r := by rw [if_pos rfl] at H; exact H
            clear H
            have H := H1
            clear H1
            by_cases c6 : 0 ≤ x5_1
            · rw [if_pos c6] at H
              have c6b0 : decide (0 ≤ x5_1) = true := decide_eq_true c6
              clear c6
              by_cases c7 : x5_1 < (a0.size : Int)
              · rw [if_pos c7] at H
                have c7b0 : decide (x5_1 < (a0.size : Int)) = true := decide_eq_true c7
                clear c7
                by_cases c9 : x5_1 < (a1.size : Int)
                · rw [if_pos c9] at H
                  have c9b0 : decide (x5_1 < (a1.size : Int)) = true := decide_eq_true c9
                  clear c9
                  by_cases c11 : (bt a0 x5_1) = (bt a1 x5_1)
                  · rw [if_pos c11] at H
                    have c11b0 : ((bt a0 x5_1) == (bt a1 x5_1)) = true := beq_iff_eq.mpr c11
                    have c11b1 : ((bt a0 x5_1) != (bt a1 x5_1)) = false := bne_eq_false_iff_eq.mpr c11
                    clear c11
                    have H' := Aside0.mk H
                    clear H
                    have p8 : 0 ≤ (x5_1 : Int) := of_decide_eq_true (by first | (with_reducible assumption) | assumption)
                    have q8 : x5_1 < (a0.size : Int) := of_decide_eq_true (by first | (with_reducible assumption) | assumption)
                    have hx8 := bt_at a0 x5_1
                    replace p8 := eq_true p8
                    replace q8 := eq_true q8
                    have p10 : 0 ≤ (x5_1 : Int) := of_decide_eq_true (by first | (with_reducible assumption) | assumption)
                    have q10 : x5_1 < (a1.size : Int) := of_decide_eq_true (by first | (with_reducible assumption) | assumption)
                    have hx10 := bt_at a1 x5_1
                    replace p10 := eq_true p10
                    replace q10 := eq_true q10
                    go_wp2
                    repeat (go_quiet (fail); try go_wp2)
                    go_roundg kj2
                    case measure => have := HK1.out; have := HJ2.out; omega
                    case rel => exact ⟨(wrap64 (x5_1 + 1)), (by first | rfl | (simp; done) | (simp [*]; done)), H', ⟨by have := HK1.out; have := HJ2.out; omega⟩, by repeat (first | exact Drawn0.refl _ | apply Drawn0.step)⟩
                  · rw [if_neg c11] at H
                    have c11b0 : ((bt a0 x5_1) == (bt a1 x5_1)) = false := beq_eq_false_iff_ne.mpr c11
                    have c11b1 : ((bt a0 x5_1) != (bt a1 x5_1)) = true := bne_iff_ne.mpr c11
                    obtain rfl := Option.some.inj H
                    have p8 : 0 ≤ (x5_1 : Int) := of_decide_eq_true (by first | (with_reducible assumption) | assumption)
                    have q8 : x5_1 < (a0.size : Int) := of_decide_eq_true (by first | (with_reducible assumption) | assumption)
                    have hx8 := bt_at a0 x5_1
                    replace p8 := eq_true p8
                    replace q8 := eq_true q8
                    have p10 : 0 ≤ (x5_1 : Int) := of_decide_eq_true (by first | (with_reducible assumption) | assumption)
                    have q10 : x5_1 < (a1.size : Int) := of_decide_eq_true (by first | (with_reducible assumption) | assumption)
                    have hx10 := bt_at a1 x5_1
                    replace p10 := eq_true p10
                    replace q10 := eq_true q10
                    have p12 : 0 ≤ (x5_1 : Int) := of_decide_eq_true (by first | (with_reducible assumption) | assumption)
                    have q12 : x5_1 < (a0.size : Int) := of_decide_eq_true (by first | (with_reducible assumption) | assumption)
                    have hx12 := bt_at a0 x5_1
                    replace p12 := eq_true p12
                    replace q12 := eq_true q12
                    have p13 : 0 ≤ (x5_1 : Int) := of_decide_eq_true (by first | (with_reducible assumption) | assumption)
                    have q13 : x5_1 < (a1.size : Int) := of_decide_eq_true (by first | (with_reducible assumption) | assumption)
                    have hx13 := bt_at a1 x5_1
                    replace p13 := eq_true p13
                    replace q13 := eq_true q13
                    go_wp2
                    repeat (go_quiet (fail); try go_wp2)
                    go_ret
                    exact ⟨by first | rfl | (simp; done) | (simp [*]; done), by repeat (first | exact Drawn0.refl _ | apply Drawn0.step)⟩
                · rw [if_neg c9] at H
                  exact absurd H (by simp)
              · rw [if_neg c7] at H
                exact absurd H (by simp)
            · rw [if_neg c6] at H
              exact absurd H (by simp)
          · replace c5 := Bool.eq_false_iff.mpr c5
            subst c5
            have H1 : (some (decide ((a0.size : Int) < (a1.size : Int)))) = some r := by rw [if_neg (show ¬ (false = true) by decide)] at H; exact H
            clear H
            have H := H1
            clear H1
            obtain rfl := Option.some.inj H
            go_wp2
            repeat (go_quiet (fail); try go_wp2)
            go_ret
            exact ⟨by first | rfl | (simp; done) | (simp [*]; done), by repeat (first | exact Drawn0.refl _ | apply Drawn0.step)⟩
end Go.Proofs.Ytehcmedeeaoebaa.PB
end
section
namespace Go.Proofs.Ytehcmedeeaoebaa.PB
open Go.RowKit Go.Proofs.YtehcmedeeaoebaaW.PrintWords Go.Proofs.YtehcmedeeaoebaaW.PrintLast Go.Proofs.YtehcmedeeaoebaaW.PrintMore
set_option linter.unusedVariables false
theorem ne_of_beqF {a b : List UInt8} (h : (a == b) = false) : ¬ a = b := fun e => by rw [e, beq_self_eq_true] at h; cases h
theorem frm_end (s : ByteArray) (p : Nat) (h : s.size ≤ p) : frm s p = [] := by
  unfold frm
  rw [List.drop_eq_nil_iff]
  have : s.data.toList.length = s.size := by simp
  omega
theorem below_loop (a b : ByteArray) (ha : a.size ≤ 9223372036854775807 ∨ b.size ≤ 9223372036854775807) : ∀ n i, i + n = a.size → i ≤ b.size → Ev (fun k => ambryref02_Below.l0 k a b (i : Int)) (Op.bytesLess (frm a i) (frm b i)) := by
  intro n
  induction n with
  | zero =>
    intro i hi hb
    refine Ev.step (g := fun k => ambryref02_Below.j1 k a b (i : Int) false) ?_ fun k => ?_
    · refine Ev.step (Ev.of_eq (o := some (decide ((a.size : Int) < (b.size : Int)))) ?_) fun k => by simp only [ambryref02_Below.j1]; rw [if_neg (by simp)]
      congr 1
      rw [frm_end a i (by omega)]
      by_cases c : i = b.size
      · rw [frm_end b i (by omega)]
        simp [Op.bytesLess]
        omega
      · obtain ⟨y, hy⟩ := frm_of_lt (s := b) (p := i) (by omega)
        rw [hy]
        simp [Op.bytesLess]
        omega
    · simp only [ambryref02_Below.l0]
      rw [if_neg (by omega)]
  | succ n ih =>
    intro i hi hb
    obtain ⟨x, hx⟩ := frm_of_lt (s := a) (p := i) (by omega)
    have hxb := (frm_cons hx).2.1
    by_cases c : i = b.size
    · refine Ev.step (g := fun k => ambryref02_Below.j1 k a b (i : Int) false) ?_ fun k => ?_
      · refine Ev.step (Ev.of_eq (o := some (decide ((a.size : Int) < (b.size : Int)))) ?_) fun k => by simp only [ambryref02_Below.j1]; rw [if_neg (by simp)]
        congr 1
        rw [frm_end b i (by omega), hx]
        simp [Op.bytesLess]
        omega
      · simp only [ambryref02_Below.l0]
        rw [if_pos (by omega), decide_eq_false (by omega)]
    · obtain ⟨y, hy⟩ := frm_of_lt (s := b) (p := i) (by omega)
      have hyb := (frm_cons hy).2.1
      refine Ev.step (g := fun k => ambryref02_Below.j1 k a b (i : Int) true) ?_ fun k => ?_
      · by_cases e : x = y
        · have h := ih (i + 1) (by omega) (by omega)
          have hv : Op.bytesLess (frm a i) (frm b i) = Op.bytesLess (frm a (i + 1)) (frm b (i + 1)) := by
            rw [hx, hy, e, Op.bytesLess]
            simp
          rw [hv]
          refine Ev.step h fun k => ?_
          simp only [ambryref02_Below.j1]
          rw [if_pos trivial, if_pos (by omega), if_pos (by omega), if_pos (by omega), if_pos (by rw [hxb, hyb, e]), w64 (by omega) (by omega)]
          rfl
        · have hne : ¬ bt a (i : Int) = bt b (i : Int) := by
            rw [hxb, hyb]
            intro h
            exact e (UInt8.toNat_inj.1 (by omega))
          have hv : Op.bytesLess (frm a i) (frm b i) = decide (bt a (i : Int) < bt b (i : Int)) := by
            rw [hx, hy, hxb, hyb, Op.bytesLess]
            have : (x == y) = false := by simpa using e
            rw [this, Bool.false_and, Bool.or_false]
            rw [Bool.eq_iff_iff]
            simp [UInt8.lt_iff_toNat_lt]
          rw [hv]
          refine Ev.step (Ev.const _) fun k => ?_
          simp only [ambryref02_Below.j1]
          rw [if_pos trivial, if_pos (by omega), if_pos (by omega), if_pos (by omega), if_neg hne]
      · simp only [ambryref02_Below.l0]
        rw [if_pos (by omega), decide_eq_true (by omega)]
theorem Below_ev (a b : ByteArray) (ha : a.size ≤ 9223372036854775807 ∨ b.size ≤ 9223372036854775807) : Ev (fun k => ambryref02_Below.f k a b) (ltS a b) := by
  have h := below_loop a b ha a.size 0 (by omega) (by omega)
  have e : ltS a b = Op.bytesLess (frm a 0) (frm b 0) := by unfold ltS frm; rw [Lib.toList_data, Lib.toList_data, List.drop_zero, List.drop_zero]
  rw [e]
  exact h
end Go.Proofs.Ytehcmedeeaoebaa.PB
end
section
namespace Go.Proofs.Ytehcmedeeaoebaa.PB
open Go.RowKit Go.Proofs.YtehcmedeeaoebaaW.PrintWords Go.Proofs.YtehcmedeeaoebaaW.PrintLast Go.Proofs.YtehcmedeeaoebaaW.PrintMore
attribute [local go_sem] max2_int min2_int max_two min_two max_three min_three max_four min_four
set_option linter.unusedVariables false
set_option linter.unusedSimpArgs false
end Go.Proofs.Ytehcmedeeaoebaa.PB
end
section
namespace Go.Proofs.Ytehcmedeeaoebaa.PB
open Go.RowKit Go.Proofs.YtehcmedeeaoebaaW.PrintWords Go.Proofs.YtehcmedeeaoebaaW.PrintLast Go.Proofs.YtehcmedeeaoebaaW.PrintMore
set_option linter.unusedVariables false
set_option linter.unusedSimpArgs false
def Rd {α : Type} (d : Kd α) (w : World) (v : Value) (xs : List α) : Prop := ∃ A c, v = .slice A xs.length c ∧ xs.length ≤ c ∧ Kd.C d w A xs.length xs
theorem Rd.below {α : Type} {d : Kd α} {w w1 : World} {v : Value} {xs : List α} (h : Rd d w v xs) (hb : Below w.heap.size w w1) : Rd d w1 v xs := by
  obtain ⟨A, c, e, hc, h⟩ := h
  exact ⟨A, c, e, hc, Kd.C_below h hb⟩
theorem Rd.of_R {α : Type} {d : Kd α} {e base : Nat} {ok : Nat → Prop} {w : World} {v : Value} {xs : List α} (h : d.R e w base ok v xs) : Rd d w v xs := Kd.R_reads h
theorem Rd.nil {α : Type} (d : Kd α) (w : World) : Rd d w (.slice none 0 0) [] := ⟨none, 0, rfl, Nat.le_refl _, rfl, by simp, fun h => absurd h (by simp)⟩
theorem Below50.calls (a b : ByteArray) (w : World) (h : a.size ≤ 9223372036854775807 ∨ b.size ≤ 9223372036854775807) :
    Calls Try.prog 50 #[.string a, .string b] w fun e w' => e = .returned (.bool (ltS a b)) ∧ Below w.heap.size w w' := by
  obtain ⟨k, hk⟩ := (Below_ev a b h).get
  exact (ambryref02_Below.calls k a b _ w hk).mono fun e w' ⟨he, n, hn⟩ => ⟨he, by subst hn; exact pw_below_drewN (Below.refl _ _) n⟩
def putGo (k v : ByteArray) : List S69 → Bool → List S69
  | [], laid => if laid = true then [] else [⟨k, v⟩]
  | x :: r, laid => (if laid = false ∧ ltS x.f0 k = false then [⟨k, v⟩] else []) ++ ((if x.f0.toList = k.toList then [] else [x]) ++ putGo k v r (laid || !ltS x.f0 k))
def put10 (l : List S69) (k v : ByteArray) : List S69 × Int := if 128 < k.size ∨ 200 < v.size then (l, 2) else (putGo k v l false, 0)
theorem putGo_step {l : List S69} {i : Nat} (hi : i < l.length) (k v : ByteArray) (laid : Bool) : putGo k v (l.drop i) laid = (if laid = false ∧ ltS l[i].f0 k = false then [⟨k, v⟩] else []) ++ ((if l[i].f0.toList = k.toList then [] else [l[i]]) ++ putGo k v (l.drop (i + 1)) (laid || !ltS l[i].f0 k)) := by
  rw [List.drop_eq_getElem_cons hi, putGo]
set_option maxHeartbeats 8000000 in
set_option maxRecDepth 100000 in
theorem Put10.calls (l : List S69) (k v : ByteArray) (r1 : List S69) (r2 : Int) (h : put10 l k v = (r1, r2)) (A : Option Addr) (c : Nat) (w : World) (hl : l.length ≤ 1000000000000) (hC : Kd.C k69 w A l.length l) (hc : l.length ≤ c) :
    Calls Try.prog 51 #[.slice A l.length c, .string k, .string v] w fun e w' => ∃ v0, e = .returned (.tuple #[v0, .int .i64 r2]) ∧ Rd k69 w' v0 r1 ∧ Below w.heap.size w w' := by
  have HC := Aside0.mk hC
  have HCC := Aside0.mk hc
  have HB := Aside0.mk (Below.refl w.heap.size w)
  clear hC hc
  by_cases h1 : (128 : Int) < (k.size : Int)
  · obtain ⟨rfl, rfl⟩ : l = r1 ∧ (2 : Int) = r2 := by unfold put10 at h; rw [if_pos (Or.inl (by omega))] at h; simpa using h
    clear h
    go_enter Try.func51, Try.ntmps51
    go_wp2
    go_ret2
    exact ⟨_, rfl, ⟨A, c, rfl, HCC.out, HC.out⟩, HB.out⟩
  by_cases h2 : (200 : Int) < (v.size : Int)
  · obtain ⟨rfl, rfl⟩ : l = r1 ∧ (2 : Int) = r2 := by unfold put10 at h; rw [if_pos (Or.inr (by omega))] at h; simpa using h
    clear h
    go_enter Try.func51, Try.ntmps51
    go_wp2
    go_ret2
    exact ⟨_, rfl, ⟨A, c, rfl, HCC.out, HC.out⟩, HB.out⟩
  obtain ⟨D, rfl, hD⟩ : ∃ D, D = r1 ∧ putGo k v l false = D := ⟨r1, rfl, by unfold put10 at h; rw [if_neg (by omega)] at h; exact (Prod.mk.inj h).1⟩
  obtain rfl : (0 : Int) = r2 := by unfold put10 at h; rw [if_neg (by omega)] at h; exact (Prod.mk.inj h).2
  have HD := Aside0.mk hD
  clear hD h
  go_enter Try.func51, Try.ntmps51
  go_wp2
  go_loopg [8, 9, 10] l.length (fun gg s8 s9 s10 wr => ∃ (i : Nat) (laid : Bool) (acc : List S69), i ≤ l.length ∧ acc.length ≤ i + 1 ∧ (laid = false → acc.length ≤ i) ∧ l.length - i ≤ gg ∧ s9 = .bool laid ∧ s10 = .int .i64 i ∧ Aside0 (Below w.heap.size w wr) ∧ Aside0 (Kd.R k69 69 wr w.heap.size (fun _ => True) s8 acc) ∧ Aside0 (acc ++ putGo k v (l.drop i) laid = D))
  case atStart => exact ⟨0, false, [], Nat.zero_le _, by simp, by simp, by omega, rfl, rfl, HB, ⟨Kd.R_nil _ _ _ _ _⟩, ⟨by simpa using HD.out⟩⟩
  case round =>
    clear HB
    obtain ⟨i, laid, acc, hi, hacc, hla, hgg, rfl, rfl, HB, HR, HE⟩ := hrel
    have HLA := Aside0.mk hla
    have HACC := Aside0.mk hacc
    have hlz : (l.length : Int) ≤ 1000000000000 := by omega
    clear hla hacc
    by_cases hil : i < l.length
    · have hiz : (i : Int) < (l.length : Int) := by omega
      obtain ⟨ad, e, g0, g1⟩ := at_T69 HC.out (i : Int) (by omega) hiz
      cases e
      rw [rdT69_get l i hil] at g0 g1
      simp only [Int.toNat_natCast] at g0 g1
      have hst := putGo_step hil k v laid
      obtain ⟨xk, xv, hx⟩ : ∃ xk xv, l[i] = ⟨xk, xv⟩ := ⟨_, _, rfl⟩
      rw [hx] at g0 g1 hst
      simp only at g0 g1 hst
      have G0 := Aside0.mk g0
      have G1 := Aside0.mk g1
      have HST := Aside0.mk hst
      clear g0 g1 hst hx
      have h0 := (HB.out.cell (World.block_lt_of_cell? w _ G0.out)).trans G0.out
      have h1 := (HB.out.cell (World.block_lt_of_cell? w _ G1.out)).trans G1.out
      obtain ⟨q, hq⟩ : ∃ q, ltS xk k = q := ⟨_, rfl⟩
      have HQ := Aside0.mk hq
      clear hq
      obtain ⟨q2, hk⟩ : ∃ q, (xk.toList == k.toList) = q := ⟨_, rfl⟩
      have HK := Aside0.mk hk
      have HSZ : Aside0 (xk.size ≤ 9223372036854775807 ∨ k.size ≤ 9223372036854775807) := ⟨Or.inr (by omega)⟩
      have HLN : Aside0 ((acc.length + 1) * 32 ≤ 140737488355328) := ⟨by have := HACC.out; omega⟩
      have HLN1 : Aside0 (laid = false → ((acc ++ [(⟨k, v⟩ : S69)]).length + 1) * 32 ≤ 140737488355328) := ⟨fun e => by have := HLA.out e; simp; omega⟩
      cases laid with
      | true =>
        cases q2 with
        | true =>
          go_wp2
          go_roundg (l.length - (i + 1))
          case measure => omega
          case rel => exact ⟨i + 1, true, acc, by omega, by have := HACC.out; omega, by simp, by omega, rfl, by go_num, HB, HR, ⟨by have e := HE.out; rw [HST.out, if_neg (by simp), if_pos (eq_of_beq HK.out)] at e; simpa using e⟩⟩
        | false =>
          go_wp2_with (first | ((with_reducible refine gate_builtin (b := .append) (xs := #[.tmp 51, .tmp 56]) rfl ?_); at_builtin; go_must (refine Kd.R_append k69 (w0 := w) w.heap.size rfl (.tmp 51) (.tmp 56) 43 69 (.agg #[(.string ⟨#[]⟩), (.string ⟨#[]⟩)]) 32 rfl Try.underlying43 info69 rfl (by decide) (by decide) u8 acc (⟨xk, xv⟩ : S69) [.string xk, .string xv] (fun _ => True) (fun _ => False) rfl rfl (k69_mkM _ _ _ (⟨xk, xv⟩ : S69)) (fun _ hk => hk.elim) (fun _ _ => trivial) HR.out HB.out HB.out.size HLN.out ?_); intro v4 w4 ho hb hg hat; clear HB HR ; have HB := Aside0.mk hb; have HR := Aside0.mk ho; clear h0 h1; have h0 := (HB.out.cell (World.block_lt_of_cell? w _ G0.out)).trans G0.out; have h1 := (HB.out.cell (World.block_lt_of_cell? w _ G1.out)).trans G1.out; clear ho hb hg hat))
          go_wp2
          go_roundg (l.length - (i + 1))
          case measure => omega
          case rel => exact ⟨i + 1, true, acc ++ [⟨xk, xv⟩], by omega, by have := HACC.out; simp; omega, by simp, by omega, rfl, by go_num, HB, HR, ⟨by have e := HE.out; rw [HST.out, if_neg (by simp), if_neg (ne_of_beqF HK.out)] at e; simpa using e⟩⟩
      | false =>
        cases q with
        | true =>
          cases q2 with
          | true =>
            go_wp2_with (first | ((with_reducible refine gate_callee (f := 50) rfl ?_); refine goesL_ (some 35) rfl rfl Try.func50 (by kernel_rfl) rfl #[.string xk, .string k] rfl (by (try simp only [List.map_toArray, List.map_cons, List.map_nil]); first | done | rfl) ?_; go_must (refine (Below50.calls xk k _ HSZ.out).mono ?_); rintro e w5 ⟨rfl, hb⟩; have d_ := Aside0.mk (below_then HB.out HB.out.size hb); have d2_ := Aside0.mk (Kd.R_below HR.out hb); clear HR; have HR := d2_; clear d2_; clear HB; have HB := d_; clear d_; clear h0 h1; have h0 := (HB.out.cell (World.block_lt_of_cell? w _ G0.out)).trans G0.out; have h1 := (HB.out.cell (World.block_lt_of_cell? w _ G1.out)).trans G1.out; clear hb; rw [HQ.out]; refine ⟨_, rfl, ?_⟩) | (go_at_call 50; go_must (refine (Below50.calls xk k _ HSZ.out).mono ?_); rintro e w5 ⟨rfl, hb⟩; have d_ := Aside0.mk (below_then HB.out HB.out.size hb); have d2_ := Aside0.mk (Kd.R_below HR.out hb); clear HR; have HR := d2_; clear d2_; clear HB; have HB := d_; clear d_; clear h0 h1; have h0 := (HB.out.cell (World.block_lt_of_cell? w _ G0.out)).trans G0.out; have h1 := (HB.out.cell (World.block_lt_of_cell? w _ G1.out)).trans G1.out; clear hb; rw [HQ.out]))
            go_wp2
            go_roundg (l.length - (i + 1))
            case measure => omega
            case rel => exact ⟨i + 1, false, acc, by omega, by have := HACC.out; omega, fun _ => by have := HLA.out (by trivial); omega, by omega, rfl, by go_num, HB, HR, ⟨by have e := HE.out; rw [HST.out, HQ.out, if_neg (by simp), if_pos (eq_of_beq HK.out)] at e; simpa using e⟩⟩
          | false =>
            go_wp2_with (first | ((with_reducible refine gate_callee (f := 50) rfl ?_); refine goesL_ (some 35) rfl rfl Try.func50 (by kernel_rfl) rfl #[.string xk, .string k] rfl (by (try simp only [List.map_toArray, List.map_cons, List.map_nil]); first | done | rfl) ?_; go_must (refine (Below50.calls xk k _ HSZ.out).mono ?_); rintro e w5 ⟨rfl, hb⟩; have d_ := Aside0.mk (below_then HB.out HB.out.size hb); have d2_ := Aside0.mk (Kd.R_below HR.out hb); clear HR; have HR := d2_; clear d2_; clear HB; have HB := d_; clear d_; clear h0 h1; have h0 := (HB.out.cell (World.block_lt_of_cell? w _ G0.out)).trans G0.out; have h1 := (HB.out.cell (World.block_lt_of_cell? w _ G1.out)).trans G1.out; clear hb; rw [HQ.out]; refine ⟨_, rfl, ?_⟩) | (go_at_call 50; go_must (refine (Below50.calls xk k _ HSZ.out).mono ?_); rintro e w5 ⟨rfl, hb⟩; have d_ := Aside0.mk (below_then HB.out HB.out.size hb); have d2_ := Aside0.mk (Kd.R_below HR.out hb); clear HR; have HR := d2_; clear d2_; clear HB; have HB := d_; clear d_; clear h0 h1; have h0 := (HB.out.cell (World.block_lt_of_cell? w _ G0.out)).trans G0.out; have h1 := (HB.out.cell (World.block_lt_of_cell? w _ G1.out)).trans G1.out; clear hb; rw [HQ.out]) | ((with_reducible refine gate_builtin (b := .append) (xs := #[.tmp 51, .tmp 56]) rfl ?_); at_builtin; go_must (refine Kd.R_append k69 (w0 := w) w.heap.size rfl (.tmp 51) (.tmp 56) 43 69 (.agg #[(.string ⟨#[]⟩), (.string ⟨#[]⟩)]) 32 rfl Try.underlying43 info69 rfl (by decide) (by decide) u8 acc (⟨xk, xv⟩ : S69) [.string xk, .string xv] (fun _ => True) (fun _ => False) rfl rfl (k69_mkM _ _ _ (⟨xk, xv⟩ : S69)) (fun _ hk => hk.elim) (fun _ _ => trivial) HR.out HB.out HB.out.size HLN.out ?_); intro v4 w4 ho hb hg hat; clear HB HR ; have HB := Aside0.mk hb; have HR := Aside0.mk ho; clear h0 h1; have h0 := (HB.out.cell (World.block_lt_of_cell? w _ G0.out)).trans G0.out; have h1 := (HB.out.cell (World.block_lt_of_cell? w _ G1.out)).trans G1.out; clear ho hb hg hat))
            go_wp2
            go_roundg (l.length - (i + 1))
            case measure => omega
            case rel => exact ⟨i + 1, false, acc ++ [⟨xk, xv⟩], by omega, by have := HACC.out; simp; omega, fun _ => by have := HLA.out (by trivial); simp; omega, by omega, rfl, by go_num, HB, HR, ⟨by have e := HE.out; rw [HST.out, HQ.out, if_neg (by simp), if_neg (ne_of_beqF HK.out)] at e; simpa using e⟩⟩
        | false =>
          cases q2 with
          | true =>
            go_wp2_with (first | ((with_reducible refine gate_callee (f := 50) rfl ?_); refine goesL_ (some 35) rfl rfl Try.func50 (by kernel_rfl) rfl #[.string xk, .string k] rfl (by (try simp only [List.map_toArray, List.map_cons, List.map_nil]); first | done | rfl) ?_; go_must (refine (Below50.calls xk k _ HSZ.out).mono ?_); rintro e w5 ⟨rfl, hb⟩; have d_ := Aside0.mk (below_then HB.out HB.out.size hb); have d2_ := Aside0.mk (Kd.R_below HR.out hb); clear HR; have HR := d2_; clear d2_; clear HB; have HB := d_; clear d_; clear h0 h1; have h0 := (HB.out.cell (World.block_lt_of_cell? w _ G0.out)).trans G0.out; have h1 := (HB.out.cell (World.block_lt_of_cell? w _ G1.out)).trans G1.out; clear hb; rw [HQ.out]; refine ⟨_, rfl, ?_⟩) | (go_at_call 50; go_must (refine (Below50.calls xk k _ HSZ.out).mono ?_); rintro e w5 ⟨rfl, hb⟩; have d_ := Aside0.mk (below_then HB.out HB.out.size hb); have d2_ := Aside0.mk (Kd.R_below HR.out hb); clear HR; have HR := d2_; clear d2_; clear HB; have HB := d_; clear d_; clear h0 h1; have h0 := (HB.out.cell (World.block_lt_of_cell? w _ G0.out)).trans G0.out; have h1 := (HB.out.cell (World.block_lt_of_cell? w _ G1.out)).trans G1.out; clear hb; rw [HQ.out]) | ((with_reducible refine gate_builtin (b := .append) (xs := #[.tmp 38, .tmp 42]) rfl ?_); at_builtin; go_must (refine Kd.R_append k69 (w0 := w) w.heap.size rfl (.tmp 38) (.tmp 42) 43 69 (.agg #[(.string ⟨#[]⟩), (.string ⟨#[]⟩)]) 32 rfl Try.underlying43 info69 rfl (by decide) (by decide) u8 acc (⟨k, v⟩ : S69) [.string k, .string v] (fun _ => True) (fun _ => False) rfl rfl (k69_mkM _ _ _ (⟨k, v⟩ : S69)) (fun _ hk => hk.elim) (fun _ _ => trivial) HR.out HB.out HB.out.size HLN.out ?_); intro v3 w3 ho hb hg hat; clear HB HR ; have HB := Aside0.mk hb; have HR := Aside0.mk ho; clear h0 h1; have h0 := (HB.out.cell (World.block_lt_of_cell? w _ G0.out)).trans G0.out; have h1 := (HB.out.cell (World.block_lt_of_cell? w _ G1.out)).trans G1.out; clear ho hb hg hat))
            go_wp2
            go_roundg (l.length - (i + 1))
            case measure => omega
            case rel => exact ⟨i + 1, true, acc ++ [⟨k, v⟩], by omega, by have := HLA.out (by trivial); simp; omega, by simp, by omega, rfl, by go_num, HB, HR, ⟨by have e := HE.out; rw [HST.out, HQ.out, if_pos (by trivial), if_pos (eq_of_beq HK.out)] at e; simpa using e⟩⟩
          | false =>
            go_wp2_with (first | ((with_reducible refine gate_callee (f := 50) rfl ?_); refine goesL_ (some 35) rfl rfl Try.func50 (by kernel_rfl) rfl #[.string xk, .string k] rfl (by (try simp only [List.map_toArray, List.map_cons, List.map_nil]); first | done | rfl) ?_; go_must (refine (Below50.calls xk k _ HSZ.out).mono ?_); rintro e w5 ⟨rfl, hb⟩; have d_ := Aside0.mk (below_then HB.out HB.out.size hb); have d2_ := Aside0.mk (Kd.R_below HR.out hb); clear HR; have HR := d2_; clear d2_; clear HB; have HB := d_; clear d_; clear h0 h1; have h0 := (HB.out.cell (World.block_lt_of_cell? w _ G0.out)).trans G0.out; have h1 := (HB.out.cell (World.block_lt_of_cell? w _ G1.out)).trans G1.out; clear hb; rw [HQ.out]; refine ⟨_, rfl, ?_⟩) | (go_at_call 50; go_must (refine (Below50.calls xk k _ HSZ.out).mono ?_); rintro e w5 ⟨rfl, hb⟩; have d_ := Aside0.mk (below_then HB.out HB.out.size hb); have d2_ := Aside0.mk (Kd.R_below HR.out hb); clear HR; have HR := d2_; clear d2_; clear HB; have HB := d_; clear d_; clear h0 h1; have h0 := (HB.out.cell (World.block_lt_of_cell? w _ G0.out)).trans G0.out; have h1 := (HB.out.cell (World.block_lt_of_cell? w _ G1.out)).trans G1.out; clear hb; rw [HQ.out]) | ((with_reducible refine gate_builtin (b := .append) (xs := #[.tmp 38, .tmp 42]) rfl ?_); at_builtin; go_must (refine Kd.R_append k69 (w0 := w) w.heap.size rfl (.tmp 38) (.tmp 42) 43 69 (.agg #[(.string ⟨#[]⟩), (.string ⟨#[]⟩)]) 32 rfl Try.underlying43 info69 rfl (by decide) (by decide) u8 acc (⟨k, v⟩ : S69) [.string k, .string v] (fun _ => True) (fun _ => False) rfl rfl (k69_mkM _ _ _ (⟨k, v⟩ : S69)) (fun _ hk => hk.elim) (fun _ _ => trivial) HR.out HB.out HB.out.size HLN.out ?_); intro v3 w3 ho hb hg hat; clear HB HR ; have HB := Aside0.mk hb; have HR := Aside0.mk ho; clear h0 h1; have h0 := (HB.out.cell (World.block_lt_of_cell? w _ G0.out)).trans G0.out; have h1 := (HB.out.cell (World.block_lt_of_cell? w _ G1.out)).trans G1.out; clear ho hb hg hat) | ((with_reducible refine gate_builtin (b := .append) (xs := #[.tmp 51, .tmp 56]) rfl ?_); at_builtin; go_must (refine Kd.R_append k69 (w0 := w) w.heap.size rfl (.tmp 51) (.tmp 56) 43 69 (.agg #[(.string ⟨#[]⟩), (.string ⟨#[]⟩)]) 32 rfl Try.underlying43 info69 rfl (by decide) (by decide) v3 (acc ++ [(⟨k, v⟩ : S69)]) (⟨xk, xv⟩ : S69) [.string xk, .string xv] (fun _ => True) (fun _ => False) rfl rfl (k69_mkM _ _ _ (⟨xk, xv⟩ : S69)) (fun _ hk => hk.elim) (fun _ _ => trivial) HR.out HB.out HB.out.size (HLN1.out (by trivial)) ?_); intro v4 w4 ho hb hg hat; clear HB HR ; have HB := Aside0.mk hb; have HR := Aside0.mk ho; clear h0 h1; have h0 := (HB.out.cell (World.block_lt_of_cell? w _ G0.out)).trans G0.out; have h1 := (HB.out.cell (World.block_lt_of_cell? w _ G1.out)).trans G1.out; clear ho hb hg hat))
            go_wp2
            go_roundg (l.length - (i + 1))
            case measure => omega
            case rel => exact ⟨i + 1, true, acc ++ [⟨k, v⟩] ++ [⟨xk, xv⟩], by omega, by have := HLA.out (by trivial); simp; omega, by simp, by omega, rfl, by go_num, HB, HR, ⟨by have e := HE.out; rw [HST.out, HQ.out, if_pos (by trivial), if_neg (ne_of_beqF HK.out)] at e; simpa using e⟩⟩
    · have hiz : ¬ (i : Int) < (l.length : Int) := by omega
      have HLN : Aside0 ((acc.length + 1) * 32 ≤ 140737488355328) := ⟨by have := HACC.out; omega⟩
      cases laid with
      | true =>
        have HF : Aside0 (acc = D) := ⟨by have e := HE.out; rw [List.drop_of_length_le (by omega)] at e; simpa [putGo] using e⟩
        go_wp2
        go_ret2
        exact ⟨_, rfl, by rw [← HF.out]; exact Rd.of_R HR.out, HB.out⟩
      | false =>
        have HF : Aside0 (acc ++ [⟨k, v⟩] = D) := ⟨by have e := HE.out; rw [List.drop_of_length_le (by omega)] at e; simpa [putGo] using e⟩
        go_wp2_with (first | ((with_reducible refine gate_builtin (b := .append) (xs := #[.tmp 60, .tmp 64]) rfl ?_); at_builtin; go_must (refine Kd.R_append k69 (w0 := w) w.heap.size rfl (.tmp 60) (.tmp 64) 43 69 (.agg #[(.string ⟨#[]⟩), (.string ⟨#[]⟩)]) 32 rfl Try.underlying43 info69 rfl (by decide) (by decide) u8 acc (⟨k, v⟩ : S69) [.string k, .string v] (fun _ => True) (fun _ => False) rfl rfl (k69_mkM _ _ _ (⟨k, v⟩ : S69)) (fun _ hk => hk.elim) (fun _ _ => trivial) HR.out HB.out HB.out.size HLN.out ?_); intro v5 w5 ho hb hg hat; clear HB HR ; have HB := Aside0.mk hb; have HR := Aside0.mk ho; clear ho hb hg hat))
        go_ret2
        exact ⟨_, rfl, by rw [← HF.out]; exact Rd.of_R HR.out, HB.out⟩
end Go.Proofs.Ytehcmedeeaoebaa.PB
end
