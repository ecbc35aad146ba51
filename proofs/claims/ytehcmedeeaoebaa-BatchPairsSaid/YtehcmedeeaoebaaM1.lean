import Derived.Test.YtehcmedeeaoebaaProg
import Derived.Below
import Derived.Deep.Draws
import Derived.Deep.AppendLies
import Derived.Maps.AppendAt
import Derived.OwnWalk
import Derived.Laws.BytesArg
import Derived.Laws.MakeOwn
import Derived.Laws.OwnMore
import Derived.Deep.OwnRows
import Derived.Tactics
import Derived.Lib.ConvBytes
import Derived.Laws.Slices
import Derived.WalkKit
import Derived.KernelRfl
import Derived.RowKit3
import Derived.Deep.LoopGhost
import Derived.Deep.QuietTactic
import Derived.BigQuiet
import Derived.WideLaws
import Derived.Deep.DeepCutAuto
import Derived.Deep.CutBlock
import Derived.Deep.RegionHeld3
import Derived.Laws.Rows
import Derived.Lib.AppendStr
import Derived.ArgAppend
import Derived.Laws.IdiomCopy
import Derived.OrdersHeld
import Derived.Laws.BitsLemmas
import Derived.RowKit
import Derived.Test.YtehcmedeeaoebaaM0
import Derived.WalkSpells
import Derived.Shelf.GgClosure.Gives
import Derived.Lib.SliceRun
section
namespace Go.Proofs.Ytehcmedeeaoebaa.PB
open Go.RowKit Go.Proofs.YtehcmedeeaoebaaW.PrintWords Go.Proofs.YtehcmedeeaoebaaW.PrintLast Go.Proofs.YtehcmedeeaoebaaW.PrintMore
attribute [local go_sem] max2_int min2_int max_two min_two max_three min_three max_four min_four
set_option linter.unusedVariables false
set_option linter.unusedSimpArgs false
def errW : Option Int → Value
  | none => .nilIface
  | some c => .iface 0 (.int .i64 c)
theorem errW_none : errW none = .nilIface := rfl
theorem errW_some (c : Int) : errW (some c) = .iface 0 (.int .i64 c) := rfl
theorem info5 : (Try.prog.info? 5).map (fun i => (i.zero, i.size, i.bytes)) = some (some (.int .u8 0), 1, 1) := by kernel_rfl
theorem info52 : (Try.prog.info? 52).map (fun i => (i.zero, i.size, i.bytes)) = some (some (.agg #[(.string ⟨#[]⟩), (.string ⟨#[]⟩), (.bool false)]), 3, 40) := by kernel_rfl
theorem info67 : (Try.prog.info? 67).map (fun i => (i.zero, i.size, i.bytes)) = some (some (.agg #[(.string ⟨#[]⟩), (.slice none 0 0)]), 2, 40) := by kernel_rfl
theorem info69 : (Try.prog.info? 69).map (fun i => (i.zero, i.size, i.bytes)) = some (some (.agg #[(.string ⟨#[]⟩), (.string ⟨#[]⟩)]), 2, 32) := by kernel_rfl
theorem info80 : (Try.prog.info? 80).map (fun i => (i.zero, i.size, i.bytes)) = some (some (.agg #[(.int .i64 0), (.string ⟨#[]⟩), (.bool false)]), 3, 32) := by kernel_rfl
structure S52 where
  f0 : ByteArray
  f1 : ByteArray
  f2 : Bool
def z52 : S52 := ⟨(⟨#[]⟩ : ByteArray), (⟨#[]⟩ : ByteArray), false⟩
def k52 : Kd S52 := Kd.iso (Kd.pair Kd.string (Kd.pair Kd.string Kd.bool)) (fun x : S52 => (x.f0, x.f1, x.f2))
theorem k52_open {w : World} {x : S52} {cs : List Value} (h : k52.K w x cs) : cs = [.string x.f0, .string x.f1, .bool x.f2] := by
  obtain ⟨_, _, rfl, rfl, ⟨_, _, rfl, rfl, rfl⟩⟩ := h
  exact rfl
theorem k52_mkM (w : World) (base : Nat) (ok : Nat → Prop) (x : S52)  : k52.M w base ok x [.string x.f0, .string x.f1, .bool x.f2] := ⟨[.string x.f0], [.string x.f1, .bool x.f2], rfl, rfl, ⟨[.string x.f1], [.bool x.f2], rfl, rfl, rfl⟩⟩
def rd_T52 (xs : List S52) (i : Int) : S52 := xs.getD i.toNat z52
theorem at_T52 {w : World} {A : Option Addr} {n : Nat} {xs : List S52} (h : Kd.C k52 w A n xs) (i : Int) (h0 : 0 ≤ i) (h1 : i < n) : ∃ ad , A = some ad ∧ w.cell? (ad.add (i.toNat * 3)) = some (.string (rd_T52 xs i).f0) ∧ w.cell? ⟨(ad.add (i.toNat * 3)).block, (ad.add (i.toNat * 3)).off + 1, none⟩ = some (.string (rd_T52 xs i).f1) ∧ w.cell? ⟨(ad.add (i.toNat * 3)).block, (ad.add (i.toNat * 3)).off + 2, none⟩ = some (.bool (rd_T52 xs i).f2) := by
  obtain ⟨ad, c, e, _, hK, hc0⟩ := Kd.C_get h z52 i h0 h1
  have hc : ∀ j u, c[j]? = some u → w.cell? (ad.add (i.toNat * 3 + j)) = some u := hc0
  obtain rfl := k52_open hK
  exact ⟨ad, e, hc 0 _ rfl, by rw [← add_field _ _ 1 (by omega)]; exact hc 1 _ rfl, by rw [← add_field _ _ 2 (by omega)]; exact hc 2 _ rfl⟩
structure S69 where
  f0 : ByteArray
  f1 : ByteArray
def z69 : S69 := ⟨(⟨#[]⟩ : ByteArray), (⟨#[]⟩ : ByteArray)⟩
def k69 : Kd S69 := Kd.iso (Kd.pair Kd.string Kd.string) (fun x : S69 => (x.f0, x.f1))
theorem k69_open {w : World} {x : S69} {cs : List Value} (h : k69.K w x cs) : cs = [.string x.f0, .string x.f1] := by
  obtain ⟨_, _, rfl, rfl, rfl⟩ := h
  exact rfl
theorem k69_openM {w : World} {base : Nat} {ok : Nat → Prop} {x : S69} {cs : List Value} (h : k69.M w base ok x cs) : cs = [.string x.f0, .string x.f1] := by
  obtain ⟨_, _, rfl, rfl, rfl⟩ := h
  exact rfl
theorem k69_mk (w : World) (x : S69)  : k69.K w x [.string x.f0, .string x.f1] := ⟨[.string x.f0], [.string x.f1], rfl, rfl, rfl⟩
theorem k69_mkM (w : World) (base : Nat) (ok : Nat → Prop) (x : S69)  : k69.M w base ok x [.string x.f0, .string x.f1] := ⟨[.string x.f0], [.string x.f1], rfl, rfl, rfl⟩
def rd_T69 (xs : List S69) (i : Int) : S69 := xs.getD i.toNat z69
theorem at_T69 {w : World} {A : Option Addr} {n : Nat} {xs : List S69} (h : Kd.C k69 w A n xs) (i : Int) (h0 : 0 ≤ i) (h1 : i < n) : ∃ ad , A = some ad ∧ w.cell? (ad.add (i.toNat * 2)) = some (.string (rd_T69 xs i).f0) ∧ w.cell? ⟨(ad.add (i.toNat * 2)).block, (ad.add (i.toNat * 2)).off + 1, none⟩ = some (.string (rd_T69 xs i).f1) := by
  obtain ⟨ad, c, e, _, hK, hc0⟩ := Kd.C_get h z69 i h0 h1
  have hc : ∀ j u, c[j]? = some u → w.cell? (ad.add (i.toNat * 2 + j)) = some u := hc0
  obtain rfl := k69_open hK
  exact ⟨ad, e, hc 0 _ rfl, by rw [← add_field _ _ 1 (by omega)]; exact hc 1 _ rfl⟩
structure S80 where
  f0 : Int
  f1 : ByteArray
  f2 : Bool
def z80 : S80 := ⟨(0 : Int), (⟨#[]⟩ : ByteArray), false⟩
def k80 : Kd S80 := Kd.iso (Kd.pair (Kd.int .i64) (Kd.pair Kd.string Kd.bool)) (fun x : S80 => (x.f0, x.f1, x.f2))
theorem k80_open {w : World} {x : S80} {cs : List Value} (h : k80.K w x cs) : cs = [.int .i64 x.f0, .string x.f1, .bool x.f2] := by
  obtain ⟨_, _, rfl, rfl, ⟨_, _, rfl, rfl, rfl⟩⟩ := h
  exact rfl
theorem k80_openM {w : World} {base : Nat} {ok : Nat → Prop} {x : S80} {cs : List Value} (h : k80.M w base ok x cs) : cs = [.int .i64 x.f0, .string x.f1, .bool x.f2] := by
  obtain ⟨_, _, rfl, rfl, ⟨_, _, rfl, rfl, rfl⟩⟩ := h
  exact rfl
theorem k80_mk (w : World) (x : S80)  : k80.K w x [.int .i64 x.f0, .string x.f1, .bool x.f2] := ⟨[.int .i64 x.f0], [.string x.f1, .bool x.f2], rfl, rfl, ⟨[.string x.f1], [.bool x.f2], rfl, rfl, rfl⟩⟩
theorem k80_mkM (w : World) (base : Nat) (ok : Nat → Prop) (x : S80)  : k80.M w base ok x [.int .i64 x.f0, .string x.f1, .bool x.f2] := ⟨[.int .i64 x.f0], [.string x.f1, .bool x.f2], rfl, rfl, ⟨[.string x.f1], [.bool x.f2], rfl, rfl, rfl⟩⟩
def rd_T80 (xs : List S80) (i : Int) : S80 := xs.getD i.toNat z80
theorem at_T80 {w : World} {A : Option Addr} {n : Nat} {xs : List S80} (h : Kd.C k80 w A n xs) (i : Int) (h0 : 0 ≤ i) (h1 : i < n) : ∃ ad , A = some ad ∧ w.cell? (ad.add (i.toNat * 3)) = some (.int .i64 (rd_T80 xs i).f0) ∧ w.cell? ⟨(ad.add (i.toNat * 3)).block, (ad.add (i.toNat * 3)).off + 1, none⟩ = some (.string (rd_T80 xs i).f1) ∧ w.cell? ⟨(ad.add (i.toNat * 3)).block, (ad.add (i.toNat * 3)).off + 2, none⟩ = some (.bool (rd_T80 xs i).f2) := by
  obtain ⟨ad, c, e, _, hK, hc0⟩ := Kd.C_get h z80 i h0 h1
  have hc : ∀ j u, c[j]? = some u → w.cell? (ad.add (i.toNat * 3 + j)) = some u := hc0
  obtain rfl := k80_open hK
  exact ⟨ad, e, hc 0 _ rfl, by rw [← add_field _ _ 1 (by omega)]; exact hc 1 _ rfl, by rw [← add_field _ _ 2 (by omega)]; exact hc 2 _ rfl⟩
structure S67 where
  f0 : ByteArray
  f1 : (List S80)
def z67 : S67 := ⟨(⟨#[]⟩ : ByteArray), ([] : List S80)⟩
def k67 : Kd S67 := Kd.iso (Kd.pair Kd.string (Kd.slice 80 k80)) (fun x : S67 => (x.f0, x.f1))
theorem k67_open {w : World} {x : S67} {cs : List Value} (h : k67.K w x cs) : ∃ A1 c1, cs = [.string x.f0, .slice A1 x.f1.length c1] ∧ x.f1.length ≤ c1 ∧ k80.C w A1 x.f1.length x.f1 := by
  obtain ⟨_, _, rfl, rfl, ⟨A1, c1, rfl, l1, g1⟩⟩ := h
  exact ⟨A1, c1, rfl, l1, g1⟩
theorem k67_mk (w : World) (x : S67) {A1 : Option Addr} {c1 : Nat} (l1 : x.f1.length ≤ c1) (g1 : k80.C w A1 x.f1.length x.f1) : k67.K w x [.string x.f0, .slice A1 x.f1.length c1] := ⟨[.string x.f0], [.slice A1 x.f1.length c1], rfl, rfl, ⟨A1, c1, rfl, l1, g1⟩⟩
theorem k67_mkM (w : World) (base : Nat) (ok : Nat → Prop) (x : S67) {v1 : Value} (g1 : k80.R 80 w base ok v1 x.f1) : k67.M w base ok x [.string x.f0, v1] := ⟨[.string x.f0], [v1], rfl, rfl, ⟨v1, rfl, g1⟩⟩
theorem k67_mkF (W : World) (ok : Nat → Prop) (x : S67) {A1 : Option Addr} {c1 : Nat} (l1 : x.f1.length ≤ c1) (g1 : Kd.F k80 W ok A1 x.f1.length x.f1) : Kd.FK k67 W ok x [.string x.f0, .slice A1 x.f1.length c1] := fun W2 hW => k67_mk W2 x l1 (g1 W2 hW)
def rd_T67 (xs : List S67) (i : Int) : S67 := xs.getD i.toNat z67
theorem at_T67 {w : World} {A : Option Addr} {n : Nat} {xs : List S67} (h : Kd.C k67 w A n xs) (i : Int) (h0 : 0 ≤ i) (h1 : i < n) : ∃ ad A1 c1, A = some ad ∧ w.cell? (ad.add (i.toNat * 2)) = some (.string (rd_T67 xs i).f0) ∧ w.cell? ⟨(ad.add (i.toNat * 2)).block, (ad.add (i.toNat * 2)).off + 1, none⟩ = some (.slice A1 (rd_T67 xs i).f1.length c1) ∧ (rd_T67 xs i).f1.length ≤ c1 ∧ k80.C w A1 (rd_T67 xs i).f1.length (rd_T67 xs i).f1 := by
  obtain ⟨ad, c, e, _, hK, hc0⟩ := Kd.C_get h z67 i h0 h1
  have hc : ∀ j u, c[j]? = some u → w.cell? (ad.add (i.toNat * 2 + j)) = some u := hc0
  obtain ⟨A1, c1, rfl, l1, g1⟩ := k67_open hK
  exact ⟨ad, A1, c1, e, hc 0 _ rfl, by rw [← add_field _ _ 1 (by omega)]; exact hc 1 _ rfl, l1, g1⟩
end Go.Proofs.Ytehcmedeeaoebaa.PB
end
section
namespace Go.Proofs.Ytehcmedeeaoebaa.PB
open Go.RowKit Go.Proofs.YtehcmedeeaoebaaW.PrintWords Go.Proofs.YtehcmedeeaoebaaW.PrintLast Go.Proofs.YtehcmedeeaoebaaW.PrintMore
attribute [local go_sem] max2_int min2_int max_two min_two max_three min_three max_four min_four
set_option linter.unusedVariables false
set_option linter.unusedSimpArgs false
def ambryref01_Field.l0 : Nat → Int → List Int → Int → Option (ByteArray)
  | 0, _, _, _ => none
  | k + 1, x5, x6, x7 => if x7 ≥ 0 then (if 0 ≤ (IntKind.u64.wrap (8 * (IntKind.u64.wrap (x7)))) then (if x6.length < 140737488355328 then (ambryref01_Field.l0 k x5 (x6 ++ [(shr .u64 x5 (IntKind.u64.wrap (8 * (IntKind.u64.wrap (x7))))) % 256]) (wrap64 (x7 - 1))) else (none)) else (none)) else (some (strOfNums x6))
def ambryref01_Field.f (k : Nat) (a0 : Int) (a1 : Int) : Option (ByteArray) := ambryref01_Field.l0 k (IntKind.u64.wrap (a0)) ([] : List Int) (wrap64 (a1 - 1))
set_option maxHeartbeats 8000000 in
set_option maxRecDepth 100000 in
theorem ambryref01_Field.calls (k : Nat) (a0 : Int) (a1 : Int) (r : ByteArray) (w : World) (h : ambryref01_Field.f k a0 a1 = some r) :
    Calls Try.prog 42 #[.int .i64 a0, .int .i64 a1] w fun e w' => e = .returned (.string r) ∧ Below w.heap.size w w' := by
  have HB := Aside0.mk (Below.refl w.heap.size w)
  have H : (ambryref01_Field.l0 k (IntKind.u64.wrap (a0)) ([] : List Int) (wrap64 (a1 - 1))) = some r := h
  clear h
  have H' := Aside0.mk H
  clear H
  go_enter Try.func42, Try.ntmps42
  go_wp2
  go_loopg [6, 7] k (fun kq v6 v7 w' => ∃ (x6_1 : List Int) (x7_1 : Int), v7 = .int .i64 x7_1 ∧ Aside0 (ambryref01_Field.l0 kq (IntKind.u64.wrap (a0)) x6_1 x7_1 = some r) ∧ Aside0 (kq ≤ k) ∧ Aside0 (Kd.R (Kd.int .u8) 5 w' w.heap.size (fun _ => True) v6 x6_1) ∧ Aside0 (Below w.heap.size w w'))
  case atStart => exact ⟨(([] : List Int)), (wrap64 (a1 - 1)), (by first | rfl | (simp; done) | (simp [*]; done)), H', ⟨Nat.le_refl _⟩, ⟨by first | exact Kd.R_nil _ _ _ _ _ | exact Kd.N_nil _ _ _ _ _ | exact Kd.V_nil _ _ _ _ _ | exact Kd.Q_nil _ _ _ _ _ | exact Kd.S_nil _ _ _ _ _⟩, ⟨by repeat (first | (with_reducible first | exact HB.out | apply below_alloc | apply pw_below_drewN | apply below_drew1) | exact HB.out)⟩⟩
  case round =>
    clear H'
    try clear p2
    obtain ⟨x6_1, x7_1, rfl, HA, HK1, HO_6, HB⟩ := hrel
    cases gk with
    | zero => exact absurd HA.out (by simp [ambryref01_Field.l0])
    | succ k1 =>
      have H := HA.out
      clear HA
      simp only [ambryref01_Field.l0] at H
      by_cases c3 : x7_1 ≥ 0
      · rw [if_pos c3] at H
        have c3b0 : decide (0 ≤ x7_1) = true := decide_eq_true c3
        clear c3
        obtain ⟨ji4, hji4⟩ : ∃ j_ : Int, (IntKind.u64.wrap (8 * (IntKind.u64.wrap (x7_1)))) = j_ := ⟨_, rfl⟩
        replace H : (if 0 ≤ (ji4) then (if x6_1.length < 140737488355328 then (ambryref01_Field.l0 k1 (IntKind.u64.wrap (a0)) (x6_1 ++ [(shr .u64 (IntKind.u64.wrap (a0)) (ji4)) % 256]) (wrap64 (x7_1 - 1))) else (none)) else (none)) = some r := by first | (rw [hji4] at H; exact H) | (simp only [hji4] at H ⊢; exact H)
        by_cases c5 : 0 ≤ (ji4)
        · rw [if_pos c5] at H
          have c5b0 := eq_true c5
          have c5b1 : decide (0 ≤ (ji4)) = true := decide_eq_true c5
          clear c5
          obtain ⟨ji6, hji6⟩ : ∃ j_ : Int, (shr .u64 (IntKind.u64.wrap (a0)) (ji4)) = j_ := ⟨_, rfl⟩
          replace H : (if x6_1.length < 140737488355328 then (ambryref01_Field.l0 k1 (IntKind.u64.wrap (a0)) (x6_1 ++ [(ji6) % 256]) (wrap64 (x7_1 - 1))) else (none)) = some r := by first | (rw [hji6] at H; exact H) | (simp only [hji6] at H ⊢; exact H)
          have hji6_ : ((IntKind.u64.wrap (a0)) / 2 ^ min (ji4).toNat 64) = ji6 := hji6
          have hji6z : (ji4) ≤ 64 → ((IntKind.u64.wrap (a0)) / 2 ^ (ji4).toNat) = ji6 := shr_small hji6
          by_cases c7 : x6_1.length < 140737488355328
          · rw [if_pos c7] at H
            have LMc7 := Aside0.mk c7
            clear c7
            obtain ⟨y105, hy105⟩ : ∃ y_ : List Int, y_ = (x6_1 ++ [(ji6) % 256]) := ⟨_, rfl⟩
            replace H : (ambryref01_Field.l0 k1 (IntKind.u64.wrap (a0)) y105 (wrap64 (x7_1 - 1))) = some r := by first | (rw [hy105]; with_reducible exact H) | (have H2_ := (Option.bind_some _ _).symm.trans H; rw [hy105]; with_reducible exact H2_) | (have H2_ := (Option.bind_some _ _).symm.trans H; with_reducible exact H2_) | with_reducible exact H | (rw [hy105]; exact H) | exact H
            have Ny105 := Aside0.mk hy105
            clear hy105
            have H' := Aside0.mk H
            clear H
            go_wp2_with (first | ((with_reducible refine gate_builtin (b := .append) (xs := #[.tmp 16, .tmp 23]) rfl ?_); at_builtin; refine Kd.R_append (Kd.int .u8) (w0 := w) w.heap.size rfl (.tmp 16) (.tmp 23) 72 5 (.int .u8 0) 1 rfl Try.underlying72 info5 rfl (by decide) (by omega) u6 x6_1 ((ji6) % 256) [.int .u8 ((ji6) % 256)] (fun _ => True) (fun _ => False) rfl rfl ?aP (fun _ hk => hk.elim) ?aF ?aO ?aB ?aS ?aL ?_; (case aP => exact rfl); (case aB => exact (by repeat (first | (with_reducible first | exact HB.out | apply below_alloc | apply pw_below_drewN | apply below_drew1) | exact HB.out))); (case aF => exact (fun _ _ => trivial)); (case aO => exact (by (with_reducible repeat (first | apply Kd.R_alloc | apply Kd.R_drewN | apply Kd.R_drew)); exact HO_6.out)); (case aS => exact (below_size (by repeat (first | (with_reducible first | exact HB.out | apply below_alloc | apply pw_below_drewN | apply below_drew1) | exact HB.out)))); (case aL => have := LMc7.out; omega); intro v106 w8 ho hb hg hat; rw [← Ny105.out] at ho; have n0_ := Aside0.mk (hb); have n1_ := Aside0.mk (ho); clear HB; clear HO_6; have HB := n0_; have HO107 := n1_; clear n0_ n1_; clear ho hb hg hat))
            go_roundg k1
            case measure => have := HK1.out; omega
            case rel => exact ⟨(y105), (wrap64 (x7_1 - 1)), (by first | rfl | (simp; done) | (simp [*]; done)), H', ⟨by have := HK1.out; omega⟩, ⟨by (with_reducible repeat (first | apply Kd.R_alloc | apply Kd.R_drewN | apply Kd.R_drew)); exact HO107.out⟩, ⟨by repeat (first | (with_reducible first | exact HB.out | apply below_alloc | apply pw_below_drewN | apply below_drew1) | exact HB.out)⟩⟩
          · rw [if_neg c7] at H
            exact absurd H (by simp)
        · rw [if_neg c5] at H
          exact absurd H (by simp)
      · rw [if_neg c3] at H
        have c3b0 : decide (0 ≤ x7_1) = false := decide_eq_false c3
        clear c3
        obtain rfl := Option.some.inj H
        have hcv9 := own_string (P := Try.prog) Try.underlying72 Try.underlying5 Try.underlying9 (Kd.own_of_R HO_6.out)
        go_wp2
        go_ret
        exact ⟨by first | rfl | (simp [errW_none, errW_some] <;> rfl) | (simp [*, errW_none, errW_some] <;> rfl), by repeat (first | (with_reducible first | exact HB.out | apply below_alloc | apply pw_below_drewN | apply below_drew1) | exact HB.out)⟩
end Go.Proofs.Ytehcmedeeaoebaa.PB
end
section
namespace Go.Proofs.Ytehcmedeeaoebaa.PB
open Go.RowKit Go.Proofs.YtehcmedeeaoebaaW.PrintWords Go.Proofs.YtehcmedeeaoebaaW.PrintLast Go.Proofs.YtehcmedeeaoebaaW.PrintMore
set_option linter.unusedVariables false
set_option linter.unusedSimpArgs false
structure Upd (g : Nat) (w w' : World) : Prop where
  os : w'.os = w.os
  tape : w'.tape = w.tape
  output : w'.output = w.output
  size : w'.heap.size = w.heap.size
  block : ∀ k, k ≠ g → w'.heap[k]? = w.heap[k]?
theorem Upd.below {g B : Nat} {w0 w w' : World} (h : Upd g w w') (hb : Below B w0 w) (hg : B ≤ g) : Below B w0 w' :=
  hb.trans ⟨h.os, h.tape, h.output, by rw [h.size]; exact Nat.le_refl _, fun k hk => h.block k (by omega)⟩
theorem Upd.blk {g k : Nat} {w w' : World} {o : Obj} (h : Upd g w w') (hb : w.heap[k]? = some o) (hk : k ≠ g) : w'.heap[k]? = some o := (h.block k hk).trans hb
theorem Upd.step {g : Nat} {w w' : World} (h : Upd g w w') {B : Nat} (hg : B ≤ g) : Below B w w' := h.below (Below.refl B w) hg
theorem Upd.setRow (w : World) (g : Nat) (cs : Array Value) : Upd g w (w.setRow g cs) :=
  ⟨rfl, rfl, rfl, by simp [World.setRow], fun k hk => by simp [World.setRow, Array.getElem?_modify, Ne.symm hk]⟩
section
variable {P : Program} {ops : Array Oper} {rest : List Oper} {o : Oper} {a : Act} {Q : Exit → Act → World → Prop}
theorem sagg_event {W : World} (hgd : o.guard = none) (T : TypeId) (p x : Operand) (ho : o.op = .store T p x) (hN : o.dst = none) (g : Nat) (vs old : Array Value) (t : TypeId)
    (hp : a.eval p = .pointer (some ⟨g, 0, none⟩)) (hx : a.eval x = .agg vs) (hb : W.heap[g]? = some (.cells old t (0, 0)))
    (hi : (P.info? T).map (·.size) = some vs.size) (hsz : old.size = vs.size) (h1 : vs.toList.all (·.oneCell') = true)
    (h : ∀ w1, w1.heap[g]? = some (.cells vs t (0, 0)) → Upd g W w1 → wpList P ops Q rest a w1) : wpList P ops Q (o :: rest) a W := by
  refine wpList_plain hgd fun K hK => ?_
  refine wp_store_row T p x ho g vs hp hx t old hb hi hsz (by rw [← Array.all_toList]; exact h1) ?_
  have h2 : a.put o.dst undef = a := by rw [hN]; rfl
  rw [h2]
  exact hK _ _ (h _ (setRow_heap W g old vs t (0, 0) hb) (Upd.setRow W g vs))
theorem scell_event {W : World} (hgd : o.guard = none) (hN : o.dst = none) (g off : Nat) (v : Value) (old : Array Value) (t : TypeId)
    (hb : W.heap[g]? = some (.cells old t (0, 0))) (hrun : (execOp a.eval o).run P W = .ok .skip (W.setCell ⟨g, off, none⟩ v))
    (h : ∀ w1, w1.heap[g]? = some (.cells (old.setIfInBounds off v) t (0, 0)) → Upd g W w1 → wpList P ops Q rest a w1) : wpList P ops Q (o :: rest) a W := by
  refine wpList_plain hgd fun K hK => ?_
  unfold Oper.wp
  rw [hrun]
  have h2 : a.put o.dst undef = a := by rw [hN]; rfl
  show K (a.put o.dst undef) _
  rw [h2]
  refine hK _ _ (h _ (blk_set hb off v) ?_)
  rw [setCell_eq_setRow W g off old t (0, 0) v hb]
  exact Upd.setRow W g _
end
end Go.Proofs.Ytehcmedeeaoebaa.PB
end
section
namespace Go.Proofs.Ytehcmedeeaoebaa.PB
open Go.RowKit Go.Proofs.YtehcmedeeaoebaaW.PrintWords Go.Proofs.YtehcmedeeaoebaaW.PrintLast Go.Proofs.YtehcmedeeaoebaaW.PrintMore
set_option linter.unusedVariables false
set_option linter.unusedSimpArgs false
def BRow (w : World) (base : Nat) (v : Value) (xs : List Int) : Prop :=
  ∃ g cap cur fr, v = .slice (some ⟨g, 0, none⟩) xs.length cap ∧ base ≤ g ∧ w.heap[g]? = some (.cells cur 5 fr) ∧ (∀ j, j < cur.size → ¬ (fr.1 ≤ j ∧ j < fr.2)) ∧ cur.size = cap ∧ xs.length ≤ cap ∧ cap ≤ 9223372036854775807 ∧ ∀ j, j < xs.length → cur[j]? = some (.int .u8 (xs.getD j 0))
theorem BRow.reads {w : World} {base : Nat} {v : Value} {xs : List Int} (h : BRow w base v xs) : ∃ g cap, v = .slice (some ⟨g, 0, none⟩) xs.length cap ∧ base ≤ g ∧ xs.length ≤ cap ∧ Kd.C (Kd.int .u8) w (some ⟨g, 0, none⟩) xs.length xs := by
  obtain ⟨g, cap, cur, fr, rfl, hb, hh, hf, hs, hl, hm, hc⟩ := h
  refine ⟨g, cap, rfl, hb, hl, Kd.C_of_reads (d := 0) ⟨rfl, by omega, fun _ => ⟨_, rfl, fun j hj => ?_⟩⟩⟩
  rw [add_plain]
  unfold World.cell?
  simp only [hh]
  simpa using hc j hj
theorem BRow.below {w w' : World} {base : Nat} {v : Value} {xs : List Int} (h : BRow w base v xs) (hb : Below w.heap.size w w') : BRow w' base v xs := by
  obtain ⟨g, cap, cur, fr, hv, hb1, hh, r⟩ := h
  exact ⟨g, cap, cur, fr, hv, hb1, (hb.block g (blk_lt hh)).trans hh, r⟩
section
variable {P : Program} {ops : Array Oper} {rest : List Oper} {o : Oper} {a : Act} {Q : Exit → Act → World → Prop}
theorem BRow.append {W : World} (base : Nat) (hgd : o.guard = none) (s x : Operand) (t : TypeId)
    (ho : o.op = .call { callee := .builtin .append, args := #[s, x], argTypes := #[t, t] })
    (ht : P.underlying t = some (.slice 5)) (hinfo : (P.info? 5).map (fun i => (i.zero, i.size, i.bytes)) = some (some (.int .u8 0), 1, 1))
    (v : Value) (xs : List Int) (y : Int) (hs : a.eval s = v) (hx : a.eval x = .slice (some ⟨W.heap.size, 0, none⟩) 1 1)
    (HO : BRow W base v xs) (hbase : base ≤ W.heap.size) (hl : xs.length + 1 ≤ 140737488355328)
    (h : ∀ v1 w1, BRow w1 base v1 (xs ++ [y]) → Below base W w1 → wpList P ops Q rest (a.put o.dst v1) w1) :
    wpList P ops Q (o :: rest) a (W.alloc (.cells #[.int .u8 y] 5)) := by
  obtain ⟨i0, hi, hzz⟩ := Option.map_eq_some_iff.1 hinfo
  simp only [Prod.mk.injEq] at hzz
  obtain ⟨hz0, hz1, hz2⟩ := hzz
  obtain ⟨g, cap, cur, fr, rfl, hbg, hh, hf, hcs, hlc, hm, hc⟩ := HO
  have hlt := blk_lt hh
  have hh' : (W.alloc (.cells #[.int .u8 y] 5)).heap[g]? = some (.cells cur 5 fr) := (Below.heap_alloc _ _ _ hlt).trans hh
  have hcell : ∀ j, (W.alloc (.cells #[.int .u8 y] 5)).cell? ⟨g, j, none⟩ = cur[j]? := by
    intro j
    unfold World.cell?
    simp only [hh']
    rfl
  have hnum : ∀ j, j < xs.length → (nums .u8 xs)[j]? = some (.int .u8 (xs.getD j 0)) := fun j hj => by
    simp [nums, List.getElem?_eq_getElem hj, List.getD_eq_getElem?_getD]
  refine wpList_append_arg (W.alloc (.cells #[.int .u8 y] 5)) hgd s x t ho 5 i0 (.int .u8 0) 1 1 ht hi hz0 hz1 hz2 rfl (by omega) g 0 xs.length cap (nums .u8 xs) hs (by simp [nums]) ?_ ⟨W.heap.size, 0, none⟩ 1 1 [.int .u8 y] hx rfl
    (World.news_of_block (cs := #[.int .u8 y]) (t := 5) (fr := (0, 0)) (heap_alloc_new W _)) (by simp [Value.oneCell']) ?_ (by simp only [maxLen]; omega) (by omega) ?_ ?_
  · intro j u hu
    have hj : j < xs.length := by
      rcases Nat.lt_or_ge j xs.length with h | h
      · exact h
      · rw [List.getElem?_eq_none (by rw [nums_length]; exact h)] at hu; cases hu
    rw [hnum j hj] at hu
    rw [Nat.zero_add, hcell, hc j hj]
    exact hu
  · intro hroom j hj
    have hj0 : j = 0 := by simpa using hj
    subst hj0
    rw [hcell]
    have hjc : xs.length < cur.size := by omega
    constructor
    · simp [show 0 + xs.length * 1 + 0 = xs.length by omega, hjc]
    · unfold World.frozen?
      simp only [hh']
      have := hf xs.length hjc
      simp only [show 0 + xs.length * 1 + 0 = xs.length by omega]
      simpa using this
  · intro hroom
    refine h _ _ ⟨g, cap, cur.setIfInBounds xs.length (.int .u8 y), fr, by simp, hbg, ?_, ?_, by simpa using hcs, by simp; omega, hm, ?_⟩ ?_
    · simp only [World.setCells, Nat.zero_add, Nat.mul_one, World.setCell]
      simp [Array.getElem?_modify, hh', -World.alloc_eq]
    · intro j hj
      exact hf j (by simpa using hj)
    · intro j hj
      have hj' : j < xs.length + 1 := by simpa using hj
      rw [Array.getElem?_setIfInBounds]
      by_cases e : xs.length = j
      · subst e
        rw [if_pos rfl, if_pos (by omega)]
        simp [List.getD_eq_getElem?_getD]
      · rw [if_neg e, hc j (by omega)]
        simp [List.getD_eq_getElem?_getD, List.getElem?_append_left (show j < xs.length by omega)]
    · simp only [World.setCells]
      exact ((Below.refl base W).alloc hbase _).setCell hbg _
  · intro hgrow v' w' hown hg
    have hfm := hown.form (by omega)
    obtain ⟨g', cap', rfl, hbg', _⟩ := hfm
    rcases hown.2 with ⟨hx1, _⟩ | ⟨g2, cap2, cur2, hv2, hb2, hh2, hn2, hm2, hs2, ht2⟩
    · cases hx1
    · injection hv2 with e1 e2 e3
      injection e1 with e1
      injection e1 with e1
      subst e1 e3
      refine h _ _ ⟨g', cap', cur2, (0, 0), by simp, ?_, hh2, fun j _ => by omega, by omega, by simp; omega, by simp only [maxLen] at hm2; omega, ?_⟩ ?_
      · have := hb2; simp at this; omega
      · intro j hj
        have hj' : j < xs.length + 1 := by simpa using hj
        have e1 : nums .u8 xs ++ [.int .u8 y] = nums .u8 (xs ++ [y]) := by simp [nums]
        rw [e1] at ht2
        have e2 : (nums .u8 (xs ++ [y]))[j]? = some (.int .u8 ((xs ++ [y]).getD j 0)) := by
          have hjl : j < (xs ++ [y]).length := by simp; omega
          unfold nums
          rw [List.getElem?_map, List.getD_eq_getElem?_getD, List.getElem?_eq_getElem hjl]
          rfl
        rw [← ht2, List.getElem?_take_of_lt (by omega), Array.getElem?_toList] at e2
        exact e2
      · exact ((Below.refl base W).alloc hbase _).grown hg (by simp; omega) (fun k hk => by cases hk)
end
theorem BRow.conv (W : World) (base : Nat) (hb : base ≤ W.heap.size) (s : ByteArray) (hs : s.size ≤ 140737488351232) :
    BRow (Lib.bytesWorld W 5 s) base (.slice (some ⟨W.heap.size, 0, none⟩) (bytesOf s).length (grownCap W s.size 0 5)) (bytesOf s) := by
  have hsz : (Lib.bytesCells W 5 s).size = grownCap W s.size 0 5 := by
    have := grownCap_ge W s.size 0 5
    unfold Lib.bytesCells
    rw [Array.size_append, Array.size_map, Array.size_replicate]
    have e : s.data.size = s.size := rfl
    omega
  refine ⟨W.heap.size, _, Lib.bytesCells W 5 s, _, rfl, hb, Lib.bytesWorld_at_new W 5 s, fun j hj => by simp only; omega, hsz, ?_, ?_, ?_⟩
  · rw [bytesOf_length]; exact grownCap_ge W s.size 0 5
  · have := grownCap_le_maxLen W s.size 0 5 (by simp only [maxLen]; omega)
    simpa [maxLen] using this
  · intro j hj
    rw [bytesOf_length] at hj
    have hj' : j < s.data.size := hj
    have hjl : j < s.data.toList.length := by simpa using hj'
    unfold Lib.bytesCells
    rw [Array.getElem?_append_left (by simpa using hj')]
    rw [Array.getElem?_map, List.getD_eq_getElem?_getD, bytesOf, List.getElem?_map, Array.getElem?_toList, Array.getElem?_eq_getElem hj']
    rfl
section
variable {P : Program} {ops : Array Oper} {rest : List Oper} {o : Oper} {a : Act} {Q : Exit → Act → World → Prop}
theorem conv_event {W : World} (hgd : o.guard = none) {N : Tmp} (_hd : o.dst = some N) (s : ByteArray) (hs : s.size ≤ 140737488351232)
    (hrun : (execOp a.eval o).run P W = .ok (.value (.slice (some ⟨W.heap.size, 0, none⟩) s.size (grownCap W s.size 0 5))) (Lib.bytesWorld W 5 s))
    (h : ∀ v w1, (∃ g cap, v = .slice (some ⟨g, 0, none⟩) (bytesOf s).length cap) → BRow w1 W.heap.size v (bytesOf s) → Below W.heap.size W w1 → wpList P ops Q rest (a.put o.dst v) w1) : wpList P ops Q (o :: rest) a W := by
  refine Kd.event_run hgd hrun ?_
  have := h (.slice (some ⟨W.heap.size, 0, none⟩) (bytesOf s).length (grownCap W s.size 0 5)) (Lib.bytesWorld W 5 s) ⟨_, _, rfl⟩ (BRow.conv W _ (Nat.le_refl _) s hs) (bytes_below (Below.refl _ _) (Nat.le_refl _) 5 s)
  rw [bytesOf_length] at this
  exact this
end
def byteOf (n : Int) (i : Nat) : Int := n / 2 ^ (8 * i) % 256
def bytesHi (n : Int) (m : Nat) : List Int := ((List.range (8 - m)).map fun j => byteOf n (7 - j))
theorem bytesHi_step (n : Int) (m : Nat) (h : m < 8) : bytesHi n m = bytesHi n (m + 1) ++ [byteOf n m] := by
  unfold bytesHi
  rw [show 8 - m = (8 - (m + 1)) + 1 by omega, List.range_succ, List.map_append]
  simp [show 7 - (7 - m) = m by omega]
def bytes8 (n : Int) : List Int := bytesHi n 0
set_option maxHeartbeats 2000000 in
set_option maxRecDepth 100000 in
theorem put64.calls (base : Nat) (v : Value) (xs : List Int) (n : Int) (w : World) (hv : BRow w base v xs) (hb : base ≤ w.heap.size) (h0 : 0 ≤ n) (h1 : n < 18446744073709551616) (hl : xs.length + 8 ≤ 140737488355328) :
    Calls Try.prog 67 #[v, .int .u64 n, .int .i64 8] w fun e w' => ∃ v' : Value, e = .returned v' ∧ BRow w' base v' (xs ++ bytes8 n) ∧ Below base w w' := by
  have HV := Aside0.mk hv
  clear hv
  go_enter Try.func67, Try.ntmps67
  go_wp2
  go_loopg [0, 7] 8 (fun gg s0 s7 wr => ∃ m : Nat, m ≤ 8 ∧ m ≤ gg ∧ s7 = .int .i64 ((m : Int) - 1) ∧ Aside0 (BRow wr base s0 (xs ++ bytesHi n m)) ∧ Aside0 (Below base w wr))
  case atStart => exact ⟨8, by omega, by omega, by go_num, ⟨by simpa [bytesHi] using HV.out⟩, ⟨Below.refl _ _⟩⟩
  case round =>
    obtain ⟨m, hm, hg, rfl, HO, HB⟩ := hrel
    cases m with
    | zero =>
      go_wp2
      go_ret
      exact ⟨_, rfl, HO.out, HB.out⟩
    | succ m =>
      have hx : (0 : Int) ≤ 8 * (m : Int) := by omega
      simp only [Int.natCast_add, Int.cast_ofNat_Int, Int.add_sub_cancel]
      have hstep := Aside0.mk (bytesHi_step n m (by omega))
      have hlen : (xs ++ bytesHi n (m + 1)).length + 1 ≤ 140737488355328 := by simp [bytesHi]; omega
      obtain ⟨b, hbb⟩ : ∃ b, b = n / 2 ^ (8 * m) % 256 := ⟨_, rfl⟩
      have HBY := Aside0.mk hbb
      clear hbb
      go_wp2_with ((with_reducible refine gate_builtin (b := .append) (xs := #[.tmp 14, .tmp 20]) rfl ?_); at_builtin; go_must (refine BRow.append base rfl (.tmp 14) (.tmp 20) 72 rfl Try.underlying72 info5 u0 (xs ++ bytesHi n (m + 1)) (n / 2 ^ (8 * m) % 256) rfl rfl HO.out (Nat.le_trans hb HB.out.size) hlen ?_); intro v1 w1 ho hb1; have HO1 := Aside0.mk ho; have HB1 := Aside0.mk (HB.out.trans hb1); clear ho hb1)
      go_roundg m
      case measure => omega
      case rel =>
        refine ⟨m, by omega, by omega, rfl, ⟨?_⟩, HB1⟩
        have := HO1.out
        rw [hstep.out, ← List.append_assoc]
        exact this
set_option maxRecDepth 100000 in
theorem Put64b.calls (base : Nat) (v : Value) (xs : List Int) (n : Int) (w : World) (hv : BRow w base v xs) (hb : base ≤ w.heap.size) (h0 : 0 ≤ n) (h1 : n < 9223372036854775808) (hl : xs.length + 8 ≤ 140737488355328) :
    Calls Try.prog 40 #[v, .int .i64 n] w fun e w' => ∃ v' : Value, e = .returned v' ∧ BRow w' base v' (xs ++ bytes8 n) ∧ Below base w w' := by
  have HP := put64.calls base v xs n w hv hb h0 (by omega) hl
  clear hv
  go_enter Try.func40, Try.ntmps40
  go_wp2_with (go_at_call 67; refine HP.mono ?_; rintro e w1 ⟨v', rfl, hv', hb'⟩; have HV := Aside0.mk hv'; have HB := Aside0.mk hb'; clear hv' hb')
  go_ret
  exact ⟨_, rfl, HV.out, HB.out⟩
def pairKey (key : ByteArray) (t : Int) : ByteArray := strOfNums (bytesOf key ++ bytes8 (1152921504606846976 - t))
def pairVal (v : S80) : ByteArray := if v.f2 then ⟨#[0]⟩ else (⟨#[1]⟩ : ByteArray) ++ v.f1
set_option maxHeartbeats 2000000 in
set_option maxRecDepth 100000 in
theorem pair.calls (key : ByteArray) (v : S80) (w : World) (hk : key.size ≤ 120) (hv : v.f1.size ≤ 9223372036854775806) (h0 : 0 ≤ v.f0) (h1 : v.f0 ≤ 1152921504606846976) :
    Calls Try.prog 54 #[.string key, .agg #[.int .i64 v.f0, .string v.f1, .bool v.f2]] w fun e w' => e = .returned (.agg #[.string (pairKey key v.f0), .string (pairVal v)]) ∧ Below w.heap.size w w' := by
  have kb := fun W => print_bytes (P := Try.prog) 9 72 5 Try.underlying9 Try.underlying72 Try.underlying5 key W
  have HB := Aside0.mk (Below.refl w.heap.size w)
  have HPK := Aside0.mk (show strOfNums (bytesOf key ++ bytes8 (1152921504606846976 - v.f0)) = pairKey key v.f0 from rfl)
  cases hdel : v.f2 with
  | false =>
    have hval : Aside0 (pairVal v = (⟨#[1]⟩ : ByteArray) ++ v.f1) := ⟨by unfold pairVal; rw [hdel]; rfl⟩
    clear hdel
    go_enter Try.func54, Try.ntmps54
    go_wp2_with (first | ((with_reducible refine gate_dst (N := 3) rfl ?_); refine box_event ?hg (N := 3) ?hd (cs := #[.int .i64 v.f0, .string v.f1, .bool false]) (t := 80) ?hr ?_; (case hd => rfl); (case hg => rfl); (case hr => first | (go_simp; done) | (go_simp; rfl)); intro g3 hg w1 hbox hb; have B3 := Aside0.mk hbox; clear hbox hg; have n0_ := Aside0.mk (below_then HB.out HB.out.size hb); clear HB; have HB := n0_; clear n0_; clear hb) | ((with_reducible refine gate_dst (N := 4) rfl ?_); refine box_event ?hg (N := 4) ?hd (cs := #[.string ⟨#[]⟩, .string ⟨#[]⟩]) (t := 69) ?hr ?_; (case hd => rfl); (case hg => rfl); (case hr => first | (go_simp; done) | (go_simp; rfl)); intro g4 hg w2 hbox hb; have G4 := Aside0.mk (show w.heap.size ≤ g4 from (by rw [hg]; exact HB.out.size)); have H34 := Aside0.mk (show g3 ≠ g4 from fun e => absurd (blk_lt B3.out) (by omega)); have B4 := Aside0.mk hbox; clear hbox hg; have n0_ := Aside0.mk (below_then HB.out HB.out.size hb); have n1_ := Aside0.mk ((hb.block _ (blk_lt B3.out)).trans B3.out); clear HB B3; have HB := n0_; have B3 := n1_; clear n0_ n1_; clear hb) | ((with_reducible refine gate_dst (N := 7) rfl ?_); refine conv_event ?hg (N := 7) ?hd key (by omega) ?hr ?_; (case hd => rfl); (case hg => rfl); (case hr => first | (go_simp; done) | (go_simp; rfl)); intro v7 w3 hv7 hrow hb; have H2 := Aside0.mk HB.out.size; have L3 := Aside0.mk (blk_lt B3.out); have L4 := Aside0.mk (blk_lt B4.out); have n0_ := Aside0.mk (below_then HB.out HB.out.size hb); have n1_ := Aside0.mk ((hb.block _ (blk_lt B3.out)).trans B3.out); have n2_ := Aside0.mk ((hb.block _ (blk_lt B4.out)).trans B4.out); clear HB B3 B4; have HB := n0_; have B3 := n1_; have B4 := n2_; clear n0_ n1_ n2_; have HV := Aside0.mk hrow; have HW := Aside0.mk hb.size; have c30 := (blk_cell B3.out 0).trans rfl; clear hrow hb hv7) | (go_at_call 40; go_must (refine (Put64b.calls w2.heap.size v7 (bytesOf key) (1152921504606846976 - v.f0) w3 HV.out HW.out (by omega) (by omega) (by rw [bytesOf_length]; omega)).mono ?_); rintro e w4 ⟨v11, rfl, hv', hb'⟩; have n0_ := Aside0.mk (HB.out.trans (hb'.mono H2.out)); have n1_ := Aside0.mk ((hb'.block _ L3.out).trans B3.out); have n2_ := Aside0.mk ((hb'.block _ L4.out).trans B4.out); clear HB B3 B4 HV; have HB := n0_; have B3 := n1_; have B4 := n2_; clear n0_ n1_ n2_; obtain ⟨gv, capv, rfl, _, _, hcv⟩ := hv'.reads; have hstr := string_of_reads (P := Try.prog) (src := 72) (dst := 9) (c := capv) Try.underlying72 Try.underlying5 Try.underlying9 (Kd.reads_of_C (d := 0) hcv); rw [HPK.out, List.length_append] at hstr; clear hcv hv' hb') | ((with_reducible refine gate_dst (N := 5) rfl ?_); refine box_event ?hg (N := 5) ?hd (cs := #[.string ⟨#[]⟩, .string ⟨#[]⟩]) (t := 69) ?hr ?_; (case hd => rfl); (case hg => rfl); (case hr => first | (go_simp; done) | (go_simp; rfl)); intro g5 hg w5 hbox hb; have G5 := Aside0.mk (show w.heap.size ≤ g5 from (by rw [hg]; exact HB.out.size)); have H35 := Aside0.mk (show g3 ≠ g5 from fun e => absurd (blk_lt B3.out) (by omega)); have H45 := Aside0.mk (show g4 ≠ g5 from fun e => absurd (blk_lt B4.out) (by omega)); have B5 := Aside0.mk hbox; clear hbox hg; have n0_ := Aside0.mk (below_then HB.out HB.out.size hb); have n1_ := Aside0.mk ((hb.block _ (blk_lt B3.out)).trans B3.out); have n2_ := Aside0.mk ((hb.block _ (blk_lt B4.out)).trans B4.out); clear HB B3 B4; have HB := n0_; have B3 := n1_; have B4 := n2_; clear n0_ n1_ n2_; clear hb) | ((with_reducible refine gate_store (t := 69) (p := 5) (v := .tmp 13) rfl ?_); go_must (refine sagg_event rfl 69 (.tmp 5) (.tmp 13) rfl rfl g5 #[.string (pairKey key v.f0), .string ⟨#[0]⟩] _ _ rfl rfl B5.out (by kernel_rfl) rfl rfl ?_); intro w6 hbk hu; have n0_ := Aside0.mk (hu.below HB.out G5.out); have n1_ := Aside0.mk (hu.blk B3.out H35.out); have n2_ := Aside0.mk (hu.blk B4.out H45.out); clear HB B3 B4; have HB := n0_; have B3 := n1_; have B4 := n2_; clear n0_ n1_ n2_; clear B5; have B5 := Aside0.mk hbk; have c32 := (blk_cell B3.out 2).trans rfl; have c31 := (blk_cell B3.out 1).trans rfl; have c50 := (blk_cell B5.out 0).trans rfl; have c51 := (blk_cell B5.out 1).trans rfl; clear hbk hu) | ((with_reducible refine gate_store (t := 9) (p := 20) (v := .tmp 19) rfl ?_); go_must (refine scell_event rfl rfl g5 1 (.string ((⟨#[1]⟩ : ByteArray) ++ v.f1)) _ _ B5.out ?hr ?_); (case hr => have q1_ := (blk_cell B5.out 1).trans rfl; have q2_ := blk_frozen B5.out 1; first | (go_simp; done) | (go_simp; rfl)); intro w7 hbk hu; have n0_ := Aside0.mk (hu.below HB.out G5.out); have n1_ := Aside0.mk (hu.blk B3.out H35.out); have n2_ := Aside0.mk (hu.blk B4.out H45.out); clear HB B3 B4; have HB := n0_; have B3 := n1_; have B4 := n2_; clear n0_ n1_ n2_; clear B5; have B5 := Aside0.mk (show w7.heap[g5]? = some (.cells #[.string (pairKey key v.f0), .string ((⟨#[1]⟩ : ByteArray) ++ v.f1)] 69 (0, 0)) from hbk); have c70 := (blk_cell B5.out 0).trans rfl; have c71 := (blk_cell B5.out 1).trans rfl; clear hbk hu) | ((with_reducible refine gate_store (t := 69) (p := 4) (v := .tmp 21) rfl ?_); go_must (refine sagg_event rfl 69 (.tmp 4) (.tmp 21) rfl rfl g4 #[.string (pairKey key v.f0), .string ((⟨#[1]⟩ : ByteArray) ++ v.f1)] _ _ rfl rfl B4.out (by kernel_rfl) rfl rfl ?_); intro w8 hbk hu; have n0_ := Aside0.mk (hu.below HB.out G4.out); clear HB; have HB := n0_; clear n0_; clear B4; have B4 := Aside0.mk hbk; have c80 := (blk_cell B4.out 0).trans rfl; have c81 := (blk_cell B4.out 1).trans rfl; clear hbk hu))
    refine bodyPost_ret (v := .agg #[.string (pairKey key v.f0), .string ((⟨#[1]⟩ : ByteArray) ++ v.f1)]) ?_ rfl ?_
    · simp [results, Try.results54, go_sem, c80, c81]
    · exact ⟨by rw [hval.out], HB.out⟩
  | true =>
    have hval : Aside0 (pairVal v = ⟨#[0]⟩) := ⟨by unfold pairVal; rw [hdel]; rfl⟩
    clear hdel
    go_enter Try.func54, Try.ntmps54
    go_wp2_with (first | ((with_reducible refine gate_dst (N := 3) rfl ?_); refine box_event ?hg (N := 3) ?hd (cs := #[.int .i64 v.f0, .string v.f1, .bool true]) (t := 80) ?hr ?_; (case hd => rfl); (case hg => rfl); (case hr => first | (go_simp; done) | (go_simp; rfl)); intro g3 hg w1 hbox hb; have B3 := Aside0.mk hbox; clear hbox hg; have n0_ := Aside0.mk (below_then HB.out HB.out.size hb); clear HB; have HB := n0_; clear n0_; clear hb) | ((with_reducible refine gate_dst (N := 4) rfl ?_); refine box_event ?hg (N := 4) ?hd (cs := #[.string ⟨#[]⟩, .string ⟨#[]⟩]) (t := 69) ?hr ?_; (case hd => rfl); (case hg => rfl); (case hr => first | (go_simp; done) | (go_simp; rfl)); intro g4 hg w2 hbox hb; have G4 := Aside0.mk (show w.heap.size ≤ g4 from (by rw [hg]; exact HB.out.size)); have H34 := Aside0.mk (show g3 ≠ g4 from fun e => absurd (blk_lt B3.out) (by omega)); have B4 := Aside0.mk hbox; clear hbox hg; have n0_ := Aside0.mk (below_then HB.out HB.out.size hb); have n1_ := Aside0.mk ((hb.block _ (blk_lt B3.out)).trans B3.out); clear HB B3; have HB := n0_; have B3 := n1_; clear n0_ n1_; clear hb) | ((with_reducible refine gate_dst (N := 7) rfl ?_); refine conv_event ?hg (N := 7) ?hd key (by omega) ?hr ?_; (case hd => rfl); (case hg => rfl); (case hr => first | (go_simp; done) | (go_simp; rfl)); intro v7 w3 hv7 hrow hb; have H2 := Aside0.mk HB.out.size; have L3 := Aside0.mk (blk_lt B3.out); have L4 := Aside0.mk (blk_lt B4.out); have n0_ := Aside0.mk (below_then HB.out HB.out.size hb); have n1_ := Aside0.mk ((hb.block _ (blk_lt B3.out)).trans B3.out); have n2_ := Aside0.mk ((hb.block _ (blk_lt B4.out)).trans B4.out); clear HB B3 B4; have HB := n0_; have B3 := n1_; have B4 := n2_; clear n0_ n1_ n2_; have HV := Aside0.mk hrow; have HW := Aside0.mk hb.size; have c30 := (blk_cell B3.out 0).trans rfl; clear hrow hb hv7) | (go_at_call 40; go_must (refine (Put64b.calls w2.heap.size v7 (bytesOf key) (1152921504606846976 - v.f0) w3 HV.out HW.out (by omega) (by omega) (by rw [bytesOf_length]; omega)).mono ?_); rintro e w4 ⟨v11, rfl, hv', hb'⟩; have n0_ := Aside0.mk (HB.out.trans (hb'.mono H2.out)); have n1_ := Aside0.mk ((hb'.block _ L3.out).trans B3.out); have n2_ := Aside0.mk ((hb'.block _ L4.out).trans B4.out); clear HB B3 B4 HV; have HB := n0_; have B3 := n1_; have B4 := n2_; clear n0_ n1_ n2_; obtain ⟨gv, capv, rfl, _, _, hcv⟩ := hv'.reads; have hstr := string_of_reads (P := Try.prog) (src := 72) (dst := 9) (c := capv) Try.underlying72 Try.underlying5 Try.underlying9 (Kd.reads_of_C (d := 0) hcv); rw [HPK.out, List.length_append] at hstr; clear hcv hv' hb') | ((with_reducible refine gate_dst (N := 5) rfl ?_); refine box_event ?hg (N := 5) ?hd (cs := #[.string ⟨#[]⟩, .string ⟨#[]⟩]) (t := 69) ?hr ?_; (case hd => rfl); (case hg => rfl); (case hr => first | (go_simp; done) | (go_simp; rfl)); intro g5 hg w5 hbox hb; have G5 := Aside0.mk (show w.heap.size ≤ g5 from (by rw [hg]; exact HB.out.size)); have H35 := Aside0.mk (show g3 ≠ g5 from fun e => absurd (blk_lt B3.out) (by omega)); have H45 := Aside0.mk (show g4 ≠ g5 from fun e => absurd (blk_lt B4.out) (by omega)); have B5 := Aside0.mk hbox; clear hbox hg; have n0_ := Aside0.mk (below_then HB.out HB.out.size hb); have n1_ := Aside0.mk ((hb.block _ (blk_lt B3.out)).trans B3.out); have n2_ := Aside0.mk ((hb.block _ (blk_lt B4.out)).trans B4.out); clear HB B3 B4; have HB := n0_; have B3 := n1_; have B4 := n2_; clear n0_ n1_ n2_; clear hb) | ((with_reducible refine gate_store (t := 69) (p := 5) (v := .tmp 13) rfl ?_); go_must (refine sagg_event rfl 69 (.tmp 5) (.tmp 13) rfl rfl g5 #[.string (pairKey key v.f0), .string ⟨#[0]⟩] _ _ rfl rfl B5.out (by kernel_rfl) rfl rfl ?_); intro w6 hbk hu; have n0_ := Aside0.mk (hu.below HB.out G5.out); have n1_ := Aside0.mk (hu.blk B3.out H35.out); have n2_ := Aside0.mk (hu.blk B4.out H45.out); clear HB B3 B4; have HB := n0_; have B3 := n1_; have B4 := n2_; clear n0_ n1_ n2_; clear B5; have B5 := Aside0.mk hbk; have c32 := (blk_cell B3.out 2).trans rfl; have c31 := (blk_cell B3.out 1).trans rfl; have c50 := (blk_cell B5.out 0).trans rfl; have c51 := (blk_cell B5.out 1).trans rfl; clear hbk hu) | ((with_reducible refine gate_store (t := 9) (p := 20) (v := .tmp 19) rfl ?_); go_must (refine scell_event rfl rfl g5 1 (.string ((⟨#[1]⟩ : ByteArray) ++ v.f1)) _ _ B5.out ?hr ?_); (case hr => have q1_ := (blk_cell B5.out 1).trans rfl; have q2_ := blk_frozen B5.out 1; first | (go_simp; done) | (go_simp; rfl)); intro w7 hbk hu; have n0_ := Aside0.mk (hu.below HB.out G5.out); have n1_ := Aside0.mk (hu.blk B3.out H35.out); have n2_ := Aside0.mk (hu.blk B4.out H45.out); clear HB B3 B4; have HB := n0_; have B3 := n1_; have B4 := n2_; clear n0_ n1_ n2_; clear B5; have B5 := Aside0.mk (show w7.heap[g5]? = some (.cells #[.string (pairKey key v.f0), .string ((⟨#[1]⟩ : ByteArray) ++ v.f1)] 69 (0, 0)) from hbk); have c70 := (blk_cell B5.out 0).trans rfl; have c71 := (blk_cell B5.out 1).trans rfl; clear hbk hu) | ((with_reducible refine gate_store (t := 69) (p := 4) (v := .tmp 21) rfl ?_); go_must (refine sagg_event rfl 69 (.tmp 4) (.tmp 21) rfl rfl g4 #[.string (pairKey key v.f0), .string ⟨#[0]⟩] _ _ rfl rfl B4.out (by kernel_rfl) rfl rfl ?_); intro w8 hbk hu; have n0_ := Aside0.mk (hu.below HB.out G4.out); clear HB; have HB := n0_; clear n0_; clear B4; have B4 := Aside0.mk hbk; have c80 := (blk_cell B4.out 0).trans rfl; have c81 := (blk_cell B4.out 1).trans rfl; clear hbk hu))
    refine bodyPost_ret (v := .agg #[.string (pairKey key v.f0), .string (⟨#[0]⟩)]) ?_ rfl ?_
    · simp [results, Try.results54, go_sem, c80, c81]
    · exact ⟨by rw [hval.out], HB.out⟩
end Go.Proofs.Ytehcmedeeaoebaa.PB
end
section
namespace Go.Proofs.Ytehcmedeeaoebaa.PB
open Go.RowKit Go.Proofs.YtehcmedeeaoebaaW.PrintWords Go.Proofs.YtehcmedeeaoebaaW.PrintLast Go.Proofs.YtehcmedeeaoebaaW.PrintMore
set_option linter.unusedVariables false
set_option linter.unusedSimpArgs false
def idxOf {α : Type} (p : α → Bool) (l : List α) : Int := match l.findIdx? p with | some i => (i : Int) | none => -1
theorem idxOf_hit {α : Type} (p : α → Bool) (l : List α) (i : Nat) (hi : i < l.length) (hp : p l[i] = true) (hn : ∀ j, (h : j < i) → p (l[j]'(Nat.lt_trans h hi)) = false) : idxOf p l = i := by
  unfold idxOf
  have : l.findIdx? p = some i := by
    rw [List.findIdx?_eq_some_iff_getElem]
    refine ⟨hi, hp, fun j hj => ?_⟩
    rw [hn j hj]; simp
  rw [this]
theorem idxOf_miss {α : Type} (p : α → Bool) (l : List α) (hn : ∀ j, (h : j < l.length) → p l[j] = false) : idxOf p l = -1 := by
  unfold idxOf
  have : l.findIdx? p = none := by
    rw [List.findIdx?_eq_none_iff]
    intro x hx
    obtain ⟨j, hj, rfl⟩ := List.getElem_of_mem hx
    exact hn j hj
  rw [this]
theorem idxOf_ge {α : Type} (p : α → Bool) (l : List α) : decide (0 ≤ idxOf p l) = l.any p := by
  unfold idxOf
  cases h : l.findIdx? p with
  | none =>
    have : l.any p = false := by
      rw [List.any_eq_false]
      intro x hx
      simpa using List.findIdx?_eq_none_iff.1 h x hx
    rw [this]; rfl
  | some i =>
    obtain ⟨hi, hp, _⟩ := List.findIdx?_eq_some_iff_getElem.1 h
    have : l.any p = true := List.any_eq_true.2 ⟨_, List.getElem_mem hi, hp⟩
    rw [this]
    simp
theorem rdT52_get (l : List S52) (i : Nat) (h : i < l.length) : rd_T52 l (i : Int) = l[i] := by
  simp [rd_T52, List.getD_eq_getElem?_getD, h]
set_option maxHeartbeats 2000000 in
set_option maxRecDepth 100000 in
theorem IndexFunc52.calls (A : Option Addr) (c : Nat) (l : List S52) (g : Nat) (lb : Array Value) (p : S52 → Bool) (w : World) (eg : ∀ args w, (callFunc g args).run Try.prog w = .ok (.enter g args) w)
    (hr : Kd.C k52 w A l.length l) (hc : l.length ≤ c)
    (hp : ∀ (W : World) (x : S52), Below w.heap.size w W → Calls Try.prog g (#[.agg #[.string x.f0, .string x.f1, .bool x.f2]] ++ lb) W fun e w' => e = .returned (.bool (p x)) ∧ Below W.heap.size W w') :
    Calls Try.prog 68 #[.slice A l.length c, .func (.func g) #[] lb] w fun e w' => e = .returned (.int .i64 (idxOf p l)) ∧ Below w.heap.size w w' := by
  have hu52 := Try.underlying52
  have hl := hr.2.1
  have HR := Aside0.mk hr
  have HP := Aside0.mk hp
  clear hr hp
  go_enter Try.func68, Try.ntmps68
  go_wp2
  go_loopg [5, 8] l.length (fun gg _ s8 wr => ∃ kk : Nat, kk ≤ l.length ∧ l.length - kk ≤ gg ∧ s8 = .int .i64 kk ∧ Aside0 (Below w.heap.size w wr) ∧ Aside0 (∀ j, (h : j < kk) → (h' : j < l.length) → p l[j] = false))
  case atStart => exact ⟨0, Nat.zero_le _, by omega, rfl, ⟨Below.refl _ w⟩, ⟨fun j hj => absurd hj (Nat.not_lt_zero _)⟩⟩
  case round =>
    obtain ⟨kk, hkk, hg, rfl, BW, HA⟩ := hrel
    by_cases hlt : kk < l.length
    · have hltz : (kk : Int) < (l.length : Int) := by omega
      obtain ⟨ad, e, h0, h1, h2⟩ := at_T52 HR.out (kk : Int) (by omega) hltz
      cases e
      rw [rdT52_get l kk hlt] at h0 h1 h2
      simp only [Int.toNat_natCast] at h0 h1 h2
      have hcall := HP.out wr l[kk] BW.out
      obtain ⟨y, hy⟩ : ∃ y, y = l[kk] := ⟨_, rfl⟩
      rw [← hy] at h0 h1 h2 hcall
      have HY := Aside0.mk hy
      clear hy
      replace h0 := (BW.out.cell (World.block_lt_of_cell? w _ h0)).trans h0
      replace h1 := (BW.out.cell (World.block_lt_of_cell? w _ h1)).trans h1
      replace h2 := (BW.out.cell (World.block_lt_of_cell? w _ h2)).trans h2
      cases hq : p y with
      | true =>
        rw [hq] at hcall
        go_wp2_with (go_at_fn g; refine hcall.mono ?_; rintro e w' ⟨rfl, hb'⟩)
        go_ret
        refine ⟨?_, below_then BW.out BW.out.size hb'⟩
        rw [idxOf_hit p l kk hlt (by rw [← HY.out]; exact hq) (fun j hj => HA.out j hj (by omega))]
        rfl
      | false =>
        rw [hq] at hcall
        go_wp2_with (go_at_fn g; refine hcall.mono ?_; rintro e w' ⟨rfl, hb'⟩)
        go_roundg (l.length - (kk + 1))
        case measure => omega
        case rel =>
          refine ⟨kk + 1, by omega, by omega, by go_num, ⟨below_then BW.out BW.out.size hb'⟩, ⟨fun j hj h' => ?_⟩⟩
          by_cases e : j = kk
          · subst e
            rw [← HY.out]; exact hq
          · exact HA.out j (by omega) h'
    · have hltz : ¬ (kk : Int) < (l.length : Int) := by omega
      go_wp2
      go_ret
      refine ⟨?_, BW.out⟩
      rw [idxOf_miss p l (fun j hj => HA.out j (by omega) hj)]
      rfl
theorem ContainsFunc52.calls (A : Option Addr) (c : Nat) (l : List S52) (g : Nat) (lb : Array Value) (p : S52 → Bool) (w : World) (eg : ∀ args w, (callFunc g args).run Try.prog w = .ok (.enter g args) w)
    (hr : Kd.C k52 w A l.length l) (hc : l.length ≤ c)
    (hp : ∀ (W : World) (x : S52), Below w.heap.size w W → Calls Try.prog g (#[.agg #[.string x.f0, .string x.f1, .bool x.f2]] ++ lb) W fun e w' => e = .returned (.bool (p x)) ∧ Below W.heap.size W w') :
    Calls Try.prog 45 #[.slice A l.length c, .func (.func g) #[] lb] w fun e w' => e = .returned (.bool (l.any p)) ∧ Below w.heap.size w w' := by
  have H := IndexFunc52.calls A c l g lb p w eg hr hc hp
  have hge := idxOf_ge p l
  obtain ⟨r, hrr⟩ : ∃ r, idxOf p l = r := ⟨_, rfl⟩
  rw [hrr] at H hge
  clear hp hr
  obtain ⟨b, hbb⟩ : ∃ b, l.any p = b := ⟨_, rfl⟩
  rw [hbb] at hge ⊢
  clear hrr hbb
  go_enter Try.func45, Try.ntmps45
  go_wp2_with (go_at_call 68; refine H.mono ?_; rintro e w' ⟨rfl, hb⟩)
  go_ret
  exact ⟨rfl, hb⟩
end Go.Proofs.Ytehcmedeeaoebaa.PB
end
section
namespace Go.Proofs.Ytehcmedeeaoebaa.PB
open Go.RowKit Go.Proofs.YtehcmedeeaoebaaW.PrintWords Go.Proofs.YtehcmedeeaoebaaW.PrintLast Go.Proofs.YtehcmedeeaoebaaW.PrintMore
set_option linter.unusedVariables false
set_option linter.unusedSimpArgs false
def lowBytes (u : Int) : Nat → List Int
  | 0 => []
  | m + 1 => byteOf u m :: lowBytes u m
theorem bytes8_low (u : Int) : bytes8 u = lowBytes u 8 := rfl
theorem lowBytes_length (u : Int) (m : Nat) : (lowBytes u m).length = m := by induction m with | zero => rfl | succ m ih => simp [lowBytes, ih]
def F8 (n : Int) : ByteArray := strOfNums (bytes8 (n % 18446744073709551616))
theorem F8_size (n : Int) : (F8 n).size = 8 := by unfold F8; rw [strOfNums_size]; rfl
theorem Field_loop (u : Int) (m : Nat) : ∀ (k : Nat) (acc : List Int), m ≤ 8 → m < k → acc.length + m ≤ 8 → ambryref01_Field.l0 k u acc ((m : Int) - 1) = some (strOfNums (acc ++ lowBytes u m)) := by
  induction m with
  | zero =>
    intro k acc _ hk _
    obtain ⟨k, rfl⟩ : ∃ q, k = q + 1 := ⟨k - 1, by omega⟩
    simp only [ambryref01_Field.l0]
    rw [if_neg (by omega)]
    simp [lowBytes]
  | succ m ih =>
    intro k acc hm hk hl
    obtain ⟨k, rfl⟩ : ∃ q, k = q + 1 := ⟨k - 1, by omega⟩
    have e0 : ((m + 1 : Nat) : Int) - 1 = (m : Int) := by omega
    have e1 : IntKind.u64.wrap (m : Int) = (m : Int) := by rw [IntKind.wrap_u64]; omega
    have e2 : IntKind.u64.wrap (8 * (m : Int)) = 8 * (m : Int) := by rw [IntKind.wrap_u64]; omega
    have e3 : wrap64 ((m : Int) - 1) = (m : Int) - 1 := by unfold wrap64; omega
    rw [e0]
    simp only [ambryref01_Field.l0]
    rw [e1, e2, e3, if_pos (by omega), if_pos (by omega), if_pos (by omega), ih k _ (by omega) (by omega) (by simp; omega)]
    have e4 : shr IntKind.u64 u (8 * (m : Int)) % 256 = byteOf u m := by
      unfold shr byteOf
      rw [show min (8 * (m : Int)).toNat IntKind.u64.bits = 8 * m by show min (8 * (m : Int)).toNat 64 = 8 * m; omega]
    rw [e4, List.append_assoc]
    rfl
theorem Field8_f (n : Int) : ambryref01_Field.f 10 n 8 = some (F8 n) := by
  have h := Field_loop (n % 18446744073709551616) 8 10 [] (by omega) (by omega) (by simp)
  unfold ambryref01_Field.f F8
  have e0 : wrap64 (8 - 1) = ((8 : Nat) : Int) - 1 := by unfold wrap64; omega
  rw [e0, IntKind.wrap_u64, h, bytes8_low, List.nil_append]
theorem size_app (a b : ByteArray) : (a ++ b).size = a.size + b.size := ByteArray.size_append
theorem Field8.calls (n : Int) (w : World) : Calls Try.prog 42 #[.int .i64 n, .int .i64 8] w fun e w' => e = .returned (.string (F8 n)) ∧ Below w.heap.size w w' :=
  ambryref01_Field.calls 10 n 8 _ w (Field8_f n)
end Go.Proofs.Ytehcmedeeaoebaa.PB
end
section
namespace Go.Proofs.Ytehcmedeeaoebaa.PB
open Go.RowKit Go.Proofs.YtehcmedeeaoebaaW.PrintWords Go.Proofs.YtehcmedeeaoebaaW.PrintLast Go.Proofs.YtehcmedeeaoebaaW.PrintMore
attribute [local go_sem] max2_int min2_int max_two min_two max_three min_three max_four min_four
set_option linter.unusedVariables false
set_option linter.unusedSimpArgs false
def batch_kept.f (a0_0 : ByteArray) (a0_1 : ByteArray) (a0_2 : Bool) : Option (Bool) := if (a0_0.size : Int) ≤ 120 then (if (a0_1.size : Int) ≤ 199 then (if a0_2 = true then (some (a0_1.toList == ([] : List UInt8))) else (some true)) else (some false)) else (some false)
set_option maxHeartbeats 8000000 in
set_option maxRecDepth 100000 in
theorem batch_kept.calls (a0_0 : ByteArray) (a0_1 : ByteArray) (a0_2 : Bool) (r : Bool) (w : World) (h : batch_kept.f a0_0 a0_1 a0_2 = some r) :
    Calls Try.prog 44 #[.agg #[.string a0_0, .string a0_1, .bool a0_2]] w fun e w' => e = .returned (.bool r) ∧ Below w.heap.size w w' := by
  have hu52 := Try.underlying52
  have HB := Aside0.mk (Below.refl w.heap.size w)
  have H : (if (a0_0.size : Int) ≤ 120 then (if (a0_1.size : Int) ≤ 199 then (if a0_2 = true then (some (a0_1.toList == ([] : List UInt8))) else (some true)) else (some false)) else (some false)) = some r := h
  clear h
  by_cases c2 : (a0_0.size : Int) ≤ 120
  · rw [if_pos c2] at H
    have c2b0 : decide ((a0_0.size : Int) ≤ 120) = true := decide_eq_true c2
    have c2b1 : decide (a0_0.size ≤ 120) = true := decide_eq_true (by omega)
    clear c2
    by_cases c3 : (a0_1.size : Int) ≤ 199
    · rw [if_pos c3] at H
      have c3b0 : decide ((a0_1.size : Int) ≤ 199) = true := decide_eq_true c3
      have c3b1 : decide (a0_1.size ≤ 199) = true := decide_eq_true (by omega)
      clear c3
      by_cases c4 : a0_2 = true
      · subst c4
        have H1 : (some (a0_1.toList == ([] : List UInt8))) = some r := by rw [if_pos rfl] at H; exact H
        clear H
        have H := H1
        clear H1
        obtain rfl := Option.some.inj H
        go_enter Try.func44, Try.ntmps44
        go_wp2_with (first | ((with_reducible refine gate_dst (N := 1) rfl ?_); (try (refine gate_guard (by rfl) ?_; dsimp only)); refine box_event ?hg (N := 1) ?hd (cs := #[.string a0_0, .string a0_1, .bool true]) (t := 52) ?hr ?_; (case hd => rfl); (case hg => rfl); (case hr => first | (go_simp; done) | (go_simp; rfl)); intro gb101 hg w5 hbox hb; have n0_ := Aside0.mk (below_step (by repeat (first | (with_reducible first | exact HB.out | apply below_alloc | apply pw_below_drewN | apply below_drew1) | exact HB.out)) hb); have n1_ := Aside0.mk (hbox); have n2_ := Aside0.mk ((by rw [hg]; exact (below_size (by repeat (first | (with_reducible first | exact HB.out | apply below_alloc | apply pw_below_drewN | apply below_drew1) | exact HB.out))) : w.heap.size ≤ gb101)); have n3_ := Aside0.mk ((by rw [hg]; exact (below_size (by repeat (first | (with_reducible first | exact HB.out | apply below_alloc | apply pw_below_drewN | apply below_drew1) | exact HB.out))) : w.heap.size ≤ gb101)); clear HB; have HB := n0_; have BK101 := n1_; have GW101 := n2_; have GE101 := n3_; clear n0_ n1_ n2_ n3_; clear hb hbox hg; have hcz6_0 : w5.cell? ⟨gb101, 0, none⟩ = some (.string a0_0) := (blk_cell BK101.out 0).trans rfl; have hcz6_1 : w5.cell? ⟨gb101, 1, none⟩ = some (.string a0_1) := (blk_cell BK101.out 1).trans rfl; have hcz6_2 : w5.cell? ⟨gb101, 2, none⟩ = some (.bool true) := (blk_cell BK101.out 2).trans rfl; have hfz6_0 := blk_frozen BK101.out 0; have hfz6_1 := blk_frozen BK101.out 1; have hfz6_2 := blk_frozen BK101.out 2))
        go_ret
        exact ⟨by first | rfl | (simp [errW_none, errW_some] <;> rfl) | (simp [*, errW_none, errW_some] <;> rfl), by repeat (first | (with_reducible first | exact HB.out | apply below_alloc | apply pw_below_drewN | apply below_drew1 | refine below_set ?_ GE101.out) | exact HB.out)⟩
      · replace c4 := Bool.eq_false_iff.mpr c4
        subst c4
        have H1 : (some true) = some r := by rw [if_neg (show ¬ (false = true) by decide)] at H; exact H
        clear H
        have H := H1
        clear H1
        obtain rfl := Option.some.inj H
        go_enter Try.func44, Try.ntmps44
        go_wp2_with (first | ((with_reducible refine gate_dst (N := 1) rfl ?_); (try (refine gate_guard (by rfl) ?_; dsimp only)); refine box_event ?hg (N := 1) ?hd (cs := #[.string a0_0, .string a0_1, .bool false]) (t := 52) ?hr ?_; (case hd => rfl); (case hg => rfl); (case hr => first | (go_simp; done) | (go_simp; rfl)); intro gb101 hg w7 hbox hb; have n0_ := Aside0.mk (below_step (by repeat (first | (with_reducible first | exact HB.out | apply below_alloc | apply pw_below_drewN | apply below_drew1) | exact HB.out)) hb); have n1_ := Aside0.mk (hbox); have n2_ := Aside0.mk ((by rw [hg]; exact (below_size (by repeat (first | (with_reducible first | exact HB.out | apply below_alloc | apply pw_below_drewN | apply below_drew1) | exact HB.out))) : w.heap.size ≤ gb101)); have n3_ := Aside0.mk ((by rw [hg]; exact (below_size (by repeat (first | (with_reducible first | exact HB.out | apply below_alloc | apply pw_below_drewN | apply below_drew1) | exact HB.out))) : w.heap.size ≤ gb101)); clear HB; have HB := n0_; have BK101 := n1_; have GW101 := n2_; have GE101 := n3_; clear n0_ n1_ n2_ n3_; clear hb hbox hg; have hcz8_0 : w7.cell? ⟨gb101, 0, none⟩ = some (.string a0_0) := (blk_cell BK101.out 0).trans rfl; have hcz8_1 : w7.cell? ⟨gb101, 1, none⟩ = some (.string a0_1) := (blk_cell BK101.out 1).trans rfl; have hcz8_2 : w7.cell? ⟨gb101, 2, none⟩ = some (.bool false) := (blk_cell BK101.out 2).trans rfl; have hfz8_0 := blk_frozen BK101.out 0; have hfz8_1 := blk_frozen BK101.out 1; have hfz8_2 := blk_frozen BK101.out 2))
        go_ret
        exact ⟨by first | rfl | (simp [errW_none, errW_some] <;> rfl) | (simp [*, errW_none, errW_some] <;> rfl), by repeat (first | (with_reducible first | exact HB.out | apply below_alloc | apply pw_below_drewN | apply below_drew1 | refine below_set ?_ GE101.out) | exact HB.out)⟩
    · rw [if_neg c3] at H
      have c3b0 : decide ((a0_1.size : Int) ≤ 199) = false := decide_eq_false c3
      have c3b1 : decide (a0_1.size ≤ 199) = false := decide_eq_false (by omega)
      clear c3
      obtain rfl := Option.some.inj H
      go_enter Try.func44, Try.ntmps44
      go_wp2_with (first | ((with_reducible refine gate_dst (N := 1) rfl ?_); (try (refine gate_guard (by rfl) ?_; dsimp only)); refine box_event ?hg (N := 1) ?hd (cs := #[.string a0_0, .string a0_1, .bool a0_2]) (t := 52) ?hr ?_; (case hd => rfl); (case hg => rfl); (case hr => first | (go_simp; done) | (go_simp; rfl)); intro gb101 hg w9 hbox hb; have n0_ := Aside0.mk (below_step (by repeat (first | (with_reducible first | exact HB.out | apply below_alloc | apply pw_below_drewN | apply below_drew1) | exact HB.out)) hb); have n1_ := Aside0.mk (hbox); have n2_ := Aside0.mk ((by rw [hg]; exact (below_size (by repeat (first | (with_reducible first | exact HB.out | apply below_alloc | apply pw_below_drewN | apply below_drew1) | exact HB.out))) : w.heap.size ≤ gb101)); have n3_ := Aside0.mk ((by rw [hg]; exact (below_size (by repeat (first | (with_reducible first | exact HB.out | apply below_alloc | apply pw_below_drewN | apply below_drew1) | exact HB.out))) : w.heap.size ≤ gb101)); clear HB; have HB := n0_; have BK101 := n1_; have GW101 := n2_; have GE101 := n3_; clear n0_ n1_ n2_ n3_; clear hb hbox hg; have hcz10_0 : w9.cell? ⟨gb101, 0, none⟩ = some (.string a0_0) := (blk_cell BK101.out 0).trans rfl; have hcz10_1 : w9.cell? ⟨gb101, 1, none⟩ = some (.string a0_1) := (blk_cell BK101.out 1).trans rfl; have hcz10_2 : w9.cell? ⟨gb101, 2, none⟩ = some (.bool a0_2) := (blk_cell BK101.out 2).trans rfl; have hfz10_0 := blk_frozen BK101.out 0; have hfz10_1 := blk_frozen BK101.out 1; have hfz10_2 := blk_frozen BK101.out 2))
      go_ret
      exact ⟨by first | rfl | (simp [errW_none, errW_some] <;> rfl) | (simp [*, errW_none, errW_some] <;> rfl), by repeat (first | (with_reducible first | exact HB.out | apply below_alloc | apply pw_below_drewN | apply below_drew1 | refine below_set ?_ GE101.out) | exact HB.out)⟩
  · rw [if_neg c2] at H
    have c2b0 : decide ((a0_0.size : Int) ≤ 120) = false := decide_eq_false c2
    have c2b1 : decide (a0_0.size ≤ 120) = false := decide_eq_false (by omega)
    clear c2
    obtain rfl := Option.some.inj H
    go_enter Try.func44, Try.ntmps44
    go_wp2_with (first | ((with_reducible refine gate_dst (N := 1) rfl ?_); (try (refine gate_guard (by rfl) ?_; dsimp only)); refine box_event ?hg (N := 1) ?hd (cs := #[.string a0_0, .string a0_1, .bool a0_2]) (t := 52) ?hr ?_; (case hd => rfl); (case hg => rfl); (case hr => first | (go_simp; done) | (go_simp; rfl)); intro gb101 hg w11 hbox hb; have n0_ := Aside0.mk (below_step (by repeat (first | (with_reducible first | exact HB.out | apply below_alloc | apply pw_below_drewN | apply below_drew1) | exact HB.out)) hb); have n1_ := Aside0.mk (hbox); have n2_ := Aside0.mk ((by rw [hg]; exact (below_size (by repeat (first | (with_reducible first | exact HB.out | apply below_alloc | apply pw_below_drewN | apply below_drew1) | exact HB.out))) : w.heap.size ≤ gb101)); have n3_ := Aside0.mk ((by rw [hg]; exact (below_size (by repeat (first | (with_reducible first | exact HB.out | apply below_alloc | apply pw_below_drewN | apply below_drew1) | exact HB.out))) : w.heap.size ≤ gb101)); clear HB; have HB := n0_; have BK101 := n1_; have GW101 := n2_; have GE101 := n3_; clear n0_ n1_ n2_ n3_; clear hb hbox hg; have hcz12_0 : w11.cell? ⟨gb101, 0, none⟩ = some (.string a0_0) := (blk_cell BK101.out 0).trans rfl; have hcz12_1 : w11.cell? ⟨gb101, 1, none⟩ = some (.string a0_1) := (blk_cell BK101.out 1).trans rfl; have hcz12_2 : w11.cell? ⟨gb101, 2, none⟩ = some (.bool a0_2) := (blk_cell BK101.out 2).trans rfl; have hfz12_0 := blk_frozen BK101.out 0; have hfz12_1 := blk_frozen BK101.out 1; have hfz12_2 := blk_frozen BK101.out 2))
    go_ret
    exact ⟨by first | rfl | (simp [errW_none, errW_some] <;> rfl) | (simp [*, errW_none, errW_some] <;> rfl), by repeat (first | (with_reducible first | exact HB.out | apply below_alloc | apply pw_below_drewN | apply below_drew1 | refine below_set ?_ GE101.out) | exact HB.out)⟩
end Go.Proofs.Ytehcmedeeaoebaa.PB
end
section
namespace Go.Proofs.Ytehcmedeeaoebaa.PB
open Go.RowKit Go.Proofs.YtehcmedeeaoebaaW.PrintWords Go.Proofs.YtehcmedeeaoebaaW.PrintLast Go.Proofs.YtehcmedeeaoebaaW.PrintMore
attribute [local go_sem] max2_int min2_int max_two min_two max_three min_three max_four min_four
set_option linter.unusedVariables false
set_option linter.unusedSimpArgs false
def batch_size.l0 : Nat → Int → List (S52) → Int → Int → Option (Int)
  | 0, _, _, _, _ => none
  | k + 1, x3, x7, x8, x9 => if x9 < x8 then (if 0 ≤ x9 then (if x9 < (x7.length : Int) then (batch_size.l0 k (wrap64 (x3 + (wrap64 ((wrap64 (3 + (((rd_T52 x7 x9).f0).size : Int))) + (((rd_T52 x7 x9).f1).size : Int))))) x7 x8 (wrap64 (x9 + 1))) else (none)) else (none)) else (some x3)
def batch_size.f (k : Nat) (a0_0 : Int) (l0_1 : List (S52)) : Option (Int) := batch_size.l0 k 10 l0_1 (l0_1.length : Int) 0
set_option maxHeartbeats 8000000 in
set_option maxRecDepth 100000 in
theorem batch_size.calls (k : Nat) (a0_0 : Int) (A0_1 : Option Addr) (c0_1 : Nat) (l0_1 : List (S52)) (r : Int) (w : World) (hr0_1 : Kd.C k52 w A0_1 l0_1.length l0_1) (hc0_1 : l0_1.length ≤ c0_1) (h : batch_size.f k a0_0 l0_1 = some r) :
    Calls Try.prog 46 #[.agg #[.int .i64 a0_0, .slice A0_1 l0_1.length c0_1]] w fun e w' => e = .returned (.int .i64 r) ∧ Below w.heap.size w w' := by
  have hu24 := Try.underlying24
  have hu52 := Try.underlying52
  have HR0_1 := Aside0.mk hr0_1
  have HC0_1 := Aside0.mk hc0_1
  clear hr0_1 hc0_1
  have HB := Aside0.mk (Below.refl w.heap.size w)
  have H : (batch_size.l0 k 10 l0_1 (l0_1.length : Int) 0) = some r := h
  clear h
  have H' := Aside0.mk H
  clear H
  go_enter Try.func46, Try.ntmps46
  go_wp2_with (first | ((with_reducible refine gate_dst (N := 1) rfl ?_); refine box_event ?hg (N := 1) ?hd (cs := #[.int .i64 a0_0, .slice A0_1 l0_1.length c0_1]) (t := 24) ?hr ?_; (case hd => rfl); (case hg => rfl); (case hr => first | (go_simp; done) | (go_simp; rfl)); intro gb102 hg w2 hbox hb; have n0_ := Aside0.mk (below_step (by repeat (first | (with_reducible first | exact HB.out | apply below_alloc | apply pw_below_drewN | apply below_drew1) | exact HB.out)) hb); have n1_ := Aside0.mk (hbox); have n2_ := Aside0.mk ((by rw [hg]; exact (below_size (by repeat (first | (with_reducible first | exact HB.out | apply below_alloc | apply pw_below_drewN | apply below_drew1) | exact HB.out))) : w.heap.size ≤ gb102)); have n3_ := Aside0.mk ((by rw [hg]; exact (below_size (by repeat (first | (with_reducible first | exact HB.out | apply below_alloc | apply pw_below_drewN | apply below_drew1) | exact HB.out))) : w.heap.size ≤ gb102)); clear HB; have HB := n0_; have BK102 := n1_; have GW102 := n2_; have GE102 := n3_; clear n0_ n1_ n2_ n3_; clear hb hbox hg; have hcz3_0 : w2.cell? ⟨gb102, 0, none⟩ = some (.int .i64 a0_0) := (blk_cell BK102.out 0).trans rfl; have hcz3_1 : w2.cell? ⟨gb102, 1, none⟩ = some (.slice A0_1 l0_1.length c0_1) := (blk_cell BK102.out 1).trans rfl; have hfz3_0 := blk_frozen BK102.out 0; have hfz3_1 := blk_frozen BK102.out 1))
  go_loopg [3, 9] k (fun kq v3 v9 w' => ∃ (x3_1 : Int) (x9_1 : Int), v3 = .int .i64 x3_1 ∧ v9 = .int .i64 x9_1 ∧ Aside0 (batch_size.l0 kq x3_1 l0_1 (l0_1.length : Int) x9_1 = some r) ∧ Aside0 (kq ≤ k) ∧ Aside0 (w'.heap[gb102]? = some (.cells #[.int .i64 a0_0, (.slice A0_1 l0_1.length c0_1)] 24 (0, 0))) ∧ Aside0 (Below w.heap.size w w'))
  case atStart => exact ⟨(10), (0), (by first | rfl | (simp; done) | (simp [*]; done)), (by first | rfl | (simp; done) | (simp [*]; done)), H', ⟨Nat.le_refl _⟩, ⟨by (with_reducible repeat (first | refine blk_drewN ?_ _ | refine blk_drew ?_ | refine blk_alloc ?_ _)); exact BK102.out⟩, ⟨by repeat (first | (with_reducible first | exact HB.out | apply below_alloc | apply pw_below_drewN | apply below_drew1 | refine below_set ?_ GE102.out) | exact HB.out)⟩⟩
  case round =>
    clear H'
    try clear p2
    try clear hcz3_0
    try clear hcz3_1
    try clear hfz3_0
    try clear hfz3_1
    obtain ⟨x3_1, x9_1, rfl, rfl, HA, HK1, BK102, HB⟩ := hrel
    cases gk with
    | zero => exact absurd HA.out (by simp [batch_size.l0])
    | succ k1 =>
      have H := HA.out
      clear HA
      simp only [batch_size.l0] at H
      by_cases c4 : x9_1 < (l0_1.length : Int)
      · rw [if_pos c4] at H
        have c4b0 : decide (x9_1 < (l0_1.length : Int)) = true := decide_eq_true c4
        clear c4
        by_cases c5 : 0 ≤ x9_1
        · rw [if_pos c5] at H
          have c5b0 : decide (0 ≤ x9_1) = true := decide_eq_true c5
          clear c5
          by_cases c6 : x9_1 < (l0_1.length : Int)
          · rw [if_pos c6] at H
            have c6b0 : decide (x9_1 < (l0_1.length : Int)) = true := decide_eq_true c6
            clear c6
            have H' := Aside0.mk H
            clear H
            have p103 : 0 ≤ (x9_1 : Int) := of_decide_eq_true (by first | (with_reducible assumption) | assumption)
            have q103 : x9_1 < (l0_1.length : Int) := of_decide_eq_true (by first | (with_reducible assumption) | assumption)
            obtain ⟨ad103, e103, hx103_0, hx103_1, hx103_2⟩ := at_T52 HR0_1.out x9_1 p103 q103
            cases e103
            replace hx103_0 := (HB.out.cell (World.block_lt_of_cell? w _ hx103_0)).trans hx103_0
            replace hx103_1 := (HB.out.cell (World.block_lt_of_cell? w _ hx103_1)).trans hx103_1
            replace hx103_2 := (HB.out.cell (World.block_lt_of_cell? w _ hx103_2)).trans hx103_2
            replace p103 := eq_true p103
            replace q103 := eq_true q103
            go_wp2_with (first | ((with_reducible refine gate_dst (N := 5) rfl ?_); refine box_event ?hg (N := 5) ?hd (cs := #[.string (⟨#[]⟩ : ByteArray), .string (⟨#[]⟩ : ByteArray), .bool false]) (t := 52) ?hr ?_; (case hd => rfl); (case hg => rfl); (case hr => first | (go_simp; done) | (go_simp; rfl)); intro gb104 hg w7 hbox hb; have n0_ := Aside0.mk (blk_below (g := gb102) (o := .cells #[.int .i64 a0_0, .slice (some ad103) l0_1.length c0_1] 24 (0, 0)) (by (with_reducible repeat (first | refine blk_drewN ?_ _ | refine blk_drew ?_ | refine blk_alloc ?_ _)); exact BK102.out) hb); have n1_ := Aside0.mk (below_step (by repeat (first | (with_reducible first | exact HB.out | apply below_alloc | apply pw_below_drewN | apply below_drew1 | refine below_set ?_ GE102.out) | exact HB.out)) hb); have n2_ := Aside0.mk (hbox); have n3_ := Aside0.mk ((by rw [hg]; exact (below_size (by repeat (first | (with_reducible first | exact HB.out | apply below_alloc | apply pw_below_drewN | apply below_drew1 | refine below_set ?_ GE102.out) | exact HB.out))) : w.heap.size ≤ gb104)); have n4_ := Aside0.mk ((by rw [hg]; exact (below_size (by repeat (first | (with_reducible first | exact HB.out | apply below_alloc | apply pw_below_drewN | apply below_drew1 | refine below_set ?_ GE102.out) | exact HB.out))) : w.heap.size ≤ gb104)); have n5_ := Aside0.mk ((by rw [hg]; exact Nat.ne_of_lt (blk_lt (g := gb102) (o := .cells #[.int .i64 a0_0, .slice (some ad103) l0_1.length c0_1] 24 (0, 0)) (by (with_reducible repeat (first | refine blk_drewN ?_ _ | refine blk_drew ?_ | refine blk_alloc ?_ _)); exact BK102.out)) : gb102 ≠ gb104)); have n6_ := Aside0.mk ((by rw [hg]; exact Nat.ne_of_gt (blk_lt (g := gb102) (o := .cells #[.int .i64 a0_0, .slice (some ad103) l0_1.length c0_1] 24 (0, 0)) (by (with_reducible repeat (first | refine blk_drewN ?_ _ | refine blk_drew ?_ | refine blk_alloc ?_ _)); exact BK102.out)) : gb104 ≠ gb102)); clear BK102; clear HB; have BK102 := n0_; have HB := n1_; have BK104 := n2_; have GW104 := n3_; have GE104 := n4_; have NB102_104 := n5_; have NB104_102 := n6_; clear n0_ n1_ n2_ n3_ n4_ n5_ n6_; clear hb hbox hg; have hnb8 := NB104_102.out; have hnc8 := NB102_104.out; have hcz9_0 : w7.cell? ⟨gb104, 0, none⟩ = some (.string (⟨#[]⟩ : ByteArray)) := (blk_cell BK104.out 0).trans rfl; have hcz9_1 : w7.cell? ⟨gb104, 1, none⟩ = some (.string (⟨#[]⟩ : ByteArray)) := (blk_cell BK104.out 1).trans rfl; have hcz9_2 : w7.cell? ⟨gb104, 2, none⟩ = some (.bool false) := (blk_cell BK104.out 2).trans rfl; have hfz9_0 := blk_frozen BK104.out 0; have hfz9_1 := blk_frozen BK104.out 1; have hfz9_2 := blk_frozen BK104.out 2))
            go_roundg k1
            case measure => have := HK1.out; omega
            case rel => exact ⟨(wrap64 (x3_1 + (wrap64 ((wrap64 (3 + (((rd_T52 l0_1 x9_1).f0).size : Int))) + (((rd_T52 l0_1 x9_1).f1).size : Int))))), (wrap64 (x9_1 + 1)), (by first | rfl | (simp; done) | (simp [*]; done)), (by first | rfl | (simp; done) | (simp [*]; done)), H', ⟨by have := HK1.out; omega⟩, ⟨by (with_reducible repeat (first | refine blk_drewN ?_ _ | refine blk_drew ?_ | refine blk_alloc ?_ _)); refine blk_far ?_ NB102_104.out _; (with_reducible repeat (first | refine blk_drewN ?_ _ | refine blk_drew ?_ | refine blk_alloc ?_ _)); refine blk_far ?_ NB102_104.out _; (with_reducible repeat (first | refine blk_drewN ?_ _ | refine blk_drew ?_ | refine blk_alloc ?_ _)); refine blk_far ?_ NB102_104.out _; (with_reducible repeat (first | refine blk_drewN ?_ _ | refine blk_drew ?_ | refine blk_alloc ?_ _)); exact BK102.out⟩, ⟨by repeat (first | (with_reducible first | exact HB.out | apply below_alloc | apply pw_below_drewN | apply below_drew1 | refine below_set ?_ GE102.out | refine below_set ?_ GE104.out) | exact HB.out)⟩⟩
          · rw [if_neg c6] at H
            exact absurd H (by simp)
        · rw [if_neg c5] at H
          exact absurd H (by simp)
      · rw [if_neg c4] at H
        have c4b0 : decide (x9_1 < (l0_1.length : Int)) = false := decide_eq_false c4
        clear c4
        obtain rfl := Option.some.inj H
        go_wp2
        go_ret
        exact ⟨by first | rfl | (simp [errW_none, errW_some] <;> rfl) | (simp [*, errW_none, errW_some] <;> rfl), by repeat (first | (with_reducible first | exact HB.out | apply below_alloc | apply pw_below_drewN | apply below_drew1 | refine below_set ?_ GE102.out) | exact HB.out)⟩
end Go.Proofs.Ytehcmedeeaoebaa.PB
end
section
namespace Go.Proofs.Ytehcmedeeaoebaa.PB
open Go.RowKit Go.Proofs.YtehcmedeeaoebaaW.PrintWords Go.Proofs.YtehcmedeeaoebaaW.PrintLast Go.Proofs.YtehcmedeeaoebaaW.PrintMore
set_option linter.unusedVariables false
set_option linter.unusedSimpArgs false
def keptB (c : S52) : Bool := decide (c.f0.size ≤ 120) && decide (c.f1.size ≤ 199) && (!c.f2 || c.f1.toList == ([] : List UInt8))
theorem kept_f (c : S52) : batch_kept.f c.f0 c.f1 c.f2 = some (keptB c) := by
  unfold batch_kept.f keptB
  by_cases h0 : c.f0.size ≤ 120
  · rw [if_pos (by omega)]
    by_cases h1 : c.f1.size ≤ 199
    · rw [if_pos (by omega)]
      by_cases h2 : c.f2 = true
      · rw [if_pos h2]; simp [h0, h1, h2]
      · rw [if_neg h2]; simp [h0, h1, h2]
    · rw [if_neg (by omega)]; simp [h1]
  · rw [if_neg (by omega)]; simp [h0]
def sameKey (c x : S52) : Bool := x.f0.toList == c.f0.toList
def okAt (l : List S52) (j : Nat) (h : j < l.length) : Bool := keptB l[j] && !((l.take j).any (sameKey l[j]))
def okAll (l : List S52) : Bool := decide (∀ j, (h : j < l.length) → okAt l j h = true)
theorem Check1.calls (x c : S52) (g : Nat) (W : World) (hb : W.heap[g]? = some (.cells #[.string c.f0, .string c.f1, .bool c.f2] 52 (0, 0))) :
    Calls Try.prog 43 #[.agg #[.string x.f0, .string x.f1, .bool x.f2], .pointer (some ⟨g, 0, none⟩)] W fun e w' => e = .returned (.bool (sameKey c x)) ∧ Below W.heap.size W w' := by
  have hg := blk_lt hb
  have hc := (blk_cell hb 0).trans rfl
  have hne : ¬ g = W.heap.size := by omega
  unfold sameKey
  clear hb
  go_enter Try.func43, Try.ntmps43
  go_wp2
  go_ret
  exact ⟨rfl, (Below.refl _ _).alloc (Nat.le_refl _) _⟩
def batch_Check.f (k : Nat) (t : Int) (l : List S52) : Option Int :=
  if t < 1 then some 2 else if 1152921504606846976 < t then some 2 else if 64 < l.length then some 2 else if okAll l then (batch_size.f k t l).bind fun n => if 16384 < n then some 5 else some 0 else some 2
set_option maxHeartbeats 4000000 in
set_option maxRecDepth 100000 in
theorem batch_Check.calls (k : Nat) (a0_0 : Int) (A0_1 : Option Addr) (c0_1 : Nat) (l0_1 : List (S52)) (r : Int) (w : World) (hr0_1 : Kd.C k52 w A0_1 l0_1.length l0_1) (hc0_1 : l0_1.length ≤ c0_1) (h : batch_Check.f k a0_0 l0_1 = some r) :
    Calls Try.prog 18 #[.agg #[.int .i64 a0_0, .slice A0_1 l0_1.length c0_1]] w fun e w' => e = .returned (.int .i64 r) ∧ Below w.heap.size w w' := by
  have hl := hr0_1.2.1
  have HR := Aside0.mk hr0_1
  have HH := Aside0.mk h
  clear hr0_1 h
  by_cases c1 : a0_0 < 1
  · obtain rfl : (2 : Int) = r := by have := HH.out; unfold batch_Check.f at this; rw [if_pos c1] at this; exact Option.some.inj this
    go_enter Try.func18, Try.ntmps18
    go_wp2
    go_ret
    exact ⟨rfl, (Below.refl _ _).alloc (Nat.le_refl _) _⟩
  by_cases c2 : 1152921504606846976 < a0_0
  · obtain rfl : (2 : Int) = r := by have := HH.out; unfold batch_Check.f at this; rw [if_neg c1, if_pos c2] at this; exact Option.some.inj this
    go_enter Try.func18, Try.ntmps18
    go_wp2
    go_ret
    exact ⟨rfl, (Below.refl _ _).alloc (Nat.le_refl _) _⟩
  by_cases c3 : 64 < l0_1.length
  · obtain rfl : (2 : Int) = r := by have := HH.out; unfold batch_Check.f at this; rw [if_neg c1, if_neg c2, if_pos c3] at this; exact Option.some.inj this
    go_enter Try.func18, Try.ntmps18
    go_wp2
    go_ret
    exact ⟨rfl, (Below.refl _ _).alloc (Nat.le_refl _) _⟩
  have HF : Aside0 ((if okAll l0_1 then (batch_size.f k a0_0 l0_1).bind fun n => if 16384 < n then some 5 else some 0 else some 2) = some r) := ⟨by have := HH.out; unfold batch_Check.f at this; rw [if_neg c1, if_neg c2, if_neg c3] at this; exact this⟩
  clear HH
  go_enter Try.func18, Try.ntmps18
  go_wp2
  go_loopg [23] l0_1.length (fun gg s23 wr => ∃ kk : Nat, kk ≤ l0_1.length ∧ l0_1.length - kk ≤ gg ∧ s23 = .int .i64 kk ∧ Aside0 (wr.heap[w.heap.size]? = some (.cells #[.int .i64 a0_0, .slice A0_1 l0_1.length c0_1] 24 (0, 0))) ∧ Aside0 (Below w.heap.size w wr) ∧ Aside0 (∀ j, (h : j < l0_1.length) → j < kk → okAt l0_1 j h = true))
  case atStart => exact ⟨0, Nat.zero_le _, by omega, rfl, ⟨blk_new w _⟩, ⟨(Below.refl _ w).alloc (Nat.le_refl _) _⟩, ⟨fun j _ hj => absurd hj (Nat.not_lt_zero _)⟩⟩
  case round =>
    obtain ⟨kk, hkk, hg, rfl, BK, BW, HA⟩ := hrel
    by_cases hlt : kk < l0_1.length
    · have hltz : (kk : Int) < (l0_1.length : Int) := by omega
      obtain ⟨ad, e, h0, h1, h2⟩ := at_T52 HR.out (kk : Int) (by omega) hltz
      cases e
      rw [rdT52_get l0_1 kk hlt] at h0 h1 h2
      simp only [Int.toNat_natCast] at h0 h1 h2
      obtain ⟨y, hy⟩ : ∃ y, y = l0_1[kk] := ⟨_, rfl⟩
      rw [← hy] at h0 h1 h2
      have HY := Aside0.mk hy
      clear hy
      replace h0 := (BW.out.cell (World.block_lt_of_cell? w _ h0)).trans h0
      replace h1 := (BW.out.cell (World.block_lt_of_cell? w _ h1)).trans h1
      replace h2 := (BW.out.cell (World.block_lt_of_cell? w _ h2)).trans h2
      have hbk := (blk_cell BK.out 1).trans rfl
      have hbl := blk_lt BK.out
      go_wp2_with fail
      have hk := kept_f y
      refine (batch_kept.calls y.f0 y.f1 y.f2 _ _ hk).mono ?_
      rintro e w1 ⟨rfl, hb1⟩
      cases hkb : keptB y with
      | false =>
        have hno : okAll l0_1 = false := by
          unfold okAll
          rw [decide_eq_false_iff_not]
          intro hall
          have := hall kk hlt
          unfold okAt at this
          rw [← HY.out, hkb] at this
          simp at this
        obtain rfl : (2 : Int) = r := by have := HF.out; rw [hno] at this; simpa using this
        simp only [hkb]
        go_wp2_with fail
        go_ret
        exact ⟨rfl, below_then ((BW.out.alloc BW.out.size _)) (by simp; have := BW.out.size; omega) hb1⟩
      | true =>
        simp only [hkb]
        have BK1 : w1.heap[w.heap.size]? = some (.cells #[.int .i64 a0_0, .slice (some ad) l0_1.length c0_1] 24 (0, 0)) := (hb1.block _ (by simp; omega)).trans ((Below.heap_alloc _ _ _ hbl).trans BK.out)
        have BC1 : w1.heap[wr.heap.size]? = some (.cells #[.string y.f0, .string y.f1, .bool y.f2] 52 (0, 0)) := (hb1.block _ (by simp)).trans (blk_new wr _)
        have BW1 : Below w.heap.size w w1 := below_then (BW.out.alloc BW.out.size _) (by simp; have := BW.out.size; omega) hb1
        have hbk1 := (blk_cell BK1 1).trans rfl
        have hlen : (l0_1.take kk).length = kk := by rw [List.length_take]; omega
        have hcon := ContainsFunc52.calls (some ad) c0_1 (l0_1.take kk) 43 #[.pointer (some ⟨wr.heap.size, 0, none⟩)] (sameKey y) w1 (enters_of Try.func43 (by kernel_rfl) rfl)
          (Kd.C_take (Kd.C_below HR.out BW1) (by omega)) (by omega)
          (fun W x hb => Check1.calls x y wr.heap.size W ((hb.block _ (blk_lt BC1)).trans BC1))
        rw [hlen] at hcon
        have HBK1 := Aside0.mk BK1
        have HBW1 := Aside0.mk BW1
        clear hlen BK1 BC1 hb1 BW1
        obtain ⟨q, hq⟩ : ∃ q, (l0_1.take kk).any (sameKey y) = q := ⟨_, rfl⟩
        rw [hq] at hcon
        have HQ := Aside0.mk hq
        clear hq
        cases q with
        | true =>
          have hno : okAll l0_1 = false := by
            unfold okAll
            rw [decide_eq_false_iff_not]
            intro hall
            have := hall kk hlt
            unfold okAt at this
            rw [← HY.out, hkb, HQ.out] at this
            simp at this
          obtain rfl : (2 : Int) = r := by have := HF.out; rw [hno] at this; simpa using this
          clear hno
          go_wp2_with (go_at_call 45; refine hcon.mono ?_; rintro e w2 ⟨rfl, hb2⟩)
          go_ret
          exact ⟨rfl, below_then HBW1.out HBW1.out.size hb2⟩
        | false =>
          have hok : okAt l0_1 kk hlt = true := by
            unfold okAt
            rw [← HY.out, hkb, HQ.out]
            rfl
          have HOK := Aside0.mk hok
          clear hok
          go_wp2_with (go_at_call 45; refine hcon.mono ?_; rintro e w2 ⟨rfl, hb2⟩)
          go_roundg (l0_1.length - (kk + 1))
          case measure => omega
          case rel =>
            refine ⟨kk + 1, by omega, by omega, by go_num, ⟨(hb2.block _ (blk_lt HBK1.out)).trans HBK1.out⟩, ⟨below_then HBW1.out HBW1.out.size hb2⟩, ⟨fun j h hj => ?_⟩⟩
            by_cases e : j = kk
            · subst e
              exact HOK.out
            · exact HA.out j h (by omega)
    · have hltz : ¬ (kk : Int) < (l0_1.length : Int) := by omega
      have hall : okAll l0_1 = true := by
        unfold okAll
        rw [decide_eq_true_iff]
        exact fun j h => HA.out j h (by omega)
      have hF := HF.out
      rw [hall, if_pos rfl] at hF
      obtain ⟨n, hn, hF⟩ := Option.bind_eq_some_iff.1 hF
      have HN := Aside0.mk hn
      clear hn hall HF
      have hbk0 := (blk_cell BK.out 0).trans rfl
      have hbk1 := (blk_cell BK.out 1).trans rfl
      by_cases h16 : 16384 < n
      · rw [if_pos h16] at hF
        obtain rfl : (5 : Int) = r := by simpa using hF
        clear hF
        go_wp2_with (go_at_call 46; refine (batch_size.calls k a0_0 A0_1 c0_1 l0_1 n _ (Kd.C_below HR.out BW.out) hc0_1 HN.out).mono ?_; rintro e w1 ⟨rfl, hb1⟩)
        go_ret
        exact ⟨rfl, below_then BW.out BW.out.size hb1⟩
      · rw [if_neg h16] at hF
        obtain rfl : (0 : Int) = r := by simpa using hF
        clear hF
        go_wp2_with (go_at_call 46; refine (batch_size.calls k a0_0 A0_1 c0_1 l0_1 n _ (Kd.C_below HR.out BW.out) hc0_1 HN.out).mono ?_; rintro e w1 ⟨rfl, hb1⟩)
        go_ret
        exact ⟨rfl, below_then BW.out BW.out.size hb1⟩
end Go.Proofs.Ytehcmedeeaoebaa.PB
end
section
namespace Go.Proofs.Ytehcmedeeaoebaa.PB
open Go.RowKit Go.Proofs.YtehcmedeeaoebaaW.PrintWords Go.Proofs.YtehcmedeeaoebaaW.PrintLast Go.Proofs.YtehcmedeeaoebaaW.PrintMore
def Ev {α : Type} (f : Nat → Option α) (v : α) : Prop := ∃ K, ∀ k, K ≤ k → f k = some v
theorem Ev.const {α : Type} (v : α) : Ev (fun _ => some v) v := ⟨0, fun _ _ => rfl⟩
theorem Ev.of_eq {α : Type} {o : Option α} {v : α} (h : o = some v) : Ev (fun _ => o) v := ⟨0, fun _ _ => h⟩
theorem Ev.congr {α : Type} {f g : Nat → Option α} {v : α} (h : Ev g v) (e : ∀ k, f k = g k) : Ev f v := by
  obtain ⟨K, hK⟩ := h
  exact ⟨K, fun k hk => (e k).trans (hK k hk)⟩
theorem Ev.bind {α β : Type} {f : Nat → Option α} {g : Nat → α → Option β} {a : α} {v : β} (h : Ev f a) (h2 : Ev (fun k => g k a) v) : Ev (fun k => (f k).bind (g k)) v := by
  obtain ⟨K, hK⟩ := h
  obtain ⟨L, hL⟩ := h2
  exact ⟨max K L, fun k hk => by show (f k).bind (g k) = some v; rw [hK k (by omega), Option.bind_some]; exact hL k (by omega)⟩
theorem Ev.step {α : Type} {f g : Nat → Option α} {v : α} (h : Ev g v) (e : ∀ k, f (k + 1) = g k) : Ev f v := by
  obtain ⟨K, hK⟩ := h
  refine ⟨K + 1, fun k hk => ?_⟩
  obtain ⟨m, rfl⟩ : ∃ m, k = m + 1 := ⟨k - 1, by omega⟩
  rw [e]; exact hK m (by omega)
theorem Ev.get {α : Type} {f : Nat → Option α} {v : α} (h : Ev f v) : ∃ k, f k = some v := by
  obtain ⟨K, hK⟩ := h
  exact ⟨K, hK K (Nat.le_refl _)⟩
theorem w64 {n : Int} (h0 : -9223372036854775808 ≤ n) (h1 : n ≤ 9223372036854775807) : wrap64 n = n := by unfold wrap64; omega
theorem strOfNums_app (xs ys : List Int) : strOfNums (xs ++ ys) = strOfNums xs ++ strOfNums ys := by
  apply ByteArray.ext
  rw [ByteArray.data_append]
  simp [strOfNums]
theorem strOfNums_bytesOf (s : ByteArray) : strOfNums (bytesOf s) = s := by
  apply ByteArray.ext
  apply Array.toList_inj.1
  rw [strOfNums_data, bytesOf, List.map_map]
  refine (List.map_congr_left fun b _ => ?_).trans (List.map_id _)
  show UInt8.ofNat ((b.toNat : Int)).toNat = b
  rw [Int.toNat_natCast, UInt8.ofNat_toNat]
end Go.Proofs.Ytehcmedeeaoebaa.PB
end
section
namespace Go.Proofs.Ytehcmedeeaoebaa.PB
open Go.RowKit Go.Proofs.YtehcmedeeaoebaaW.PrintWords Go.Proofs.YtehcmedeeaoebaaW.PrintLast Go.Proofs.YtehcmedeeaoebaaW.PrintMore
set_option linter.unusedVariables false
set_option linter.unusedSimpArgs false
def beStep (n c : Int) : Int := Go.bits .or .u64 (IntKind.u64.wrap (n * 256)) (IntKind.u64.wrap c)
def be (l : List Int) : Int := l.foldl beStep 0
set_option maxHeartbeats 2000000 in
set_option maxRecDepth 100000 in
theorem Clone_byte.calls (ad : Addr) (c : Nat) (l : List Int) (w : World) (hr : Kd.C (Kd.int .u8) w (some ad) l.length l) (hl : l.length < 140737488355328) :
    Calls Try.prog 63 #[.slice (some ad) l.length c] w fun e w' => ∃ v : Value, e = .returned v ∧ Kd.R (Kd.int .u8) 5 w' w.heap.size (fun _ => True) v l ∧ Below w.heap.size w w' := by
  have HR := Aside0.mk hr
  clear hr
  have HB := Aside0.mk (Below.refl w.heap.size w)
  have hq := fun W => Lib.run_eql_slice_nil (P := Try.prog) W 72 5 (some ad) l.length c 0 0 Try.underlying72
  go_enter Try.func63, Try.ntmps63
  go_wp2_with (first | ((with_reducible refine gate_dst (N := 5) rfl ?_); go_must (refine Kd.R_lit (Kd.int .u8) (w0 := w) (xs := []) (inner := []) (ok := fun _ => True) (okp := fun _ => True) w.heap.size 5 rfl (N := 5) rfl ?hr ?hrep (fun _ _ => trivial) trivial (Below.refl _ _) (Nat.le_refl _) (by simp) ?_); (case hr => first | (go_simp; done) | (go_simp; rfl)); (case hrep => exact Reps.none _ _); intro v1 w1 ho hb hg hat; have HO := Aside0.mk ho; have HB1 := Aside0.mk hb; clear ho hb hg hat) | ((with_reducible refine gate_builtin (b := .append) (xs := #[.tmp 5, .tmp 6]) rfl ?_); at_builtin; go_must (refine Kd.R_append_row (Value.int .u8) 0 (h1 := fun _ => rfl) (w0 := w) w.heap.size rfl (.tmp 5) (.tmp 6) 72 5 (.int .u8 0) 1 rfl Try.underlying72 info5 rfl (by decide) v1 [] l (some ad) l.length c (fun _ => True) rfl rfl (fun _ _ => trivial) HO.out (Kd.C_below HR.out HB1.out) HB1.out HB1.out.size (by simp; omega) ?_); intro v2 w2 ho2 hb2 hg2 hat2; clear hg2 hat2; have HO2 := Aside0.mk ho2; have HB2 := Aside0.mk hb2; clear ho2 hb2))
  go_ret
  exact ⟨_, rfl, (by have := HO2.out; rw [List.nil_append] at this; exact this), HB2.out⟩
def Rdr (w : World) (g : Nat) (A : Option Addr) (c : Nat) (l : List Int) (at_ err : Int) : Prop :=
  w.heap[g]? = some (.cells #[.bool true, .slice A l.length c, .int .i64 at_, .int .i64 err] 106 (0, 0)) ∧ Kd.C (Kd.int .u8) w A l.length l ∧ l.length ≤ c
set_option maxHeartbeats 2000000 in
set_option maxRecDepth 100000 in
theorem NewReader.calls (ad : Addr) (c : Nat) (l : List Int) (w : World) (hr : Kd.C (Kd.int .u8) w (some ad) l.length l) (hl : l.length < 140737488355328) :
    Calls Try.prog 33 #[.slice (some ad) l.length c] w fun e w' => ∃ g A c', e = .returned (.pointer (some ⟨g, 0, none⟩)) ∧ w.heap.size ≤ g ∧ Rdr w' g A c' l 0 0 ∧ Below w.heap.size w w' := by
  have HC := Clone_byte.calls ad c l w hr hl
  clear hr
  go_enter Try.func33, Try.ntmps33
  go_wp2_with (go_at_call 63; refine HC.mono ?_; rintro e w1 ⟨v, rfl, hv, hb⟩; obtain ⟨A, c', rfl, hlc, hrc⟩ := Kd.R_reads hv; have HLC := Aside0.mk hlc; have HRC := Aside0.mk hrc; have HB := Aside0.mk hb; clear hlc hrc hb hv)
  go_ret
  refine ⟨_, A, c', rfl, HB.out.size, ⟨blk_new _ _, Kd.C_alloc HRC.out _, HLC.out⟩, HB.out.alloc HB.out.size _⟩
set_option maxRecDepth 100000 in
theorem ready.calls (g : Nat) (A : Option Addr) (c : Nat) (l : List Int) (at_ : Int) (w : World) (hr : Rdr w g A c l at_ 0) :
    Calls Try.prog 79 #[.pointer (some ⟨g, 0, none⟩)] w fun e w' => e = .returned (.bool true) ∧ w = w' := by
  have h0 := (blk_cell hr.1 0).trans rfl
  have h3 := (blk_cell hr.1 3).trans rfl
  clear hr
  go_enter Try.func79, Try.ntmps79
  go_wp2
  go_ret
  exact ⟨rfl, rfl⟩
theorem beStep_snoc (l : List Int) (i : Nat) (h : i < l.length) : be (l.take (i + 1)) = beStep (be (l.take i)) (rd l (i : Int)) := by
  unfold be
  rw [List.take_succ_eq_append_getElem h, List.foldl_append]
  simp [rd, List.getD_eq_getElem?_getD, h]
set_option maxHeartbeats 2000000 in
set_option maxRecDepth 100000 in
theorem number.calls (g : Nat) (A : Option Addr) (c : Nat) (l : List Int) (at_ n : Int) (w : World) (hr : Rdr w g A c l at_ 0) (h0 : 0 ≤ at_) (h1 : 0 ≤ n) (h2 : at_ + n ≤ l.length) :
    Calls Try.prog 80 #[.pointer (some ⟨g, 0, none⟩), .int .i64 at_, .int .i64 n] w fun e w' => e = .returned (.tuple #[.int .u64 (be ((l.take (at_ + n).toNat).drop at_.toNat)), .bool true]) ∧ w = w' := by
  obtain ⟨hblk, hC, hlc⟩ := hr
  have hlm := hC.2.1
  obtain ⟨i5, hi5, hzz⟩ := Option.map_eq_some_iff.1 info5
  simp only [Prod.mk.injEq] at hzz
  obtain ⟨_, hsz5, _⟩ := hzz
  obtain ⟨A', hcut, hrd, hlc'⟩ := print_mid_of (P := Try.prog) (Value.int .u8) 0 72 5 .i64 .i64 Try.underlying72 hi5 hsz5 A c l at_ (at_ + n) h0 (by omega) h2 hlc
  have hR := hrd w (Kd.reads_of_C (d := 0) hC)
  have hc1 := (blk_cell hblk 1).trans rfl
  obtain ⟨ys, hys⟩ : ∃ ys, ys = (l.take (at_ + n).toNat).drop at_.toNat := ⟨_, rfl⟩
  have hyl : (ys.length : Int) = n := by rw [hys, List.length_drop, List.length_take]; omega
  rw [← hys] at hcut hR hlc' ⊢
  have HR := Aside0.mk hR
  have HYL := Aside0.mk hyl
  have hym : ys.length ≤ 9223372036854775807 := hR.2.1
  have hn1 : ¬ ((l.length : Int) - at_ < n) := by omega
  clear hrd hR hC hblk hys hyl hi5 hsz5
  go_enter Try.func80, Try.ntmps80
  go_wp2
  go_loop [8, 30] (fun s8 s30 => ∃ kk : Nat, kk ≤ ys.length ∧ s30 = .int .i64 kk ∧ s8 = .int .u64 (be (ys.take kk))) (fun _ s30 => ys.length - (intOf s30).toNat)
  case atStart => exact ⟨0, Nat.zero_le _, rfl, rfl⟩
  case round =>
    obtain ⟨kk, hkk, rfl, rfl⟩ := hrel
    by_cases hlt : kk < ys.length
    · have hltz : (kk : Int) < (ys.length : Int) := by omega
      obtain ⟨ad, e, hx⟩ := HR.out.at_ (kk : Int) (by omega) hltz
      cases e
      simp only [Int.toNat_natCast] at hx
      have hstep := Aside0.mk (beStep_snoc ys kk hlt)
      obtain ⟨y, hy⟩ : ∃ y, rdOf 0 ys (kk : Int) = y := ⟨_, rfl⟩
      rw [hy] at hx
      have HY := Aside0.mk hy
      clear hy
      obtain ⟨b, hb⟩ : ∃ b, be (ys.take kk) = b := ⟨_, rfl⟩
      rw [hb]
      have HBB := Aside0.mk hb
      clear hb
      go_wp2
      go_round
      case rel =>
        refine ⟨kk + 1, by omega, by go_num, ?_⟩
        have := hstep.out
        rw [HBB.out, show rd ys (kk : Int) = y from HY.out] at this
        rw [this]
        rfl
      case measure => simp [intOf]; omega
    · have hltz : ¬ (kk : Int) < (ys.length : Int) := by omega
      have hall : ys.take kk = ys := List.take_of_length_le (by omega)
      rw [hall]
      clear hall
      go_wp2
      go_ret2
      exact ⟨rfl, rfl⟩
set_option maxRecDepth 100000 in
theorem I64fn.calls (n : Int) (w : World) : Calls Try.prog 65 #[.int .u64 n] w fun e w' => e = .returned (.int .i64 (wrap64 n)) ∧ w = w' := by
  go_enter Try.func65, Try.ntmps65
  go_wp2
  go_ret
  exact ⟨rfl, rfl⟩
set_option maxHeartbeats 2000000 in
set_option maxRecDepth 100000 in
theorem take8.calls (g : Nat) (A : Option Addr) (c : Nat) (l : List Int) (at_ : Int) (w : World) (hr : Rdr w g A c l at_ 0) (h0 : 0 ≤ at_) (h2 : at_ + 8 ≤ l.length) :
    Calls Try.prog 64 #[.pointer (some ⟨g, 0, none⟩), .int .i64 8, .func (.func 65) #[] #[]] w fun e w' => e = .returned (.int .i64 (wrap64 (be ((l.take (at_ + 8).toNat).drop at_.toNat)))) ∧ Below g w w' := by
  have hlm := hr.2.1.2.1
  have HR := Aside0.mk hr
  have hc2 := (blk_cell hr.1 2).trans rfl
  have hf2 := blk_frozen hr.1 2
  have hready := ready.calls g A c l at_ w hr
  have hnum := number.calls g A c l at_ 8 w hr h0 (by omega) h2
  clear hr
  obtain ⟨b, hb⟩ : ∃ b, be ((l.take (at_ + 8).toNat).drop at_.toNat) = b := ⟨_, rfl⟩
  rw [hb] at hnum ⊢
  clear hb
  go_enter Try.func64, Try.ntmps64
  go_wp2_with (first | (go_at_call 79; refine hready.mono ?_; rintro e w' ⟨rfl, rfl⟩) | (go_at_call 80; refine hnum.mono ?_; rintro e w' ⟨rfl, rfl⟩) | (go_at_call 65; refine (I64fn.calls _ _).mono ?_; rintro e w' ⟨rfl, rfl⟩))
  go_ret
  refine ⟨rfl, ?_⟩
  exact (Below.refl g w).setCell (Nat.le_refl _) _
set_option maxRecDepth 100000 in
theorem I64.calls (g : Nat) (A : Option Addr) (c : Nat) (l : List Int) (at_ : Int) (w : World) (hr : Rdr w g A c l at_ 0) (h0 : 0 ≤ at_) (h2 : at_ + 8 ≤ l.length) :
    Calls Try.prog 34 #[.pointer (some ⟨g, 0, none⟩)] w fun e w' => e = .returned (.int .i64 (wrap64 (be ((l.take (at_ + 8).toNat).drop at_.toNat)))) ∧ Below g w w' := by
  have htake := take8.calls g A c l at_ w hr h0 h2
  clear hr
  go_enter Try.func34, Try.ntmps34
  go_wp2_with (go_at_call 64; refine htake.mono ?_; rintro e w' ⟨rfl, hb⟩)
  go_ret
  exact ⟨rfl, hb⟩
end Go.Proofs.Ytehcmedeeaoebaa.PB
end
section
namespace Go.Proofs.Ytehcmedeeaoebaa.PB
open Go.RowKit Go.Proofs.YtehcmedeeaoebaaW.PrintWords Go.Proofs.YtehcmedeeaoebaaW.PrintLast Go.Proofs.YtehcmedeeaoebaaW.PrintMore
theorem beStep_eq (n c : Int) (h0 : 0 ≤ n) (h1 : n < 72057594037927936) (c0 : 0 ≤ c) (c1 : c < 256) : beStep n c = n * 256 + c := by
  unfold beStep
  rw [IntKind.wrap_u64, IntKind.wrap_u64, show n * 256 % 18446744073709551616 = n * 256 by omega, show c % 18446744073709551616 = c by omega]
  have p8 : (2 : Int) ^ 8 = 256 := by decide
  have p64 : (2 : Int) ^ 64 = 18446744073709551616 := by decide
  exact bits_join .u64 64 (by decide) (fun n h0 h1 => by rw [IntKind.wrap_u64]; rw [p64] at h1; omega) 8 (n * 256) c (by omega) (by rw [p8]; omega) (by rw [p64]; omega) c0 (by rw [p8]; omega) (by rw [p64]; omega)
theorem be8 (a b c d e f g h : Int) (ha : 0 ≤ a ∧ a < 256) (hb : 0 ≤ b ∧ b < 256) (hc : 0 ≤ c ∧ c < 256) (hd : 0 ≤ d ∧ d < 256) (he : 0 ≤ e ∧ e < 256) (hf : 0 ≤ f ∧ f < 256) (hg : 0 ≤ g ∧ g < 256) (hh : 0 ≤ h ∧ h < 256) :
    be [a, b, c, d, e, f, g, h] = a * 72057594037927936 + b * 281474976710656 + c * 1099511627776 + d * 4294967296 + e * 16777216 + f * 65536 + g * 256 + h := by
  unfold be
  simp only [List.foldl_cons, List.foldl_nil]
  rw [beStep_eq 0 a (by omega) (by omega) ha.1 ha.2, beStep_eq _ b (by omega) (by omega) hb.1 hb.2, beStep_eq _ c (by omega) (by omega) hc.1 hc.2, beStep_eq _ d (by omega) (by omega) hd.1 hd.2, beStep_eq _ e (by omega) (by omega) he.1 he.2, beStep_eq _ f (by omega) (by omega) hf.1 hf.2, beStep_eq _ g (by omega) (by omega) hg.1 hg.2, beStep_eq _ h (by omega) (by omega) hh.1 hh.2]
  omega
theorem bytes8_list (n : Int) : bytes8 n = [n / 72057594037927936 % 256, n / 281474976710656 % 256, n / 1099511627776 % 256, n / 4294967296 % 256, n / 16777216 % 256, n / 65536 % 256, n / 256 % 256, n % 256] := by
  rw [bytes8_low]
  simp [lowBytes, byteOf]
theorem be_bytes8 (n : Int) (h0 : 0 ≤ n) (h1 : n < 18446744073709551616) : be (bytes8 n) = n := by
  rw [bytes8_list, be8 _ _ _ _ _ _ _ _ (by omega) (by omega) (by omega) (by omega) (by omega) (by omega) (by omega) (by omega)]
  omega
theorem bytes8_be (l : List Int) (hl : l.length = 8) (hb : ∀ b ∈ l, 0 ≤ b ∧ b < 256) : bytes8 (be l) = l ∧ 0 ≤ be l ∧ be l < 18446744073709551616 := by
  match l, hl with
  | [a, b, c, d, e, f, g, h], _ =>
    have ha := hb a (by simp)
    have hb' := hb b (by simp)
    have hc := hb c (by simp)
    have hd := hb d (by simp)
    have he := hb e (by simp)
    have hf := hb f (by simp)
    have hg := hb g (by simp)
    have hh := hb h (by simp)
    rw [be8 a b c d e f g h ha hb' hc hd he hf hg hh, bytes8_list]
    refine ⟨?_, by omega, by omega⟩
    simp only [List.cons.injEq, and_true]
    refine ⟨by omega, by omega, by omega, by omega, by omega, by omega, by omega, by omega⟩
end Go.Proofs.Ytehcmedeeaoebaa.PB
end
section
namespace Go.Proofs.Ytehcmedeeaoebaa.PB
open Go.RowKit Go.Proofs.YtehcmedeeaoebaaW.PrintWords Go.Proofs.YtehcmedeeaoebaaW.PrintLast Go.Proofs.YtehcmedeeaoebaaW.PrintMore
attribute [local go_sem] max2_int min2_int max_two min_two max_three min_three max_four min_four
set_option linter.unusedVariables false
set_option linter.unusedSimpArgs false
end Go.Proofs.Ytehcmedeeaoebaa.PB
end
section
namespace Go.Proofs.Ytehcmedeeaoebaa.PB
open Go.RowKit Go.Proofs.YtehcmedeeaoebaaW.PrintWords Go.Proofs.YtehcmedeeaoebaaW.PrintLast Go.Proofs.YtehcmedeeaoebaaW.PrintMore
attribute [local go_sem] max2_int min2_int max_two min_two max_three min_three max_four min_four
set_option linter.unusedVariables false
set_option linter.unusedSimpArgs false
end Go.Proofs.Ytehcmedeeaoebaa.PB
end
section
namespace Go.Proofs.Ytehcmedeeaoebaa.PB
open Go.RowKit Go.Proofs.YtehcmedeeaoebaaW.PrintWords Go.Proofs.YtehcmedeeaoebaaW.PrintLast Go.Proofs.YtehcmedeeaoebaaW.PrintMore
attribute [local go_sem] max2_int min2_int max_two min_two max_three min_three max_four min_four
set_option linter.unusedVariables false
set_option linter.unusedSimpArgs false
end Go.Proofs.Ytehcmedeeaoebaa.PB
end
section
namespace Go.Proofs.Ytehcmedeeaoebaa.PB
open Go.RowKit Go.Proofs.YtehcmedeeaoebaaW.PrintWords Go.Proofs.YtehcmedeeaoebaaW.PrintLast Go.Proofs.YtehcmedeeaoebaaW.PrintMore
end Go.Proofs.Ytehcmedeeaoebaa.PB
end
section
namespace Go.Proofs.Ytehcmedeeaoebaa.PB
open Go.RowKit Go.Proofs.YtehcmedeeaoebaaW.PrintWords Go.Proofs.YtehcmedeeaoebaaW.PrintLast Go.Proofs.YtehcmedeeaoebaaW.PrintMore
attribute [local go_sem] max2_int min2_int max_two min_two max_three min_three max_four min_four
set_option linter.unusedVariables false
set_option linter.unusedSimpArgs false
def batch_text.f (a0 : ByteArray) (a1 : Int) : Option (ByteArray × Int × Bool) := if a1 ≥ (a0.size : Int) then (some ((⟨#[]⟩ : ByteArray), a1, false)) else (if 0 ≤ a1 then (if a1 < (a0.size : Int) then (if (wrap64 ((wrap64 (a1 + 1)) + (wrap64 (bt a0 a1)))) > (a0.size : Int) then (some ((⟨#[]⟩ : ByteArray), a1, false)) else (if 0 ≤ (wrap64 (a1 + 1)) then (if (wrap64 (a1 + 1)) ≤ (wrap64 ((wrap64 (a1 + 1)) + (wrap64 (bt a0 a1)))) then (if (wrap64 ((wrap64 (a1 + 1)) + (wrap64 (bt a0 a1)))) ≤ (a0.size : Int) then (some (a0.extract ((wrap64 (a1 + 1)) : Int).toNat ((wrap64 ((wrap64 (a1 + 1)) + (wrap64 (bt a0 a1)))) : Int).toNat, wrap64 ((wrap64 (a1 + 1)) + (wrap64 (bt a0 a1))), true)) else (none)) else (none)) else (none))) else (none)) else (none))
set_option maxHeartbeats 8000000 in
set_option maxRecDepth 100000 in
theorem batch_text.calls (a0 : ByteArray) (a1 : Int) (r1 : ByteArray) (r2 : Int) (r3 : Bool) (w : World) (h : batch_text.f a0 a1 = some (r1, r2, r3)) :
    Calls Try.prog 35 #[.string a0, .int .i64 a1] w fun e w' => e = .returned (.tuple #[.string r1, .int .i64 r2, .bool r3]) ∧ Drawn0 w w' := by
  have H : (if a1 ≥ (a0.size : Int) then (some ((⟨#[]⟩ : ByteArray), a1, false)) else (if 0 ≤ a1 then (if a1 < (a0.size : Int) then (if (wrap64 ((wrap64 (a1 + 1)) + (wrap64 (bt a0 a1)))) > (a0.size : Int) then (some ((⟨#[]⟩ : ByteArray), a1, false)) else (if 0 ≤ (wrap64 (a1 + 1)) then (if (wrap64 (a1 + 1)) ≤ (wrap64 ((wrap64 (a1 + 1)) + (wrap64 (bt a0 a1)))) then (if (wrap64 ((wrap64 (a1 + 1)) + (wrap64 (bt a0 a1)))) ≤ (a0.size : Int) then (some (a0.extract ((wrap64 (a1 + 1)) : Int).toNat ((wrap64 ((wrap64 (a1 + 1)) + (wrap64 (bt a0 a1)))) : Int).toNat, wrap64 ((wrap64 (a1 + 1)) + (wrap64 (bt a0 a1))), true)) else (none)) else (none)) else (none))) else (none)) else (none))) = some (r1, r2, r3) := h
  clear h
  by_cases c3 : a1 ≥ (a0.size : Int)
  · rw [if_pos c3] at H
    have c3b0 : decide ((a0.size : Int) ≤ a1) = true := decide_eq_true c3
    clear c3
    simp only [Option.some.injEq, Prod.mk.injEq] at H
    obtain ⟨rfl, rfl, rfl⟩ := H
    go_enter Try.func35, Try.ntmps35
    go_wp2
    go_ret3
    exact ⟨by first | rfl | (simp; done) | (simp [*]; done), by repeat (first | exact Drawn0.refl _ | apply Drawn0.step)⟩
  · rw [if_neg c3] at H
    have c3b0 : decide ((a0.size : Int) ≤ a1) = false := decide_eq_false c3
    clear c3
    by_cases c4 : 0 ≤ a1
    · rw [if_pos c4] at H
      have c4b0 : decide (0 ≤ a1) = true := decide_eq_true c4
      clear c4
      by_cases c5 : a1 < (a0.size : Int)
      · rw [if_pos c5] at H
        have c5b0 : decide (a1 < (a0.size : Int)) = true := decide_eq_true c5
        clear c5
        by_cases c7 : (wrap64 ((wrap64 (a1 + 1)) + (wrap64 (bt a0 a1)))) > (a0.size : Int)
        · rw [if_pos c7] at H
          have c7b0 : decide ((a0.size : Int) < (wrap64 ((wrap64 (a1 + 1)) + (wrap64 (bt a0 a1))))) = true := decide_eq_true c7
          clear c7
          simp only [Option.some.injEq, Prod.mk.injEq] at H
          obtain ⟨rfl, rfl, rfl⟩ := H
          have p6 : 0 ≤ (a1 : Int) := of_decide_eq_true (by first | (with_reducible assumption) | assumption)
          have q6 : a1 < (a0.size : Int) := of_decide_eq_true (by first | (with_reducible assumption) | assumption)
          have hx6 := bt_at a0 a1
          replace p6 := eq_true p6
          replace q6 := eq_true q6
          go_enter Try.func35, Try.ntmps35
          go_wp2
          go_ret3
          exact ⟨by first | rfl | (simp; done) | (simp [*]; done), by repeat (first | exact Drawn0.refl _ | apply Drawn0.step)⟩
        · rw [if_neg c7] at H
          have c7b0 : decide ((a0.size : Int) < (wrap64 ((wrap64 (a1 + 1)) + (wrap64 (bt a0 a1))))) = false := decide_eq_false c7
          clear c7
          obtain ⟨ji8, hji8⟩ : ∃ j_ : Int, (wrap64 (a1 + 1)) = j_ := ⟨_, rfl⟩
          replace H : (if 0 ≤ (ji8) then (if (ji8) ≤ (wrap64 ((ji8) + (wrap64 (bt a0 a1)))) then (if (wrap64 ((ji8) + (wrap64 (bt a0 a1)))) ≤ (a0.size : Int) then (some (a0.extract ((ji8) : Int).toNat ((wrap64 ((ji8) + (wrap64 (bt a0 a1)))) : Int).toNat, wrap64 ((ji8) + (wrap64 (bt a0 a1))), true)) else (none)) else (none)) else (none)) = some (r1, r2, r3) := by first | (rw [hji8] at H; exact H) | (simp only [hji8] at H ⊢; exact H)
          (try rw [hji8] at c7b0)
          have hji8w : (IntKind.i64.wrap (a1 + 1)) = ji8 := (i64_w _).trans hji8
          by_cases c9 : 0 ≤ (ji8)
          · rw [if_pos c9] at H
            have c9b0 := eq_true c9
            have c9b1 : decide (0 ≤ (ji8)) = true := decide_eq_true c9
            clear c9
            by_cases c10 : (ji8) ≤ (wrap64 ((ji8) + (wrap64 (bt a0 a1))))
            · rw [if_pos c10] at H
              have c10b0 := eq_true c10
              have c10b1 : decide ((ji8) ≤ (wrap64 ((ji8) + (wrap64 (bt a0 a1))))) = true := decide_eq_true c10
              by_cases c11 : (wrap64 ((ji8) + (wrap64 (bt a0 a1)))) ≤ (a0.size : Int)
              · rw [if_pos c11] at H
                have c11b0 := eq_true c11
                have c11b1 : decide ((wrap64 ((ji8) + (wrap64 (bt a0 a1)))) ≤ (a0.size : Int)) = true := decide_eq_true c11
                simp only [Option.some.injEq, Prod.mk.injEq] at H
                obtain ⟨rfl, rfl, rfl⟩ := H
                have p6 : 0 ≤ (a1 : Int) := of_decide_eq_true (by first | (with_reducible assumption) | assumption)
                have q6 : a1 < (a0.size : Int) := of_decide_eq_true (by first | (with_reducible assumption) | assumption)
                have hx6 := bt_at a0 a1
                replace p6 := eq_true p6
                replace q6 := eq_true q6
                go_enter Try.func35, Try.ntmps35
                go_wp2
                go_ret3
                exact ⟨by first | rfl | (simp; done) | (simp only [← hji8] <;> (first | rfl | simp)) | (simp [*]; done), by repeat (first | exact Drawn0.refl _ | apply Drawn0.step)⟩
              · rw [if_neg c11] at H
                exact absurd H (by simp)
            · rw [if_neg c10] at H
              exact absurd H (by simp)
          · rw [if_neg c9] at H
            exact absurd H (by simp)
      · rw [if_neg c5] at H
        exact absurd H (by simp)
    · rw [if_neg c4] at H
      exact absurd H (by simp)
end Go.Proofs.Ytehcmedeeaoebaa.PB
end
