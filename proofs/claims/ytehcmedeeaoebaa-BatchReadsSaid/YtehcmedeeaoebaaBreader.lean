import Derived.Test.YtehcmedeeaoebaaPB0
import Derived.WalkSpells
import Derived.Lib.SliceRun
import Derived.Shelf.GgClosure.Gives
namespace Go.Proofs.Ytehcmedeeaoebaa.PB
open Go.RowKit Go.Proofs.YtehcmedeeaoebaaW.PrintWords Go.Proofs.YtehcmedeeaoebaaW.PrintLast Go.Proofs.YtehcmedeeaoebaaW.PrintMore
set_option linter.unusedVariables false
set_option linter.unusedSimpArgs false
def beStep (n c : Int) : Int := Go.bits .or .u64 (IntKind.u64.wrap (n * 256)) (IntKind.u64.wrap c)
def be (l : List Int) : Int := l.foldl beStep 0
set_option maxHeartbeats 2000000 in
set_option maxRecDepth 100000 in
theorem Clone_byte.calls (ad : Addr) (c : Nat) (l : List Int) (w : World) (hr : Kd.C (Kd.int .u8) w (some ad) l.length l) (hl : l.length < 140737488355328) :
    Calls Try.prog 63 #[.slice (some ad) l.length c] w fun e w' => ∃ v : Value, e = .returned v ∧ Kd.R (Kd.int .u8) 5 w' w.heap.size (fun _ => True) v l ∧ Below w.heap.size w w' := by
  have HR := Aside0.mk hr
  clear hr
  have HB := Aside0.mk (Below.refl w.heap.size w)
  have hq := fun W => Lib.run_eql_slice_nil (P := Try.prog) W 72 5 (some ad) l.length c 0 0 Try.underlying72
  go_enter Try.func63, Try.ntmps63
  go_wp2_with (first | ((with_reducible refine gate_dst (N := 5) rfl ?_); go_must (refine Kd.R_lit (Kd.int .u8) (w0 := w) (xs := []) (inner := []) (ok := fun _ => True) (okp := fun _ => True) w.heap.size 5 rfl (N := 5) rfl ?hr ?hrep (fun _ _ => trivial) trivial (Below.refl _ _) (Nat.le_refl _) (by simp) ?_); (case hr => first | (go_simp; done) | (go_simp; rfl)); (case hrep => exact Reps.none _ _); intro v1 w1 ho hb hg hat; have HO := Aside0.mk ho; have HB1 := Aside0.mk hb; clear ho hb hg hat) | ((with_reducible refine gate_builtin (b := .append) (xs := #[.tmp 5, .tmp 6]) rfl ?_); at_builtin; go_must (refine Kd.R_append_row (Value.int .u8) 0 (h1 := fun _ => rfl) (w0 := w) w.heap.size rfl (.tmp 5) (.tmp 6) 72 5 (.int .u8 0) 1 rfl Try.underlying72 info5 rfl (by decide) v1 [] l (some ad) l.length c (fun _ => True) rfl rfl (fun _ _ => trivial) HO.out (Kd.C_below HR.out HB1.out) HB1.out HB1.out.size (by simp; omega) ?_); intro v2 w2 ho2 hb2 hg2 hat2; clear hg2 hat2; have HO2 := Aside0.mk ho2; have HB2 := Aside0.mk hb2; clear ho2 hb2))
  go_ret
  exact ⟨_, rfl, (by have := HO2.out; rw [List.nil_append] at this; exact this), HB2.out⟩
def Rdr (w : World) (g : Nat) (A : Option Addr) (c : Nat) (l : List Int) (at_ err : Int) : Prop :=
  w.heap[g]? = some (.cells #[.bool true, .slice A l.length c, .int .i64 at_, .int .i64 err] 106 (0, 0)) ∧ Kd.C (Kd.int .u8) w A l.length l ∧ l.length ≤ c
set_option maxHeartbeats 2000000 in
set_option maxRecDepth 100000 in
theorem NewReader.calls (ad : Addr) (c : Nat) (l : List Int) (w : World) (hr : Kd.C (Kd.int .u8) w (some ad) l.length l) (hl : l.length < 140737488355328) :
    Calls Try.prog 33 #[.slice (some ad) l.length c] w fun e w' => ∃ g A c', e = .returned (.pointer (some ⟨g, 0, none⟩)) ∧ w.heap.size ≤ g ∧ Rdr w' g A c' l 0 0 ∧ Below w.heap.size w w' := by
  have HC := Clone_byte.calls ad c l w hr hl
  clear hr
  go_enter Try.func33, Try.ntmps33
  go_wp2_with (go_at_call 63; refine HC.mono ?_; rintro e w1 ⟨v, rfl, hv, hb⟩; obtain ⟨A, c', rfl, hlc, hrc⟩ := Kd.R_reads hv; have HLC := Aside0.mk hlc; have HRC := Aside0.mk hrc; have HB := Aside0.mk hb; clear hlc hrc hb hv)
  go_ret
  refine ⟨_, A, c', rfl, HB.out.size, ⟨blk_new _ _, Kd.C_alloc HRC.out _, HLC.out⟩, HB.out.alloc HB.out.size _⟩
set_option maxRecDepth 100000 in
theorem ready.calls (g : Nat) (A : Option Addr) (c : Nat) (l : List Int) (at_ : Int) (w : World) (hr : Rdr w g A c l at_ 0) :
    Calls Try.prog 79 #[.pointer (some ⟨g, 0, none⟩)] w fun e w' => e = .returned (.bool true) ∧ w = w' := by
  have h0 := (blk_cell hr.1 0).trans rfl
  have h3 := (blk_cell hr.1 3).trans rfl
  clear hr
  go_enter Try.func79, Try.ntmps79
  go_wp2
  go_ret
  exact ⟨rfl, rfl⟩
theorem beStep_snoc (l : List Int) (i : Nat) (h : i < l.length) : be (l.take (i + 1)) = beStep (be (l.take i)) (rd l (i : Int)) := by
  unfold be
  rw [List.take_succ_eq_append_getElem h, List.foldl_append]
  simp [rd, List.getD_eq_getElem?_getD, h]
set_option maxHeartbeats 2000000 in
set_option maxRecDepth 100000 in
theorem number.calls (g : Nat) (A : Option Addr) (c : Nat) (l : List Int) (at_ n : Int) (w : World) (hr : Rdr w g A c l at_ 0) (h0 : 0 ≤ at_) (h1 : 0 ≤ n) (h2 : at_ + n ≤ l.length) :
    Calls Try.prog 80 #[.pointer (some ⟨g, 0, none⟩), .int .i64 at_, .int .i64 n] w fun e w' => e = .returned (.tuple #[.int .u64 (be ((l.take (at_ + n).toNat).drop at_.toNat)), .bool true]) ∧ w = w' := by
  obtain ⟨hblk, hC, hlc⟩ := hr
  have hlm := hC.2.1
  obtain ⟨i5, hi5, hzz⟩ := Option.map_eq_some_iff.1 info5
  simp only [Prod.mk.injEq] at hzz
  obtain ⟨_, hsz5, _⟩ := hzz
  obtain ⟨A', hcut, hrd, hlc'⟩ := print_mid_of (P := Try.prog) (Value.int .u8) 0 72 5 .i64 .i64 Try.underlying72 hi5 hsz5 A c l at_ (at_ + n) h0 (by omega) h2 hlc
  have hR := hrd w (Kd.reads_of_C (d := 0) hC)
  have hc1 := (blk_cell hblk 1).trans rfl
  obtain ⟨ys, hys⟩ : ∃ ys, ys = (l.take (at_ + n).toNat).drop at_.toNat := ⟨_, rfl⟩
  have hyl : (ys.length : Int) = n := by rw [hys, List.length_drop, List.length_take]; omega
  rw [← hys] at hcut hR hlc' ⊢
  have HR := Aside0.mk hR
  have HYL := Aside0.mk hyl
  have hym : ys.length ≤ 9223372036854775807 := hR.2.1
  have hn1 : ¬ ((l.length : Int) - at_ < n) := by omega
  clear hrd hR hC hblk hys hyl hi5 hsz5
  go_enter Try.func80, Try.ntmps80
  go_wp2
  go_loop [8, 30] (fun s8 s30 => ∃ kk : Nat, kk ≤ ys.length ∧ s30 = .int .i64 kk ∧ s8 = .int .u64 (be (ys.take kk))) (fun _ s30 => ys.length - (intOf s30).toNat)
  case atStart => exact ⟨0, Nat.zero_le _, rfl, rfl⟩
  case round =>
    obtain ⟨kk, hkk, rfl, rfl⟩ := hrel
    by_cases hlt : kk < ys.length
    · have hltz : (kk : Int) < (ys.length : Int) := by omega
      obtain ⟨ad, e, hx⟩ := HR.out.at_ (kk : Int) (by omega) hltz
      cases e
      simp only [Int.toNat_natCast] at hx
      have hstep := Aside0.mk (beStep_snoc ys kk hlt)
      obtain ⟨y, hy⟩ : ∃ y, rdOf 0 ys (kk : Int) = y := ⟨_, rfl⟩
      rw [hy] at hx
      have HY := Aside0.mk hy
      clear hy
      obtain ⟨b, hb⟩ : ∃ b, be (ys.take kk) = b := ⟨_, rfl⟩
      rw [hb]
      have HBB := Aside0.mk hb
      clear hb
      go_wp2
      go_round
      case rel =>
        refine ⟨kk + 1, by omega, by go_num, ?_⟩
        have := hstep.out
        rw [HBB.out, show rd ys (kk : Int) = y from HY.out] at this
        rw [this]
        rfl
      case measure => simp [intOf]; omega
    · have hltz : ¬ (kk : Int) < (ys.length : Int) := by omega
      have hall : ys.take kk = ys := List.take_of_length_le (by omega)
      rw [hall]
      clear hall
      go_wp2
      go_ret2
      exact ⟨rfl, rfl⟩
set_option maxRecDepth 100000 in
theorem I64fn.calls (n : Int) (w : World) : Calls Try.prog 65 #[.int .u64 n] w fun e w' => e = .returned (.int .i64 (wrap64 n)) ∧ w = w' := by
  go_enter Try.func65, Try.ntmps65
  go_wp2
  go_ret
  exact ⟨rfl, rfl⟩
set_option maxHeartbeats 2000000 in
set_option maxRecDepth 100000 in
theorem take8.calls (g : Nat) (A : Option Addr) (c : Nat) (l : List Int) (at_ : Int) (w : World) (hr : Rdr w g A c l at_ 0) (h0 : 0 ≤ at_) (h2 : at_ + 8 ≤ l.length) :
    Calls Try.prog 64 #[.pointer (some ⟨g, 0, none⟩), .int .i64 8, .func (.func 65) #[] #[]] w fun e w' => e = .returned (.int .i64 (wrap64 (be ((l.take (at_ + 8).toNat).drop at_.toNat)))) ∧ Below g w w' := by
  have hlm := hr.2.1.2.1
  have HR := Aside0.mk hr
  have hc2 := (blk_cell hr.1 2).trans rfl
  have hf2 := blk_frozen hr.1 2
  have hready := ready.calls g A c l at_ w hr
  have hnum := number.calls g A c l at_ 8 w hr h0 (by omega) h2
  clear hr
  obtain ⟨b, hb⟩ : ∃ b, be ((l.take (at_ + 8).toNat).drop at_.toNat) = b := ⟨_, rfl⟩
  rw [hb] at hnum ⊢
  clear hb
  go_enter Try.func64, Try.ntmps64
  go_wp2_with (first | (go_at_call 79; refine hready.mono ?_; rintro e w' ⟨rfl, rfl⟩) | (go_at_call 80; refine hnum.mono ?_; rintro e w' ⟨rfl, rfl⟩) | (go_at_call 65; refine (I64fn.calls _ _).mono ?_; rintro e w' ⟨rfl, rfl⟩))
  go_ret
  refine ⟨rfl, ?_⟩
  exact (Below.refl g w).setCell (Nat.le_refl _) _
set_option maxRecDepth 100000 in
theorem I64.calls (g : Nat) (A : Option Addr) (c : Nat) (l : List Int) (at_ : Int) (w : World) (hr : Rdr w g A c l at_ 0) (h0 : 0 ≤ at_) (h2 : at_ + 8 ≤ l.length) :
    Calls Try.prog 34 #[.pointer (some ⟨g, 0, none⟩)] w fun e w' => e = .returned (.int .i64 (wrap64 (be ((l.take (at_ + 8).toNat).drop at_.toNat)))) ∧ Below g w w' := by
  have htake := take8.calls g A c l at_ w hr h0 h2
  clear hr
  go_enter Try.func34, Try.ntmps34
  go_wp2_with (go_at_call 64; refine htake.mono ?_; rintro e w' ⟨rfl, hb⟩)
  go_ret
  exact ⟨rfl, hb⟩
end Go.Proofs.Ytehcmedeeaoebaa.PB
