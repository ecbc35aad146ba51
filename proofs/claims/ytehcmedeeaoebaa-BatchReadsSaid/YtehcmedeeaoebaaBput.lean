import Derived.Test.YtehcmedeeaoebaaPBambryref01Field
import Derived.Test.YtehcmedeeaoebaaBpair
import Derived.Test.YtehcmedeeaoebaaBidx
import Derived.Deep.RegionHeld3
namespace Go.Proofs.Ytehcmedeeaoebaa.PB
open Go.RowKit Go.Proofs.YtehcmedeeaoebaaW.PrintWords Go.Proofs.YtehcmedeeaoebaaW.PrintLast Go.Proofs.YtehcmedeeaoebaaW.PrintMore
set_option linter.unusedVariables false
set_option linter.unusedSimpArgs false
def lowBytes (u : Int) : Nat → List Int
  | 0 => []
  | m + 1 => byteOf u m :: lowBytes u m
theorem bytes8_low (u : Int) : bytes8 u = lowBytes u 8 := rfl
theorem lowBytes_length (u : Int) (m : Nat) : (lowBytes u m).length = m := by induction m with | zero => rfl | succ m ih => simp [lowBytes, ih]
def F1 (n : Int) : ByteArray := strOfNums [n % 256]
def F8 (n : Int) : ByteArray := strOfNums (bytes8 (n % 18446744073709551616))
theorem F1_size (n : Int) : (F1 n).size = 1 := by unfold F1; rw [strOfNums_size]; rfl
theorem F8_size (n : Int) : (F8 n).size = 8 := by unfold F8; rw [strOfNums_size]; rfl
theorem Field_loop (u : Int) (m : Nat) : ∀ (k : Nat) (acc : List Int), m ≤ 8 → m < k → acc.length + m ≤ 8 → ambryref01_Field.l0 k u acc ((m : Int) - 1) = some (strOfNums (acc ++ lowBytes u m)) := by
  induction m with
  | zero =>
    intro k acc _ hk _
    obtain ⟨k, rfl⟩ : ∃ q, k = q + 1 := ⟨k - 1, by omega⟩
    simp only [ambryref01_Field.l0]
    rw [if_neg (by omega)]
    simp [lowBytes]
  | succ m ih =>
    intro k acc hm hk hl
    obtain ⟨k, rfl⟩ : ∃ q, k = q + 1 := ⟨k - 1, by omega⟩
    have e0 : ((m + 1 : Nat) : Int) - 1 = (m : Int) := by omega
    have e1 : IntKind.u64.wrap (m : Int) = (m : Int) := by rw [IntKind.wrap_u64]; omega
    have e2 : IntKind.u64.wrap (8 * (m : Int)) = 8 * (m : Int) := by rw [IntKind.wrap_u64]; omega
    have e3 : wrap64 ((m : Int) - 1) = (m : Int) - 1 := by unfold wrap64; omega
    rw [e0]
    simp only [ambryref01_Field.l0]
    rw [e1, e2, e3, if_pos (by omega), if_pos (by omega), if_pos (by omega), ih k _ (by omega) (by omega) (by simp; omega)]
    have e4 : shr IntKind.u64 u (8 * (m : Int)) % 256 = byteOf u m := by
      unfold shr byteOf
      rw [show min (8 * (m : Int)).toNat IntKind.u64.bits = 8 * m by show min (8 * (m : Int)).toNat 64 = 8 * m; omega]
    rw [e4, List.append_assoc]
    rfl
theorem Field1_f (n : Int) (h0 : 0 ≤ n) (h1 : n < 9223372036854775808) : ambryref01_Field.f 3 n 1 = some (F1 n) := by
  have h := Field_loop n 1 3 [] (by omega) (by omega) (by simp)
  unfold ambryref01_Field.f F1
  have e0 : wrap64 (1 - 1) = ((1 : Nat) : Int) - 1 := by unfold wrap64; omega
  have e1 : IntKind.u64.wrap n = n := by rw [IntKind.wrap_u64]; omega
  rw [e0, e1, h]
  simp [lowBytes, byteOf]
theorem Field8_f (n : Int) : ambryref01_Field.f 10 n 8 = some (F8 n) := by
  have h := Field_loop (n % 18446744073709551616) 8 10 [] (by omega) (by omega) (by simp)
  unfold ambryref01_Field.f F8
  have e0 : wrap64 (8 - 1) = ((8 : Nat) : Int) - 1 := by unfold wrap64; omega
  rw [e0, IntKind.wrap_u64, h, bytes8_low, List.nil_append]
def putHead (t : Int) (n : Nat) : ByteArray := ((⟨#[66]⟩ : ByteArray) ++ F8 t) ++ F1 n
def putItem (s : ByteArray) (c : S52) : ByteArray := ((((s ++ F1 (if c.f2 then 1 else 0)) ++ F1 c.f0.size) ++ c.f0) ++ F1 c.f1.size) ++ c.f1
def putP (t : Int) (l : List S52) : ByteArray := l.foldl putItem (putHead t l.length)
def putFits (l : List S52) : Prop := l.length ≤ 64 ∧ ∀ c ∈ l, c.f0.size ≤ 120 ∧ c.f1.size ≤ 199
instance (l : List S52) : Decidable (putFits l) := by unfold putFits; infer_instance
def ambryref15_put.f (k : Nat) (a0_0 : Int) (l0_1 : List (S52)) : Option (ByteArray) := if putFits l0_1 then some (putP a0_0 l0_1) else none
theorem ambryref15_put.mono : ∀ a0 a1 k, LeO (ambryref15_put.f k a0 a1) (ambryref15_put.f (k + 1) a0 a1) := fun _ _ _ => LeO.refl _
theorem size_app (a b : ByteArray) : (a ++ b).size = a.size + b.size := ByteArray.size_append
theorem putItem_size (s : ByteArray) (c : S52) : (putItem s c).size = s.size + 3 + c.f0.size + c.f1.size := by
  unfold putItem
  simp only [size_app, F1_size]
  omega
theorem putHead_size (t : Int) (n : Nat) : (putHead t n).size = 10 := by
  unfold putHead
  simp only [size_app, F1_size, F8_size]
  rfl
theorem put_take_size (t : Int) (l : List S52) (h : putFits l) (n : Nat) (i : Nat) (hi : i ≤ l.length) : ((l.take i).foldl putItem (putHead t n)).size ≤ 10 + 322 * i := by
  induction i with
  | zero => simp [putHead_size]
  | succ i ih =>
    have hlt : i < l.length := by omega
    rw [List.take_succ_eq_append_getElem hlt, List.foldl_append]
    have := ih (by omega)
    have hc := h.2 l[i] (List.getElem_mem hlt)
    simp only [List.foldl_cons, List.foldl_nil, putItem_size]
    omega
theorem Field1.calls (n : Int) (w : World) (h0 : 0 ≤ n) (h1 : n < 9223372036854775808) : Calls Try.prog 42 #[.int .i64 n, .int .i64 1] w fun e w' => e = .returned (.string (F1 n)) ∧ Below w.heap.size w w' :=
  ambryref01_Field.calls 3 n 1 _ w (Field1_f n h0 h1)
theorem Field8.calls (n : Int) (w : World) : Calls Try.prog 42 #[.int .i64 n, .int .i64 8] w fun e w' => e = .returned (.string (F8 n)) ∧ Below w.heap.size w w' :=
  ambryref01_Field.calls 10 n 8 _ w (Field8_f n)
set_option maxHeartbeats 8000000 in
set_option maxRecDepth 100000 in
theorem ambryref15_put.calls (k : Nat) (a0_0 : Int) (A0_1 : Option Addr) (c0_1 : Nat) (l0_1 : List (S52)) (r : ByteArray) (w : World) (hr0_1 : Kd.C k52 w A0_1 l0_1.length l0_1) (hc0_1 : l0_1.length ≤ c0_1) (h : ambryref15_put.f k a0_0 l0_1 = some r) :
    Calls Try.prog 38 #[.agg #[.int .i64 a0_0, .slice A0_1 l0_1.length c0_1]] w fun e w' => e = .returned (.string r) ∧ Below w.heap.size w w' := by
  have hfit : putFits l0_1 := by
    unfold ambryref15_put.f at h
    by_cases c : putFits l0_1
    · exact c
    · rw [if_neg c] at h; cases h
  obtain rfl : putP a0_0 l0_1 = r := by unfold ambryref15_put.f at h; rw [if_pos hfit] at h; exact Option.some.inj h
  have hl64 := hfit.1
  have HFIT := Aside0.mk hfit
  have HR := Aside0.mk hr0_1
  have HB := Aside0.mk (Below.refl w.heap.size w)
  obtain ⟨f8, hf8⟩ : ∃ f, F8 a0_0 = f := ⟨_, rfl⟩
  obtain ⟨fn, hfn⟩ : ∃ f, F1 (l0_1.length : Int) = f := ⟨_, rfl⟩
  have s8 : f8.size ≤ 8 := by rw [← hf8, F8_size]; omega
  have sn : fn.size ≤ 1 := by rw [← hfn, F1_size]; omega
  have C8 := fun W => hf8 ▸ Field8.calls a0_0 W
  have CN := fun W => hfn ▸ Field1.calls (l0_1.length : Int) W (by omega) (by omega)
  have HH := Aside0.mk (show putHead a0_0 l0_1.length = ((⟨#[66]⟩ : ByteArray) ++ f8) ++ fn from by unfold putHead; rw [hf8, hfn])
  have HC8 := Aside0.mk C8
  have HCN := Aside0.mk CN
  have n1 : ¬ 9223372036854775807 < 1 + f8.size := by omega
  have n2 : ¬ 9223372036854775807 < 1 + f8.size + fn.size := by omega
  clear hf8 hfn hfit hr0_1 h C8 CN
  go_enter Try.func38, Try.ntmps38
  go_wp2_with (first | ((with_reducible refine gate_dst (N := 1) rfl ?_); refine box_event ?hg (N := 1) ?hd (cs := #[.int .i64 a0_0, .slice A0_1 l0_1.length c0_1]) (t := 24) ?hr ?_; (case hd => rfl); (case hg => rfl); (case hr => first | (go_simp; done) | (go_simp; rfl)); intro g1 hg w1 hbox hb; have G1 := Aside0.mk (show w.heap.size ≤ g1 from (by rw [hg]; exact HB.out.size)); have B1 := Aside0.mk hbox; clear hbox hg; have n0_ := Aside0.mk (below_then HB.out HB.out.size hb); clear HB; have HB := n0_; clear n0_; clear hb; have c10 := (blk_cell B1.out 0).trans rfl; have c11 := (blk_cell B1.out 1).trans rfl))
  have hB1 := HB.out
  go_region_held3 (fun w' => w'.cell? ⟨g1, 0, none⟩ = some (.int .i64 a0_0) ∧ w'.cell? ⟨g1, 1, none⟩ = some (.slice A0_1 l0_1.length c0_1) ∧ w'.heap[g1]? = some (.cells #[.int .i64 a0_0, .slice A0_1 l0_1.length c0_1] 24 (0, 0)) ∧ Below w.heap.size w w')
    (first
      | exact ⟨c10, c11, B1.out, below_drew hB1⟩
      | (go_split_ands
         refine ⟨?_, ?_, ?_, ?_⟩
         · exact pw_cell_below hb (by assumption)
         · exact pw_cell_below hb (by assumption)
         · exact (hb.block _ (blk_lt (by assumption))).trans (by assumption)
         · exact below_then (by assumption) (Below.size (by assumption)) hb))
    (first
      | (go_at_call 42; (with_reducible refine (HC8.out _).mono ?_); rintro e w' ⟨rfl, hb⟩)
      | (go_at_call 42; (with_reducible refine (HCN.out _).mono ?_); rintro e w' ⟨rfl, hb⟩))
  have hH : w'.cell? ⟨g1, 0, none⟩ = some (.int .i64 a0_0) ∧ w'.cell? ⟨g1, 1, none⟩ = some (.slice A0_1 l0_1.length c0_1) ∧ w'.heap[g1]? = some (.cells #[.int .i64 a0_0, .slice A0_1 l0_1.length c0_1] 24 (0, 0)) ∧ Below w.heap.size w w' := by assumption
  have BG0 := Aside0.mk hH.2.2.1
  have HB0 := Aside0.mk hH.2.2.2
  clear hH
  obtain ⟨hd, hhd⟩ : ∃ x, ({ data := #[66] } ++ f8 ++ fn : ByteArray) = x := ⟨_, rfl⟩
  have HHD := Aside0.mk hhd
  clear hhd
  go_wp2
  go_loopg [3, 4] l0_1.length (fun gg s3 s4 wr => ∃ kk : Nat, kk ≤ l0_1.length ∧ l0_1.length - kk ≤ gg ∧ s4 = .int .i64 kk ∧ s3 = .string ((l0_1.take kk).foldl putItem (putHead a0_0 l0_1.length)) ∧ Aside0 (wr.heap[g1]? = some (.cells #[.int .i64 a0_0, .slice A0_1 l0_1.length c0_1] 24 (0, 0))) ∧ Aside0 (Below w.heap.size w wr))
  case atStart => exact ⟨0, Nat.zero_le _, by omega, rfl, by rw [HH.out]; rfl, BG0, HB0⟩
  case round =>
    obtain ⟨kk, hkk, hg, rfl, rfl, BG, HB2⟩ := hrel
    have cg0 := (blk_cell BG.out 0).trans rfl
    have cg1 := (blk_cell BG.out 1).trans rfl
    by_cases hlt : kk < l0_1.length
    · have hltz : (kk : Int) < (l0_1.length : Int) := by omega
      obtain ⟨ad, e, h0, h1, h2⟩ := at_T52 HR.out (kk : Int) (by omega) hltz
      cases e
      rw [rdT52_get l0_1 kk hlt] at h0 h1 h2
      simp only [Int.toNat_natCast] at h0 h1 h2
      have hfc := HFIT.out.2 l0_1[kk] (List.getElem_mem hlt)
      have hst : (l0_1.take (kk + 1)).foldl putItem (putHead a0_0 l0_1.length) = putItem ((l0_1.take kk).foldl putItem (putHead a0_0 l0_1.length)) l0_1[kk] := by
        rw [List.take_succ_eq_append_getElem hlt, List.foldl_append]; rfl
      have hsz := put_take_size a0_0 l0_1 HFIT.out l0_1.length kk hkk
      obtain ⟨y0, y1, y2, hy⟩ : ∃ y0 y1 y2, l0_1[kk] = ⟨y0, y1, y2⟩ := ⟨_, _, _, rfl⟩
      rw [hy] at h0 h1 h2 hst hfc
      obtain ⟨sv, hsv⟩ : ∃ s, (l0_1.take kk).foldl putItem (putHead a0_0 l0_1.length) = s := ⟨_, rfl⟩
      rw [hsv] at hst hsz ⊢
      simp only at h0 h1 h2 hfc
      replace h0 := (HB2.out.cell (World.block_lt_of_cell? w _ h0)).trans h0
      replace h1 := (HB2.out.cell (World.block_lt_of_cell? w _ h1)).trans h1
      replace h2 := (HB2.out.cell (World.block_lt_of_cell? w _ h2)).trans h2
      replace hst := hst.trans (show putItem sv ⟨y0, y1, y2⟩ = ((((sv ++ F1 (if y2 then 1 else 0)) ++ F1 y0.size) ++ y0) ++ F1 y1.size) ++ y1 from rfl)
      obtain ⟨kf, hkf⟩ : ∃ f, F1 (y0.size : Int) = f := ⟨_, rfl⟩
      obtain ⟨vf, hvf⟩ : ∃ f, F1 (y1.size : Int) = f := ⟨_, rfl⟩
      have sk : kf.size ≤ 1 := by rw [← hkf, F1_size]; omega
      have sv1 : vf.size ≤ 1 := by rw [← hvf, F1_size]; omega
      have HCK := Aside0.mk (fun W => hkf ▸ Field1.calls (y0.size : Int) W (by omega) (by omega))
      have HCV := Aside0.mk (fun W => hvf ▸ Field1.calls (y1.size : Int) W (by omega) (by omega))
      rw [hkf, hvf] at hst
      clear hsv hkf hvf hy
      cases y2 with
      | false =>
        obtain ⟨df, hdf⟩ : ∃ f, F1 0 = f := ⟨_, rfl⟩
        have sd : df.size ≤ 1 := by rw [← hdf, F1_size]; omega
        have HCD := Aside0.mk (fun W => hdf ▸ Field1.calls 0 W (by omega) (by omega))
        simp only [Bool.false_eq_true, if_false] at hst
        rw [hdf] at hst
        clear hdf
        have HST := Aside0.mk hst
        clear hst
        have m1 : ¬ 9223372036854775807 < sv.size + df.size := by omega
        have m2 : ¬ 9223372036854775807 < sv.size + df.size + kf.size := by omega
        have m3 : ¬ 9223372036854775807 < sv.size + df.size + kf.size + y0.size := by omega
        have m4 : ¬ 9223372036854775807 < sv.size + df.size + kf.size + y0.size + vf.size := by omega
        have m5 : ¬ 9223372036854775807 < sv.size + df.size + kf.size + y0.size + vf.size + y1.size := by omega
        go_wp2_with (first | ((with_reducible refine gate_dst (N := 5) rfl ?_); refine box_event ?hg (N := 5) ?hd (cs := #[.string ⟨#[]⟩, .string ⟨#[]⟩, .bool false]) (t := 52) ?hr ?_; (case hd => rfl); (case hg => rfl); (case hr => first | (go_simp; done) | (go_simp; rfl)); intro g5 hg w2 hbox hb; have G5 := Aside0.mk (show w.heap.size ≤ g5 from (by rw [hg]; exact HB2.out.size)); have H15 := Aside0.mk (show g1 ≠ g5 from fun e => absurd (blk_lt BG.out) (by omega)); have B5 := Aside0.mk hbox; clear hbox hg; have n0_ := Aside0.mk (below_then HB2.out HB2.out.size hb); have n1_ := Aside0.mk ((hb.block _ (blk_lt BG.out)).trans BG.out); clear HB2 BG; have HB2 := n0_; have BG := n1_; clear n0_ n1_; clear hb) | ((with_reducible refine gate_store (t := 52) (p := 5) (v := .tmp 27) rfl ?_); go_must (refine sagg_event rfl 52 (.tmp 5) (.tmp 27) rfl rfl g5 #[.string y0, .string y1, .bool false] _ _ rfl rfl B5.out (by kernel_rfl) rfl rfl ?_); intro w3 hbk hu; have n0_ := Aside0.mk (hu.below HB2.out G5.out); have n1_ := Aside0.mk (hu.blk BG.out H15.out); clear HB2 BG; have HB2 := n0_; have BG := n1_; clear n0_ n1_; clear B5; have B5 := Aside0.mk hbk; have c50 := (blk_cell B5.out 0).trans rfl; have c51 := (blk_cell B5.out 1).trans rfl; have c52 := (blk_cell B5.out 2).trans rfl; have cg0 := (blk_cell BG.out 0).trans rfl; have cg1 := (blk_cell BG.out 1).trans rfl; have hB3 := HB2.out; clear hbk hu))
        go_region_held3 (fun w' => w'.cell? ⟨g5, 0, none⟩ = some (.string y0) ∧ w'.cell? ⟨g5, 1, none⟩ = some (.string y1) ∧ w'.heap[g1]? = some (.cells #[.int .i64 a0_0, .slice (some ad) l0_1.length c0_1] 24 (0, 0)) ∧ Below w.heap.size w w')
          (first
            | exact ⟨c50, c51, BG.out, below_drew hB3⟩
            | (go_split_ands
               refine ⟨?_, ?_, ?_, ?_⟩
               · exact pw_cell_below hb (by assumption)
               · exact pw_cell_below hb (by assumption)
               · exact (hb.block _ (blk_lt (by assumption))).trans (by assumption)
               · exact below_then (by assumption) (Below.size (by assumption)) hb))
          (first
            | (go_at_call 42; (with_reducible refine (HCD.out _).mono ?_); rintro e w' ⟨rfl, hb⟩)
            | (go_at_call 42; (with_reducible refine (HCK.out _).mono ?_); rintro e w' ⟨rfl, hb⟩)
            | (go_at_call 42; (with_reducible refine (HCV.out _).mono ?_); rintro e w' ⟨rfl, hb⟩))
        have hH : w'.cell? ⟨g5, 0, none⟩ = some (.string y0) ∧ w'.cell? ⟨g5, 1, none⟩ = some (.string y1) ∧ w'.heap[g1]? = some (.cells #[.int .i64 a0_0, .slice (some ad) l0_1.length c0_1] 24 (0, 0)) ∧ Below w.heap.size w w' := by assumption
        have BG9 := Aside0.mk hH.2.2.1
        have HB9 := Aside0.mk hH.2.2.2
        go_wp2
        go_roundg (l0_1.length - (kk + 1))
        case measure => omega
        case rel => exact ⟨kk + 1, by omega, by omega, by go_num, by rw [HST.out], BG9, HB9⟩
      | true =>
        obtain ⟨df, hdf⟩ : ∃ f, F1 1 = f := ⟨_, rfl⟩
        have sd : df.size ≤ 1 := by rw [← hdf, F1_size]; omega
        have HCD := Aside0.mk (fun W => hdf ▸ Field1.calls 1 W (by omega) (by omega))
        simp only [if_true] at hst
        rw [hdf] at hst
        clear hdf
        have HST := Aside0.mk hst
        clear hst
        have m1 : ¬ 9223372036854775807 < sv.size + df.size := by omega
        have m2 : ¬ 9223372036854775807 < sv.size + df.size + kf.size := by omega
        have m3 : ¬ 9223372036854775807 < sv.size + df.size + kf.size + y0.size := by omega
        have m4 : ¬ 9223372036854775807 < sv.size + df.size + kf.size + y0.size + vf.size := by omega
        have m5 : ¬ 9223372036854775807 < sv.size + df.size + kf.size + y0.size + vf.size + y1.size := by omega
        go_wp2_with (first | ((with_reducible refine gate_dst (N := 5) rfl ?_); refine box_event ?hg (N := 5) ?hd (cs := #[.string ⟨#[]⟩, .string ⟨#[]⟩, .bool false]) (t := 52) ?hr ?_; (case hd => rfl); (case hg => rfl); (case hr => first | (go_simp; done) | (go_simp; rfl)); intro g5 hg w2 hbox hb; have G5 := Aside0.mk (show w.heap.size ≤ g5 from (by rw [hg]; exact HB2.out.size)); have H15 := Aside0.mk (show g1 ≠ g5 from fun e => absurd (blk_lt BG.out) (by omega)); have B5 := Aside0.mk hbox; clear hbox hg; have n0_ := Aside0.mk (below_then HB2.out HB2.out.size hb); have n1_ := Aside0.mk ((hb.block _ (blk_lt BG.out)).trans BG.out); clear HB2 BG; have HB2 := n0_; have BG := n1_; clear n0_ n1_; clear hb) | ((with_reducible refine gate_store (t := 52) (p := 5) (v := .tmp 27) rfl ?_); go_must (refine sagg_event rfl 52 (.tmp 5) (.tmp 27) rfl rfl g5 #[.string y0, .string y1, .bool true] _ _ rfl rfl B5.out (by kernel_rfl) rfl rfl ?_); intro w3 hbk hu; have n0_ := Aside0.mk (hu.below HB2.out G5.out); have n1_ := Aside0.mk (hu.blk BG.out H15.out); clear HB2 BG; have HB2 := n0_; have BG := n1_; clear n0_ n1_; clear B5; have B5 := Aside0.mk hbk; have c50 := (blk_cell B5.out 0).trans rfl; have c51 := (blk_cell B5.out 1).trans rfl; have c52 := (blk_cell B5.out 2).trans rfl; have cg0 := (blk_cell BG.out 0).trans rfl; have cg1 := (blk_cell BG.out 1).trans rfl; have hB3 := HB2.out; clear hbk hu))
        go_region_held3 (fun w' => w'.cell? ⟨g5, 0, none⟩ = some (.string y0) ∧ w'.cell? ⟨g5, 1, none⟩ = some (.string y1) ∧ w'.heap[g1]? = some (.cells #[.int .i64 a0_0, .slice (some ad) l0_1.length c0_1] 24 (0, 0)) ∧ Below w.heap.size w w')
          (first
            | exact ⟨c50, c51, BG.out, below_drew hB3⟩
            | (go_split_ands
               refine ⟨?_, ?_, ?_, ?_⟩
               · exact pw_cell_below hb (by assumption)
               · exact pw_cell_below hb (by assumption)
               · exact (hb.block _ (blk_lt (by assumption))).trans (by assumption)
               · exact below_then (by assumption) (Below.size (by assumption)) hb))
          (first
            | (go_at_call 42; (with_reducible refine (HCD.out _).mono ?_); rintro e w' ⟨rfl, hb⟩)
            | (go_at_call 42; (with_reducible refine (HCK.out _).mono ?_); rintro e w' ⟨rfl, hb⟩)
            | (go_at_call 42; (with_reducible refine (HCV.out _).mono ?_); rintro e w' ⟨rfl, hb⟩))
        have hH : w'.cell? ⟨g5, 0, none⟩ = some (.string y0) ∧ w'.cell? ⟨g5, 1, none⟩ = some (.string y1) ∧ w'.heap[g1]? = some (.cells #[.int .i64 a0_0, .slice (some ad) l0_1.length c0_1] 24 (0, 0)) ∧ Below w.heap.size w w' := by assumption
        have BG9 := Aside0.mk hH.2.2.1
        have HB9 := Aside0.mk hH.2.2.2
        go_wp2
        go_roundg (l0_1.length - (kk + 1))
        case measure => omega
        case rel => exact ⟨kk + 1, by omega, by omega, by go_num, by rw [HST.out], BG9, HB9⟩
    · have hltz : ¬ (kk : Int) < (l0_1.length : Int) := by omega
      have hall : l0_1.take kk = l0_1 := List.take_of_length_le (by omega)
      rw [hall]
      go_wp2
      go_ret
      exact ⟨rfl, HB2.out⟩
end Go.Proofs.Ytehcmedeeaoebaa.PB
