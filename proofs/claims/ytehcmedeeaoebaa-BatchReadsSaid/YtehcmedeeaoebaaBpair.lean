import Derived.Test.YtehcmedeeaoebaaBev
import Derived.WalkSpells
import Derived.ArgAppend
namespace Go.Proofs.Ytehcmedeeaoebaa.PB
open Go.RowKit Go.Proofs.YtehcmedeeaoebaaW.PrintWords Go.Proofs.YtehcmedeeaoebaaW.PrintLast Go.Proofs.YtehcmedeeaoebaaW.PrintMore
set_option linter.unusedVariables false
set_option linter.unusedSimpArgs false
def BRow (w : World) (base : Nat) (v : Value) (xs : List Int) : Prop :=
  ∃ g cap cur fr, v = .slice (some ⟨g, 0, none⟩) xs.length cap ∧ base ≤ g ∧ w.heap[g]? = some (.cells cur 5 fr) ∧ (∀ j, j < cur.size → ¬ (fr.1 ≤ j ∧ j < fr.2)) ∧ cur.size = cap ∧ xs.length ≤ cap ∧ cap ≤ 9223372036854775807 ∧ ∀ j, j < xs.length → cur[j]? = some (.int .u8 (xs.getD j 0))
theorem BRow.reads {w : World} {base : Nat} {v : Value} {xs : List Int} (h : BRow w base v xs) : ∃ g cap, v = .slice (some ⟨g, 0, none⟩) xs.length cap ∧ base ≤ g ∧ xs.length ≤ cap ∧ Kd.C (Kd.int .u8) w (some ⟨g, 0, none⟩) xs.length xs := by
  obtain ⟨g, cap, cur, fr, rfl, hb, hh, hf, hs, hl, hm, hc⟩ := h
  refine ⟨g, cap, rfl, hb, hl, Kd.C_of_reads (d := 0) ⟨rfl, by omega, fun _ => ⟨_, rfl, fun j hj => ?_⟩⟩⟩
  rw [add_plain]
  unfold World.cell?
  simp only [hh]
  simpa using hc j hj
theorem BRow.below {w w' : World} {base : Nat} {v : Value} {xs : List Int} (h : BRow w base v xs) (hb : Below w.heap.size w w') : BRow w' base v xs := by
  obtain ⟨g, cap, cur, fr, hv, hb1, hh, r⟩ := h
  exact ⟨g, cap, cur, fr, hv, hb1, (hb.block g (blk_lt hh)).trans hh, r⟩
section
variable {P : Program} {ops : Array Oper} {rest : List Oper} {o : Oper} {a : Act} {Q : Exit → Act → World → Prop}
theorem BRow.append {W : World} (base : Nat) (hgd : o.guard = none) (s x : Operand) (t : TypeId)
    (ho : o.op = .call { callee := .builtin .append, args := #[s, x], argTypes := #[t, t] })
    (ht : P.underlying t = some (.slice 5)) (hinfo : (P.info? 5).map (fun i => (i.zero, i.size, i.bytes)) = some (some (.int .u8 0), 1, 1))
    (v : Value) (xs : List Int) (y : Int) (hs : a.eval s = v) (hx : a.eval x = .slice (some ⟨W.heap.size, 0, none⟩) 1 1)
    (HO : BRow W base v xs) (hbase : base ≤ W.heap.size) (hl : xs.length + 1 ≤ 140737488355328)
    (h : ∀ v1 w1, BRow w1 base v1 (xs ++ [y]) → Below base W w1 → wpList P ops Q rest (a.put o.dst v1) w1) :
    wpList P ops Q (o :: rest) a (W.alloc (.cells #[.int .u8 y] 5)) := by
  obtain ⟨i0, hi, hzz⟩ := Option.map_eq_some_iff.1 hinfo
  simp only [Prod.mk.injEq] at hzz
  obtain ⟨hz0, hz1, hz2⟩ := hzz
  obtain ⟨g, cap, cur, fr, rfl, hbg, hh, hf, hcs, hlc, hm, hc⟩ := HO
  have hlt := blk_lt hh
  have hh' : (W.alloc (.cells #[.int .u8 y] 5)).heap[g]? = some (.cells cur 5 fr) := (Below.heap_alloc _ _ _ hlt).trans hh
  have hcell : ∀ j, (W.alloc (.cells #[.int .u8 y] 5)).cell? ⟨g, j, none⟩ = cur[j]? := by
    intro j
    unfold World.cell?
    simp only [hh']
    rfl
  have hnum : ∀ j, j < xs.length → (nums .u8 xs)[j]? = some (.int .u8 (xs.getD j 0)) := fun j hj => by
    simp [nums, List.getElem?_eq_getElem hj, List.getD_eq_getElem?_getD]
  refine wpList_append_arg (W.alloc (.cells #[.int .u8 y] 5)) hgd s x t ho 5 i0 (.int .u8 0) 1 1 ht hi hz0 hz1 hz2 rfl (by omega) g 0 xs.length cap (nums .u8 xs) hs (by simp [nums]) ?_ ⟨W.heap.size, 0, none⟩ 1 1 [.int .u8 y] hx rfl
    (World.news_of_block (cs := #[.int .u8 y]) (t := 5) (fr := (0, 0)) (heap_alloc_new W _)) (by simp [Value.oneCell']) ?_ (by simp only [maxLen]; omega) (by omega) ?_ ?_
  · intro j u hu
    have hj : j < xs.length := by
      rcases Nat.lt_or_ge j xs.length with h | h
      · exact h
      · rw [List.getElem?_eq_none (by rw [nums_length]; exact h)] at hu; cases hu
    rw [hnum j hj] at hu
    rw [Nat.zero_add, hcell, hc j hj]
    exact hu
  · intro hroom j hj
    have hj0 : j = 0 := by simpa using hj
    subst hj0
    rw [hcell]
    have hjc : xs.length < cur.size := by omega
    constructor
    · simp [show 0 + xs.length * 1 + 0 = xs.length by omega, hjc]
    · unfold World.frozen?
      simp only [hh']
      have := hf xs.length hjc
      simp only [show 0 + xs.length * 1 + 0 = xs.length by omega]
      simpa using this
  · intro hroom
    refine h _ _ ⟨g, cap, cur.setIfInBounds xs.length (.int .u8 y), fr, by simp, hbg, ?_, ?_, by simpa using hcs, by simp; omega, hm, ?_⟩ ?_
    · simp only [World.setCells, Nat.zero_add, Nat.mul_one, World.setCell]
      simp [Array.getElem?_modify, hh', -World.alloc_eq]
    · intro j hj
      exact hf j (by simpa using hj)
    · intro j hj
      have hj' : j < xs.length + 1 := by simpa using hj
      rw [Array.getElem?_setIfInBounds]
      by_cases e : xs.length = j
      · subst e
        rw [if_pos rfl, if_pos (by omega)]
        simp [List.getD_eq_getElem?_getD]
      · rw [if_neg e, hc j (by omega)]
        simp [List.getD_eq_getElem?_getD, List.getElem?_append_left (show j < xs.length by omega)]
    · simp only [World.setCells]
      exact ((Below.refl base W).alloc hbase _).setCell hbg _
  · intro hgrow v' w' hown hg
    have hfm := hown.form (by omega)
    obtain ⟨g', cap', rfl, hbg', _⟩ := hfm
    rcases hown.2 with ⟨hx1, _⟩ | ⟨g2, cap2, cur2, hv2, hb2, hh2, hn2, hm2, hs2, ht2⟩
    · cases hx1
    · injection hv2 with e1 e2 e3
      injection e1 with e1
      injection e1 with e1
      subst e1 e3
      refine h _ _ ⟨g', cap', cur2, (0, 0), by simp, ?_, hh2, fun j _ => by omega, by omega, by simp; omega, by simp only [maxLen] at hm2; omega, ?_⟩ ?_
      · have := hb2; simp at this; omega
      · intro j hj
        have hj' : j < xs.length + 1 := by simpa using hj
        have e1 : nums .u8 xs ++ [.int .u8 y] = nums .u8 (xs ++ [y]) := by simp [nums]
        rw [e1] at ht2
        have e2 : (nums .u8 (xs ++ [y]))[j]? = some (.int .u8 ((xs ++ [y]).getD j 0)) := by
          have hjl : j < (xs ++ [y]).length := by simp; omega
          unfold nums
          rw [List.getElem?_map, List.getD_eq_getElem?_getD, List.getElem?_eq_getElem hjl]
          rfl
        rw [← ht2, List.getElem?_take_of_lt (by omega), Array.getElem?_toList] at e2
        exact e2
      · exact ((Below.refl base W).alloc hbase _).grown hg (by simp; omega) (fun k hk => by cases hk)
end
theorem BRow.conv (W : World) (base : Nat) (hb : base ≤ W.heap.size) (s : ByteArray) (hs : s.size ≤ 140737488351232) :
    BRow (Lib.bytesWorld W 5 s) base (.slice (some ⟨W.heap.size, 0, none⟩) (bytesOf s).length (grownCap W s.size 0 5)) (bytesOf s) := by
  have hsz : (Lib.bytesCells W 5 s).size = grownCap W s.size 0 5 := by
    have := grownCap_ge W s.size 0 5
    unfold Lib.bytesCells
    rw [Array.size_append, Array.size_map, Array.size_replicate]
    have e : s.data.size = s.size := rfl
    omega
  refine ⟨W.heap.size, _, Lib.bytesCells W 5 s, _, rfl, hb, Lib.bytesWorld_at_new W 5 s, fun j hj => by simp only; omega, hsz, ?_, ?_, ?_⟩
  · rw [bytesOf_length]; exact grownCap_ge W s.size 0 5
  · have := grownCap_le_maxLen W s.size 0 5 (by simp only [maxLen]; omega)
    simpa [maxLen] using this
  · intro j hj
    rw [bytesOf_length] at hj
    have hj' : j < s.data.size := hj
    have hjl : j < s.data.toList.length := by simpa using hj'
    unfold Lib.bytesCells
    rw [Array.getElem?_append_left (by simpa using hj')]
    rw [Array.getElem?_map, List.getD_eq_getElem?_getD, bytesOf, List.getElem?_map, Array.getElem?_toList, Array.getElem?_eq_getElem hj']
    rfl
section
variable {P : Program} {ops : Array Oper} {rest : List Oper} {o : Oper} {a : Act} {Q : Exit → Act → World → Prop}
theorem conv_event {W : World} (hgd : o.guard = none) {N : Tmp} (_hd : o.dst = some N) (s : ByteArray) (hs : s.size ≤ 140737488351232)
    (hrun : (execOp a.eval o).run P W = .ok (.value (.slice (some ⟨W.heap.size, 0, none⟩) s.size (grownCap W s.size 0 5))) (Lib.bytesWorld W 5 s))
    (h : ∀ v w1, (∃ g cap, v = .slice (some ⟨g, 0, none⟩) (bytesOf s).length cap) → BRow w1 W.heap.size v (bytesOf s) → Below W.heap.size W w1 → wpList P ops Q rest (a.put o.dst v) w1) : wpList P ops Q (o :: rest) a W := by
  refine Kd.event_run hgd hrun ?_
  have := h (.slice (some ⟨W.heap.size, 0, none⟩) (bytesOf s).length (grownCap W s.size 0 5)) (Lib.bytesWorld W 5 s) ⟨_, _, rfl⟩ (BRow.conv W _ (Nat.le_refl _) s hs) (bytes_below (Below.refl _ _) (Nat.le_refl _) 5 s)
  rw [bytesOf_length] at this
  exact this
end
def byteOf (n : Int) (i : Nat) : Int := n / 2 ^ (8 * i) % 256
def bytesHi (n : Int) (m : Nat) : List Int := ((List.range (8 - m)).map fun j => byteOf n (7 - j))
theorem bytesHi_step (n : Int) (m : Nat) (h : m < 8) : bytesHi n m = bytesHi n (m + 1) ++ [byteOf n m] := by
  unfold bytesHi
  rw [show 8 - m = (8 - (m + 1)) + 1 by omega, List.range_succ, List.map_append]
  simp [show 7 - (7 - m) = m by omega]
def bytes8 (n : Int) : List Int := bytesHi n 0
set_option maxHeartbeats 2000000 in
set_option maxRecDepth 100000 in
theorem put64.calls (base : Nat) (v : Value) (xs : List Int) (n : Int) (w : World) (hv : BRow w base v xs) (hb : base ≤ w.heap.size) (h0 : 0 ≤ n) (h1 : n < 18446744073709551616) (hl : xs.length + 8 ≤ 140737488355328) :
    Calls Try.prog 67 #[v, .int .u64 n, .int .i64 8] w fun e w' => ∃ v' : Value, e = .returned v' ∧ BRow w' base v' (xs ++ bytes8 n) ∧ Below base w w' := by
  have HV := Aside0.mk hv
  clear hv
  go_enter Try.func67, Try.ntmps67
  go_wp2
  go_loopg [0, 7] 8 (fun gg s0 s7 wr => ∃ m : Nat, m ≤ 8 ∧ m ≤ gg ∧ s7 = .int .i64 ((m : Int) - 1) ∧ Aside0 (BRow wr base s0 (xs ++ bytesHi n m)) ∧ Aside0 (Below base w wr))
  case atStart => exact ⟨8, by omega, by omega, by go_num, ⟨by simpa [bytesHi] using HV.out⟩, ⟨Below.refl _ _⟩⟩
  case round =>
    obtain ⟨m, hm, hg, rfl, HO, HB⟩ := hrel
    cases m with
    | zero =>
      go_wp2
      go_ret
      exact ⟨_, rfl, HO.out, HB.out⟩
    | succ m =>
      have hx : (0 : Int) ≤ 8 * (m : Int) := by omega
      simp only [Int.natCast_add, Int.cast_ofNat_Int, Int.add_sub_cancel]
      have hstep := Aside0.mk (bytesHi_step n m (by omega))
      have hlen : (xs ++ bytesHi n (m + 1)).length + 1 ≤ 140737488355328 := by simp [bytesHi]; omega
      obtain ⟨b, hbb⟩ : ∃ b, b = n / 2 ^ (8 * m) % 256 := ⟨_, rfl⟩
      have HBY := Aside0.mk hbb
      clear hbb
      go_wp2_with ((with_reducible refine gate_builtin (b := .append) (xs := #[.tmp 14, .tmp 20]) rfl ?_); at_builtin; go_must (refine BRow.append base rfl (.tmp 14) (.tmp 20) 72 rfl Try.underlying72 info5 u0 (xs ++ bytesHi n (m + 1)) (n / 2 ^ (8 * m) % 256) rfl rfl HO.out (Nat.le_trans hb HB.out.size) hlen ?_); intro v1 w1 ho hb1; have HO1 := Aside0.mk ho; have HB1 := Aside0.mk (HB.out.trans hb1); clear ho hb1)
      go_roundg m
      case measure => omega
      case rel =>
        refine ⟨m, by omega, by omega, rfl, ⟨?_⟩, HB1⟩
        have := HO1.out
        rw [hstep.out, ← List.append_assoc]
        exact this
set_option maxRecDepth 100000 in
theorem Put64b.calls (base : Nat) (v : Value) (xs : List Int) (n : Int) (w : World) (hv : BRow w base v xs) (hb : base ≤ w.heap.size) (h0 : 0 ≤ n) (h1 : n < 9223372036854775808) (hl : xs.length + 8 ≤ 140737488355328) :
    Calls Try.prog 40 #[v, .int .i64 n] w fun e w' => ∃ v' : Value, e = .returned v' ∧ BRow w' base v' (xs ++ bytes8 n) ∧ Below base w w' := by
  have HP := put64.calls base v xs n w hv hb h0 (by omega) hl
  clear hv
  go_enter Try.func40, Try.ntmps40
  go_wp2_with (go_at_call 67; refine HP.mono ?_; rintro e w1 ⟨v', rfl, hv', hb'⟩; have HV := Aside0.mk hv'; have HB := Aside0.mk hb'; clear hv' hb')
  go_ret
  exact ⟨_, rfl, HV.out, HB.out⟩
def pairKey (key : ByteArray) (t : Int) : ByteArray := strOfNums (bytesOf key ++ bytes8 (1152921504606846976 - t))
def pairVal (v : S80) : ByteArray := if v.f2 then ⟨#[0]⟩ else (⟨#[1]⟩ : ByteArray) ++ v.f1
set_option maxHeartbeats 2000000 in
set_option maxRecDepth 100000 in
theorem pair.calls (key : ByteArray) (v : S80) (w : World) (hk : key.size ≤ 120) (hv : v.f1.size ≤ 9223372036854775806) (h0 : 0 ≤ v.f0) (h1 : v.f0 ≤ 1152921504606846976) :
    Calls Try.prog 54 #[.string key, .agg #[.int .i64 v.f0, .string v.f1, .bool v.f2]] w fun e w' => e = .returned (.agg #[.string (pairKey key v.f0), .string (pairVal v)]) ∧ Below w.heap.size w w' := by
  have kb := fun W => print_bytes (P := Try.prog) 9 72 5 Try.underlying9 Try.underlying72 Try.underlying5 key W
  have HB := Aside0.mk (Below.refl w.heap.size w)
  have HPK := Aside0.mk (show strOfNums (bytesOf key ++ bytes8 (1152921504606846976 - v.f0)) = pairKey key v.f0 from rfl)
  cases hdel : v.f2 with
  | false =>
    have hval : Aside0 (pairVal v = (⟨#[1]⟩ : ByteArray) ++ v.f1) := ⟨by unfold pairVal; rw [hdel]; rfl⟩
    clear hdel
    go_enter Try.func54, Try.ntmps54
    go_wp2_with (first | ((with_reducible refine gate_dst (N := 3) rfl ?_); refine box_event ?hg (N := 3) ?hd (cs := #[.int .i64 v.f0, .string v.f1, .bool false]) (t := 80) ?hr ?_; (case hd => rfl); (case hg => rfl); (case hr => first | (go_simp; done) | (go_simp; rfl)); intro g3 hg w1 hbox hb; have B3 := Aside0.mk hbox; clear hbox hg; have n0_ := Aside0.mk (below_then HB.out HB.out.size hb); clear HB; have HB := n0_; clear n0_; clear hb) | ((with_reducible refine gate_dst (N := 4) rfl ?_); refine box_event ?hg (N := 4) ?hd (cs := #[.string ⟨#[]⟩, .string ⟨#[]⟩]) (t := 69) ?hr ?_; (case hd => rfl); (case hg => rfl); (case hr => first | (go_simp; done) | (go_simp; rfl)); intro g4 hg w2 hbox hb; have G4 := Aside0.mk (show w.heap.size ≤ g4 from (by rw [hg]; exact HB.out.size)); have H34 := Aside0.mk (show g3 ≠ g4 from fun e => absurd (blk_lt B3.out) (by omega)); have B4 := Aside0.mk hbox; clear hbox hg; have n0_ := Aside0.mk (below_then HB.out HB.out.size hb); have n1_ := Aside0.mk ((hb.block _ (blk_lt B3.out)).trans B3.out); clear HB B3; have HB := n0_; have B3 := n1_; clear n0_ n1_; clear hb) | ((with_reducible refine gate_dst (N := 7) rfl ?_); refine conv_event ?hg (N := 7) ?hd key (by omega) ?hr ?_; (case hd => rfl); (case hg => rfl); (case hr => first | (go_simp; done) | (go_simp; rfl)); intro v7 w3 hv7 hrow hb; have H2 := Aside0.mk HB.out.size; have L3 := Aside0.mk (blk_lt B3.out); have L4 := Aside0.mk (blk_lt B4.out); have n0_ := Aside0.mk (below_then HB.out HB.out.size hb); have n1_ := Aside0.mk ((hb.block _ (blk_lt B3.out)).trans B3.out); have n2_ := Aside0.mk ((hb.block _ (blk_lt B4.out)).trans B4.out); clear HB B3 B4; have HB := n0_; have B3 := n1_; have B4 := n2_; clear n0_ n1_ n2_; have HV := Aside0.mk hrow; have HW := Aside0.mk hb.size; have c30 := (blk_cell B3.out 0).trans rfl; clear hrow hb hv7) | (go_at_call 40; go_must (refine (Put64b.calls w2.heap.size v7 (bytesOf key) (1152921504606846976 - v.f0) w3 HV.out HW.out (by omega) (by omega) (by rw [bytesOf_length]; omega)).mono ?_); rintro e w4 ⟨v11, rfl, hv', hb'⟩; have n0_ := Aside0.mk (HB.out.trans (hb'.mono H2.out)); have n1_ := Aside0.mk ((hb'.block _ L3.out).trans B3.out); have n2_ := Aside0.mk ((hb'.block _ L4.out).trans B4.out); clear HB B3 B4 HV; have HB := n0_; have B3 := n1_; have B4 := n2_; clear n0_ n1_ n2_; obtain ⟨gv, capv, rfl, _, _, hcv⟩ := hv'.reads; have hstr := string_of_reads (P := Try.prog) (src := 72) (dst := 9) (c := capv) Try.underlying72 Try.underlying5 Try.underlying9 (Kd.reads_of_C (d := 0) hcv); rw [HPK.out, List.length_append] at hstr; clear hcv hv' hb') | ((with_reducible refine gate_dst (N := 5) rfl ?_); refine box_event ?hg (N := 5) ?hd (cs := #[.string ⟨#[]⟩, .string ⟨#[]⟩]) (t := 69) ?hr ?_; (case hd => rfl); (case hg => rfl); (case hr => first | (go_simp; done) | (go_simp; rfl)); intro g5 hg w5 hbox hb; have G5 := Aside0.mk (show w.heap.size ≤ g5 from (by rw [hg]; exact HB.out.size)); have H35 := Aside0.mk (show g3 ≠ g5 from fun e => absurd (blk_lt B3.out) (by omega)); have H45 := Aside0.mk (show g4 ≠ g5 from fun e => absurd (blk_lt B4.out) (by omega)); have B5 := Aside0.mk hbox; clear hbox hg; have n0_ := Aside0.mk (below_then HB.out HB.out.size hb); have n1_ := Aside0.mk ((hb.block _ (blk_lt B3.out)).trans B3.out); have n2_ := Aside0.mk ((hb.block _ (blk_lt B4.out)).trans B4.out); clear HB B3 B4; have HB := n0_; have B3 := n1_; have B4 := n2_; clear n0_ n1_ n2_; clear hb) | ((with_reducible refine gate_store (t := 69) (p := 5) (v := .tmp 13) rfl ?_); go_must (refine sagg_event rfl 69 (.tmp 5) (.tmp 13) rfl rfl g5 #[.string (pairKey key v.f0), .string ⟨#[0]⟩] _ _ rfl rfl B5.out (by kernel_rfl) rfl rfl ?_); intro w6 hbk hu; have n0_ := Aside0.mk (hu.below HB.out G5.out); have n1_ := Aside0.mk (hu.blk B3.out H35.out); have n2_ := Aside0.mk (hu.blk B4.out H45.out); clear HB B3 B4; have HB := n0_; have B3 := n1_; have B4 := n2_; clear n0_ n1_ n2_; clear B5; have B5 := Aside0.mk hbk; have c32 := (blk_cell B3.out 2).trans rfl; have c31 := (blk_cell B3.out 1).trans rfl; have c50 := (blk_cell B5.out 0).trans rfl; have c51 := (blk_cell B5.out 1).trans rfl; clear hbk hu) | ((with_reducible refine gate_store (t := 9) (p := 20) (v := .tmp 19) rfl ?_); go_must (refine scell_event rfl rfl g5 1 (.string ((⟨#[1]⟩ : ByteArray) ++ v.f1)) _ _ B5.out ?hr ?_); (case hr => have q1_ := (blk_cell B5.out 1).trans rfl; have q2_ := blk_frozen B5.out 1; first | (go_simp; done) | (go_simp; rfl)); intro w7 hbk hu; have n0_ := Aside0.mk (hu.below HB.out G5.out); have n1_ := Aside0.mk (hu.blk B3.out H35.out); have n2_ := Aside0.mk (hu.blk B4.out H45.out); clear HB B3 B4; have HB := n0_; have B3 := n1_; have B4 := n2_; clear n0_ n1_ n2_; clear B5; have B5 := Aside0.mk (show w7.heap[g5]? = some (.cells #[.string (pairKey key v.f0), .string ((⟨#[1]⟩ : ByteArray) ++ v.f1)] 69 (0, 0)) from hbk); have c70 := (blk_cell B5.out 0).trans rfl; have c71 := (blk_cell B5.out 1).trans rfl; clear hbk hu) | ((with_reducible refine gate_store (t := 69) (p := 4) (v := .tmp 21) rfl ?_); go_must (refine sagg_event rfl 69 (.tmp 4) (.tmp 21) rfl rfl g4 #[.string (pairKey key v.f0), .string ((⟨#[1]⟩ : ByteArray) ++ v.f1)] _ _ rfl rfl B4.out (by kernel_rfl) rfl rfl ?_); intro w8 hbk hu; have n0_ := Aside0.mk (hu.below HB.out G4.out); clear HB; have HB := n0_; clear n0_; clear B4; have B4 := Aside0.mk hbk; have c80 := (blk_cell B4.out 0).trans rfl; have c81 := (blk_cell B4.out 1).trans rfl; clear hbk hu))
    refine bodyPost_ret (v := .agg #[.string (pairKey key v.f0), .string ((⟨#[1]⟩ : ByteArray) ++ v.f1)]) ?_ rfl ?_
    · simp [results, Try.results54, go_sem, c80, c81]
    · exact ⟨by rw [hval.out], HB.out⟩
  | true =>
    have hval : Aside0 (pairVal v = ⟨#[0]⟩) := ⟨by unfold pairVal; rw [hdel]; rfl⟩
    clear hdel
    go_enter Try.func54, Try.ntmps54
    go_wp2_with (first | ((with_reducible refine gate_dst (N := 3) rfl ?_); refine box_event ?hg (N := 3) ?hd (cs := #[.int .i64 v.f0, .string v.f1, .bool true]) (t := 80) ?hr ?_; (case hd => rfl); (case hg => rfl); (case hr => first | (go_simp; done) | (go_simp; rfl)); intro g3 hg w1 hbox hb; have B3 := Aside0.mk hbox; clear hbox hg; have n0_ := Aside0.mk (below_then HB.out HB.out.size hb); clear HB; have HB := n0_; clear n0_; clear hb) | ((with_reducible refine gate_dst (N := 4) rfl ?_); refine box_event ?hg (N := 4) ?hd (cs := #[.string ⟨#[]⟩, .string ⟨#[]⟩]) (t := 69) ?hr ?_; (case hd => rfl); (case hg => rfl); (case hr => first | (go_simp; done) | (go_simp; rfl)); intro g4 hg w2 hbox hb; have G4 := Aside0.mk (show w.heap.size ≤ g4 from (by rw [hg]; exact HB.out.size)); have H34 := Aside0.mk (show g3 ≠ g4 from fun e => absurd (blk_lt B3.out) (by omega)); have B4 := Aside0.mk hbox; clear hbox hg; have n0_ := Aside0.mk (below_then HB.out HB.out.size hb); have n1_ := Aside0.mk ((hb.block _ (blk_lt B3.out)).trans B3.out); clear HB B3; have HB := n0_; have B3 := n1_; clear n0_ n1_; clear hb) | ((with_reducible refine gate_dst (N := 7) rfl ?_); refine conv_event ?hg (N := 7) ?hd key (by omega) ?hr ?_; (case hd => rfl); (case hg => rfl); (case hr => first | (go_simp; done) | (go_simp; rfl)); intro v7 w3 hv7 hrow hb; have H2 := Aside0.mk HB.out.size; have L3 := Aside0.mk (blk_lt B3.out); have L4 := Aside0.mk (blk_lt B4.out); have n0_ := Aside0.mk (below_then HB.out HB.out.size hb); have n1_ := Aside0.mk ((hb.block _ (blk_lt B3.out)).trans B3.out); have n2_ := Aside0.mk ((hb.block _ (blk_lt B4.out)).trans B4.out); clear HB B3 B4; have HB := n0_; have B3 := n1_; have B4 := n2_; clear n0_ n1_ n2_; have HV := Aside0.mk hrow; have HW := Aside0.mk hb.size; have c30 := (blk_cell B3.out 0).trans rfl; clear hrow hb hv7) | (go_at_call 40; go_must (refine (Put64b.calls w2.heap.size v7 (bytesOf key) (1152921504606846976 - v.f0) w3 HV.out HW.out (by omega) (by omega) (by rw [bytesOf_length]; omega)).mono ?_); rintro e w4 ⟨v11, rfl, hv', hb'⟩; have n0_ := Aside0.mk (HB.out.trans (hb'.mono H2.out)); have n1_ := Aside0.mk ((hb'.block _ L3.out).trans B3.out); have n2_ := Aside0.mk ((hb'.block _ L4.out).trans B4.out); clear HB B3 B4 HV; have HB := n0_; have B3 := n1_; have B4 := n2_; clear n0_ n1_ n2_; obtain ⟨gv, capv, rfl, _, _, hcv⟩ := hv'.reads; have hstr := string_of_reads (P := Try.prog) (src := 72) (dst := 9) (c := capv) Try.underlying72 Try.underlying5 Try.underlying9 (Kd.reads_of_C (d := 0) hcv); rw [HPK.out, List.length_append] at hstr; clear hcv hv' hb') | ((with_reducible refine gate_dst (N := 5) rfl ?_); refine box_event ?hg (N := 5) ?hd (cs := #[.string ⟨#[]⟩, .string ⟨#[]⟩]) (t := 69) ?hr ?_; (case hd => rfl); (case hg => rfl); (case hr => first | (go_simp; done) | (go_simp; rfl)); intro g5 hg w5 hbox hb; have G5 := Aside0.mk (show w.heap.size ≤ g5 from (by rw [hg]; exact HB.out.size)); have H35 := Aside0.mk (show g3 ≠ g5 from fun e => absurd (blk_lt B3.out) (by omega)); have H45 := Aside0.mk (show g4 ≠ g5 from fun e => absurd (blk_lt B4.out) (by omega)); have B5 := Aside0.mk hbox; clear hbox hg; have n0_ := Aside0.mk (below_then HB.out HB.out.size hb); have n1_ := Aside0.mk ((hb.block _ (blk_lt B3.out)).trans B3.out); have n2_ := Aside0.mk ((hb.block _ (blk_lt B4.out)).trans B4.out); clear HB B3 B4; have HB := n0_; have B3 := n1_; have B4 := n2_; clear n0_ n1_ n2_; clear hb) | ((with_reducible refine gate_store (t := 69) (p := 5) (v := .tmp 13) rfl ?_); go_must (refine sagg_event rfl 69 (.tmp 5) (.tmp 13) rfl rfl g5 #[.string (pairKey key v.f0), .string ⟨#[0]⟩] _ _ rfl rfl B5.out (by kernel_rfl) rfl rfl ?_); intro w6 hbk hu; have n0_ := Aside0.mk (hu.below HB.out G5.out); have n1_ := Aside0.mk (hu.blk B3.out H35.out); have n2_ := Aside0.mk (hu.blk B4.out H45.out); clear HB B3 B4; have HB := n0_; have B3 := n1_; have B4 := n2_; clear n0_ n1_ n2_; clear B5; have B5 := Aside0.mk hbk; have c32 := (blk_cell B3.out 2).trans rfl; have c31 := (blk_cell B3.out 1).trans rfl; have c50 := (blk_cell B5.out 0).trans rfl; have c51 := (blk_cell B5.out 1).trans rfl; clear hbk hu) | ((with_reducible refine gate_store (t := 9) (p := 20) (v := .tmp 19) rfl ?_); go_must (refine scell_event rfl rfl g5 1 (.string ((⟨#[1]⟩ : ByteArray) ++ v.f1)) _ _ B5.out ?hr ?_); (case hr => have q1_ := (blk_cell B5.out 1).trans rfl; have q2_ := blk_frozen B5.out 1; first | (go_simp; done) | (go_simp; rfl)); intro w7 hbk hu; have n0_ := Aside0.mk (hu.below HB.out G5.out); have n1_ := Aside0.mk (hu.blk B3.out H35.out); have n2_ := Aside0.mk (hu.blk B4.out H45.out); clear HB B3 B4; have HB := n0_; have B3 := n1_; have B4 := n2_; clear n0_ n1_ n2_; clear B5; have B5 := Aside0.mk (show w7.heap[g5]? = some (.cells #[.string (pairKey key v.f0), .string ((⟨#[1]⟩ : ByteArray) ++ v.f1)] 69 (0, 0)) from hbk); have c70 := (blk_cell B5.out 0).trans rfl; have c71 := (blk_cell B5.out 1).trans rfl; clear hbk hu) | ((with_reducible refine gate_store (t := 69) (p := 4) (v := .tmp 21) rfl ?_); go_must (refine sagg_event rfl 69 (.tmp 4) (.tmp 21) rfl rfl g4 #[.string (pairKey key v.f0), .string ⟨#[0]⟩] _ _ rfl rfl B4.out (by kernel_rfl) rfl rfl ?_); intro w8 hbk hu; have n0_ := Aside0.mk (hu.below HB.out G4.out); clear HB; have HB := n0_; clear n0_; clear B4; have B4 := Aside0.mk hbk; have c80 := (blk_cell B4.out 0).trans rfl; have c81 := (blk_cell B4.out 1).trans rfl; clear hbk hu))
    refine bodyPost_ret (v := .agg #[.string (pairKey key v.f0), .string (⟨#[0]⟩)]) ?_ rfl ?_
    · simp [results, Try.results54, go_sem, c80, c81]
    · exact ⟨by rw [hval.out], HB.out⟩
end Go.Proofs.Ytehcmedeeaoebaa.PB
