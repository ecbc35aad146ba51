import Derived.Test.YtehcmedeeaoebaaPBbatchkept
import Derived.Test.YtehcmedeeaoebaaPBbatchsize
import Derived.Test.YtehcmedeeaoebaaBidx
namespace Go.Proofs.Ytehcmedeeaoebaa.PB
open Go.RowKit Go.Proofs.YtehcmedeeaoebaaW.PrintWords Go.Proofs.YtehcmedeeaoebaaW.PrintLast Go.Proofs.YtehcmedeeaoebaaW.PrintMore
set_option linter.unusedVariables false
set_option linter.unusedSimpArgs false
def keptB (c : S52) : Bool := decide (c.f0.size ≤ 120) && decide (c.f1.size ≤ 199) && (!c.f2 || c.f1.toList == ([] : List UInt8))
theorem kept_f (c : S52) : batch_kept.f c.f0 c.f1 c.f2 = some (keptB c) := by
  unfold batch_kept.f keptB
  by_cases h0 : c.f0.size ≤ 120
  · rw [if_pos (by omega)]
    by_cases h1 : c.f1.size ≤ 199
    · rw [if_pos (by omega)]
      by_cases h2 : c.f2 = true
      · rw [if_pos h2]; simp [h0, h1, h2]
      · rw [if_neg h2]; simp [h0, h1, h2]
    · rw [if_neg (by omega)]; simp [h1]
  · rw [if_neg (by omega)]; simp [h0]
def sameKey (c x : S52) : Bool := x.f0.toList == c.f0.toList
def okAt (l : List S52) (j : Nat) (h : j < l.length) : Bool := keptB l[j] && !((l.take j).any (sameKey l[j]))
def okAll (l : List S52) : Bool := decide (∀ j, (h : j < l.length) → okAt l j h = true)
theorem Check1.calls (x c : S52) (g : Nat) (W : World) (hb : W.heap[g]? = some (.cells #[.string c.f0, .string c.f1, .bool c.f2] 52 (0, 0))) :
    Calls Try.prog 43 #[.agg #[.string x.f0, .string x.f1, .bool x.f2], .pointer (some ⟨g, 0, none⟩)] W fun e w' => e = .returned (.bool (sameKey c x)) ∧ Below W.heap.size W w' := by
  have hg := blk_lt hb
  have hc := (blk_cell hb 0).trans rfl
  have hne : ¬ g = W.heap.size := by omega
  unfold sameKey
  clear hb
  go_enter Try.func43, Try.ntmps43
  go_wp2
  go_ret
  exact ⟨rfl, (Below.refl _ _).alloc (Nat.le_refl _) _⟩
def batch_Check.f (k : Nat) (t : Int) (l : List S52) : Option Int :=
  if t < 1 then some 2 else if 1152921504606846976 < t then some 2 else if 64 < l.length then some 2 else if okAll l then (batch_size.f k t l).bind fun n => if 16384 < n then some 5 else some 0 else some 2
theorem batch_Check.mono : ∀ a0 a1 k, LeO (batch_Check.f k a0 a1) (batch_Check.f (k + 1) a0 a1) := by
  intro a0 a1 k
  unfold batch_Check.f
  refine LeO.ite (LeO.refl _) (LeO.ite (LeO.refl _) (LeO.ite (LeO.refl _) (LeO.ite (LeO.bind (batch_size.mono _ _ _) fun _ => LeO.refl _) (LeO.refl _))))
set_option maxHeartbeats 4000000 in
set_option maxRecDepth 100000 in
theorem batch_Check.calls (k : Nat) (a0_0 : Int) (A0_1 : Option Addr) (c0_1 : Nat) (l0_1 : List (S52)) (r : Int) (w : World) (hr0_1 : Kd.C k52 w A0_1 l0_1.length l0_1) (hc0_1 : l0_1.length ≤ c0_1) (h : batch_Check.f k a0_0 l0_1 = some r) :
    Calls Try.prog 18 #[.agg #[.int .i64 a0_0, .slice A0_1 l0_1.length c0_1]] w fun e w' => e = .returned (.int .i64 r) ∧ Below w.heap.size w w' := by
  have hl := hr0_1.2.1
  have HR := Aside0.mk hr0_1
  have HH := Aside0.mk h
  clear hr0_1 h
  by_cases c1 : a0_0 < 1
  · obtain rfl : (2 : Int) = r := by have := HH.out; unfold batch_Check.f at this; rw [if_pos c1] at this; exact Option.some.inj this
    go_enter Try.func18, Try.ntmps18
    go_wp2
    go_ret
    exact ⟨rfl, (Below.refl _ _).alloc (Nat.le_refl _) _⟩
  by_cases c2 : 1152921504606846976 < a0_0
  · obtain rfl : (2 : Int) = r := by have := HH.out; unfold batch_Check.f at this; rw [if_neg c1, if_pos c2] at this; exact Option.some.inj this
    go_enter Try.func18, Try.ntmps18
    go_wp2
    go_ret
    exact ⟨rfl, (Below.refl _ _).alloc (Nat.le_refl _) _⟩
  by_cases c3 : 64 < l0_1.length
  · obtain rfl : (2 : Int) = r := by have := HH.out; unfold batch_Check.f at this; rw [if_neg c1, if_neg c2, if_pos c3] at this; exact Option.some.inj this
    go_enter Try.func18, Try.ntmps18
    go_wp2
    go_ret
    exact ⟨rfl, (Below.refl _ _).alloc (Nat.le_refl _) _⟩
  have HF : Aside0 ((if okAll l0_1 then (batch_size.f k a0_0 l0_1).bind fun n => if 16384 < n then some 5 else some 0 else some 2) = some r) := ⟨by have := HH.out; unfold batch_Check.f at this; rw [if_neg c1, if_neg c2, if_neg c3] at this; exact this⟩
  clear HH
  go_enter Try.func18, Try.ntmps18
  go_wp2
  go_loopg [23] l0_1.length (fun gg s23 wr => ∃ kk : Nat, kk ≤ l0_1.length ∧ l0_1.length - kk ≤ gg ∧ s23 = .int .i64 kk ∧ Aside0 (wr.heap[w.heap.size]? = some (.cells #[.int .i64 a0_0, .slice A0_1 l0_1.length c0_1] 24 (0, 0))) ∧ Aside0 (Below w.heap.size w wr) ∧ Aside0 (∀ j, (h : j < l0_1.length) → j < kk → okAt l0_1 j h = true))
  case atStart => exact ⟨0, Nat.zero_le _, by omega, rfl, ⟨blk_new w _⟩, ⟨(Below.refl _ w).alloc (Nat.le_refl _) _⟩, ⟨fun j _ hj => absurd hj (Nat.not_lt_zero _)⟩⟩
  case round =>
    obtain ⟨kk, hkk, hg, rfl, BK, BW, HA⟩ := hrel
    by_cases hlt : kk < l0_1.length
    · have hltz : (kk : Int) < (l0_1.length : Int) := by omega
      obtain ⟨ad, e, h0, h1, h2⟩ := at_T52 HR.out (kk : Int) (by omega) hltz
      cases e
      rw [rdT52_get l0_1 kk hlt] at h0 h1 h2
      simp only [Int.toNat_natCast] at h0 h1 h2
      obtain ⟨y, hy⟩ : ∃ y, y = l0_1[kk] := ⟨_, rfl⟩
      rw [← hy] at h0 h1 h2
      have HY := Aside0.mk hy
      clear hy
      replace h0 := (BW.out.cell (World.block_lt_of_cell? w _ h0)).trans h0
      replace h1 := (BW.out.cell (World.block_lt_of_cell? w _ h1)).trans h1
      replace h2 := (BW.out.cell (World.block_lt_of_cell? w _ h2)).trans h2
      have hbk := (blk_cell BK.out 1).trans rfl
      have hbl := blk_lt BK.out
      go_wp2_with fail
      have hk := kept_f y
      refine (batch_kept.calls y.f0 y.f1 y.f2 _ _ hk).mono ?_
      rintro e w1 ⟨rfl, hb1⟩
      cases hkb : keptB y with
      | false =>
        have hno : okAll l0_1 = false := by
          unfold okAll
          rw [decide_eq_false_iff_not]
          intro hall
          have := hall kk hlt
          unfold okAt at this
          rw [← HY.out, hkb] at this
          simp at this
        obtain rfl : (2 : Int) = r := by have := HF.out; rw [hno] at this; simpa using this
        simp only [hkb]
        go_wp2_with fail
        go_ret
        exact ⟨rfl, below_then ((BW.out.alloc BW.out.size _)) (by simp; have := BW.out.size; omega) hb1⟩
      | true =>
        simp only [hkb]
        have BK1 : w1.heap[w.heap.size]? = some (.cells #[.int .i64 a0_0, .slice (some ad) l0_1.length c0_1] 24 (0, 0)) := (hb1.block _ (by simp; omega)).trans ((Below.heap_alloc _ _ _ hbl).trans BK.out)
        have BC1 : w1.heap[wr.heap.size]? = some (.cells #[.string y.f0, .string y.f1, .bool y.f2] 52 (0, 0)) := (hb1.block _ (by simp)).trans (blk_new wr _)
        have BW1 : Below w.heap.size w w1 := below_then (BW.out.alloc BW.out.size _) (by simp; have := BW.out.size; omega) hb1
        have hbk1 := (blk_cell BK1 1).trans rfl
        have hlen : (l0_1.take kk).length = kk := by rw [List.length_take]; omega
        have hcon := ContainsFunc52.calls (some ad) c0_1 (l0_1.take kk) 43 #[.pointer (some ⟨wr.heap.size, 0, none⟩)] (sameKey y) w1 (enters_of Try.func43 (by kernel_rfl) rfl)
          (Kd.C_take (Kd.C_below HR.out BW1) (by omega)) (by omega)
          (fun W x hb => Check1.calls x y wr.heap.size W ((hb.block _ (blk_lt BC1)).trans BC1))
        rw [hlen] at hcon
        have HBK1 := Aside0.mk BK1
        have HBW1 := Aside0.mk BW1
        clear hlen BK1 BC1 hb1 BW1
        obtain ⟨q, hq⟩ : ∃ q, (l0_1.take kk).any (sameKey y) = q := ⟨_, rfl⟩
        rw [hq] at hcon
        have HQ := Aside0.mk hq
        clear hq
        cases q with
        | true =>
          have hno : okAll l0_1 = false := by
            unfold okAll
            rw [decide_eq_false_iff_not]
            intro hall
            have := hall kk hlt
            unfold okAt at this
            rw [← HY.out, hkb, HQ.out] at this
            simp at this
          obtain rfl : (2 : Int) = r := by have := HF.out; rw [hno] at this; simpa using this
          clear hno
          go_wp2_with (go_at_call 45; refine hcon.mono ?_; rintro e w2 ⟨rfl, hb2⟩)
          go_ret
          exact ⟨rfl, below_then HBW1.out HBW1.out.size hb2⟩
        | false =>
          have hok : okAt l0_1 kk hlt = true := by
            unfold okAt
            rw [← HY.out, hkb, HQ.out]
            rfl
          have HOK := Aside0.mk hok
          clear hok
          go_wp2_with (go_at_call 45; refine hcon.mono ?_; rintro e w2 ⟨rfl, hb2⟩)
          go_roundg (l0_1.length - (kk + 1))
          case measure => omega
          case rel =>
            refine ⟨kk + 1, by omega, by omega, by go_num, ⟨(hb2.block _ (blk_lt HBK1.out)).trans HBK1.out⟩, ⟨below_then HBW1.out HBW1.out.size hb2⟩, ⟨fun j h hj => ?_⟩⟩
            by_cases e : j = kk
            · subst e
              exact HOK.out
            · exact HA.out j h (by omega)
    · have hltz : ¬ (kk : Int) < (l0_1.length : Int) := by omega
      have hall : okAll l0_1 = true := by
        unfold okAll
        rw [decide_eq_true_iff]
        exact fun j h => HA.out j h (by omega)
      have hF := HF.out
      rw [hall, if_pos rfl] at hF
      obtain ⟨n, hn, hF⟩ := Option.bind_eq_some_iff.1 hF
      have HN := Aside0.mk hn
      clear hn hall HF
      have hbk0 := (blk_cell BK.out 0).trans rfl
      have hbk1 := (blk_cell BK.out 1).trans rfl
      by_cases h16 : 16384 < n
      · rw [if_pos h16] at hF
        obtain rfl : (5 : Int) = r := by simpa using hF
        clear hF
        go_wp2_with (go_at_call 46; refine (batch_size.calls k a0_0 A0_1 c0_1 l0_1 n _ (Kd.C_below HR.out BW.out) hc0_1 HN.out).mono ?_; rintro e w1 ⟨rfl, hb1⟩)
        go_ret
        exact ⟨rfl, below_then BW.out BW.out.size hb1⟩
      · rw [if_neg h16] at hF
        obtain rfl : (0 : Int) = r := by simpa using hF
        clear hF
        go_wp2_with (go_at_call 46; refine (batch_size.calls k a0_0 A0_1 c0_1 l0_1 n _ (Kd.C_below HR.out BW.out) hc0_1 HN.out).mono ?_; rintro e w1 ⟨rfl, hb1⟩)
        go_ret
        exact ⟨rfl, below_then BW.out BW.out.size hb1⟩
end Go.Proofs.Ytehcmedeeaoebaa.PB
