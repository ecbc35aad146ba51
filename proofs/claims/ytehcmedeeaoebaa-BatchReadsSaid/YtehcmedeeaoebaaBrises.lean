import Derived.Test.YtehcmedeeaoebaaPB0
import Derived.WalkSpells
import Derived.WalkLawsBesides
namespace Go.Proofs.Ytehcmedeeaoebaa.PB
open Go.RowKit Go.Proofs.YtehcmedeeaoebaaW.PrintWords Go.Proofs.YtehcmedeeaoebaaW.PrintLast Go.Proofs.YtehcmedeeaoebaaW.PrintMore
set_option linter.unusedVariables false
set_option linter.unusedSimpArgs false
def ltS (a b : ByteArray) : Bool := Op.bytesLess a.toList b.toList
def risesP : List S69 → Bool
  | a :: b :: r => ltS a.f0 b.f0 && risesP (b :: r)
  | _ => true
theorem risesP_iff (l : List S69) : risesP l = true ↔ ∀ j, (h : j + 1 < l.length) → ltS (l[j]'(by omega)).f0 l[j + 1].f0 = true := by
  induction l with
  | nil => simp [risesP]
  | cons a r ih =>
    cases r with
    | nil => simp [risesP]
    | cons b r =>
      rw [risesP, Bool.and_eq_true, ih]
      constructor
      · rintro ⟨h0, h1⟩ j h
        cases j with
        | zero => exact h0
        | succ j => exact h1 j (by simpa using h)
      · intro h
        exact ⟨h 0 (by simp), fun j hj => h (j + 1) (by simpa using hj)⟩
theorem rdT69_get (l : List S69) (i : Nat) (h : i < l.length) : rd_T69 l (i : Int) = l[i] := by
  simp [rd_T69, List.getD_eq_getElem?_getD, h]
set_option maxHeartbeats 2000000 in
set_option maxRecDepth 100000 in
theorem rises.calls (A : Option Addr) (c : Nat) (l : List S69) (w : World) (hr : Kd.C k69 w A l.length l) (hc : l.length ≤ c) :
    Calls Try.prog 48 #[.slice A l.length c] w fun e w' => e = .returned (.bool (risesP l)) ∧ Below w.heap.size w w' := by
  have hl := hr.2.1
  have HR := Aside0.mk hr
  clear hr
  go_enter Try.func48, Try.ntmps48
  go_wp2
  go_loopg [6] l.length (fun gg s6 wr => ∃ kk : Nat, kk ≤ l.length ∧ l.length - kk ≤ gg ∧ s6 = .int .i64 kk ∧ Aside0 (Below w.heap.size w wr) ∧ Aside0 (∀ j, (h : j + 1 < l.length) → j + 1 < kk → ltS (l[j]'(by omega)).f0 l[j + 1].f0 = true))
  case atStart => exact ⟨0, Nat.zero_le _, by omega, rfl, ⟨Below.refl _ w⟩, ⟨fun j _ hj => absurd hj (Nat.not_lt_zero _)⟩⟩
  case round =>
    obtain ⟨kk, hkk, hg, rfl, BW, HA⟩ := hrel
    by_cases hlt : kk < l.length
    · have hltz : (kk : Int) < (l.length : Int) := by omega
      cases kk with
      | zero =>
        go_wp2
        go_quiet (fail)
        go_wp2
        go_roundg (l.length - 1)
        case measure => omega
        case rel => exact ⟨1, by omega, by omega, by go_num, ⟨pw_below_drewN BW.out _⟩, ⟨fun j _ hj => absurd hj (by omega)⟩⟩
      | succ m =>
        obtain ⟨ad, e, h0, h1⟩ := at_T69 HR.out (m : Int) (by omega) (by omega)
        cases e
        obtain ⟨ad2, e2, g0, g1⟩ := at_T69 HR.out ((m + 1 : Nat) : Int) (by omega) hltz
        cases e2
        rw [rdT69_get l m (by omega)] at h0 h1
        rw [rdT69_get l (m + 1) hlt] at g0 g1
        simp only [Int.toNat_natCast] at h0 h1 g0 g1
        obtain ⟨q, hq⟩ : ∃ q, ltS (l[m]'(by omega)).f0 l[m + 1].f0 = q := ⟨_, rfl⟩
        have HQ := Aside0.mk hq
        unfold ltS at hq
        obtain ⟨x, hx⟩ : ∃ x, (l[m]'(by omega)).f0 = x := ⟨_, rfl⟩
        obtain ⟨y, hy⟩ : ∃ y, l[m + 1].f0 = y := ⟨_, rfl⟩
        rw [hx] at h0 hq
        rw [hy] at g0 hq
        replace h0 := (BW.out.cell (World.block_lt_of_cell? w _ h0)).trans h0
        replace g0 := (BW.out.cell (World.block_lt_of_cell? w _ g0)).trans g0
        clear hx hy h1 g1
        have p0 : (0 : Int) ≤ (m : Int) := by omega
        have p1 : (m : Int) < (l.length : Int) := by omega
        simp only [Int.natCast_add, Int.cast_ofNat_Int] at hltz ⊢
        cases q with
        | true =>
          go_wp2
          go_quiet (fail)
          go_wp2
          go_roundg (l.length - (m + 2))
          case measure => omega
          case rel =>
            refine ⟨m + 2, by omega, by omega, by go_num, ⟨pw_below_drewN BW.out _⟩, ⟨fun j h hj => ?_⟩⟩
            by_cases e : j = m
            · subst e; exact HQ.out
            · exact HA.out j h (by omega)
        | false =>
          have hno : risesP l = false := by
            rw [← Bool.not_eq_true, risesP_iff]
            intro h
            have := h m hlt
            rw [HQ.out] at this
            cases this
          go_wp2
          go_quiet (fail)
          go_wp2
          go_ret
          exact ⟨by rw [hno]; rfl, pw_below_drewN BW.out _⟩
    · have hltz : ¬ (kk : Int) < (l.length : Int) := by omega
      have hyes : risesP l = true := by
        rw [risesP_iff]
        exact fun j h => HA.out j h (by omega)
      have HY := Aside0.mk hyes
      clear hyes
      go_wp2
      go_ret
      exact ⟨by rw [HY.out]; rfl, BW.out⟩
end Go.Proofs.Ytehcmedeeaoebaa.PB
