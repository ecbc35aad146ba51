import Derived.Test.YtehcmedeeaoebaaM2
import Derived.Test.YtehcmedeeaoebaaM5
import Derived.Test.YtehcmedeeaoebaaM1
import Derived.Test.YtehcmedeeaoebaaM6
import Derived.Test.YtehcmedeeaoebaaM3
import Derived.WalkSpells
import Derived.WalkLawsBesides
import Derived.WalkMore
import Derived.BigQuiet
section
namespace Go.Proofs.Ytehcmedeeaoebaa.PB
open Go.RowKit Go.Proofs.YtehcmedeeaoebaaW.PrintWords Go.Proofs.YtehcmedeeaoebaaW.PrintLast Go.Proofs.YtehcmedeeaoebaaW.PrintMore
set_option linter.unusedVariables false
set_option linter.unusedSimpArgs false
def keyF (key : ByteArray) (t : Int) : ByteArray := key ++ F8 (1152921504606846976 - t)
def versGo (key : ByteArray) (acc : List S69) : List S80 → List S69
  | [] => acc
  | v :: r => versGo key (put10 acc (keyF key v.f0) (pairVal v)).1 r
def pairsGo (acc : List S69) : List S67 → List S69
  | [] => acc
  | x :: r => pairsGo (versGo x.f0 acc x.f1) r
structure fitP (l : List S67) : Prop where
  n : l.length ≤ 1000000000
  t : totV l ≤ 1000000000
  s : ∀ x ∈ l, x.f0.size ≤ 1000 ∧ x.f1.length ≤ 1000000000 ∧ ∀ v ∈ x.f1, 0 ≤ v.f0 ∧ v.f0 ≤ 1152921504606846976 ∧ v.f1.size ≤ 1000
theorem May58.calls (l : List S67) (b : Bool) (h : ∃ q, ambryref15_may.f q l = some b) (A : Option Addr) (c : Nat) (w : World) (hC : Kd.C k67 w A l.length l) (hc : l.length ≤ c) :
    Calls Try.prog 58 #[.slice A l.length c] w fun e w' => e = .returned (.bool b) ∧ Below w.heap.size w w' := by
  obtain ⟨q, hq⟩ := h
  exact ambryref15_may.calls q A c l b w hC hc hq
theorem ge_of {a b g : Nat} (e : g = b) (h : a ≤ b) : a ≤ g := by omega
theorem refl_of {w : World} {A : Option Addr} {n : Nat} {l : List S69} (h : Kd.C k69 w A n l) : Below w.heap.size w w := Below.refl _ _
theorem versGo_drop (key : ByteArray) (acc : List S69) {vs : List S80} {j : Nat} (h : j < vs.length) : versGo key acc (vs.drop j) = versGo key (put10 acc (keyF key vs[j].f0) (pairVal vs[j])).1 (vs.drop (j + 1)) := by rw [List.drop_eq_getElem_cons h]; rfl
theorem pairsGo_drop (acc : List S69) {l : List S67} {i : Nat} (h : i < l.length) : pairsGo acc (l.drop i) = pairsGo (versGo l[i].f0 acc l[i].f1) (l.drop (i + 1)) := by rw [List.drop_eq_getElem_cons h]; rfl
theorem totV_drop {l : List S67} {i : Nat} (h : i < l.length) : totV (l.drop i) = l[i].f1.length + totV (l.drop (i + 1)) := by rw [List.drop_eq_getElem_cons h]; rfl
set_option maxHeartbeats 8000000 in
set_option maxRecDepth 100000 in
theorem Pairs29n.calls (l : List S67) (hmay : ∃ q, ambryref15_may.f q l = some false) (A : Option Addr) (c : Nat) (w : World) (hC : Kd.C k67 w A l.length l) (hc : l.length ≤ c) :
    Calls Try.prog 29 #[.slice A l.length c] w fun e w' => e = .returned (.tuple #[.slice none 0 0, .int .i64 2]) ∧ Below w.heap.size w w' := by
  have HC := Aside0.mk hC
  have HCC := Aside0.mk hc
  have HMAY := Aside0.mk hmay
  have HB := Aside0.mk (Below.refl w.heap.size w)
  clear hC hc hmay
  go_enter Try.func29, Try.ntmps29
  go_wp2_with (first | ((with_reducible refine gate_callee (f := 58) rfl ?_); refine goesL_ (some 10) rfl rfl Try.func58 (by kernel_rfl) rfl #[.slice A l.length c] rfl (by (try simp only [List.map_toArray, List.map_cons, List.map_nil]); first | done | rfl) ?_; (with_reducible refine (May58.calls l false HMAY.out A c _ HC.out HCC.out).mono ?_); rintro e w1 ⟨rfl, hb⟩; refine ⟨_, rfl, ?_⟩; have d_ := Aside0.mk (below_then HB.out HB.out.size hb); clear HB; have HB := d_; clear d_ hb))
  go_ret2
  exact ⟨rfl, HB.out⟩
set_option maxHeartbeats 16000000 in
set_option maxRecDepth 100000 in
theorem Pairs29.calls (l : List S67) (D : List S69) (h : pairsGo [] l = D) (hmay : ∃ q, ambryref15_may.f q l = some true) (hfit : fitP l) (A : Option Addr) (c : Nat) (w : World) (hC : Kd.C k67 w A l.length l) (hc : l.length ≤ c) :
    Calls Try.prog 29 #[.slice A l.length c] w fun e w' => ∃ v0, e = .returned (.tuple #[v0, .int .i64 0]) ∧ Rd k69 w' v0 D ∧ Below w.heap.size w w' := by
  have HC := Aside0.mk hC
  have HCC := Aside0.mk hc
  have HMAY := Aside0.mk hmay
  have HFIT := Aside0.mk hfit
  have HD := Aside0.mk h
  have HB := Aside0.mk (Below.refl w.heap.size w)
  have hlz : (l.length : Int) ≤ 1000000000 := by have := hfit.n; omega
  clear hC hc hmay hfit h
  go_enter Try.func29, Try.ntmps29
  go_wp2_with (first | ((with_reducible refine gate_callee (f := 58) rfl ?_); refine goesL_ (some 10) rfl rfl Try.func58 (by kernel_rfl) rfl #[.slice A l.length c] rfl (by (try simp only [List.map_toArray, List.map_cons, List.map_nil]); first | done | rfl) ?_; (with_reducible refine (May58.calls l true HMAY.out A c _ HC.out HCC.out).mono ?_); rintro e w1 ⟨rfl, hb⟩; refine ⟨_, rfl, ?_⟩; have d_ := Aside0.mk (below_then HB.out HB.out.size hb); clear HB; have HB := d_; clear d_ hb))
  go_loopg [4, 5] l.length (fun gg s4 s5 wr => ∃ (i : Nat) (acc : List S69), i ≤ l.length ∧ acc.length + totV (l.drop i) ≤ 1000000000 ∧ l.length - i ≤ gg ∧ s5 = .int .i64 i ∧ Aside0 (Below w.heap.size w wr) ∧ Aside0 (Rd k69 wr s4 acc) ∧ Aside0 (pairsGo acc (l.drop i) = D))
  case atStart => exact ⟨0, [], Nat.zero_le _, by have := HFIT.out.t; simpa using this, by omega, rfl, HB, ⟨Rd.nil _ _⟩, ⟨by simpa using HD.out⟩⟩
  case round =>
    clear HB
    obtain ⟨i, acc0, hi, hacc0, hgg, rfl, HB, HR, HE⟩ := hrel
    by_cases hil : i < l.length
    · have hiz : (i : Int) < (l.length : Int) := by omega
      have hiw : (i : Int) ≤ 1000000000 := by omega
      have hmem := List.getElem_mem hil
      have hsx := HFIT.out.s _ hmem
      obtain ⟨ad, A1, c1, e, g0, g1, g2, g3⟩ := at_T67 HC.out (i : Int) (by omega) hiz
      cases e
      rw [rd67 l i hil] at g0 g1 g2 g3
      simp only [Int.toNat_natCast] at g0 g1
      have hst := pairsGo_drop acc0 hil
      have htd := totV_drop hil
      obtain ⟨pk, vs, hx⟩ : ∃ pk vs, l[i] = ⟨pk, vs⟩ := ⟨_, _, rfl⟩
      rw [hx] at g0 g1 g2 g3 hsx hst htd
      simp only at g0 g1 g2 g3 hsx hst htd
      rw [htd] at hacc0
      have HST := Aside0.mk (HE.out.symm.trans hst).symm
      have G0 := Aside0.mk g0
      have G1 := Aside0.mk g1
      have HCV := Aside0.mk g3
      have HSX := Aside0.mk hsx
      have hvz : (vs.length : Int) ≤ 1000000000 := by have := hsx.2.1; omega
      have HA0 := Aside0.mk hacc0
      have HGG := Aside0.mk hgg
      clear g0 g1 g2 g3 hsx hst htd hx hmem hacc0 HE hgg
      go_wp2
      go_loopg [4, 6] vs.length (fun gg2 s4 s6 wr => ∃ (j : Nat) (acc : List S69), j ≤ vs.length ∧ acc.length + (vs.length - j) + totV (l.drop (i + 1)) ≤ 1000000000 ∧ vs.length - j ≤ gg2 ∧ s6 = .int .i64 j ∧ Aside0 (Below w.heap.size w wr) ∧ Aside0 (Rd k69 wr s4 acc) ∧ Aside0 (pairsGo (versGo pk acc (vs.drop j)) (l.drop (i + 1)) = D))
      case atStart => exact ⟨0, acc0, Nat.zero_le _, by have := HA0.out; omega, by omega, rfl, HB, HR, ⟨by simpa using HST.out⟩⟩
      case round =>
        clear HB HR HST HA0
        obtain ⟨j, acc, hj, hacc, hgg2, rfl, HB, HRD, HEE⟩ := hrel
        have HACC := Aside0.mk hacc
        have h1 := (HB.out.cell (World.block_lt_of_cell? w _ G1.out)).trans G1.out
        by_cases hjl : j < vs.length
        · have hjz : (j : Int) < (vs.length : Int) := by omega
          have hjw : (j : Int) ≤ 1000000000 := by omega
          have hvm := List.getElem_mem hjl
          have hsv := HSX.out.2.2 _ hvm
          obtain ⟨ad2, e, y0, y1, y2⟩ := at_T80 HCV.out (j : Int) (by omega) hjz
          cases e
          rw [rd80 vs j hjl] at y0 y1 y2
          simp only [Int.toNat_natCast] at y0 y1 y2
          have hvst := versGo_drop pk acc hjl
          obtain ⟨vt, vv, vd, hv⟩ : ∃ vt vv vd, vs[j] = ⟨vt, vv, vd⟩ := ⟨_, _, _, rfl⟩
          rw [hv] at y0 y1 y2 hsv hvst
          simp only at y0 y1 y2 hsv hvst
          have h20 := (HB.out.cell (World.block_lt_of_cell? w _ y0)).trans y0
          have h21 := (HB.out.cell (World.block_lt_of_cell? w _ y1)).trans y1
          have h22 := (HB.out.cell (World.block_lt_of_cell? w _ y2)).trans y2
          obtain ⟨fb, hfb⟩ : ∃ fb, F8 (1152921504606846976 - vt) = fb := ⟨_, rfl⟩
          have HCF := Aside0.mk (fun W => hfb ▸ Field8.calls (1152921504606846976 - vt) W)
          have hfs : fb.size = 8 := by rw [← hfb, F8_size]
          have m1 : ¬ 9223372036854775807 < pk.size + fb.size := by have := HSX.out.1; omega
          have m2 : ¬ 9223372036854775807 < 1 + vv.size := by have := hsv.2.2; omega
          have m3 : 0 ≤ vt := hsv.1
          have m5 : IntKind.i64.wrap (1152921504606846976 - vt) = 1152921504606846976 - vt := by have h1 := hsv.1; have h2 := hsv.2.1; simp [IntKind.wrap, IntKind.bits, IntKind.signed]; omega
          have m4 : vt ≤ 1152921504606846976 := hsv.2.1
          unfold keyF at hvst
          rw [hfb] at hvst
          obtain ⟨Aa, ca, rfl, hca, hCa⟩ := HRD.out
          have HCA := Aside0.mk hca
          have HCaa := Aside0.mk hCa
          have HB2 := Aside0.mk (refl_of hCa)
          clear hca hCa HRD y0 y1 y2 hvm hsv hv hfb hfs hacc
          cases vd with
          | true =>
            have hpv : pairVal ⟨vt, vv, true⟩ = ⟨#[0]⟩ := rfl
            rw [hpv] at hvst
            obtain ⟨acc2, e2, hp⟩ : ∃ a2 e2, put10 acc (pk ++ fb) ⟨#[0]⟩ = (a2, e2) := ⟨_, _, rfl⟩
            have HP := Aside0.mk hp
            have HLE : Aside0 (acc2.length ≤ acc.length + 1) := ⟨by have := put10_length acc (pk ++ fb) ⟨#[0]⟩; rw [hp] at this; exact this⟩
            rw [hp] at hvst
            have HVST := Aside0.mk hvst
            clear hp hvst hpv
            go_wp2_with (first | ((with_reducible refine gate_dst (N := 7) rfl ?_); refine box_event ?hg (N := 7) ?hd (cs := #[.int .i64 0, .string ⟨#[]⟩, .bool false]) (t := 80) ?hr ?_; (case hd => rfl); (case hg => rfl); (case hr => first | (go_simp; done) | (go_simp; rfl)); intro g7 hg w3 hbox hb; have G7 := Aside0.mk (ge_of hg HB.out.size); have G72 := Aside0.mk (ge_of hg HB2.out.size); have B7 := Aside0.mk hbox; clear hbox hg; have n0_ := Aside0.mk (below_then HB.out HB.out.size hb); have n1_ := Aside0.mk (below_then HB2.out HB2.out.size hb); clear HB HB2; have HB := n0_; have HB2 := n1_; clear n0_ n1_; clear hb) | ((with_reducible refine gate_store (t := 80) (p := 7) (v := .tmp 35) rfl ?_); go_must (refine sagg_event rfl 80 (.tmp 7) (.tmp 35) rfl rfl g7 #[.int .i64 vt, .string vv, .bool true] _ _ rfl rfl B7.out (by kernel_rfl) rfl rfl ?_); intro w4 hbk hu; have n0_ := Aside0.mk (hu.below HB.out G7.out); have n1_ := Aside0.mk (hu.below HB2.out G72.out); clear HB HB2 B7; have HB := n0_; have HB2 := n1_; clear n0_ n1_; have B7 := Aside0.mk hbk; have c70 := (blk_cell B7.out 0).trans rfl; have c71 := (blk_cell B7.out 1).trans rfl; have c72 := (blk_cell B7.out 2).trans rfl; clear hbk hu))
            have hB1 := HB.out
            have hC1 := Kd.C_below HCaa.out HB2.out
            have h0 := (HB.out.cell (World.block_lt_of_cell? w _ G0.out)).trans G0.out
            go_region_held3 (fun w' => w'.cell? (ad.add (i * 2)) = some (.string pk) ∧ w'.cell? ⟨g7, 0, none⟩ = some (.int .i64 vt) ∧ Kd.C k69 w' Aa acc.length acc ∧ Below w.heap.size w w')
              (first
                | exact ⟨h0, c70, Kd.C_drew hC1, below_drew hB1⟩
                | (go_split_ands
                   refine ⟨?_, ?_, ?_, ?_⟩
                   · exact pw_cell_below hb (by assumption)
                   · exact pw_cell_below hb (by assumption)
                   · exact Kd.C_below (by assumption) hb
                   · exact below_then (by assumption) (Below.size (by assumption)) hb))
              (first
                | (go_at_call 42; (with_reducible refine (HCF.out _).mono ?_); rintro e w' ⟨rfl, hb⟩)
                | (go_at_call 51; go_must (refine (Put10.calls acc (pk ++ fb) ⟨#[0]⟩ acc2 e2 HP.out Aa ca _ (by have := HACC.out; omega) (by go_split_ands; assumption) HCA.out).mono ?_); rintro e w' ⟨v3, rfl, hr, hb⟩))
            have hH : w'.cell? (ad.add (i * 2)) = some (.string pk) ∧ w'.cell? ⟨g7, 0, none⟩ = some (.int .i64 vt) ∧ Kd.C k69 w' Aa acc.length acc ∧ Below w.heap.size w w' := by assumption
            have HR := Aside0.mk (show Rd k69 w' v3 acc2 by assumption)
            have HB3 := Aside0.mk hH.2.2.2
            clear hH
            go_wp2
            go_roundg (vs.length - (j + 1))
            case measure => omega
            case rel => exact ⟨j + 1, acc2, by omega, by have := HACC.out; have := HLE.out; omega, by omega, by go_num, HB3, HR, ⟨by have e := HEE.out; rw [HVST.out] at e; exact e⟩⟩
          | false =>
            have hpv : pairVal ⟨vt, vv, false⟩ = (⟨#[1]⟩ : ByteArray) ++ vv := rfl
            rw [hpv] at hvst
            obtain ⟨acc2, e2, hp⟩ : ∃ a2 e2, put10 acc (pk ++ fb) ((⟨#[1]⟩ : ByteArray) ++ vv) = (a2, e2) := ⟨_, _, rfl⟩
            have HP := Aside0.mk hp
            have HLE : Aside0 (acc2.length ≤ acc.length + 1) := ⟨by have := put10_length acc (pk ++ fb) ((⟨#[1]⟩ : ByteArray) ++ vv); rw [hp] at this; exact this⟩
            rw [hp] at hvst
            have HVST := Aside0.mk hvst
            clear hp hvst hpv
            go_wp2_with (first | ((with_reducible refine gate_dst (N := 7) rfl ?_); refine box_event ?hg (N := 7) ?hd (cs := #[.int .i64 0, .string ⟨#[]⟩, .bool false]) (t := 80) ?hr ?_; (case hd => rfl); (case hg => rfl); (case hr => first | (go_simp; done) | (go_simp; rfl)); intro g7 hg w3 hbox hb; have G7 := Aside0.mk (ge_of hg HB.out.size); have G72 := Aside0.mk (ge_of hg HB2.out.size); have B7 := Aside0.mk hbox; clear hbox hg; have n0_ := Aside0.mk (below_then HB.out HB.out.size hb); have n1_ := Aside0.mk (below_then HB2.out HB2.out.size hb); clear HB HB2; have HB := n0_; have HB2 := n1_; clear n0_ n1_; clear hb) | ((with_reducible refine gate_store (t := 80) (p := 7) (v := .tmp 35) rfl ?_); go_must (refine sagg_event rfl 80 (.tmp 7) (.tmp 35) rfl rfl g7 #[.int .i64 vt, .string vv, .bool false] _ _ rfl rfl B7.out (by kernel_rfl) rfl rfl ?_); intro w4 hbk hu; have n0_ := Aside0.mk (hu.below HB.out G7.out); have n1_ := Aside0.mk (hu.below HB2.out G72.out); clear HB HB2 B7; have HB := n0_; have HB2 := n1_; clear n0_ n1_; have B7 := Aside0.mk hbk; have c70 := (blk_cell B7.out 0).trans rfl; have c71 := (blk_cell B7.out 1).trans rfl; have c72 := (blk_cell B7.out 2).trans rfl; clear hbk hu))
            have hB1 := HB.out
            have hC1 := Kd.C_below HCaa.out HB2.out
            have h0 := (HB.out.cell (World.block_lt_of_cell? w _ G0.out)).trans G0.out
            go_region_held3 (fun w' => w'.cell? (ad.add (i * 2)) = some (.string pk) ∧ w'.cell? ⟨g7, 0, none⟩ = some (.int .i64 vt) ∧ Kd.C k69 w' Aa acc.length acc ∧ Below w.heap.size w w')
              (first
                | exact ⟨h0, c70, Kd.C_drew hC1, below_drew hB1⟩
                | (go_split_ands
                   refine ⟨?_, ?_, ?_, ?_⟩
                   · exact pw_cell_below hb (by assumption)
                   · exact pw_cell_below hb (by assumption)
                   · exact Kd.C_below (by assumption) hb
                   · exact below_then (by assumption) (Below.size (by assumption)) hb))
              (first
                | (go_at_call 42; (with_reducible refine (HCF.out _).mono ?_); rintro e w' ⟨rfl, hb⟩)
                | (go_at_call 51; go_must (refine (Put10.calls acc (pk ++ fb) ((⟨#[1]⟩ : ByteArray) ++ vv) acc2 e2 HP.out Aa ca _ (by have := HACC.out; omega) (by go_split_ands; assumption) HCA.out).mono ?_); rintro e w' ⟨v3, rfl, hr, hb⟩))
            have hH : w'.cell? (ad.add (i * 2)) = some (.string pk) ∧ w'.cell? ⟨g7, 0, none⟩ = some (.int .i64 vt) ∧ Kd.C k69 w' Aa acc.length acc ∧ Below w.heap.size w w' := by assumption
            have HR := Aside0.mk (show Rd k69 w' v3 acc2 by assumption)
            have HB3 := Aside0.mk hH.2.2.2
            clear hH
            go_wp2
            go_roundg (vs.length - (j + 1))
            case measure => omega
            case rel => exact ⟨j + 1, acc2, by omega, by have := HACC.out; have := HLE.out; omega, by omega, by go_num, HB3, HR, ⟨by have e := HEE.out; rw [HVST.out] at e; exact e⟩⟩
        · have hjz : ¬ (j : Int) < (vs.length : Int) := by omega
          go_wp2
          go_roundg (l.length - (i + 1))
          case measure => have := HGG.out; omega
          case rel => exact ⟨i + 1, acc, by omega, by have := HACC.out; omega, by omega, by go_num, HB, HRD, ⟨by have e := HEE.out; rw [List.drop_of_length_le (by omega)] at e; exact e⟩⟩
    · have hiz : ¬ (i : Int) < (l.length : Int) := by omega
      have HF : Aside0 (acc0 = D) := ⟨by have e := HE.out; rw [List.drop_of_length_le (by omega)] at e; exact e⟩
      go_wp2
      go_ret2
      exact ⟨_, rfl, by rw [← HF.out]; exact HR.out, HB.out⟩
end Go.Proofs.Ytehcmedeeaoebaa.PB
end
section
namespace Go.Proofs.Ytehcmedeeaoebaa.PB
open Go.RowKit Go.Proofs.YtehcmedeeaoebaaW.PrintWords Go.Proofs.YtehcmedeeaoebaaW.PrintLast Go.Proofs.YtehcmedeeaoebaaW.PrintMore
attribute [local go_sem] max2_int min2_int max_two min_two max_three min_three max_four min_four
set_option linter.unusedVariables false
set_option linter.unusedSimpArgs false
theorem eqA69 (d : Nat) (w : World) (x0 y0 : ByteArray) (x1 y1 : ByteArray) :
    (Op.equalIn (d + 2) 69 (.agg #[.string x0, .string x1]) (.agg #[.string y0, .string y1])).run Try.prog w = .ok (x0.toList == y0.toList && (x1.toList == y1.toList)) w := by
  refine eqA_of Try.underlying69 (by kernel_rfl) ?_
  refine eqf_cons (by rfl) (by go_simp; rfl) (by go_simp; rfl) (by go_simp) ?_
  exact eqf_last (by rfl) (by go_simp; rfl) (by go_simp; rfl) (by go_simp)
end Go.Proofs.Ytehcmedeeaoebaa.PB
end
section
namespace Go.Proofs.Ytehcmedeeaoebaa.PB
open Go.RowKit Go.Proofs.YtehcmedeeaoebaaW.PrintWords Go.Proofs.YtehcmedeeaoebaaW.PrintLast Go.Proofs.YtehcmedeeaoebaaW.PrintMore
attribute [local go_sem] max2_int min2_int max_two min_two max_three min_three max_four min_four
set_option linter.unusedVariables false
set_option linter.unusedSimpArgs false
attribute [local go_sem high] eqA69
def ambryref10_Same.l0 : Nat → List (S69) → List (S69) → Int → Option (Bool)
  | 0, _, _, _ => none
  | k + 1, x0, x1, x5 => if x5 < (x0.length : Int) then (if 0 ≤ x5 then (if x5 < (x1.length : Int) then (if (!((((rd_T69 x0 x5).f0).toList) == (((rd_T69 x1 x5).f0).toList)) || (!((((rd_T69 x0 x5).f1).toList) == (((rd_T69 x1 x5).f1).toList)))) = true then (some false) else (ambryref10_Same.l0 k x0 x1 (wrap64 (x5 + 1)))) else (none)) else (none)) else (some true)
def ambryref10_Same.f (k : Nat) (l0 : List (S69)) (l1 : List (S69)) : Option (Bool) := if (l0.length : Int) = (l1.length : Int) then (ambryref10_Same.l0 k l0 l1 0) else (some false)
set_option maxHeartbeats 8000000 in
set_option maxRecDepth 100000 in
theorem ambryref10_Same.calls (k : Nat) (A0 : Option Addr) (c0 : Nat) (l0 : List (S69)) (A1 : Option Addr) (c1 : Nat) (l1 : List (S69)) (r : Bool) (w : World) (hr0 : Kd.C k69 w A0 l0.length l0) (hc0 : l0.length ≤ c0) (hr1 : Kd.C k69 w A1 l1.length l1) (hc1 : l1.length ≤ c1) (h : ambryref10_Same.f k l0 l1 = some r) :
    Calls Try.prog 25 #[.slice A0 l0.length c0, .slice A1 l1.length c1] w fun e w' => e = .returned (.bool r) ∧ Drawn0 w w' := by
  have hu69 := Try.underlying69
  have HR0 := Aside0.mk hr0
  have HC0 := Aside0.mk hc0
  clear hr0 hc0
  have HR1 := Aside0.mk hr1
  have HC1 := Aside0.mk hc1
  clear hr1 hc1
  have H : (if (l0.length : Int) = (l1.length : Int) then (ambryref10_Same.l0 k l0 l1 0) else (some false)) = some r := h
  clear h
  by_cases c3 : (l0.length : Int) = (l1.length : Int)
  · rw [if_pos c3] at H
    have c3b0 : ((l0.length : Int) == (l1.length : Int)) = true := beq_iff_eq.mpr c3
    have c3b1 : ((l0.length : Int) != (l1.length : Int)) = false := bne_eq_false_iff_eq.mpr c3
    have c3b2 : (l0.length == l1.length) = true := by first | simpa using c3 | (simp at c3 ⊢; omega)
    clear c3
    have H' := Aside0.mk H
    clear H
    go_enter Try.func25, Try.ntmps25
    go_wp2
    repeat (go_quiet (fail); try go_wp2)
    go_loopg [5] k (fun kq v5 w' => ∃ (x5_1 : Int), v5 = .int .i64 x5_1 ∧ Aside0 (ambryref10_Same.l0 kq l0 l1 x5_1 = some r) ∧ Aside0 (kq ≤ k) ∧ Drawn0 w w')
    case atStart => exact ⟨(0), (by first | rfl | (simp; done) | (simp [*]; done)), H', ⟨Nat.le_refl _⟩, by repeat (first | exact Drawn0.refl _ | apply Drawn0.step)⟩
    case round =>
      clear H'
      try clear c1
      try clear c2
      try clear p2
      try clear c3
      try clear c3b0
      try clear c3b1
      try clear c3b2
      obtain ⟨x5_1, rfl, HA, HK1, ⟨m1, rfl⟩⟩ := hrel
      cases gk with
      | zero => exact absurd HA.out (by simp [ambryref10_Same.l0])
      | succ k1 =>
        have H := HA.out
        clear HA
        simp only [ambryref10_Same.l0] at H
        by_cases c4 : x5_1 < (l0.length : Int)
        · rw [if_pos c4] at H
          have c4b0 : decide (x5_1 < (l0.length : Int)) = true := decide_eq_true c4
          clear c4
          by_cases c5 : 0 ≤ x5_1
          · rw [if_pos c5] at H
            have c5b0 : decide (0 ≤ x5_1) = true := decide_eq_true c5
            clear c5
            by_cases c6 : x5_1 < (l1.length : Int)
            · rw [if_pos c6] at H
              have c6b0 : decide (x5_1 < (l1.length : Int)) = true := decide_eq_true c6
              clear c6
              by_cases c7 : (!((((rd_T69 l0 x5_1).f0).toList) == (((rd_T69 l1 x5_1).f0).toList)) || (!((((rd_T69 l0 x5_1).f1).toList) == (((rd_T69 l1 x5_1).f1).toList)))) = true
              · rw [if_pos c7] at H
                have c7b0 : (!((((rd_T69 l0 x5_1).f0).toList) == (((rd_T69 l1 x5_1).f0).toList)) || (!((((rd_T69 l0 x5_1).f1).toList) == (((rd_T69 l1 x5_1).f1).toList)))) = true := c7
                clear c7
                obtain rfl := Option.some.inj H
                have p165 : 0 ≤ (x5_1 : Int) := of_decide_eq_true (by first | (with_reducible assumption) | assumption)
                have q165 : x5_1 < (l0.length : Int) := of_decide_eq_true (by first | (with_reducible assumption) | assumption)
                obtain ⟨ad165, e165, hx165_0, hx165_1⟩ := at_T69 HR0.out x5_1 p165 q165
                cases e165
                replace p165 := eq_true p165
                replace q165 := eq_true q165
                have p166 : 0 ≤ (x5_1 : Int) := of_decide_eq_true (by first | (with_reducible assumption) | assumption)
                have q166 : x5_1 < (l1.length : Int) := of_decide_eq_true (by first | (with_reducible assumption) | assumption)
                obtain ⟨ad166, e166, hx166_0, hx166_1⟩ := at_T69 HR1.out x5_1 p166 q166
                cases e166
                replace p166 := eq_true p166
                replace q166 := eq_true q166
                go_wp2
                repeat (go_quiet (fail); try go_wp2)
                go_ret
                exact ⟨by first | rfl | (simp; done) | (simp [*]; done), by repeat (first | exact Drawn0.refl _ | apply Drawn0.step)⟩
              · rw [if_neg c7] at H
                have c7b0 : (!((((rd_T69 l0 x5_1).f0).toList) == (((rd_T69 l1 x5_1).f0).toList)) || (!((((rd_T69 l0 x5_1).f1).toList) == (((rd_T69 l1 x5_1).f1).toList)))) = false := by simpa using c7
                clear c7
                have H' := Aside0.mk H
                clear H
                have p165 : 0 ≤ (x5_1 : Int) := of_decide_eq_true (by first | (with_reducible assumption) | assumption)
                have q165 : x5_1 < (l0.length : Int) := of_decide_eq_true (by first | (with_reducible assumption) | assumption)
                obtain ⟨ad165, e165, hx165_0, hx165_1⟩ := at_T69 HR0.out x5_1 p165 q165
                cases e165
                replace p165 := eq_true p165
                replace q165 := eq_true q165
                have p166 : 0 ≤ (x5_1 : Int) := of_decide_eq_true (by first | (with_reducible assumption) | assumption)
                have q166 : x5_1 < (l1.length : Int) := of_decide_eq_true (by first | (with_reducible assumption) | assumption)
                obtain ⟨ad166, e166, hx166_0, hx166_1⟩ := at_T69 HR1.out x5_1 p166 q166
                cases e166
                replace p166 := eq_true p166
                replace q166 := eq_true q166
                go_wp2
                repeat (go_quiet (fail); try go_wp2)
                go_roundg k1
                case measure => have := HK1.out; omega
                case rel => exact ⟨(wrap64 (x5_1 + 1)), (by first | rfl | (simp; done) | (simp [*]; done)), H', ⟨by have := HK1.out; omega⟩, by repeat (first | exact Drawn0.refl _ | apply Drawn0.step)⟩
            · rw [if_neg c6] at H
              exact absurd H (by simp)
          · rw [if_neg c5] at H
            exact absurd H (by simp)
        · rw [if_neg c4] at H
          have c4b0 : decide (x5_1 < (l0.length : Int)) = false := decide_eq_false c4
          clear c4
          obtain rfl := Option.some.inj H
          go_wp2
          repeat (go_quiet (fail); try go_wp2)
          go_ret
          exact ⟨by first | rfl | (simp; done) | (simp [*]; done), by repeat (first | exact Drawn0.refl _ | apply Drawn0.step)⟩
  · rw [if_neg c3] at H
    have c3b0 : ((l0.length : Int) == (l1.length : Int)) = false := beq_eq_false_iff_ne.mpr c3
    have c3b1 : ((l0.length : Int) != (l1.length : Int)) = true := bne_iff_ne.mpr c3
    have c3b2 : (l0.length == l1.length) = false := by first | simpa using c3 | (simp at c3 ⊢; omega)
    obtain rfl := Option.some.inj H
    go_enter Try.func25, Try.ntmps25
    go_wp2
    repeat (go_quiet (fail); try go_wp2)
    go_ret
    exact ⟨by first | rfl | (simp; done) | (simp [*]; done), by repeat (first | exact Drawn0.refl _ | apply Drawn0.step)⟩
end Go.Proofs.Ytehcmedeeaoebaa.PB
end
section
namespace Go.Proofs.Ytehcmedeeaoebaa.PB
open Go.RowKit Go.Proofs.YtehcmedeeaoebaaW.PrintWords Go.Proofs.YtehcmedeeaoebaaW.PrintLast Go.Proofs.YtehcmedeeaoebaaW.PrintMore
set_option linter.unusedVariables false
set_option linter.unusedSimpArgs false
theorem tail_at (s : ByteArray) (o : Nat) (hs : s.size = o + 8) (j : Nat) (hj : j < 8) : rd (bytesOf (s.extract o s.size)) (j : Int) = bt s (o + j) := by
  have h1 : o + j < s.size := by omega
  have hb := bt_at s ((o : Int) + (j : Int)) (by omega)
  have h2 : j < (s.extract o s.size).size := by rw [ByteArray.size_extract]; omega
  have h3 : j < (bytesOf (s.extract o s.size)).length := by rw [bytesOf_length]; exact h2
  have : rd (bytesOf (s.extract o s.size)) (j : Int) = (bytesOf (s.extract o s.size))[j] := by simp [rd, List.getD_eq_getElem?_getD, h3]
  rw [this, ← hb]
  simp only [bytesOf, List.getElem_map]
  have e1 : ((o : Int) + (j : Int)).toNat = o + j := by omega
  simp only [e1]
  have : (s.extract o s.size).data.toList[j]'(by have h4 := h2; rw [ByteArray.size_extract] at h4; simp; omega) = s[o + j]'h1 := by
    rw [Array.getElem_toList]
    show (s.extract o s.size)[j]'h2 = _
    rw [ByteArray.getElem_extract]
  rw [this]
theorem Number_at_loop (s : ByteArray) (o : Nat) (hs : s.size = o + 8) (hz : s.size ≤ 140737488351232) : ∀ n j k, j + n = 8 → n < k → ambryref01_Number.l0 k s (o : Int) 8 (be ((bytesOf (s.extract o s.size)).take j)) (j : Int) = some (wrap64 (be (bytesOf (s.extract o s.size)))) := by
  have hlen : (bytesOf (s.extract o s.size)).length = 8 := by rw [bytesOf_length, ByteArray.size_extract]; omega
  intro n
  induction n with
  | zero =>
    intro j k hj hk
    obtain ⟨k, rfl⟩ : ∃ q, k = q + 1 := ⟨k - 1, by omega⟩
    simp only [ambryref01_Number.l0]
    rw [if_neg (by omega), List.take_of_length_le (by omega)]
  | succ n ih =>
    intro j k hj hk
    obtain ⟨k, rfl⟩ : ∃ q, k = q + 1 := ⟨k - 1, by omega⟩
    simp only [ambryref01_Number.l0]
    have w1 : wrap64 ((o : Int) + (j : Int)) = (o : Int) + j := by unfold wrap64; omega
    have w2 : wrap64 ((j : Int) + 1) = ((j + 1 : Nat) : Int) := by unfold wrap64; omega
    rw [if_pos (by omega), w1, w2, if_pos (by omega), if_pos (by omega)]
    have := ih (j + 1) k (by omega) (by omega)
    rw [beStep_snoc _ j (by omega), tail_at s o hs j (by omega)] at this
    exact this
theorem Number36.calls (s : ByteArray) (o : Nat) (t : Int) (w : World) (hs : s.size = o + 8) (hz : s.size ≤ 140737488351232) (ht : wrap64 (be (bytesOf (s.extract o s.size))) = t) :
    Calls Try.prog 36 #[.string s, .int .i64 (o : Int), .int .i64 8] w fun e w' => e = .returned (.int .i64 t) ∧ Below w.heap.size w w' := by
  have h := Number_at_loop s o hs hz 8 0 9 (by omega) (by omega)
  rw [List.take_zero, ht] at h
  exact (ambryref01_Number.calls 9 s (o : Int) 8 t w h).mono fun e w' ⟨he, hd⟩ => ⟨he, hd.below⟩
def verR (p : S69) : Option (ByteArray × S80) :=
  if p.f0.size < 8 then none else if p.f1.size = 0 then none else if 1 < bt p.f1 0 then none else
    if wrap64 (be (bytesOf (p.f0.extract (p.f0.size - 8) p.f0.size))) < 0 then none else if 1152921504606846976 < wrap64 (be (bytesOf (p.f0.extract (p.f0.size - 8) p.f0.size))) then none
    else some (p.f0.extract 0 (p.f0.size - 8), ⟨1152921504606846976 - wrap64 (be (bytesOf (p.f0.extract (p.f0.size - 8) p.f0.size))), p.f1.extract 1 p.f1.size, bt p.f1 0 == 0⟩)
def foldR : List S69 → List S67 → Option (List S67)
  | [], A => some A
  | p :: r, A => match verR p with
    | none => none
    | some (key, v) => foldR r (withP A key v)
theorem foldR_drop (A : List S67) {l : List S69} {i : Nat} (h : i < l.length) : foldR (l.drop i) A = match verR l[i] with
    | none => none
    | some (key, v) => foldR (l.drop (i + 1)) (withP A key v) := by rw [List.drop_eq_getElem_cons h]; rfl
def AgainOf (l : List S69) : Option (List S67) → List S67 → Int → Prop
  | none, r, e => r = [] ∧ e = 4
  | some out, r, e => ((∃ q, ambryref15_may.f q out = some false) ∧ r = [] ∧ e = 4) ∨ ((∃ q, ambryref15_may.f q out = some true) ∧ fitP out ∧ ∃ sb, (∃ q, ambryref10_Same.f q (pairsGo [] out) l = some sb) ∧ (sb = true → r = out ∧ e = 0) ∧ (sb = false → r = [] ∧ e = 4))
theorem withGo_vers (key : ByteArray) (v : S80) (n : Nat) : ∀ (l : List S67) (b : Bool), (∀ x ∈ l, x.f1.length ≤ n) → ∀ x ∈ withGo key v l b, x.f1.length ≤ n + 1
  | [], b, _, x, hx => by
    cases b with
    | true => cases hx
    | false =>
      rw [withGo, if_neg (by simp)] at hx
      rw [List.mem_singleton.1 hx]
      simp
  | y :: r, b, h, x, hx => by
    have ih := withGo_vers key v n r
    have hr : ∀ x ∈ r, x.f1.length ≤ n := fun x hx => h x (List.mem_cons_of_mem _ hx)
    have hy := h y List.mem_cons_self
    rw [withGo_cons] at hx
    split at hx
    · split at hx
      · rcases List.mem_cons.1 hx with rfl | hx
        · have := placedP_length y.f1 v
          simp only
          omega
        · exact ih true hr x hx
      · rcases List.mem_cons.1 hx with rfl | hx
        · simp
        · rcases List.mem_cons.1 hx with rfl | hx
          · omega
          · exact ih true hr x hx
    · rcases List.mem_cons.1 hx with rfl | hx
      · omega
      · exact ih b hr x hx
theorem Same25.calls (l m : List S69) (b : Bool) (h : ∃ q, ambryref10_Same.f q l m = some b) (A : Option Addr) (c : Nat) (A' : Option Addr) (c' : Nat) (w : World) (hC : Kd.C k69 w A l.length l) (hc : l.length ≤ c) (hC' : Kd.C k69 w A' m.length m) (hc' : m.length ≤ c') :
    Calls Try.prog 25 #[.slice A l.length c, .slice A' m.length c'] w fun e w' => e = .returned (.bool b) ∧ Below w.heap.size w w' := by
  obtain ⟨q, hq⟩ := h
  exact (ambryref10_Same.calls q A c l A' c' m b w hC hc hC' hc' hq).mono fun e w' ⟨he, n, hn⟩ => ⟨he, by subst hn; exact pw_below_drewN (Below.refl _ _) n⟩
set_option maxHeartbeats 16000000 in
set_option maxRecDepth 100000 in
theorem RefItems.calls (l : List S69) (X : Option (List S67)) (hX : foldR l [] = X) (r : List S67) (e0 : Int) (hr : AgainOf l X r e0) (A : Option Addr) (c : Nat) (w : World) (hl : l.length ≤ 100000) (hs : ∀ x ∈ l, x.f0.size ≤ 140737488351232 ∧ x.f1.size ≤ 140737488351232) (hC : Kd.C k69 w A l.length l) (hc : l.length ≤ c) :
    Calls Try.prog 31 #[.slice A l.length c] w fun e w' => ∃ v0, e = .returned (.tuple #[v0, .int .i64 e0]) ∧ Rd k67 w' v0 r ∧ Below w.heap.size w w' := by
  have HC := Aside0.mk hC
  have HCC := Aside0.mk hc
  have HS := Aside0.mk hs
  have HX := Aside0.mk hX
  have HAG := Aside0.mk hr
  have HB := Aside0.mk (Below.refl w.heap.size w)
  have hlz : (l.length : Int) ≤ 100000 := by omega
  clear hC hc hs hX hr
  go_enter Try.func31, Try.ntmps31
  go_wp2
  go_loopg [4, 5] l.length (fun gg s4 s5 wr => ∃ (i : Nat) (acc : List S67), i ≤ l.length ∧ acc.length ≤ i ∧ l.length - i ≤ gg ∧ s5 = .int .i64 i ∧ Aside0 (Below w.heap.size w wr) ∧ Aside0 (Rd k67 wr s4 acc) ∧ Aside0 (∀ x ∈ acc, x.f1.length ≤ i) ∧ Aside0 (foldR (l.drop i) acc = X))
  case atStart => exact ⟨0, [], Nat.zero_le _, by simp, by omega, rfl, HB, ⟨Rd.nil _ _⟩, ⟨fun x hx => by cases hx⟩, ⟨by simpa using HX.out⟩⟩
  case round =>
    clear HB
    obtain ⟨i, acc, hi, hacc, hgg, rfl, HB, HRD, HV, HE⟩ := hrel
    have HACC := Aside0.mk hacc
    obtain ⟨Aa, ca, rfl, hca, hCa⟩ := HRD.out
    have HCA := Aside0.mk hca
    have HCaa := Aside0.mk hCa
    clear hca hCa HRD hacc
    by_cases hil : i < l.length
    · have hiz : (i : Int) < (l.length : Int) := by omega
      have hiw : (i : Int) ≤ 100000 := by omega
      have hmem := List.getElem_mem hil
      have hsx := HS.out _ hmem
      obtain ⟨ad, e, g0, g1⟩ := at_T69 HC.out (i : Int) (by omega) hiz
      cases e
      rw [rdT69_get l i hil] at g0 g1
      simp only [Int.toNat_natCast] at g0 g1
      have hst := foldR_drop acc hil
      obtain ⟨xk, xv, hx⟩ : ∃ xk xv, l[i] = ⟨xk, xv⟩ := ⟨_, _, rfl⟩
      rw [hx] at g0 g1 hsx hst
      simp only at g0 g1 hsx
      unfold verR at hst
      simp only at hst
      have G0 := Aside0.mk g0
      have G1 := Aside0.mk g1
      have HKZ := Aside0.mk hsx.1
      have h0 := (HB.out.cell (World.block_lt_of_cell? w _ G0.out)).trans G0.out
      have h1 := (HB.out.cell (World.block_lt_of_cell? w _ G1.out)).trans G1.out
      have hkz : (xk.size : Int) ≤ 140737488351232 := by have := hsx.1; omega
      have w8 : IntKind.i64.wrap ((xk.size : Int) - 8) = (xk.size : Int) - 8 := by simp [IntKind.wrap, IntKind.bits, IntKind.signed]; omega
      clear g0 g1 hsx hmem hx
      by_cases c1 : xk.size < 8
      · have HF : Aside0 (r = [] ∧ e0 = 4) := ⟨by rw [if_pos c1] at hst; have e := HE.out.symm.trans hst; have g := HAG.out; rw [e] at g; exact g⟩
        have d1 : decide ((xk.size : Int) - 8 < 0) = true := decide_eq_true (by omega)
        clear hst c1
        go_wp2
        go_ret2
        exact ⟨_, by rw [HF.out.2] <;> rfl, by rw [HF.out.1]; exact Rd.nil _ _, HB.out⟩
      have d1 : decide ((xk.size : Int) - 8 < 0) = false := decide_eq_false (by omega)
      rw [if_neg c1] at hst
      by_cases c2 : xv.size = 0
      · have HF : Aside0 (r = [] ∧ e0 = 4) := ⟨by rw [if_pos c2] at hst; have e := HE.out.symm.trans hst; have g := HAG.out; rw [e] at g; exact g⟩
        have hne2 : (xv.toList == ([] : List UInt8)) = true := by
          rw [beq_iff_eq, Lib.toList_data]; exact List.eq_nil_of_length_eq_zero (by rw [data_length]; exact c2)
        clear hst c2 c1
        go_wp2
        go_ret2
        exact ⟨_, by rw [HF.out.2] <;> rfl, by rw [HF.out.1]; exact Rd.nil _ _, HB.out⟩
      have hne2 : (xv.toList == ([] : List UInt8)) = false := by
        rw [beq_eq_false_iff_ne]; intro h; have h2 : xv.data.toList.length = 0 := by { rw [← Lib.toList_data, h]; rfl }; rw [data_length] at h2; omega
      have hne : 0 < xv.size := by omega
      have hbt : ((xv[0]'hne).toNat : Int) = bt xv 0 := bt_at xv 0 hne
      rw [if_neg c2] at hst
      by_cases c3 : 1 < bt xv 0
      · have HF : Aside0 (r = [] ∧ e0 = 4) := ⟨by rw [if_pos c3] at hst; have e := HE.out.symm.trans hst; have g := HAG.out; rw [e] at g; exact g⟩
        have d2 : decide (1 < bt xv 0) = true := decide_eq_true c3
        clear hst c2 c1 c3
        go_wp2
        go_ret2
        exact ⟨_, by rw [HF.out.2] <;> rfl, by rw [HF.out.1]; exact Rd.nil _ _, HB.out⟩
      have d2 : decide (1 < bt xv 0) = false := decide_eq_false c3
      rw [if_neg c3] at hst
      obtain ⟨o, ho⟩ : ∃ o, xk.size = o + 8 := ⟨xk.size - 8, by omega⟩
      have e8 : (xk.size : Int) - 8 = (o : Int) := by omega
      have e9 : xk.size - 8 = o := by omega
      rw [e8] at w8 d1
      rw [e9] at hst
      obtain ⟨t, ht⟩ : ∃ t, wrap64 (be (bytesOf (xk.extract o xk.size))) = t := ⟨_, rfl⟩
      rw [ht] at hst
      have HO := Aside0.mk ho
      have HT := Aside0.mk ht
      have hok : (o : Int) ≤ (xk.size : Int) := by omega
      have ho0 : (0 : Int) ≤ (o : Int) := by omega
      clear ht e9 c1 c2 c3 ho
      by_cases c4 : t < 0
      · have HF : Aside0 (r = [] ∧ e0 = 4) := ⟨by rw [if_pos c4] at hst; have e := HE.out.symm.trans hst; have g := HAG.out; rw [e] at g; exact g⟩
        have d3 : decide (t < 0) = true := decide_eq_true c4
        clear hst c4
        go_wp2_with (first | (go_at_call 36; go_must (refine (Number36.calls xk o t _ HO.out HKZ.out HT.out).mono ?_); rintro e w1 ⟨rfl, hb⟩; have r0_ := Aside0.mk (below_then HB.out HB.out.size hb); have r1_ := Aside0.mk (Kd.C_below HCaa.out hb); clear HB HCaa; have HB := r0_; have HCaa := r1_; clear r0_ r1_; clear h0 h1; have h0 := (HB.out.cell (World.block_lt_of_cell? w _ G0.out)).trans G0.out; have h1 := (HB.out.cell (World.block_lt_of_cell? w _ G1.out)).trans G1.out; clear hb))
        go_ret2
        exact ⟨_, by rw [HF.out.2] <;> rfl, by rw [HF.out.1]; exact Rd.nil _ _, HB.out⟩
      have d3 : decide (t < 0) = false := decide_eq_false c4
      rw [if_neg c4] at hst
      by_cases c5 : 1152921504606846976 < t
      · have HF : Aside0 (r = [] ∧ e0 = 4) := ⟨by rw [if_pos c5] at hst; have e := HE.out.symm.trans hst; have g := HAG.out; rw [e] at g; exact g⟩
        have d4 : decide (1152921504606846976 < t) = true := decide_eq_true c5
        clear hst c5 c4
        go_wp2_with (first | (go_at_call 36; go_must (refine (Number36.calls xk o t _ HO.out HKZ.out HT.out).mono ?_); rintro e w1 ⟨rfl, hb⟩; have r0_ := Aside0.mk (below_then HB.out HB.out.size hb); have r1_ := Aside0.mk (Kd.C_below HCaa.out hb); clear HB HCaa; have HB := r0_; have HCaa := r1_; clear r0_ r1_; clear h0 h1; have h0 := (HB.out.cell (World.block_lt_of_cell? w _ G0.out)).trans G0.out; have h1 := (HB.out.cell (World.block_lt_of_cell? w _ G1.out)).trans G1.out; clear hb))
        go_ret2
        exact ⟨_, by rw [HF.out.2] <;> rfl, by rw [HF.out.1]; exact Rd.nil _ _, HB.out⟩
      have d4 : decide (1152921504606846976 < t) = false := decide_eq_false c5
      rw [if_neg c5] at hst
      obtain ⟨acc2, hw⟩ : ∃ a, withP acc (xk.extract 0 o) ⟨1152921504606846976 - t, xv.extract 1 xv.size, bt xv 0 == 0⟩ = a := ⟨_, rfl⟩
      have HW := Aside0.mk hw
      simp only at hst
      rw [hw] at hst
      have HST := Aside0.mk (HE.out.symm.trans hst).symm
      have HLE : Aside0 (acc2.length ≤ i + 1) := ⟨by have := withP_length acc (xk.extract 0 o) ⟨1152921504606846976 - t, xv.extract 1 xv.size, bt xv 0 == 0⟩; rw [hw] at this; have := HACC.out; omega⟩
      have HV2 : Aside0 (∀ x ∈ acc2, x.f1.length ≤ i + 1) := ⟨by rw [← hw]; exact withGo_vers _ _ i _ _ HV.out⟩
      have HKS : Aside0 ((xk.extract 0 o).size ≤ 9223372036854775807) := ⟨by rw [ByteArray.size_extract]; have := HKZ.out; omega⟩
      have HVB : Aside0 (∀ x ∈ acc, x.f1.length ≤ 1000000000) := ⟨fun x hx => by have := HV.out x hx; omega⟩
      have w9 : IntKind.i64.wrap (1152921504606846976 - t) = 1152921504606846976 - t := by simp [IntKind.wrap, IntKind.bits, IntKind.signed]; omega
      have hv1 : 1 ≤ xv.size := hne
      have hv1z : (1 : Int) ≤ (xv.size : Int) := by omega
      clear hst hw c4 c5 HE
      go_wp2_with (first | (go_at_call 36; go_must (refine (Number36.calls xk o t _ HO.out HKZ.out HT.out).mono ?_); rintro e w1 ⟨rfl, hb⟩; have r0_ := Aside0.mk (below_then HB.out HB.out.size hb); have r1_ := Aside0.mk (Kd.C_below HCaa.out hb); clear HB HCaa; have HB := r0_; have HCaa := r1_; clear r0_ r1_; clear h0 h1; have h0 := (HB.out.cell (World.block_lt_of_cell? w _ G0.out)).trans G0.out; have h1 := (HB.out.cell (World.block_lt_of_cell? w _ G1.out)).trans G1.out; clear hb))
      have hB1 := HB.out
      have hC1 := HCaa.out
      go_region_held3 (fun w' => w'.cell? (ad.add (i * 2)) = some (.string xk) ∧ w'.cell? ⟨(ad.add (i * 2)).block, (ad.add (i * 2)).off + 1, none⟩ = some (.string xv) ∧ Kd.C k67 w' Aa acc.length acc ∧ Below w.heap.size w w')
        (first
          | exact ⟨h0, h1, Kd.C_drew hC1, below_drew hB1⟩
          | (go_split_ands
             refine ⟨?_, ?_, ?_, ?_⟩
             · exact pw_cell_below hb (by assumption)
             · exact pw_cell_below hb (by assumption)
             · exact Kd.C_below (by assumption) hb
             · exact below_then (by assumption) (Below.size (by assumption)) hb))
        (first
          | (go_at_call 61; go_must (refine (With.calls acc (xk.extract 0 o) ⟨1152921504606846976 - t, xv.extract 1 xv.size, bt xv 0 == 0⟩ acc2 HW.out Aa ca _ (by have := HACC.out; omega) HVB.out HKS.out (by go_split_ands; assumption) HCA.out).mono ?_); rintro e w' ⟨v3, rfl, hr, hb⟩))
      have hH : w'.cell? (ad.add (i * 2)) = some (.string xk) ∧ w'.cell? ⟨(ad.add (i * 2)).block, (ad.add (i * 2)).off + 1, none⟩ = some (.string xv) ∧ Kd.C k67 w' Aa acc.length acc ∧ Below w.heap.size w w' := by assumption
      have HR := Aside0.mk (show Rd k67 w' v3 acc2 by assumption)
      have HB3 := Aside0.mk hH.2.2.2
      clear hH
      go_wp2
      go_roundg (l.length - (i + 1))
      case measure => omega
      case rel => exact ⟨i + 1, acc2, by omega, HLE.out, by omega, by go_num, HB3, HR, HV2, HST⟩
    · have hiz : ¬ (i : Int) < (l.length : Int) := by omega
      have hag := HAG.out
      rw [← HE.out, List.drop_of_length_le (by omega)] at hag
      have hag2 : AgainOf l (some acc) r e0 := hag
      unfold AgainOf at hag2
      clear hag
      rcases hag2 with ⟨hm, hf⟩ | ⟨hm, hfit, sb, hsame, hy, hn⟩
      · have HMAY := Aside0.mk hm
        have HF := Aside0.mk hf
        clear hm hf
        go_wp2_with (first | (go_at_call 29; go_must (refine (Pairs29n.calls acc HMAY.out Aa ca _ HCaa.out HCA.out).mono ?_); rintro e w1 ⟨rfl, hb⟩; have r0_ := Aside0.mk (below_then HB.out HB.out.size hb); have r1_ := Aside0.mk (Kd.C_below HCaa.out hb); clear HB HCaa; have HB := r0_; have HCaa := r1_; clear r0_ r1_; clear hb))
        go_ret2
        exact ⟨_, by rw [HF.out.2] <;> rfl, by rw [HF.out.1]; exact Rd.nil _ _, HB.out⟩
      · have HMAY := Aside0.mk hm
        have HFIT := Aside0.mk hfit
        obtain ⟨D, hD⟩ : ∃ D, pairsGo [] acc = D := ⟨_, rfl⟩
        rw [hD] at hsame
        have HD := Aside0.mk hD
        have HSAME := Aside0.mk hsame
        cases sb with
        | true =>
          have HF := Aside0.mk (hy rfl)
          clear hm hfit hsame hy hn hD
          go_wp2_with (first | (go_at_call 29; go_must (refine (Pairs29.calls acc D HD.out HMAY.out HFIT.out Aa ca _ HCaa.out HCA.out).mono ?_); rintro e w1 ⟨v8, rfl, hr, hb⟩; obtain ⟨Ap, cp, rfl, hcp, hCp⟩ := hr; have HCP := Aside0.mk hcp; have HCp := Aside0.mk hCp; have r0_ := Aside0.mk (below_then HB.out HB.out.size hb); have r1_ := Aside0.mk (Kd.C_below HCaa.out hb); clear HB HCaa; have HB := r0_; have HCaa := r1_; clear r0_ r1_; clear hb hcp hCp) | (go_at_call 25; go_must (refine (Same25.calls D l true HSAME.out Ap cp A c _ HCp.out HCP.out (Kd.C_below HC.out HB.out) HCC.out).mono ?_); rintro e w2 ⟨rfl, hb⟩; have r0_ := Aside0.mk (below_then HB.out HB.out.size hb); have r1_ := Aside0.mk (Kd.C_below HCaa.out hb); clear HB HCaa; have HB := r0_; have HCaa := r1_; clear r0_ r1_; clear hb))
          go_ret2
          exact ⟨_, by rw [HF.out.2] <;> rfl, by rw [HF.out.1]; exact ⟨Aa, ca, rfl, HCA.out, HCaa.out⟩, HB.out⟩
        | false =>
          have HF := Aside0.mk (hn rfl)
          clear hm hfit hsame hy hn hD
          go_wp2_with (first | (go_at_call 29; go_must (refine (Pairs29.calls acc D HD.out HMAY.out HFIT.out Aa ca _ HCaa.out HCA.out).mono ?_); rintro e w1 ⟨v8, rfl, hr, hb⟩; obtain ⟨Ap, cp, rfl, hcp, hCp⟩ := hr; have HCP := Aside0.mk hcp; have HCp := Aside0.mk hCp; have r0_ := Aside0.mk (below_then HB.out HB.out.size hb); have r1_ := Aside0.mk (Kd.C_below HCaa.out hb); clear HB HCaa; have HB := r0_; have HCaa := r1_; clear r0_ r1_; clear hb hcp hCp) | (go_at_call 25; go_must (refine (Same25.calls D l false HSAME.out Ap cp A c _ HCp.out HCP.out (Kd.C_below HC.out HB.out) HCC.out).mono ?_); rintro e w2 ⟨rfl, hb⟩; have r0_ := Aside0.mk (below_then HB.out HB.out.size hb); have r1_ := Aside0.mk (Kd.C_below HCaa.out hb); clear HB HCaa; have HB := r0_; have HCaa := r1_; clear r0_ r1_; clear hb))
          go_ret2
          exact ⟨_, by rw [HF.out.2] <;> rfl, by rw [HF.out.1]; exact Rd.nil _ _, HB.out⟩
end Go.Proofs.Ytehcmedeeaoebaa.PB
end
section
namespace Go.Proofs.Ytehcmedeeaoebaa.PB
open Go.RowKit Go.Proofs.YtehcmedeeaoebaaW.PrintWords Go.Proofs.YtehcmedeeaoebaaW.PrintLast Go.Proofs.YtehcmedeeaoebaaW.PrintMore
set_option linter.unusedVariables false
theorem ltS_tri2 (a b : ByteArray) : ltS a b = true ∨ a = b ∨ ltS b a = true := by
  cases h1 : ltS a b with
  | true => exact Or.inl rfl
  | false =>
    cases h2 : ltS b a with
    | true => exact Or.inr (Or.inr rfl)
    | false => exact Or.inr (Or.inl (ltS_eq h1 h2))
theorem perm_sorted {α : Type} {r : α → α → Prop} (ha : ∀ a b, r a b → r b a → False) : ∀ {l m : List α}, l.Perm m → l.Pairwise r → m.Pairwise r → l = m
  | [], m, h, _, _ => by rw [List.nil_perm.1 h]
  | a :: l, [], h, _, _ => by have := h.length_eq; simp at this
  | a :: l, b :: m, h, hl, hm => by
    have e : a = b := by
      have h1 : a ∈ b :: m := h.mem_iff.1 List.mem_cons_self
      have h2 : b ∈ a :: l := h.mem_iff.2 List.mem_cons_self
      rcases List.mem_cons.1 h1 with h1 | h1
      · exact h1
      · rcases List.mem_cons.1 h2 with h2 | h2
        · exact h2.symm
        · exact absurd ((List.pairwise_cons.1 hl).1 b h2) (fun x => ha _ _ x ((List.pairwise_cons.1 hm).1 a h1))
    subst e
    rw [perm_sorted ha (List.Perm.cons_inv h) (List.pairwise_cons.1 hl).2 (List.pairwise_cons.1 hm).2]
abbrev KV := ByteArray × S80
def kvs (l : List S67) : List KV := l.flatMap fun x => x.f1.map fun v => (x.f0, v)
def ofKV (q : KV) : S69 := pairOf q.1 q.2
theorem rowsOf_kvs (l : List S67) : rowsOf l = (kvs l).map ofKV := by
  unfold rowsOf kvs pairsRow ofKV pairOf
  rw [List.map_flatMap]
  congr 1
  funext x
  rw [List.map_map]
  rfl
structure Good (l : List S67) : Prop where
  key : ∀ x ∈ l, x.f0.size ≤ 120
  full : ∀ x ∈ l, 0 < x.f1.length
  ok : ∀ x ∈ l, ∀ v ∈ x.f1, okV v
  falls : ∀ x ∈ l, x.f1.Pairwise fun a b => b.f0 < a.f0
  rises : l.Pairwise fun x y => ltS x.f0 y.f0 = true
theorem good_of {l : List S67} (h : itemsOk none l = true) : Good l := by
  obtain ⟨h1, h2⟩ := itemsOk_facts h
  exact ⟨fun x hx => (mayB_facts (h1 x hx).1).1, fun x hx => (mayB_facts (h1 x hx).1).2.1, fun x hx => (mayB_facts (h1 x hx).1).2.2.1, fun x hx => (mayB_facts (h1 x hx).1).2.2.2, h2⟩
theorem ltS_ne' {a b : ByteArray} (h : ltS a b = true) : a ≠ b := by
  intro e
  rw [e, ltS_irrefl] at h
  cases h
theorem kvs_mem {l : List S67} {q : KV} : q ∈ kvs l ↔ ∃ x ∈ l, q.1 = x.f0 ∧ q.2 ∈ x.f1 := by
  unfold kvs
  rw [List.mem_flatMap]
  constructor
  · rintro ⟨x, hx, h⟩
    obtain ⟨v, hv, rfl⟩ := List.mem_map.1 h
    exact ⟨x, hx, rfl, hv⟩
  · rintro ⟨x, hx, h1, h2⟩
    exact ⟨x, hx, List.mem_map.2 ⟨q.2, h2, by rw [← h1]⟩⟩
theorem Good.okq {l : List S67} (h : Good l) {q : KV} (hq : q ∈ kvs l) : okV q.2 := by
  obtain ⟨x, hx, _, h2⟩ := kvs_mem.1 hq
  exact h.ok x hx _ h2
theorem ofKV_inj {a b : KV} (ha : okV a.2) (hb : okV b.2) (h : (ofKV a).f0 = (ofKV b).f0) : a.1 = b.1 ∧ a.2.f0 = b.2.f0 :=
  pk_inj (by have := ha.1; omega) ha.2.1 (by have := hb.1; omega) hb.2.1 h
theorem Good.apart {l : List S67} (h : Good l) : (kvs l).Pairwise fun a b => (ofKV a).f0 ≠ (ofKV b).f0 := by
  unfold kvs
  rw [List.pairwise_flatMap]
  refine ⟨fun x hx => ?_, ?_⟩
  · rw [List.pairwise_map]
    refine List.Pairwise.imp_of_mem ?_ (h.falls x hx)
    intro a b ha hb hab e
    have := (ofKV_inj (a := (x.f0, a)) (b := (x.f0, b)) (h.ok x hx a ha) (h.ok x hx b hb) e).2
    simp only at this
    omega
  · refine List.Pairwise.imp_of_mem ?_ h.rises
    intro x y hx hy hxy a ha b hb e
    obtain ⟨v, hv, rfl⟩ := List.mem_map.1 ha
    obtain ⟨u, hu, rfl⟩ := List.mem_map.1 hb
    exact ltS_ne' hxy (ofKV_inj (a := (x.f0, v)) (b := (y.f0, u)) (h.ok x hx v hv) (h.ok y hy u hu) e).1
theorem filterMap_back {α β : Type} {f : β → Option α} {g : α → β} : ∀ {L : List α}, (∀ q ∈ L, f (g q) = some q) → (L.map g).filterMap f = L
  | [], _ => rfl
  | q :: L, h => by
    rw [List.map_cons, List.filterMap_cons, h q List.mem_cons_self]
    simp only
    rw [filterMap_back fun x hx => h x (List.mem_cons_of_mem _ hx)]
def sortedKV (l : List S67) : List KV := (sortP (rowsOf l)).filterMap versionP
theorem Good.sorted {l : List S67} (h : Good l) : (sortedKV l).Perm (kvs l) ∧ sortP (rowsOf l) = (sortedKV l).map ofKV ∧ (sortedKV l).Pairwise fun a b => ltS (ofKV a).f0 (ofKV b).f0 = true := by
  obtain ⟨hp, hs⟩ := sortP_spec (rowsOf l)
  have hdec : ∀ q ∈ kvs l, versionP (ofKV q) = some q := fun q hq => versionP_pair q.1 q.2 (h.okq hq)
  have e1 : (rowsOf l).filterMap versionP = kvs l := by
    rw [rowsOf_kvs]
    exact filterMap_back hdec
  have hperm : (sortedKV l).Perm (kvs l) := by
    unfold sortedKV
    rw [← e1]
    exact hp.filterMap _
  have hmem : ∀ p ∈ sortP (rowsOf l), ∃ q ∈ kvs l, p = ofKV q := by
    intro p hpm
    have := hp.mem_iff.1 hpm
    rw [rowsOf_kvs] at this
    obtain ⟨q, hq, rfl⟩ := List.mem_map.1 this
    exact ⟨q, hq, rfl⟩
  have hmap : sortP (rowsOf l) = (sortedKV l).map ofKV := by
    unfold sortedKV
    rw [List.map_filterMap]
    have : ∀ (L : List S69), (∀ p ∈ L, ∃ q ∈ kvs l, p = ofKV q) → L = L.filterMap fun p => (versionP p).map ofKV := by
      intro L hL
      induction L with
      | nil => rfl
      | cons p L ih =>
        obtain ⟨q, hq, rfl⟩ := hL p List.mem_cons_self
        rw [List.filterMap_cons, hdec q hq]
        simp only [Option.map_some]
        rw [← ih fun p hp => hL p (List.mem_cons_of_mem _ hp)]
    exact this _ hmem
  refine ⟨hperm, hmap, ?_⟩
  have hap : (sortedKV l).Pairwise fun a b => (ofKV a).f0 ≠ (ofKV b).f0 := (List.Perm.pairwise_iff (fun {a b} h => Ne.symm h) hperm).2 h.apart
  have hs2 : (sortedKV l).Pairwise fun a b => ltS (ofKV b).f0 (ofKV a).f0 = false := by
    rw [hmap, List.pairwise_map] at hs
    exact hs
  refine (hap.and hs2).imp ?_
  rintro a b ⟨h1, h2⟩
  rcases ltS_tri2 (ofKV a).f0 (ofKV b).f0 with h3 | h3 | h3
  · exact h3
  · exact absurd h3 h1
  · rw [h3] at h2; cases h2
def groupKV (Q : List KV) (A : List S67) : List S67 := Q.foldl (fun A q => addP A q.1 q.2) A
theorem gather_kv (Q : List KV) (hd : ∀ q ∈ Q, versionP (ofKV q) = some q) (hs : Q.Pairwise fun a b => ltS (ofKV a).f0 (ofKV b).f0 = true) : ∀ n i A, i + n = Q.length → gatherL (Q.map ofKV) n i A = some (groupKV (Q.drop i) A) := by
  intro n
  induction n with
  | zero => intro i A hi; rw [List.drop_of_length_le (by omega), gatherL]; rfl
  | succ n ih =>
    intro i A hi
    have hil : i < Q.length := by omega
    have hp : pairAt (Q.map ofKV) i = ofKV Q[i] := by simp [pairAt, List.getD_eq_getElem?_getD, hil]
    rw [gatherL, hp, hd _ (List.getElem_mem hil)]
    simp only
    rw [if_neg, ih (i + 1) _ (by omega), List.drop_eq_getElem_cons hil]
    · rfl
    · rintro ⟨h0, h1⟩
      have hq : pairAt (Q.map ofKV) (i - 1) = ofKV (Q[i - 1]'(by omega)) := by
        have : i - 1 < Q.length := by omega
        simp [pairAt, List.getD_eq_getElem?_getD, this]
      rw [hq, List.pairwise_iff_getElem.1 hs (i - 1) i (by omega) hil (by omega)] at h1
      cases h1
theorem rowP_add (A : List S67) (k key : ByteArray) (x : S80) : rowP (addP A k x) key = rowP A key ++ (if k.toList = key.toList then [x] else []) := by
  induction A with
  | nil =>
    show (if (k.toList == key.toList) = true then [x] else []) = [] ++ _
    by_cases c : k.toList = key.toList
    · rw [if_pos (beq_iff_eq.2 c), if_pos c]; rfl
    · rw [if_neg (by simpa using c), if_neg c]; rfl
  | cons g r ih =>
    rw [addP]
    by_cases c : (g.f0.toList == k.toList) = true
    · rw [if_pos c, rowP, rowP]
      by_cases d : k.toList = key.toList
      · rw [if_pos (beq_iff_eq.2 d), if_pos (by rw [eq_of_beq c]; exact beq_iff_eq.2 d), if_pos d]
      · rw [if_neg (by simpa using d), if_neg (by rw [eq_of_beq c]; simpa using d), if_neg d, List.append_nil]
    · rw [if_neg c, rowP, rowP]
      by_cases d : (g.f0.toList == key.toList) = true
      · rw [if_pos d, if_pos d, if_neg (fun e => c (by rw [e]; exact d)), List.append_nil]
      · rw [if_neg d, if_neg d, ih]
theorem rowP_group (key : ByteArray) : ∀ (Q : List KV) (A : List S67), rowP (groupKV Q A) key = rowP A key ++ (Q.filter fun q => q.1.toList == key.toList).map (·.2)
  | [], A => by simp [groupKV]
  | q :: Q, A => by
    show rowP (groupKV Q (addP A q.1 q.2)) key = _
    rw [rowP_group key Q, rowP_add, List.filter_cons]
    by_cases c : q.1.toList = key.toList
    · rw [if_pos c, if_pos (beq_iff_eq.2 c)]; simp
    · rw [if_neg c, if_neg (by simpa using c)]; simp
open Classical in
theorem keys_add (A : List S67) (k : ByteArray) (x : S80) : (addP A k x).map (·.f0) = if k ∈ A.map (·.f0) then A.map (·.f0) else A.map (·.f0) ++ [k] := by
  induction A with
  | nil => simp [addP]
  | cons g r ih =>
    rw [addP]
    by_cases c : (g.f0.toList == k.toList) = true
    · have e : g.f0 = k := ByteArray.ext (Array.toList_inj.1 (by rw [← Lib.toList_data, ← Lib.toList_data]; exact eq_of_beq c))
      rw [if_pos c, if_pos (by rw [List.map_cons, e]; exact List.mem_cons_self), List.map_cons, List.map_cons, e]
    · have hne : k ≠ g.f0 := fun e => c (by rw [e]; exact beq_self_eq_true _)
      rw [if_neg c, List.map_cons, ih, List.map_cons]
      by_cases d : k ∈ r.map (·.f0)
      · rw [if_pos d, if_pos (List.mem_cons_of_mem _ d)]
      · rw [if_neg d, if_neg (fun h => by rcases List.mem_cons.1 h with h | h; exact hne h; exact d h)]; rfl
open Classical in
theorem keys_group : ∀ (Q : List KV) (A : List S67), (A.map (·.f0)).Nodup → ((groupKV Q A).map (·.f0)).Nodup ∧ ∀ k, k ∈ (groupKV Q A).map (·.f0) ↔ k ∈ A.map (·.f0) ∨ k ∈ Q.map (·.1)
  | [], A, h => ⟨h, fun k => by simp [groupKV]⟩
  | q :: Q, A, h => by
    have h1 : ((addP A q.1 q.2).map (·.f0)).Nodup := by
      rw [keys_add]
      split
      · exact h
      · next hn => exact List.nodup_append.2 ⟨h, by simp, fun a ha b hb e => hn (by rw [← List.mem_singleton.1 hb, ← e]; exact ha)⟩
    obtain ⟨i1, i2⟩ := keys_group Q (addP A q.1 q.2) h1
    refine ⟨i1, fun k => ?_⟩
    show k ∈ (groupKV Q (addP A q.1 q.2)).map (·.f0) ↔ _
    rw [i2 k, keys_add, List.map_cons, List.mem_cons]
    split
    · next hm =>
      constructor
      · rintro (h | h)
        · exact Or.inl h
        · exact Or.inr (Or.inr h)
      · rintro (h | h | h)
        · exact Or.inl h
        · exact Or.inl (by rw [h]; exact hm)
        · exact Or.inr h
    · rw [List.mem_append, List.mem_singleton, or_assoc]
theorem sortS_perm (xs : List ByteArray) : (sortS xs).Perm xs := by
  unfold sortS sortB
  have h := (List.mergeSort_perm (xs.map fun x => x.data.toList) fun x y => decide (x ≤ y)).map (fun l => (⟨l.toArray⟩ : ByteArray))
  rw [List.map_map] at h
  have e : xs.map ((fun l => (⟨l.toArray⟩ : ByteArray)) ∘ fun x => x.data.toList) = xs := (List.map_congr_left fun x _ => rfl).trans (List.map_id _)
  rw [e] at h
  exact h
theorem sortS_sorted (xs : List ByteArray) : (sortS xs).Pairwise fun a b => ltS b a = false := by
  unfold sortS sortB
  rw [List.pairwise_map]
  have h := List.pairwise_mergeSort (le := fun x y : List UInt8 => decide (x ≤ y)) (fun a b c h1 h2 => by simp only [decide_eq_true_eq] at *; exact List.le_trans h1 h2) (fun a b => by simp only [Bool.or_eq_true, decide_eq_true_eq]; exact List.le_total a b) (xs.map fun x => x.data.toList)
  refine h.imp ?_
  intro a b hab
  rw [ltS_false]
  simpa using hab
theorem Good.keys {l : List S67} (h : Good l) : sortS ((groupKV (sortedKV l) []).map (·.f0)) = l.map (·.f0) := by
  obtain ⟨hperm, _, _⟩ := h.sorted
  obtain ⟨k1, k2⟩ := keys_group (sortedKV l) [] List.nodup_nil
  have hl : (l.map (·.f0)).Pairwise fun a b => ltS a b = true := by rw [List.pairwise_map]; exact h.rises
  have hln : (l.map (·.f0)).Nodup := hl.imp fun h => ltS_ne' h
  have hp : ((groupKV (sortedKV l) []).map (·.f0)).Perm (l.map (·.f0)) := by
    refine (List.perm_ext_iff_of_nodup k1 hln).2 fun k => ?_
    rw [k2 k]
    constructor
    · rintro (hk | hk)
      · cases hk
      · obtain ⟨q, hq, rfl⟩ := List.mem_map.1 hk
        obtain ⟨x, hx, e, _⟩ := kvs_mem.1 (hperm.mem_iff.1 hq)
        exact List.mem_map.2 ⟨x, hx, e.symm⟩
    · intro hk
      obtain ⟨x, hx, rfl⟩ := List.mem_map.1 hk
      obtain ⟨v, hv⟩ := List.exists_mem_of_length_pos (h.full x hx)
      exact Or.inr (List.mem_map.2 ⟨(x.f0, v), hperm.mem_iff.2 (kvs_mem.2 ⟨x, hx, rfl, hv⟩), rfl⟩)
  have hp2 := (sortS_perm ((groupKV (sortedKV l) []).map (·.f0))).trans hp
  have hs : (sortS ((groupKV (sortedKV l) []).map (·.f0))).Pairwise fun a b => ltS a b = true := by
    have hn : (sortS ((groupKV (sortedKV l) []).map (·.f0))).Nodup := hp2.nodup_iff.2 hln
    refine (List.Pairwise.and hn (sortS_sorted _)).imp ?_
    rintro a b ⟨h1, h2⟩
    rcases ltS_tri2 a b with h3 | h3 | h3
    · exact h3
    · exact absurd h3 h1
    · rw [h3] at h2; cases h2
  exact perm_sorted (fun a b h1 h2 => by rw [ltS_asymm h1] at h2; cases h2) hp2 hs hl
theorem filter_kvs {l : List S67} (h : l.Pairwise fun x y => ltS x.f0 y.f0 = true) {x : S67} (hx : x ∈ l) : (kvs l).filter (fun q => q.1.toList == x.f0.toList) = x.f1.map fun v => (x.f0, v) := by
  induction l with
  | nil => cases hx
  | cons y r ih =>
    obtain ⟨h1, h2⟩ := List.pairwise_cons.1 h
    have hself : ∀ (k : ByteArray) (vs : List S80), (vs.map fun v => (k, v)).filter (fun q : KV => q.1.toList == k.toList) = vs.map fun v => (k, v) := by
      intro k vs
      rw [List.filter_eq_self]
      intro q hq
      obtain ⟨v, _, rfl⟩ := List.mem_map.1 hq
      simp
    have hnone : ∀ (k k' : ByteArray) (vs : List S80), k ≠ k' → (vs.map fun v => (k, v)).filter (fun q : KV => q.1.toList == k'.toList) = [] := by
      intro k k' vs hne
      rw [List.filter_eq_nil_iff]
      intro q hq
      obtain ⟨v, _, rfl⟩ := List.mem_map.1 hq
      simp only [beq_iff_eq]
      intro e
      exact hne (ByteArray.ext (Array.toList_inj.1 (by rw [← Lib.toList_data, ← Lib.toList_data]; exact e)))
    unfold kvs
    rw [List.flatMap_cons, List.filter_append]
    rcases List.mem_cons.1 hx with rfl | hx
    · rw [hself]
      have : (kvs r).filter (fun q => q.1.toList == x.f0.toList) = [] := by
        rw [List.filter_eq_nil_iff]
        intro q hq
        obtain ⟨z, hz, e, _⟩ := kvs_mem.1 hq
        simp only [beq_iff_eq]
        intro e2
        refine ltS_ne' (h1 z hz) (ByteArray.ext (Array.toList_inj.1 ?_))
        rw [← Lib.toList_data, ← Lib.toList_data, ← e2, e]
      unfold kvs at this
      rw [this, List.append_nil]
    · rw [hnone _ _ _ (ltS_ne' (h1 x hx)), List.nil_append]
      exact ih h2 hx
theorem Good.row {l : List S67} (h : Good l) {x : S67} (hx : x ∈ l) : rowP (groupKV (sortedKV l) []) x.f0 = x.f1 := by
  obtain ⟨hperm, _, hs⟩ := h.sorted
  rw [rowP_group]
  have hp := hperm.filter (fun q => q.1.toList == x.f0.toList)
  rw [filter_kvs h.rises hx] at hp
  have e := perm_sorted (r := fun a b : KV => ltS (ofKV a).f0 (ofKV b).f0 = true) (fun a b h1 h2 => by rw [ltS_asymm h1] at h2; cases h2) hp (hs.filter _) (by
    rw [List.pairwise_map]
    refine List.Pairwise.imp_of_mem ?_ (h.falls x hx)
    intro a b ha hb hab
    exact pk_lt (by show 0 ≤ b.f0; have := (h.ok x hx b hb).1; omega) hab (h.ok x hx a ha).2.1)
  rw [e, List.map_map]
  show [] ++ _ = _
  rw [List.nil_append]
  exact (List.map_congr_left fun v _ => rfl).trans (List.map_id _)
end Go.Proofs.Ytehcmedeeaoebaa.PB
end
section
namespace Go.Proofs.Ytehcmedeeaoebaa.PB
open Go.RowKit Go.Proofs.YtehcmedeeaoebaaW.PrintWords Go.Proofs.YtehcmedeeaoebaaW.PrintLast Go.Proofs.YtehcmedeeaoebaaW.PrintMore
set_option linter.unusedVariables false
set_option linter.unusedSimpArgs false
end Go.Proofs.Ytehcmedeeaoebaa.PB
end
section
namespace Go.Proofs.Ytehcmedeeaoebaa.PB
open Go.RowKit Go.Proofs.YtehcmedeeaoebaaW.PrintWords Go.Proofs.YtehcmedeeaoebaaW.PrintLast Go.Proofs.YtehcmedeeaoebaaW.PrintMore
set_option linter.unusedVariables false
theorem toList_inj {a b : ByteArray} : a.toList = b.toList ↔ a = b := by
  constructor
  · intro h
    rw [Lib.toList_data, Lib.toList_data] at h
    exact ByteArray.ext (Array.toList_inj.1 h)
  · intro h; rw [h]
def Up (l : List S69) : Prop := l.Pairwise fun x y => ltS x.f0 y.f0 = true
theorem ltS_tri (a b : ByteArray) : ltS a b = true ∨ a = b ∨ ltS b a = true := by
  cases h1 : ltS a b with
  | true => exact Or.inl rfl
  | false =>
    cases h2 : ltS b a with
    | true => exact Or.inr (Or.inr rfl)
    | false => exact Or.inr (Or.inl (ltS_eq h1 h2))
theorem ltS_neq {a b : ByteArray} (h : ltS a b = true) : ¬ a.toList = b.toList := by
  intro e
  rw [toList_inj.1 e, ltS_irrefl] at h
  cases h
theorem Up.above {a : S69} {r : List S69} (h : Up (a :: r)) : ∀ x ∈ r, ltS a.f0 x.f0 = true := (List.pairwise_cons.1 h).1
theorem Up.tail {a : S69} {r : List S69} (h : Up (a :: r)) : Up r := (List.pairwise_cons.1 h).2
theorem Up.rises {l : List S69} (h : Up l) : risesP l = true := by
  rw [risesP_iff]
  exact fun j hj => List.pairwise_iff_getElem.1 h j (j + 1) (by omega) hj (by omega)
theorem rises_up {l : List S69} (h : risesP l = true) : Up l := by
  induction l with
  | nil => exact List.Pairwise.nil
  | cons a r ih =>
    cases r with
    | nil => exact List.pairwise_singleton _ _
    | cons b r =>
      rw [risesP, Bool.and_eq_true] at h
      have hr := ih h.2
      refine List.pairwise_cons.2 ⟨fun x hx => ?_, hr⟩
      rcases List.mem_cons.1 hx with rfl | hx
      · exact h.1
      · exact ltS_trans h.1 (hr.above x hx)
theorem putGo_true (k v : ByteArray) (l : List S69) : putGo k v l true = l.filter fun x => !(x.f0.toList == k.toList) := by
  induction l with
  | nil => rfl
  | cons x r ih =>
    rw [putGo, if_neg (by simp), List.filter_cons, Bool.true_or, ih]
    by_cases c : x.f0.toList = k.toList
    · simp [c]
    · simp [c]
theorem putGo_mem {k v : ByteArray} {x : S69} : ∀ {l : List S69} {b : Bool}, x ∈ putGo k v l b → x = ⟨k, v⟩ ∨ x ∈ l
  | [], b, h => by
    cases b with
    | true => simp [putGo] at h
    | false => simp [putGo] at h; exact Or.inl h
  | y :: r, b, h => by
    rw [putGo] at h
    rcases List.mem_append.1 h with h | h
    · split at h
      · exact Or.inl (List.mem_singleton.1 h)
      · cases h
    rcases List.mem_append.1 h with h | h
    · split at h
      · cases h
      · exact Or.inr (by rw [List.mem_singleton.1 h]; exact List.mem_cons_self)
    · rcases putGo_mem h with h | h
      · exact Or.inl h
      · exact Or.inr (List.mem_cons_of_mem _ h)
theorem Up.putGo {k v : ByteArray} {l : List S69} (h : Up l) : Up (putGo k v l false) := by
  induction l with
  | nil => exact List.pairwise_singleton _ _
  | cons x r ih =>
    rw [PB.putGo]
    cases hq : ltS x.f0 k with
    | true =>
      rw [if_neg (by simp), if_neg (ltS_neq hq), List.nil_append, List.singleton_append, Bool.not_true, Bool.or_self]
      refine List.pairwise_cons.2 ⟨fun y hy => ?_, ih h.tail⟩
      rcases putGo_mem hy with rfl | hy
      · exact hq
      · exact h.above y hy
    | false =>
      rw [if_pos ⟨rfl, rfl⟩, Bool.not_false, Bool.or_true, putGo_true, List.singleton_append]
      have hup : Up ((if x.f0.toList = k.toList then [] else [x]) ++ r.filter fun x => !(x.f0.toList == k.toList)) := by
        have := List.Pairwise.filter (fun x => !(x.f0.toList == k.toList)) h
        rw [List.filter_cons] at this
        by_cases c : x.f0.toList = k.toList
        · rw [if_neg (by simp [c])] at this; rw [if_pos c]; exact this
        · rw [if_pos (by simp [c])] at this; rw [if_neg c]; exact this
      refine List.pairwise_cons.2 ⟨fun y hy => ?_, hup⟩
      have hge : ∀ y, y ∈ x :: r → ltS y.f0 k = false := by
        intro y hy
        rcases List.mem_cons.1 hy with rfl | hy
        · exact hq
        · cases hz : ltS y.f0 k with
          | false => rfl
          | true => rw [ltS_trans (h.above y hy) hz] at hq; cases hq
      have hy2 : y ∈ x :: r ∧ ¬ y.f0.toList = k.toList := by
        rcases List.mem_append.1 hy with hy | hy
        · by_cases c : x.f0.toList = k.toList
          · rw [if_pos c] at hy; cases hy
          · rw [if_neg c] at hy; rw [List.mem_singleton.1 hy]; exact ⟨List.mem_cons_self, c⟩
        · have := List.mem_filter.1 hy
          exact ⟨List.mem_cons_of_mem _ this.1, by simpa using this.2⟩
      rcases ltS_tri k y.f0 with h1 | h1 | h1
      · exact h1
      · exact absurd (by rw [h1]) hy2.2
      · rw [hge y hy2.1] at h1; cases h1
end Go.Proofs.Ytehcmedeeaoebaa.PB
end
section
namespace Go.Proofs.Ytehcmedeeaoebaa.PB
open Go.RowKit Go.Proofs.YtehcmedeeaoebaaW.PrintWords Go.Proofs.YtehcmedeeaoebaaW.PrintLast Go.Proofs.YtehcmedeeaoebaaW.PrintMore
set_option linter.unusedVariables false
theorem right13_f (v : S80) : ambryref13_right.f v.f0 v.f1 v.f2 = some (rightV v) := by
  unfold ambryref13_right.f rightV
  by_cases c1 : 1 ≤ v.f0
  · rw [if_pos c1, decide_eq_true c1]
    by_cases c2 : v.f0 ≤ 1152921504606846976
    · rw [if_pos c2, decide_eq_true c2]
      by_cases c3 : v.f1.size ≤ 200
      · rw [if_pos (by omega), decide_eq_true c3]
        cases v.f2 <;> simp
      · rw [if_neg (by omega), decide_eq_false c3]; simp
    · rw [if_neg c2, decide_eq_false c2]; simp
  · rw [if_neg c1, decide_eq_false c1]; simp
theorem Right13_loop (vs : List S80) (hl : vs.length ≤ 140737488351232) : ∀ n i, i + n = vs.length → Ev (fun k => ambryref13_Right.l0 k vs (i : Int)) (chainP (before vs i) (vs.drop i)) := by
  intro n
  induction n with
  | zero =>
    intro i hi
    rw [List.drop_of_length_le (by omega)]
    exact Ev.step (Ev.const _) fun k => by simp only [ambryref13_Right.l0]; rw [if_neg (by omega)]; rfl
  | succ n ih =>
    intro i hi
    have hil : i < vs.length := by omega
    have hnext : before vs (i + 1) = some vs[i].f0 := by unfold before; rw [dif_pos ⟨by omega, by omega⟩]; rfl
    rw [List.drop_eq_getElem_cons hil, chainP_cons]
    have hi1 := ih (i + 1) (by omega)
    rw [hnext] at hi1
    cases hr : rightV vs[i] with
    | false =>
      rw [Bool.false_and]
      exact Ev.step (Ev.const _) fun k => by
        simp only [ambryref13_Right.l0]; rw [if_pos (by omega), if_pos (by omega), rd80 vs i hil, right13_f, hr, Option.bind_some, if_neg (by simp)]
    | true =>
      cases i with
      | zero =>
        have e0 : before vs 0 = none := by unfold before; rw [dif_neg (by omega)]
        rw [e0]
        simp only [under, Bool.true_and]
        refine Ev.step hi1 fun k => ?_
        simp only [ambryref13_Right.l0]
        rw [if_pos (by omega), if_pos (by omega), rd80 vs 0 hil, right13_f, hr, Option.bind_some, if_pos (by trivial), if_neg (by omega), w64 (by omega) (by omega)]
        rfl
      | succ j =>
        have e0 : before vs (j + 1) = some (vs[j]'(by omega)).f0 := by unfold before; rw [dif_pos ⟨by omega, by omega⟩]; rfl
        have e1 : wrap64 (((j + 1 : Nat) : Int) - 1) = (j : Int) := by rw [w64 (by omega) (by omega)]; omega
        rw [e0]
        simp only [under, Bool.true_and]
        by_cases c : vs[j + 1].f0 < (vs[j]'(by omega)).f0
        · rw [decide_eq_true c, Bool.true_and]
          refine Ev.step hi1 fun k => ?_
          simp only [ambryref13_Right.l0]
          rw [if_pos (by omega), if_pos (by omega), rd80 vs (j + 1) hil, right13_f, hr, Option.bind_some, if_pos (by trivial), if_pos (by omega), e1, if_pos (by omega), if_pos (by omega), rd80 vs j (by omega), if_neg (by omega), w64 (by omega) (by omega)]
          rfl
        · rw [decide_eq_false c, Bool.false_and]
          refine Ev.step (Ev.const _) fun k => ?_
          simp only [ambryref13_Right.l0]
          rw [if_pos (by omega), if_pos (by omega), rd80 vs (j + 1) hil, right13_f, hr, Option.bind_some, if_pos (by trivial), if_pos (by omega), e1, if_pos (by omega), if_pos (by omega), rd80 vs j (by omega), if_pos (by omega)]
theorem Right13_ev (vs : List S80) (hl : vs.length ≤ 140737488351232) : Ev (fun k => ambryref13_Right.f k vs) (chainP none vs) := by
  have := Right13_loop vs hl vs.length 0 (by omega)
  rw [show before vs 0 = none by unfold before; rw [dif_neg (by omega)], List.drop_zero] at this
  exact this
theorem may15_in (l : List S67) (i : Nat) (vs : List S80) (hv : vs.length ≤ 140737488351232) (hi : i < 1000000000000) (X : Bool) (hX : Ev (fun k => ambryref15_may.l0 k l ((i + 1 : Nat) : Int)) X) : ∀ n j, j + n = vs.length → Ev (fun k => ambryref15_may.l1 k l (i : Int) vs (j : Int)) (!((vs.drop j).any longV) && X) := by
  intro n
  induction n with
  | zero =>
    intro j hj
    rw [List.drop_of_length_le (by omega)]
    refine Ev.step hX fun k => ?_
    simp only [ambryref15_may.l1]
    rw [if_neg (by omega), w64 (by omega) (by omega)]
    rfl
  | succ n ih =>
    intro j hj
    have hjl : j < vs.length := by omega
    rw [List.drop_eq_getElem_cons hjl, List.any_cons]
    by_cases c : 199 < vs[j].f1.size
    · have e : longV vs[j] = true := decide_eq_true c
      rw [e, Bool.true_or, Bool.not_true, Bool.false_and]
      refine Ev.step (Ev.const _) fun k => ?_
      simp only [ambryref15_may.l1]
      rw [if_pos (by omega), if_pos (by omega), rd80 vs j hjl, if_pos (by omega)]
    · have e : longV vs[j] = false := decide_eq_false c
      rw [e, Bool.false_or]
      refine Ev.step (ih (j + 1) (by omega)) fun k => ?_
      simp only [ambryref15_may.l1]
      rw [if_pos (by omega), if_pos (by omega), rd80 vs j hjl, if_neg (by omega), w64 (by omega) (by omega)]
      rfl
theorem may15_j (l : List S67) (i : Nat) (vs : List S80) (hv : vs.length ≤ 140737488351232) (hi : i < 1000000000000) (X : Bool) (hX : Ev (fun k => ambryref15_may.l0 k l ((i + 1 : Nat) : Int)) X) (b : Bool) : Ev (fun k => ambryref15_may.j1 k l (i : Int) vs b) (!b && (!(vs.any longV) && X)) := by
  cases b with
  | true => exact Ev.step (Ev.const _) fun k => by simp only [ambryref15_may.j1]; rw [if_pos (by trivial)]; rfl
  | false =>
    have := may15_in l i vs hv hi X hX vs.length 0 (by omega)
    rw [List.drop_zero] at this
    refine Ev.step this fun k => ?_
    simp only [ambryref15_may.j1]
    rw [if_neg (by simp)]
    rfl
theorem may15_loop (l : List S67) (hl : l.length ≤ 1000000000) (hv : ∀ x ∈ l, x.f1.length ≤ 1000000000) : ∀ n i, i + n = l.length → Ev (fun k => ambryref15_may.l0 k l (i : Int)) (itemsOk (ahead67 l i) (l.drop i)) := by
  intro n
  induction n with
  | zero =>
    intro i hi
    rw [List.drop_of_length_le (by omega)]
    exact Ev.step (Ev.const _) fun k => by simp only [ambryref15_may.l0]; rw [if_neg (by omega)]; rfl
  | succ n ih =>
    intro i hi
    have hil : i < l.length := by omega
    have hx := hv _ (List.getElem_mem hil)
    have hn : ahead67 l (i + 1) = some l[i].f0 := by unfold ahead67; rw [if_pos (by omega), show i + 1 - 1 = i by omega, itemAt_get l i hil]
    have hi1 := ih (i + 1) (by omega)
    rw [hn] at hi1
    have hj := may15_j l i l[i].f1 (by omega) (by omega) _ hi1
    have hR := Right13_ev l[i].f1 (by omega)
    rw [List.drop_eq_getElem_cons hil, itemsOk_cons]
    unfold mayB
    by_cases c1 : l[i].f0.size ≤ 120
    · rw [decide_eq_true c1, Bool.true_and]
      have hin : Ev (fun k => if (l[i].f1.length : Int) = 0 then ambryref15_may.j1 k l (i : Int) l[i].f1 true else (ambryref13_Right.f k l[i].f1).bind fun t => ambryref15_may.j1 k l (i : Int) l[i].f1 (!t)) (decide (0 < l[i].f1.length) && (chainP none l[i].f1 && !(l[i].f1.any longV)) && itemsOk (some l[i].f0) (l.drop (i + 1))) := by
        by_cases c2 : l[i].f1.length = 0
        · rw [decide_eq_false (by omega), Bool.false_and, Bool.false_and]
          simp only [if_pos (show (l[i].f1.length : Int) = 0 by omega)]
          exact hj true
        · rw [decide_eq_true (by omega), Bool.true_and]
          simp only [if_neg (show ¬ (l[i].f1.length : Int) = 0 by omega)]
          have := Ev.bind (g := fun k t => ambryref15_may.j1 k l (i : Int) l[i].f1 (!t)) hR (hj (!chainP none l[i].f1))
          rw [Bool.not_not] at this
          rw [Bool.and_assoc]
          exact this
      by_cases c0 : 0 < i
      · have hp : (itemAt l (i - 1)).f0 = (l[i - 1]'(by omega)).f0 := by rw [itemAt_get l (i - 1) (by omega)]
        have ho : over (ahead67 l i) l[i].f0 = ltS (l[i - 1]'(by omega)).f0 l[i].f0 := by unfold ahead67; rw [if_pos c0, hp]; rfl
        have hB := Below_ev (l[i - 1]'(by omega)).f0 l[i].f0 (Or.inr (by omega))
        have e1 : wrap64 ((i : Int) - 1) = ((i - 1 : Nat) : Int) := by rw [w64 (by omega) (by omega)]; omega
        rw [ho]
        cases hlt : ltS (l[i - 1]'(by omega)).f0 l[i].f0 with
        | true =>
          rw [hlt] at hB
          rw [Bool.true_and]
          refine Ev.step (Ev.bind hB (g := fun k t => if t = true then (if (l[i].f1.length : Int) = 0 then ambryref15_may.j1 k l (i : Int) l[i].f1 true else (ambryref13_Right.f k l[i].f1).bind fun t => ambryref15_may.j1 k l (i : Int) l[i].f1 (!t)) else ambryref15_may.j1 k l (i : Int) l[i].f1 true) (by simpa using hin)) fun k => ?_
          simp only [ambryref15_may.l0]
          rw [if_pos (by omega), if_pos (by omega), rd67 l i hil, if_neg (by omega), if_pos (by omega), e1, if_pos (by omega), if_pos (by omega), rd67 l (i - 1) (by omega)]
        | false =>
          rw [hlt] at hB
          rw [Bool.false_and, Bool.and_false]
          refine Ev.step (Ev.bind hB (g := fun k t => if t = true then (if (l[i].f1.length : Int) = 0 then ambryref15_may.j1 k l (i : Int) l[i].f1 true else (ambryref13_Right.f k l[i].f1).bind fun t => ambryref15_may.j1 k l (i : Int) l[i].f1 (!t)) else ambryref15_may.j1 k l (i : Int) l[i].f1 true) (by simpa using hj true)) fun k => ?_
          simp only [ambryref15_may.l0]
          rw [if_pos (by omega), if_pos (by omega), rd67 l i hil, if_neg (by omega), if_pos (by omega), e1, if_pos (by omega), if_pos (by omega), rd67 l (i - 1) (by omega)]
      · have ho : over (ahead67 l i) l[i].f0 = true := by unfold ahead67; rw [if_neg c0]; rfl
        rw [ho, Bool.true_and]
        refine Ev.step hin fun k => ?_
        simp only [ambryref15_may.l0]
        rw [if_pos (by omega), if_pos (by omega), rd67 l i hil, if_neg (by omega), if_neg (by omega)]
    · rw [decide_eq_false c1, Bool.false_and, Bool.false_and]
      refine Ev.step (hj true) fun k => ?_
      simp only [ambryref15_may.l0]
      rw [if_pos (by omega), if_pos (by omega), rd67 l i hil, if_pos (by omega)]
theorem may15_ev (l : List S67) (hl : l.length ≤ 1000000000) (hv : ∀ x ∈ l, x.f1.length ≤ 1000000000) : Ev (fun k => ambryref15_may.f k l) (itemsOk none l) := by
  have := may15_loop l hl hv l.length 0 (by omega)
  rw [show ahead67 l 0 = none by unfold ahead67; rw [if_neg (by omega)], List.drop_zero] at this
  exact this
theorem s69_ext {x y : S69} (h0 : x.f0 = y.f0) (h1 : x.f1 = y.f1) : x = y := by cases x; cases y; simp_all
theorem Same10_loop (l m : List S69) (he : l.length = m.length) (hl : l.length ≤ 1000000000) : ∀ n i, i + n = l.length → ∃ sb, Ev (fun k => ambryref10_Same.l0 k l m (i : Int)) sb ∧ (sb = true ↔ l.drop i = m.drop i) := by
  intro n
  induction n with
  | zero =>
    intro i hi
    refine ⟨true, Ev.step (Ev.const _) fun k => by simp only [ambryref10_Same.l0]; rw [if_neg (by omega)], ?_⟩
    rw [List.drop_of_length_le (by omega), List.drop_of_length_le (by omega)]
    simp
  | succ n ih =>
    intro i hi
    have h1 : i < l.length := by omega
    have h2 : i < m.length := by omega
    obtain ⟨sb, hs, hsb⟩ := ih (i + 1) (by omega)
    have r1 : rd_T69 l (i : Int) = l[i] := by simp [rd_T69, List.getD_eq_getElem?_getD, h1]
    have r2 : rd_T69 m (i : Int) = m[i] := by simp [rd_T69, List.getD_eq_getElem?_getD, h2]
    rw [List.drop_eq_getElem_cons h1, List.drop_eq_getElem_cons h2, List.cons.injEq, ← hsb]
    by_cases c : l[i].f0 = m[i].f0 ∧ l[i].f1 = m[i].f1
    · have e : l[i] = m[i] := s69_ext c.1 c.2
      refine ⟨sb, Ev.step hs fun k => ?_, by simp [e]⟩
      simp only [ambryref10_Same.l0]
      rw [if_pos (by omega), if_pos (by omega), if_pos (by omega), r1, r2, if_neg (by simp [c.1, c.2]), w64 (by omega) (by omega)]
      rfl
    · have e : l[i] ≠ m[i] := fun e => c (by rw [e]; exact ⟨rfl, rfl⟩)
      refine ⟨false, Ev.step (Ev.const _) fun k => ?_, by simp [e]⟩
      simp only [ambryref10_Same.l0]
      rw [if_pos (by omega), if_pos (by omega), if_pos (by omega), r1, r2, if_pos]
      simp only [Bool.or_eq_true, Bool.not_eq_true', beq_eq_false_iff_ne, ne_eq, toList_inj]
      by_cases d : l[i].f0 = m[i].f0
      · exact Or.inr fun e => c ⟨d, e⟩
      · exact Or.inl d
theorem Same10_ev (l m : List S69) (hl : l.length ≤ 1000000000) : ∃ sb, Ev (fun k => ambryref10_Same.f k l m) sb ∧ (sb = true ↔ l = m) := by
  by_cases he : l.length = m.length
  · obtain ⟨sb, h1, h2⟩ := Same10_loop l m he hl l.length 0 (by omega)
    rw [List.drop_zero, List.drop_zero] at h2
    refine ⟨sb, ?_, h2⟩
    refine Ev.congr h1 fun k => ?_
    unfold ambryref10_Same.f
    rw [if_pos (by omega)]
    rfl
  · refine ⟨false, Ev.congr (Ev.const _) fun k => ?_, ⟨(fun h => by cases h), fun h => absurd (congrArg List.length h) he⟩⟩
    unfold ambryref10_Same.f
    rw [if_neg (by omega)]
end Go.Proofs.Ytehcmedeeaoebaa.PB
end
section
namespace Go.Proofs.Ytehcmedeeaoebaa.PB
open Go.RowKit Go.Proofs.YtehcmedeeaoebaaW.PrintWords Go.Proofs.YtehcmedeeaoebaaW.PrintLast Go.Proofs.YtehcmedeeaoebaaW.PrintMore
set_option linter.unusedVariables false
theorem keyF_eq (key : ByteArray) (t : Int) (h0 : 0 ≤ t) (h1 : t ≤ 1152921504606846976) : keyF key t = pairKey key t := by
  unfold keyF pairKey F8
  rw [strOfNums_app, strOfNums_bytesOf, show (1152921504606846976 - t) % 18446744073709551616 = 1152921504606846976 - t by omega]
theorem putGo_perm (k v : ByteArray) : ∀ (l : List S69), (∀ x ∈ l, x.f0 ≠ k) → ∀ b, (putGo k v l b).Perm (if b = true then l else ⟨k, v⟩ :: l)
  | [], _, b => by cases b <;> simp [putGo]
  | y :: r, h, b => by
    have hy : ¬ y.f0.toList = k.toList := fun e => h y List.mem_cons_self (toList_inj.1 e)
    have ih := putGo_perm k v r (fun x hx => h x (List.mem_cons_of_mem _ hx))
    have e : putGo k v (y :: r) b = (if b = false ∧ ltS y.f0 k = false then [⟨k, v⟩] else []) ++ ((if y.f0.toList = k.toList then [] else [y]) ++ putGo k v r (b || !ltS y.f0 k)) := by
      have := putGo_step (l := y :: r) (i := 0) (by simp) k v b
      simpa using this
    rw [e, if_neg hy]
    cases b with
    | true =>
      rw [if_neg (by simp), Bool.true_or]
      exact (ih true).cons y
    | false =>
      cases hlt : ltS y.f0 k with
      | true =>
        rw [if_neg (by simp)]
        have := ih false
        simp only [Bool.false_or, Bool.not_true, Bool.false_eq_true, if_false, List.nil_append, List.singleton_append] at this ⊢
        exact (this.cons y).trans (List.Perm.swap _ _ _)
      | false =>
        rw [if_pos ⟨rfl, rfl⟩]
        have := ih true
        simp only [Bool.false_or, Bool.not_false, if_true, Bool.false_eq_true, if_false, List.singleton_append] at this ⊢
        exact (this.cons y).cons _
def putAll (a : List S69) (l : List S69) : List S69 := l.foldl (fun a x => (put10 a x.f0 x.f1).1) a
theorem versGo_put (key : ByteArray) : ∀ (vs : List S80) (acc : List S69), (∀ v ∈ vs, okV v) → versGo key acc vs = putAll acc (vs.map fun v => pairOf key v)
  | [], acc, _ => rfl
  | v :: r, acc, h => by
    have hv := h v List.mem_cons_self
    rw [versGo, keyF_eq key v.f0 (by have := hv.1; omega) hv.2.1, versGo_put key r _ fun x hx => h x (List.mem_cons_of_mem _ hx)]
    rfl
theorem pairsGo_put : ∀ (l : List S67) (acc : List S69), (∀ x ∈ l, ∀ v ∈ x.f1, okV v) → pairsGo acc l = putAll acc (rowsOf l)
  | [], acc, _ => rfl
  | x :: r, acc, h => by
    have e : rowsOf (x :: r) = (x.f1.map fun v => pairOf x.f0 v) ++ rowsOf r := rfl
    rw [pairsGo, versGo_put x.f0 x.f1 acc (h x List.mem_cons_self), pairsGo_put r _ fun y hy => h y (List.mem_cons_of_mem _ hy), e]
    unfold putAll
    rw [List.foldl_append]
theorem putAll_perm : ∀ (l acc : List S69), (∀ x ∈ l, x.f0.size ≤ 128 ∧ x.f1.size ≤ 200) → (acc ++ l).Pairwise (fun a b => a.f0 ≠ b.f0) → Up acc → (putAll acc l).Perm (acc ++ l) ∧ Up (putAll acc l)
  | [], acc, _, _, hu => ⟨by simp [putAll], hu⟩
  | x :: r, acc, hs, hp, hu => by
    have hx := hs x List.mem_cons_self
    have hpx : (put10 acc x.f0 x.f1).1 = putGo x.f0 x.f1 acc false := by unfold put10; rw [if_neg (by omega)]
    have hne : ∀ y ∈ acc, y.f0 ≠ x.f0 := fun y hy => (List.pairwise_append.1 hp).2.2 y hy x List.mem_cons_self
    have hperm := putGo_perm x.f0 x.f1 acc hne false
    rw [if_neg (by simp)] at hperm
    have hmid : (x :: acc ++ r).Perm (acc ++ x :: r) := by simpa using (List.perm_middle (a := x) (l₁ := acc) (l₂ := r)).symm
    have hp2 : (putGo x.f0 x.f1 acc false ++ r).Pairwise (fun a b => a.f0 ≠ b.f0) := (List.Perm.pairwise_iff (fun {a b} h => Ne.symm h) ((hperm.append_right r).trans hmid)).2 hp
    have ih := putAll_perm r (putGo x.f0 x.f1 acc false) (fun y hy => hs y (List.mem_cons_of_mem _ hy)) hp2 hu.putGo
    have e : putAll acc (x :: r) = putAll (putGo x.f0 x.f1 acc false) r := by rw [← hpx]; rfl
    rw [e]
    exact ⟨ih.1.trans ((hperm.append_right r).trans hmid), ih.2⟩
theorem Good.put {l : List S67} (h : Good l) : pairsGo [] l = sortP (rowsOf l) := by
  rw [pairsGo_put l [] h.ok]
  obtain ⟨hperm, hmap, hs⟩ := h.sorted
  have hd : (rowsOf l).Pairwise fun a b => a.f0 ≠ b.f0 := by rw [rowsOf_kvs, List.pairwise_map]; exact h.apart
  have hsz : ∀ x ∈ rowsOf l, x.f0.size ≤ 128 ∧ x.f1.size ≤ 200 := by
    intro x hx
    rw [rowsOf_kvs] at hx
    obtain ⟨q, hq, rfl⟩ := List.mem_map.1 hx
    obtain ⟨y, hy, e1, e2⟩ := kvs_mem.1 hq
    have hok := h.ok y hy _ e2
    have hk := h.key y hy
    refine ⟨?_, ?_⟩
    · show (pairKey q.1 q.2.f0).size ≤ 128
      rw [pk_size _ _ (by have := hok.1; omega) hok.2.1, e1]; omega
    · show (pairVal q.2).size ≤ 200
      rw [pairVal_size]
      have := hok.2.2.1
      split <;> omega
  obtain ⟨p1, p2⟩ := putAll_perm (rowsOf l) [] hsz (by simpa using hd) List.Pairwise.nil
  refine perm_sorted (r := fun a b : S69 => ltS a.f0 b.f0 = true) (fun a b h1 h2 => by rw [ltS_asymm h1] at h2; cases h2) ?_ p2 ?_
  · rw [List.nil_append] at p1
    exact p1.trans (sortP_spec (rowsOf l)).1.symm
  · rw [hmap, List.pairwise_map]; exact hs
structure WF (A : List S67) : Prop where
  full : ∀ x ∈ A, x.f1 ≠ []
  falls : ∀ x ∈ A, x.f1.Pairwise fun a b => b.f0 < a.f0
  rises : A.Pairwise fun x y => ltS x.f0 y.f0 = true
theorem placedGo_perm (v : S80) : ∀ (l : List S80) (b : Bool), (placedGo v l b).Perm (if b = true then l else v :: l)
  | l, true => by rw [placedGo_true]; simp
  | [], false => by simp [placedGo]
  | y :: r, false => by
    have e : placedGo v (y :: r) false = (if false = false ∧ y.f0 < v.f0 then [v] else []) ++ y :: placedGo v r (false || decide (y.f0 < v.f0)) := rfl
    rw [e]
    show List.Perm _ (v :: y :: r)
    by_cases c : y.f0 < v.f0
    · rw [if_pos ⟨rfl, c⟩, decide_eq_true c, Bool.or_true, placedGo_true]; exact List.Perm.refl _
    · rw [if_neg (fun h => c h.2), decide_eq_false c]
      have := placedGo_perm v r false
      simp only [Bool.false_eq_true, if_false] at this
      simp only [List.nil_append, Bool.or_self]
      exact (this.cons y).trans (List.Perm.swap _ _ _)
theorem placedP_perm (v : S80) (l : List S80) : (placedP l v).Perm (v :: l) := by
  have := placedGo_perm v l false
  rw [if_neg (by simp)] at this
  exact this
theorem placedP_falls (v : S80) : ∀ (l : List S80), (l.Pairwise fun a b => b.f0 < a.f0) → (∀ y ∈ l, y.f0 ≠ v.f0) → (placedP l v).Pairwise fun a b => b.f0 < a.f0
  | [], _, _ => by simp [placedP, placedGo]
  | y :: r, h, hn => by
    have e : placedP (y :: r) v = (if false = false ∧ y.f0 < v.f0 then [v] else []) ++ y :: placedGo v r (false || decide (y.f0 < v.f0)) := rfl
    have hy := hn y List.mem_cons_self
    obtain ⟨h1, h2⟩ := List.pairwise_cons.1 h
    rw [e]
    by_cases c : y.f0 < v.f0
    · rw [if_pos ⟨rfl, c⟩, decide_eq_true c, Bool.or_true, placedGo_true]
      refine List.pairwise_cons.2 ⟨fun x hx => ?_, h⟩
      rcases List.mem_cons.1 hx with rfl | hx
      · exact c
      · have := h1 x hx; omega
    · rw [if_neg (fun h => c h.2), decide_eq_false c]
      have ih := placedP_falls v r h2 fun x hx => hn x (List.mem_cons_of_mem _ hx)
      show (y :: placedP r v).Pairwise _
      refine List.pairwise_cons.2 ⟨fun x hx => ?_, ih⟩
      rcases List.mem_cons.1 ((placedP_perm v r).mem_iff.1 hx) with rfl | hx
      · omega
      · exact h1 x hx
theorem kvs_cons (x : S67) (r : List S67) : kvs (x :: r) = (x.f1.map fun v => (x.f0, v)) ++ kvs r := rfl
theorem withGo_keys (key : ByteArray) (v : S80) : ∀ (l : List S67) (b : Bool) (x : S67), x ∈ withGo key v l b → x.f0 = key ∨ ∃ y ∈ l, y.f0 = x.f0
  | [], b, x, hx => by
    cases b with
    | true => cases hx
    | false =>
      rw [withGo, if_neg (by simp)] at hx
      exact Or.inl (by rw [List.mem_singleton.1 hx])
  | y :: r, b, x, hx => by
    have ih := withGo_keys key v r
    have hr : ∀ b, x ∈ withGo key v r b → x.f0 = key ∨ ∃ z ∈ y :: r, z.f0 = x.f0 := fun b h => by
      rcases ih b x h with h | ⟨z, hz, e⟩
      · exact Or.inl h
      · exact Or.inr ⟨z, List.mem_cons_of_mem _ hz, e⟩
    rw [withGo_cons] at hx
    split at hx
    · split at hx
      · rcases List.mem_cons.1 hx with rfl | hx
        · exact Or.inr ⟨y, List.mem_cons_self, rfl⟩
        · exact hr _ hx
      · rcases List.mem_cons.1 hx with rfl | hx
        · exact Or.inl rfl
        · rcases List.mem_cons.1 hx with rfl | hx
          · exact Or.inr ⟨x, List.mem_cons_self, rfl⟩
          · exact hr _ hx
    · rcases List.mem_cons.1 hx with rfl | hx
      · exact Or.inr ⟨x, List.mem_cons_self, rfl⟩
      · exact hr _ hx
theorem WF.tail {x : S67} {r : List S67} (h : WF (x :: r)) : WF r := ⟨fun y hy => h.full y (List.mem_cons_of_mem _ hy), fun y hy => h.falls y (List.mem_cons_of_mem _ hy), (List.pairwise_cons.1 h.rises).2⟩
theorem withP_wf (key : ByteArray) (v : S80) : ∀ (A : List S67), WF A → (∀ q ∈ kvs A, ¬ (q.1 = key ∧ q.2.f0 = v.f0)) → WF (withP A key v) ∧ (kvs (withP A key v)).Perm ((key, v) :: kvs A)
  | [], _, _ => by
    refine ⟨⟨?_, ?_, ?_⟩, ?_⟩
    · intro x hx; rw [List.mem_singleton.1 hx]; simp
    · intro x hx; rw [List.mem_singleton.1 hx]; simp
    · exact List.pairwise_singleton _ _
    · exact List.Perm.refl _
  | x :: r, h, hn => by
    obtain ⟨ha, hr⟩ := List.pairwise_cons.1 h.rises
    have e : withP (x :: r) key v = if false = false ∧ ltS x.f0 key = false then (if x.f0.toList = key.toList then ⟨x.f0, placedP x.f1 v⟩ :: withGo key v r true else ⟨key, [v]⟩ :: x :: withGo key v r true) else x :: withGo key v r false := rfl
    rw [e, withGo_true]
    cases hlt : ltS x.f0 key with
    | false =>
      rw [if_pos ⟨rfl, rfl⟩]
      by_cases c : x.f0.toList = key.toList
      · rw [if_pos c]
        have ck := toList_inj.1 c
        have hfall := placedP_falls v x.f1 (h.falls x List.mem_cons_self) fun y hy e => hn (x.f0, y) (by rw [kvs_cons]; exact List.mem_append_left _ (List.mem_map.2 ⟨y, hy, rfl⟩)) ⟨ck, e⟩
        refine ⟨⟨?_, ?_, ?_⟩, ?_⟩
        · intro y hy
          rcases List.mem_cons.1 hy with rfl | hy
          · intro e0
            have := (placedP_perm v x.f1).length_eq
            simp only at e0
            rw [e0] at this
            simp at this
          · exact h.full y (List.mem_cons_of_mem _ hy)
        · intro y hy
          rcases List.mem_cons.1 hy with rfl | hy
          · exact hfall
          · exact h.falls y (List.mem_cons_of_mem _ hy)
        · exact List.pairwise_cons.2 ⟨ha, hr⟩
        · rw [kvs_cons, kvs_cons, ← ck]
          exact ((placedP_perm v x.f1).map fun v => (x.f0, v)).append_right (kvs r)
      · rw [if_neg c]
        have hkx : ltS key x.f0 = true := by
          rcases ltS_tri2 x.f0 key with h1 | h1 | h1
          · rw [h1] at hlt; cases hlt
          · exact absurd (toList_inj.2 h1) c
          · exact h1
        refine ⟨⟨?_, ?_, ?_⟩, ?_⟩
        · intro y hy
          rcases List.mem_cons.1 hy with rfl | hy
          · simp
          · exact h.full y hy
        · intro y hy
          rcases List.mem_cons.1 hy with rfl | hy
          · simp
          · exact h.falls y hy
        · refine List.pairwise_cons.2 ⟨fun y hy => ?_, h.rises⟩
          rcases List.mem_cons.1 hy with rfl | hy
          · exact hkx
          · exact ltS_trans hkx (ha y hy)
        · exact List.Perm.refl _
    | true =>
      rw [if_neg (by simp)]
      obtain ⟨i1, i2⟩ := withP_wf key v r h.tail fun q hq => hn q (by rw [kvs_cons]; exact List.mem_append_right _ hq)
      refine ⟨⟨?_, ?_, ?_⟩, ?_⟩
      · intro y hy
        rcases List.mem_cons.1 hy with rfl | hy
        · exact h.full y List.mem_cons_self
        · exact i1.full y hy
      · intro y hy
        rcases List.mem_cons.1 hy with rfl | hy
        · exact h.falls y List.mem_cons_self
        · exact i1.falls y hy
      · refine List.pairwise_cons.2 ⟨fun y hy => ?_, i1.rises⟩
        rcases withGo_keys key v r false y hy with e1 | ⟨z, hz, e1⟩
        · rw [e1]; exact hlt
        · rw [← e1]; exact ha z hz
      · rw [kvs_cons, kvs_cons]
        exact ((i2.append_left _).trans List.perm_middle)
def withAll (Q : List KV) (A : List S67) : List S67 := Q.foldl (fun A q => withP A q.1 q.2) A
theorem withAll_wf : ∀ (Q : List KV) (A : List S67), WF A → (kvs A ++ Q).Pairwise (fun a b => ¬ (a.1 = b.1 ∧ a.2.f0 = b.2.f0)) → WF (withAll Q A) ∧ (kvs (withAll Q A)).Perm (kvs A ++ Q)
  | [], A, h, _ => ⟨h, by simp [withAll]⟩
  | q :: Q, A, h, hp => by
    obtain ⟨i1, i2⟩ := withP_wf q.1 q.2 A h fun a ha => (List.pairwise_append.1 hp).2.2 a ha q List.mem_cons_self
    have hmid : (q :: kvs A ++ Q).Perm (kvs A ++ q :: Q) := by simpa using (List.perm_middle (a := q) (l₁ := kvs A) (l₂ := Q)).symm
    have hp2 : (kvs (withP A q.1 q.2) ++ Q).Pairwise (fun a b => ¬ (a.1 = b.1 ∧ a.2.f0 = b.2.f0)) := (List.Perm.pairwise_iff (fun {a b} h e => h ⟨e.1.symm, e.2.symm⟩) ((i2.append_right Q).trans hmid)).2 hp
    have ih := withAll_wf Q (withP A q.1 q.2) i1 hp2
    exact ⟨ih.1, ih.2.trans ((i2.append_right Q).trans hmid)⟩
theorem s67_ext {x y : S67} (h0 : x.f0 = y.f0) (h1 : x.f1 = y.f1) : x = y := by cases x; cases y; simp_all
theorem WF.same {A r : List S67} (hA : WF A) (hr : WF r) (hp : (kvs A).Perm (kvs r)) : A = r := by
  have sub : ∀ {A r : List S67}, WF A → WF r → (kvs A).Perm (kvs r) → ∀ x ∈ A, x ∈ r := by
    intro A r hA hr hp x hx
    obtain ⟨v, hv⟩ := List.exists_mem_of_ne_nil _ (hA.full x hx)
    obtain ⟨y, hy, e1, e2⟩ := kvs_mem.1 (hp.mem_iff.1 (kvs_mem.2 ⟨x, hx, rfl, hv⟩ : (x.f0, v) ∈ kvs A))
    have e1 : x.f0 = y.f0 := e1
    have hf := hp.filter (fun q => q.1.toList == x.f0.toList)
    rw [filter_kvs hA.rises hx, e1, filter_kvs hr.rises hy] at hf
    have hf2 := hf.map (fun q : KV => q.2)
    rw [List.map_map, List.map_map] at hf2
    have id1 : ∀ (k : ByteArray) (vs : List S80), vs.map ((fun q : KV => q.2) ∘ fun v => (k, v)) = vs := fun k vs => (List.map_congr_left fun v _ => rfl).trans (List.map_id _)
    rw [id1, id1] at hf2
    have e3 : x.f1 = y.f1 := perm_sorted (fun a b h1 h2 => by omega) hf2 (hA.falls x hx) (hr.falls y hy)
    rw [s67_ext e1 e3]; exact hy
  have n1 : A.Nodup := List.Pairwise.imp (fun {a b : S67} (h : ltS a.f0 b.f0 = true) (e : a = b) => ltS_ne' h (by rw [e])) hA.rises
  have n2 : r.Nodup := List.Pairwise.imp (fun {a b : S67} (h : ltS a.f0 b.f0 = true) (e : a = b) => ltS_ne' h (by rw [e])) hr.rises
  refine perm_sorted (r := fun x y : S67 => ltS x.f0 y.f0 = true) (fun a b h1 h2 => by rw [ltS_asymm h1] at h2; cases h2) ((List.perm_ext_iff_of_nodup n1 n2).2 fun x => ⟨sub hA hr hp x, sub hr hA hp.symm x⟩) hA.rises hr.rises
theorem Good.wf {l : List S67} (h : Good l) : WF l := ⟨(fun x hx e => by have := h.full x hx; rw [e] at this; simp at this), h.falls, h.rises⟩
theorem WF.nil : WF [] := ⟨(fun x hx => by cases hx), (fun x hx => by cases hx), List.Pairwise.nil⟩
theorem Good.withAll {l : List S67} (h : Good l) {Q : List KV} (hQ : Q.Perm (kvs l)) : withAll Q [] = l := by
  have hap : (kvs l).Pairwise fun a b => ¬ (a.1 = b.1 ∧ a.2.f0 = b.2.f0) := h.apart.imp fun hne e => hne (by show pairKey _ _ = pairKey _ _; rw [e.1, e.2])
  have hq : Q.Pairwise fun a b : KV => ¬ (a.1 = b.1 ∧ a.2.f0 = b.2.f0) := (List.Perm.pairwise_iff (fun {a b} h e => h ⟨e.1.symm, e.2.symm⟩) hQ).2 hap
  obtain ⟨i1, i2⟩ := withAll_wf Q [] WF.nil (by simpa [kvs] using hq)
  refine i1.same h.wf (i2.trans ?_)
  simpa [kvs] using hQ
end Go.Proofs.Ytehcmedeeaoebaa.PB
end
section
namespace Go.Proofs.Ytehcmedeeaoebaa.PB
open Go.RowKit Go.Proofs.YtehcmedeeaoebaaW.PrintWords Go.Proofs.YtehcmedeeaoebaaW.PrintLast Go.Proofs.YtehcmedeeaoebaaW.PrintMore
attribute [local go_sem] max2_int min2_int max_two min_two max_three min_three max_four min_four
set_option linter.unusedVariables false
set_option linter.unusedSimpArgs false
def field_put_uint8.l0 : Nat → List Int → Int → Int → Option (List Int)
  | 0, _, _, _ => none
  | k + 1, x0, x1, x7 => if x7 ≥ 0 then (if 0 ≤ (wrap64 (8 * x7)) then (if x0.length < 140737488355328 then (field_put_uint8.l0 k (x0 ++ [(shr .u64 (IntKind.u64.wrap (x1)) (wrap64 (8 * x7))) % 256]) x1 (wrap64 (x7 - 1))) else (none)) else (none)) else (some x0)
def field_put_uint8.f (k : Nat) (l0 : List Int) (a1 : Int) (a2 : Int) : Option (List Int) := field_put_uint8.l0 k l0 a1 (wrap64 (a2 - 1))
set_option maxHeartbeats 8000000 in
set_option maxRecDepth 100000 in
theorem field_put_uint8.calls (k : Nat) (P0_ : Nat → Prop) (u9000_ : Value) (l0 : List Int) (a1 : Int) (a2 : Int) (r : List Int) (w0 w : World) (hB : Below w0.heap.size w0 w) (ho0 : Kd.R (Kd.int .u8) 5 w w0.heap.size P0_ u9000_ l0) (h : field_put_uint8.f k l0 a1 a2 = some r) :
    Calls Try.prog 66 #[u9000_, .int .u8 a1, .int .i64 a2] w fun e w' => ∃ v0_ : Value, e = .returned (v0_) ∧ Kd.R (Kd.int .u8) 5 w' w0.heap.size (fun k_ => (P0_ k_ ∨ w.heap.size ≤ k_)) v0_ r ∧ Below w0.heap.size w0 w' ∧ Kept w w' (fun k_ => P0_ k_) := by
  have HO0 := Aside0.mk (show Kd.R (Kd.int .u8) 5 w w0.heap.size (fun k_ => (P0_ k_ ∨ w.heap.size ≤ k_)) u9000_ l0 from Kd.R_mono ho0 (fun k_ hk => (.inl hk)))
  have HK := Aside0.mk (Kept.refl w (fun k_ => P0_ k_))
  have HW0 := Aside0.mk hB.size
  have HB := Aside0.mk hB
  clear hB
  have H : (field_put_uint8.l0 k l0 a1 (wrap64 (a2 - 1))) = some r := h
  clear h
  have H' := Aside0.mk H
  clear H
  go_enter Try.func66, Try.ntmps66
  go_wp2
  go_loopg [0, 7] k (fun kq v0 v7 w' => ∃ (x0_1 : List Int) (x7_1 : Int), v7 = .int .i64 x7_1 ∧ Aside0 (field_put_uint8.l0 kq x0_1 a1 x7_1 = some r) ∧ Aside0 (kq ≤ k) ∧ Aside0 (Kd.R (Kd.int .u8) 5 w' w0.heap.size (fun k_ => (P0_ k_ ∨ w.heap.size ≤ k_)) v0 x0_1) ∧ Aside0 (Kept w w' (fun k_ => P0_ k_)) ∧ Aside0 (Below w0.heap.size w0 w'))
  case atStart => exact ⟨(l0), (wrap64 (a2 - 1)), (by first | rfl | (simp; done) | (simp [*]; done)), H', ⟨Nat.le_refl _⟩, ⟨by (with_reducible repeat (first | apply Kd.R_alloc | apply Kd.R_drewN | apply Kd.R_drew)); exact HO0.out⟩, ⟨by repeat (first | (with_reducible first | exact HK.out | apply Kept.alloc | apply Kept.drewN | apply Kept.drew) | exact HK.out)⟩, ⟨by repeat (first | (with_reducible first | exact HB.out | apply below_alloc | apply pw_below_drewN | apply below_drew1) | exact HB.out)⟩⟩
  case round =>
    clear H'
    try clear p2
    obtain ⟨x0_1, x7_1, rfl, HA, HK1, HO_0, HK, HB⟩ := hrel
    cases gk with
    | zero => exact absurd HA.out (by simp [field_put_uint8.l0])
    | succ k1 =>
      have H := HA.out
      clear HA
      simp only [field_put_uint8.l0] at H
      by_cases c4 : x7_1 ≥ 0
      · rw [if_pos c4] at H
        have c4b0 : decide (0 ≤ x7_1) = true := decide_eq_true c4
        clear c4
        obtain ⟨ji5, hji5⟩ : ∃ j_ : Int, (wrap64 (8 * x7_1)) = j_ := ⟨_, rfl⟩
        replace H : (if 0 ≤ (ji5) then (if x0_1.length < 140737488355328 then (field_put_uint8.l0 k1 (x0_1 ++ [(shr .u64 (IntKind.u64.wrap (a1)) (ji5)) % 256]) a1 (wrap64 (x7_1 - 1))) else (none)) else (none)) = some r := by first | (rw [hji5] at H; exact H) | (simp only [hji5] at H ⊢; exact H)
        have hji5w : (IntKind.i64.wrap (8 * x7_1)) = ji5 := (i64_w _).trans hji5
        by_cases c6 : 0 ≤ (ji5)
        · rw [if_pos c6] at H
          have c6b0 := eq_true c6
          have c6b1 : decide (0 ≤ (ji5)) = true := decide_eq_true c6
          clear c6
          obtain ⟨ji7, hji7⟩ : ∃ j_ : Int, (shr .u64 (IntKind.u64.wrap (a1)) (ji5)) = j_ := ⟨_, rfl⟩
          replace H : (if x0_1.length < 140737488355328 then (field_put_uint8.l0 k1 (x0_1 ++ [(ji7) % 256]) a1 (wrap64 (x7_1 - 1))) else (none)) = some r := by first | (rw [hji7] at H; exact H) | (simp only [hji7] at H ⊢; exact H)
          have hji7_ : ((IntKind.u64.wrap (a1)) / 2 ^ min (ji5).toNat 64) = ji7 := hji7
          have hji7z : (ji5) ≤ 64 → ((IntKind.u64.wrap (a1)) / 2 ^ (ji5).toNat) = ji7 := shr_small hji7
          by_cases c8 : x0_1.length < 140737488355328
          · rw [if_pos c8] at H
            have LMc8 := Aside0.mk c8
            clear c8
            obtain ⟨y122, hy122⟩ : ∃ y_ : List Int, y_ = (x0_1 ++ [(ji7) % 256]) := ⟨_, rfl⟩
            replace H : (field_put_uint8.l0 k1 y122 a1 (wrap64 (x7_1 - 1))) = some r := by first | (rw [hy122]; with_reducible exact H) | (have H2_ := (Option.bind_some _ _).symm.trans H; rw [hy122]; with_reducible exact H2_) | (have H2_ := (Option.bind_some _ _).symm.trans H; with_reducible exact H2_) | with_reducible exact H | (rw [hy122]; exact H) | exact H
            have Ny122 := Aside0.mk hy122
            clear hy122
            have H' := Aside0.mk H
            clear H
            go_wp2_with (first | ((with_reducible refine gate_builtin (b := .append) (xs := #[.tmp 14, .tmp 21]) rfl ?_); at_builtin; refine Kd.R_append (Kd.int .u8) (w0 := w0) w0.heap.size rfl (.tmp 14) (.tmp 21) 72 5 (.int .u8 0) 1 rfl Try.underlying72 info5 rfl (by decide) (by omega) u0 x0_1 ((ji7) % 256) [.int .u8 ((ji7) % 256)] (fun k_ => (P0_ k_ ∨ w.heap.size ≤ k_)) (fun _ => False) rfl rfl ?aP (fun _ hk => hk.elim) ?aF ?aO ?aB ?aS ?aL ?_; (case aP => exact rfl); (case aB => exact (by repeat (first | (with_reducible first | exact HB.out | apply below_alloc | apply pw_below_drewN | apply below_drew1) | exact HB.out))); (case aF => exact (fun k_ hk => (.inr (Nat.le_trans (by first | exact HK.out.1 | exact (show Kept w _ (fun k_ => P0_ k_) from by repeat (first | (with_reducible first | exact HK.out | apply Kept.alloc | apply Kept.drewN | apply Kept.drew) | exact HK.out)).1) hk)))); (case aO => exact (by (with_reducible repeat (first | apply Kd.R_alloc | apply Kd.R_drewN | apply Kd.R_drew)); exact HO_0.out)); (case aS => exact (below_size (by repeat (first | (with_reducible first | exact HB.out | apply below_alloc | apply pw_below_drewN | apply below_drew1) | exact HB.out)))); (case aL => have := LMc8.out; omega); intro v123 w9 ho hb hg hat; rw [← Ny122.out] at ho; have n0_ := Aside0.mk (hb); have n1_ := Aside0.mk (Kept.of_grown (S := (fun k_ => P0_ k_)) hg (by repeat (first | (with_reducible first | exact HK.out | apply Kept.alloc | apply Kept.drewN | apply Kept.drew) | exact HK.out)) (fun k_ e_ => (HO_0.out.1 k_ e_))); have n2_ := Aside0.mk (ho); clear HB; clear HK; clear HO_0; have HB := n0_; have HK := n1_; have HO124 := n2_; clear n0_ n1_ n2_; clear ho hb hg hat))
            go_roundg k1
            case measure => have := HK1.out; omega
            case rel => exact ⟨(y122), (wrap64 (x7_1 - 1)), (by first | rfl | (simp; done) | (simp [*]; done)), H', ⟨by have := HK1.out; omega⟩, ⟨by (with_reducible repeat (first | apply Kd.R_alloc | apply Kd.R_drewN | apply Kd.R_drew)); exact HO124.out⟩, ⟨by repeat (first | (with_reducible first | exact HK.out | apply Kept.alloc | apply Kept.drewN | apply Kept.drew) | exact HK.out)⟩, ⟨by repeat (first | (with_reducible first | exact HB.out | apply below_alloc | apply pw_below_drewN | apply below_drew1) | exact HB.out)⟩⟩
          · rw [if_neg c8] at H
            exact absurd H (by simp)
        · rw [if_neg c6] at H
          exact absurd H (by simp)
      · rw [if_neg c4] at H
        have c4b0 : decide (0 ≤ x7_1) = false := decide_eq_false c4
        clear c4
        obtain rfl := Option.some.inj H
        go_wp2
        go_ret
        exact ⟨_, by first | rfl | (simp [errW_none, errW_some] <;> rfl) | (simp [*, errW_none, errW_some] <;> rfl), by (with_reducible repeat (first | apply Kd.R_alloc | apply Kd.R_drewN | apply Kd.R_drew)); exact HO_0.out, by repeat (first | (with_reducible first | exact HB.out | apply below_alloc | apply pw_below_drewN | apply below_drew1) | exact HB.out), by repeat (first | (with_reducible first | exact HK.out | apply Kept.alloc | apply Kept.drewN | apply Kept.drew) | exact HK.out)⟩
end Go.Proofs.Ytehcmedeeaoebaa.PB
end
section
namespace Go.Proofs.Ytehcmedeeaoebaa.PB
open Go.RowKit Go.Proofs.YtehcmedeeaoebaaW.PrintWords Go.Proofs.YtehcmedeeaoebaaW.PrintLast Go.Proofs.YtehcmedeeaoebaaW.PrintMore
attribute [local go_sem] max2_int min2_int max_two min_two max_three min_three max_four min_four
set_option linter.unusedVariables false
set_option linter.unusedSimpArgs false
def field_Put8.f (k : Nat) (l0 : List Int) (a1 : Int) : Option (List Int) := (field_put_uint8.f k l0 ((a1) % 256) 1).bind fun t125 => (some t125)
set_option maxHeartbeats 8000000 in
set_option maxRecDepth 100000 in
theorem field_Put8.calls (k : Nat) (P0_ : Nat → Prop) (u9000_ : Value) (l0 : List Int) (a1 : Int) (r : List Int) (w0 w : World) (hB : Below w0.heap.size w0 w) (ho0 : Kd.R (Kd.int .u8) 5 w w0.heap.size P0_ u9000_ l0) (h : field_Put8.f k l0 a1 = some r) :
    Calls Try.prog 39 #[u9000_, .int .i64 a1] w fun e w' => ∃ v0_ : Value, e = .returned (v0_) ∧ Kd.R (Kd.int .u8) 5 w' w0.heap.size (fun k_ => (P0_ k_ ∨ w.heap.size ≤ k_)) v0_ r ∧ Below w0.heap.size w0 w' ∧ Kept w w' (fun k_ => P0_ k_) := by
  have HO0 := Aside0.mk (show Kd.R (Kd.int .u8) 5 w w0.heap.size (fun k_ => (P0_ k_ ∨ w.heap.size ≤ k_)) u9000_ l0 from Kd.R_mono ho0 (fun k_ hk => (.inl hk)))
  have HK := Aside0.mk (Kept.refl w (fun k_ => P0_ k_))
  have HW0 := Aside0.mk hB.size
  have HB := Aside0.mk hB
  clear hB
  have H : ((field_put_uint8.f k l0 ((a1) % 256) 1).bind fun t125 => (some t125)) = some r := h
  clear h
  replace H := Option.bind_eq_some_iff.mp H
  obtain ⟨t125, A30, H⟩ := H
  replace H : (some t125) = some r := H
  have A3 := Aside0.mk A30
  clear A30
  obtain rfl := Option.some.inj H
  obtain ⟨Ao4, co4, eo4⟩ := Kd.R_slice HO0.out
  subst eo4
  go_enter Try.func39, Try.ntmps39
  go_wp2_with (first | ((with_reducible refine gate_callee (f := 66) rfl ?_); refine goesL_ (some 8) rfl rfl Try.func66 (by kernel_rfl) rfl #[.slice Ao4 l0.length co4, .int .u8 ((a1) % 256), .int .i64 1] rfl (by (try simp only [List.map_toArray, List.map_cons, List.map_nil]); first | done | rfl | (simp only [List.length_drop, List.length_take]; rfl)) ?_; (with_reducible refine (field_put_uint8.calls k (fun k_ => some k_ = (.slice Ao4 l0.length co4 : Value).ownBlock) (.slice Ao4 l0.length co4) l0 ((a1) % 256) 1 t125 w0 _ ?side1 ?side2 A3.out).mono ?_); (case side1 => repeat (first | (with_reducible first | exact HB.out | apply below_alloc | apply pw_below_drewN | apply below_drew1) | exact HB.out)); (case side2 => exact Kd.R_tight rfl HO0.out); rintro e w5 ⟨v126, rfl, ho0, hb, hkp⟩; refine ⟨_, rfl, ?_⟩; have n0_ := Aside0.mk (Kd.R_mono (ok' := fun k_ => (P0_ k_ ∨ w.heap.size ≤ k_)) ho0 (fun k_ hk_ => Or.elim hk_ (fun hs_ => (HO0.out.1 k_ (hs_).symm)) (fun hn_ => (.inr (Nat.le_trans (by first | exact HK.out.1 | exact (show Kept w _ (fun k_ => P0_ k_) from by repeat (first | (with_reducible first | exact HK.out | apply Kept.alloc | apply Kept.drewN | apply Kept.drew) | exact HK.out)).1) hn_))))); have n1_ := Aside0.mk (Kept.then_ (S := (fun k_ => P0_ k_)) (by repeat (first | (with_reducible first | exact HK.out | apply Kept.alloc | apply Kept.drewN | apply Kept.drew) | exact HK.out)) hkp (fun k_ hs_ => (fun e_ => (HO0.out.1 k_ e_.symm)) hs_)); have n2_ := Aside0.mk (hb); clear HK; clear HB; clear HO0; have HO127 := n0_; have HK := n1_; have HB := n2_; clear n0_ n1_ n2_; (try clear hb); (try clear hkp); (try clear ho0)))
  go_ret
  exact ⟨_, by first | rfl | (simp [errW_none, errW_some] <;> rfl) | (simp [*, errW_none, errW_some] <;> rfl), by (with_reducible repeat (first | apply Kd.R_alloc | apply Kd.R_drewN | apply Kd.R_drew)); exact HO127.out, by repeat (first | (with_reducible first | exact HB.out | apply below_alloc | apply pw_below_drewN | apply below_drew1) | exact HB.out), by repeat (first | (with_reducible first | exact HK.out | apply Kept.alloc | apply Kept.drewN | apply Kept.drew) | exact HK.out)⟩
end Go.Proofs.Ytehcmedeeaoebaa.PB
end
section
namespace Go.Proofs.Ytehcmedeeaoebaa.PB
open Go.RowKit Go.Proofs.YtehcmedeeaoebaaW.PrintWords Go.Proofs.YtehcmedeeaoebaaW.PrintLast Go.Proofs.YtehcmedeeaoebaaW.PrintMore
set_option linter.unusedVariables false
set_option linter.unusedSimpArgs false
section
variable {P : Program} {ops : Array Oper} {rest : List Oper} {o : Oper} {a : Act} {Q : Exit → Act → World → Prop}
theorem append_str_at {w0 W : World} (base : Nat) (hgd : o.guard = none) (s x : Operand) (t u e : TypeId)
    (ho : o.op = .call { callee := .builtin .append, args := #[s, x], argTypes := #[t, u] })
    (ht : P.underlying t = some (.slice e)) (hu : P.underlying u = some .string) (hinfo : (P.info? e).map (fun i => (i.zero, i.size, i.bytes)) = some (some (.int .u8 0), 1, 1))
    (v : Value) (xs : List Int) (y : ByteArray) (hs : a.eval s = v) (hx : a.eval x = .string y) (hpos : 0 < xs.length)
    (HO : W.ownsRow base e 1 v xs.length (nums .u8 xs)) (HB : Below base w0 W) (hbase : base ≤ W.heap.size) (hl : xs.length + y.size ≤ 140737488355328)
    (h : ∀ v1 w1, w1.ownsRow base e 1 v1 (xs ++ bytesOf y).length (nums .u8 (xs ++ bytesOf y)) → Below base w0 w1 → W.grownBy w1 v.ownBlock → (v1.ownBlock = v.ownBlock ∨ v1.ownBlock = some W.heap.size) → wpList P ops Q rest (a.put o.dst v1) w1) :
    wpList P ops Q (o :: rest) a W := by
  obtain ⟨i0, hi, hzz⟩ := Option.map_eq_some_iff.1 hinfo
  simp only [Prod.mk.injEq] at hzz
  obtain ⟨hz0, hz1, hz2⟩ := hzz
  obtain ⟨v1, w1, hrun, hown, hg, _⟩ := Lib.run_append_own_string (P := P) W base t u o.type e i0 ht hu hi hz0 hz1 hz2 v xs.length (nums .u8 xs) HO y (by simp only [maxLen]; omega) hl hbase
  have hat : v1.ownBlock = v.ownBlock ∨ v1.ownBlock = some W.heap.size := by
    rcases HO.2 with ⟨_, h0⟩ | ⟨g, cap, cur, rfl, hbg, hh, hn, hm, hcs, htk⟩
    · omega
    · by_cases hr : xs.length + y.size ≤ cap
      · have h2 := Lib.run_append_room_string (P := P) W t u o.type e i0 ht hu hi hz1 g xs.length cap cur hh y hr (by omega)
        rw [h2] at hrun
        injection hrun with e1 _
        left
        rw [← e1]; rfl
      · have hcells : ∀ j q, (nums .u8 xs)[j]? = some q → W.cell? ((⟨g, 0, none⟩ : Addr).add j) = some q := fun j q hq => HO.cells (g := g) rfl j q hq
        have h2 := Lib.run_append_grow_string (P := P) W t u o.type e i0 _ ht hu hi hz0 ⟨g, 0, none⟩ xs.length cap (nums .u8 xs) (by rw [hz1]; simp [nums]) hcells y (by omega) (by omega)
          (by rw [hz2]; exact growslice_fits (by omega) (by omega))
        rw [h2] at hrun
        injection hrun with e1 _
        right
        rw [← e1]; rfl
  refine wpList_plain hgd fun K hK => ?_
  unfold Oper.wp execOp
  simp only [ho, resolve, invoke, builtin, Sem.run_bind, Sem.run_pure, Result.andThen_ok, List.map_toArray, List.map_cons, List.map_nil, hs, hx, hrun]
  have hl2 : (xs ++ bytesOf y).length = xs.length + y.size := by rw [List.length_append, bytesOf_length]
  have hc : nums .u8 (xs ++ bytesOf y) = nums .u8 xs ++ Lib.strCells y := by
    rw [nums_append]
    congr 1
    simp [nums, bytesOf, Lib.strCells]
  exact hK _ _ (h v1 w1 (by rw [hl2, hc]; exact hown) (HB.grown hg hbase (own_base HO)) hg hat)
end
theorem Put8_pos {k : Nat} {l : List Int} {n : Int} {r : List Int} (h : field_Put8.f k l n = some r) : 0 < r.length := by
  unfold field_Put8.f at h
  obtain ⟨t, ht, h⟩ := Option.bind_eq_some_iff.1 h
  obtain rfl := Option.some.inj h
  unfold field_put_uint8.f at ht
  have e0 : wrap64 (1 - 1) = 0 := by unfold wrap64; omega
  have e1 : wrap64 (0 - 1) = -1 := by unfold wrap64; omega
  have e2 : wrap64 (8 * 0) = 0 := by unfold wrap64; omega
  rw [e0] at ht
  match k, ht with
  | 0, ht => simp [field_put_uint8.l0] at ht
  | 1, ht => simp [field_put_uint8.l0, e1, e2] at ht
  | k + 2, ht =>
    simp only [field_put_uint8.l0] at ht
    rw [if_pos (by decide), e2, if_pos (by decide)] at ht
    by_cases c : l.length < 140737488355328
    · rw [if_pos c, e1, if_neg (by decide)] at ht
      have := Option.some.inj ht
      rw [← this]; simp
    · rw [if_neg c] at ht; cases ht
def batch_short.f (k : Nat) (l0 : List Int) (a1 : ByteArray) : Option (List Int) := (field_Put8.f k l0 (a1.size : Int)).bind fun t159 => (if t159.length + a1.size < 140737488355328 then (some (t159 ++ bytesOf a1)) else (none))
set_option maxHeartbeats 2000000 in
set_option maxRecDepth 100000 in
theorem batch_short.calls (k : Nat) (P0_ : Nat → Prop) (u9000_ : Value) (l0 : List Int) (a1 : ByteArray) (r : List Int) (w0 w : World) (hB : Below w0.heap.size w0 w) (ho0 : Kd.R (Kd.int .u8) 5 w w0.heap.size P0_ u9000_ l0) (h : batch_short.f k l0 a1 = some r) :
    Calls Try.prog 41 #[u9000_, .string a1] w fun e w' => ∃ v0_ : Value, e = .returned (v0_) ∧ Kd.R (Kd.int .u8) 5 w' w0.heap.size (fun k_ => (P0_ k_ ∨ w.heap.size ≤ k_)) v0_ r ∧ Below w0.heap.size w0 w' ∧ Kept w w' (fun k_ => P0_ k_) := by
  unfold batch_short.f at h
  obtain ⟨t, ht, h⟩ := Option.bind_eq_some_iff.1 h
  have hpos := Put8_pos ht
  by_cases c : ¬ (t.length + a1.size < 140737488355328)
  · rw [if_neg c] at h; cases h
  replace c := Decidable.not_not.1 c
  rw [if_pos c] at h
  obtain rfl := Option.some.inj h
  have HC := Aside0.mk (field_Put8.calls k P0_ u9000_ l0 (a1.size : Int) t w0 w hB ho0 ht)
  have HPOS := Aside0.mk hpos
  have HL := Aside0.mk c
  have HWB := Aside0.mk hB.size
  clear h ho0 hB ht hpos c
  go_enter Try.func41, Try.ntmps41
  go_wp2_with (first | (go_at_call 39; go_must (refine HC.out.mono ?_); rintro e w6 ⟨v8, rfl, ho, hb, hkp⟩; have HO := Aside0.mk ho; have HB := Aside0.mk hb; have HK := Aside0.mk hkp; clear ho hb hkp) | ((with_reducible refine gate_builtin (b := .append) (xs := #[.tmp 8, .tmp 9]) rfl ?_); at_builtin; go_must (refine append_str_at (w0 := w0) w0.heap.size rfl (.tmp 8) (.tmp 9) 72 9 5 rfl Try.underlying72 Try.underlying9 info5 v8 t a1 rfl rfl HPOS.out (Kd.own_of_R HO.out) HB.out HB.out.size (Nat.le_of_lt HL.out) ?_); intro v10 w7 ho hb hg hat; have HO2 := Aside0.mk ho; have HB2 := Aside0.mk hb; have HG := Aside0.mk hg; have HAT := Aside0.mk hat; clear ho hb hg hat))
  go_ret
  refine ⟨_, rfl, Kd.R_of_own (h1 := fun _ => rfl) HO2.out (fun k_ hk_ => ?_), HB2.out, Kept.of_grown HG.out HK.out (fun k_ e_ => ?_)⟩
  · rcases HAT.out with e_ | e_
    · exact HO.out.1 k_ (e_.symm.trans hk_)
    · have hk2 := e_.symm.trans hk_
      injection hk2 with hk_
      exact .inr (by rw [← hk_]; exact HK.out.1)
  · have := HO.out.1 k_ e_
    exact this
end Go.Proofs.Ytehcmedeeaoebaa.PB
end
section
namespace Go.Proofs.Ytehcmedeeaoebaa.PB
open Go.RowKit Go.Proofs.YtehcmedeeaoebaaW.PrintWords Go.Proofs.YtehcmedeeaoebaaW.PrintLast Go.Proofs.YtehcmedeeaoebaaW.PrintMore
attribute [local go_sem] max2_int min2_int max_two min_two max_three min_three max_four min_four
set_option linter.unusedVariables false
set_option linter.unusedSimpArgs false
def field_put_uint64.l0 : Nat → List Int → Int → Int → Option (List Int)
  | 0, _, _, _ => none
  | k + 1, x0, x1, x7 => if x7 ≥ 0 then (if 0 ≤ (wrap64 (8 * x7)) then (if x0.length < 140737488355328 then (field_put_uint64.l0 k (x0 ++ [(shr .u64 x1 (wrap64 (8 * x7))) % 256]) x1 (wrap64 (x7 - 1))) else (none)) else (none)) else (some x0)
def field_put_uint64.f (k : Nat) (l0 : List Int) (a1 : Int) (a2 : Int) : Option (List Int) := field_put_uint64.l0 k l0 a1 (wrap64 (a2 - 1))
set_option maxHeartbeats 8000000 in
set_option maxRecDepth 100000 in
theorem field_put_uint64.calls (k : Nat) (P0_ : Nat → Prop) (u9000_ : Value) (l0 : List Int) (a1 : Int) (a2 : Int) (r : List Int) (w0 w : World) (hB : Below w0.heap.size w0 w) (ho0 : Kd.R (Kd.int .u8) 5 w w0.heap.size P0_ u9000_ l0) (h : field_put_uint64.f k l0 a1 a2 = some r) :
    Calls Try.prog 67 #[u9000_, .int .u64 a1, .int .i64 a2] w fun e w' => ∃ v0_ : Value, e = .returned (v0_) ∧ Kd.R (Kd.int .u8) 5 w' w0.heap.size (fun k_ => (P0_ k_ ∨ w.heap.size ≤ k_)) v0_ r ∧ Below w0.heap.size w0 w' ∧ Kept w w' (fun k_ => P0_ k_) := by
  have HO0 := Aside0.mk (show Kd.R (Kd.int .u8) 5 w w0.heap.size (fun k_ => (P0_ k_ ∨ w.heap.size ≤ k_)) u9000_ l0 from Kd.R_mono ho0 (fun k_ hk => (.inl hk)))
  have HK := Aside0.mk (Kept.refl w (fun k_ => P0_ k_))
  have HW0 := Aside0.mk hB.size
  have HB := Aside0.mk hB
  clear hB
  have H : (field_put_uint64.l0 k l0 a1 (wrap64 (a2 - 1))) = some r := h
  clear h
  have H' := Aside0.mk H
  clear H
  go_enter Try.func67, Try.ntmps67
  go_wp2
  go_loopg [0, 7] k (fun kq v0 v7 w' => ∃ (x0_1 : List Int) (x7_1 : Int), v7 = .int .i64 x7_1 ∧ Aside0 (field_put_uint64.l0 kq x0_1 a1 x7_1 = some r) ∧ Aside0 (kq ≤ k) ∧ Aside0 (Kd.R (Kd.int .u8) 5 w' w0.heap.size (fun k_ => (P0_ k_ ∨ w.heap.size ≤ k_)) v0 x0_1) ∧ Aside0 (Kept w w' (fun k_ => P0_ k_)) ∧ Aside0 (Below w0.heap.size w0 w'))
  case atStart => exact ⟨(l0), (wrap64 (a2 - 1)), (by first | rfl | (simp; done) | (simp [*]; done)), H', ⟨Nat.le_refl _⟩, ⟨by (with_reducible repeat (first | apply Kd.R_alloc | apply Kd.R_drewN | apply Kd.R_drew)); exact HO0.out⟩, ⟨by repeat (first | (with_reducible first | exact HK.out | apply Kept.alloc | apply Kept.drewN | apply Kept.drew) | exact HK.out)⟩, ⟨by repeat (first | (with_reducible first | exact HB.out | apply below_alloc | apply pw_below_drewN | apply below_drew1) | exact HB.out)⟩⟩
  case round =>
    clear H'
    try clear p2
    obtain ⟨x0_1, x7_1, rfl, HA, HK1, HO_0, HK, HB⟩ := hrel
    cases gk with
    | zero => exact absurd HA.out (by simp [field_put_uint64.l0])
    | succ k1 =>
      have H := HA.out
      clear HA
      simp only [field_put_uint64.l0] at H
      by_cases c4 : x7_1 ≥ 0
      · rw [if_pos c4] at H
        have c4b0 : decide (0 ≤ x7_1) = true := decide_eq_true c4
        clear c4
        obtain ⟨ji5, hji5⟩ : ∃ j_ : Int, (wrap64 (8 * x7_1)) = j_ := ⟨_, rfl⟩
        replace H : (if 0 ≤ (ji5) then (if x0_1.length < 140737488355328 then (field_put_uint64.l0 k1 (x0_1 ++ [(shr .u64 a1 (ji5)) % 256]) a1 (wrap64 (x7_1 - 1))) else (none)) else (none)) = some r := by first | (rw [hji5] at H; exact H) | (simp only [hji5] at H ⊢; exact H)
        have hji5w : (IntKind.i64.wrap (8 * x7_1)) = ji5 := (i64_w _).trans hji5
        by_cases c6 : 0 ≤ (ji5)
        · rw [if_pos c6] at H
          have c6b0 := eq_true c6
          have c6b1 : decide (0 ≤ (ji5)) = true := decide_eq_true c6
          clear c6
          obtain ⟨ji7, hji7⟩ : ∃ j_ : Int, (shr .u64 a1 (ji5)) = j_ := ⟨_, rfl⟩
          replace H : (if x0_1.length < 140737488355328 then (field_put_uint64.l0 k1 (x0_1 ++ [(ji7) % 256]) a1 (wrap64 (x7_1 - 1))) else (none)) = some r := by first | (rw [hji7] at H; exact H) | (simp only [hji7] at H ⊢; exact H)
          have hji7_ : (a1 / 2 ^ min (ji5).toNat 64) = ji7 := hji7
          have hji7z : (ji5) ≤ 64 → (a1 / 2 ^ (ji5).toNat) = ji7 := shr_small hji7
          by_cases c8 : x0_1.length < 140737488355328
          · rw [if_pos c8] at H
            have LMc8 := Aside0.mk c8
            clear c8
            obtain ⟨y128, hy128⟩ : ∃ y_ : List Int, y_ = (x0_1 ++ [(ji7) % 256]) := ⟨_, rfl⟩
            replace H : (field_put_uint64.l0 k1 y128 a1 (wrap64 (x7_1 - 1))) = some r := by first | (rw [hy128]; with_reducible exact H) | (have H2_ := (Option.bind_some _ _).symm.trans H; rw [hy128]; with_reducible exact H2_) | (have H2_ := (Option.bind_some _ _).symm.trans H; with_reducible exact H2_) | with_reducible exact H | (rw [hy128]; exact H) | exact H
            have Ny128 := Aside0.mk hy128
            clear hy128
            have H' := Aside0.mk H
            clear H
            go_wp2_with (first | ((with_reducible refine gate_builtin (b := .append) (xs := #[.tmp 14, .tmp 20]) rfl ?_); at_builtin; refine Kd.R_append (Kd.int .u8) (w0 := w0) w0.heap.size rfl (.tmp 14) (.tmp 20) 72 5 (.int .u8 0) 1 rfl Try.underlying72 info5 rfl (by decide) (by omega) u0 x0_1 ((ji7) % 256) [.int .u8 ((ji7) % 256)] (fun k_ => (P0_ k_ ∨ w.heap.size ≤ k_)) (fun _ => False) rfl rfl ?aP (fun _ hk => hk.elim) ?aF ?aO ?aB ?aS ?aL ?_; (case aP => exact rfl); (case aB => exact (by repeat (first | (with_reducible first | exact HB.out | apply below_alloc | apply pw_below_drewN | apply below_drew1) | exact HB.out))); (case aF => exact (fun k_ hk => (.inr (Nat.le_trans (by first | exact HK.out.1 | exact (show Kept w _ (fun k_ => P0_ k_) from by repeat (first | (with_reducible first | exact HK.out | apply Kept.alloc | apply Kept.drewN | apply Kept.drew) | exact HK.out)).1) hk)))); (case aO => exact (by (with_reducible repeat (first | apply Kd.R_alloc | apply Kd.R_drewN | apply Kd.R_drew)); exact HO_0.out)); (case aS => exact (below_size (by repeat (first | (with_reducible first | exact HB.out | apply below_alloc | apply pw_below_drewN | apply below_drew1) | exact HB.out)))); (case aL => have := LMc8.out; omega); intro v129 w9 ho hb hg hat; rw [← Ny128.out] at ho; have n0_ := Aside0.mk (hb); have n1_ := Aside0.mk (Kept.of_grown (S := (fun k_ => P0_ k_)) hg (by repeat (first | (with_reducible first | exact HK.out | apply Kept.alloc | apply Kept.drewN | apply Kept.drew) | exact HK.out)) (fun k_ e_ => (HO_0.out.1 k_ e_))); have n2_ := Aside0.mk (ho); clear HB; clear HK; clear HO_0; have HB := n0_; have HK := n1_; have HO130 := n2_; clear n0_ n1_ n2_; clear ho hb hg hat))
            go_roundg k1
            case measure => have := HK1.out; omega
            case rel => exact ⟨(y128), (wrap64 (x7_1 - 1)), (by first | rfl | (simp; done) | (simp [*]; done)), H', ⟨by have := HK1.out; omega⟩, ⟨by (with_reducible repeat (first | apply Kd.R_alloc | apply Kd.R_drewN | apply Kd.R_drew)); exact HO130.out⟩, ⟨by repeat (first | (with_reducible first | exact HK.out | apply Kept.alloc | apply Kept.drewN | apply Kept.drew) | exact HK.out)⟩, ⟨by repeat (first | (with_reducible first | exact HB.out | apply below_alloc | apply pw_below_drewN | apply below_drew1) | exact HB.out)⟩⟩
          · rw [if_neg c8] at H
            exact absurd H (by simp)
        · rw [if_neg c6] at H
          exact absurd H (by simp)
      · rw [if_neg c4] at H
        have c4b0 : decide (0 ≤ x7_1) = false := decide_eq_false c4
        clear c4
        obtain rfl := Option.some.inj H
        go_wp2
        go_ret
        exact ⟨_, by first | rfl | (simp [errW_none, errW_some] <;> rfl) | (simp [*, errW_none, errW_some] <;> rfl), by (with_reducible repeat (first | apply Kd.R_alloc | apply Kd.R_drewN | apply Kd.R_drew)); exact HO_0.out, by repeat (first | (with_reducible first | exact HB.out | apply below_alloc | apply pw_below_drewN | apply below_drew1) | exact HB.out), by repeat (first | (with_reducible first | exact HK.out | apply Kept.alloc | apply Kept.drewN | apply Kept.drew) | exact HK.out)⟩
end Go.Proofs.Ytehcmedeeaoebaa.PB
end
section
namespace Go.Proofs.Ytehcmedeeaoebaa.PB
open Go.RowKit Go.Proofs.YtehcmedeeaoebaaW.PrintWords Go.Proofs.YtehcmedeeaoebaaW.PrintLast Go.Proofs.YtehcmedeeaoebaaW.PrintMore
attribute [local go_sem] max2_int min2_int max_two min_two max_three min_three max_four min_four
set_option linter.unusedVariables false
set_option linter.unusedSimpArgs false
def field_Put64.f (k : Nat) (l0 : List Int) (a1 : Int) : Option (List Int) := (field_put_uint64.f k l0 (IntKind.u64.wrap (a1)) 8).bind fun t131 => (some t131)
set_option maxHeartbeats 8000000 in
set_option maxRecDepth 100000 in
theorem field_Put64.calls (k : Nat) (P0_ : Nat → Prop) (u9000_ : Value) (l0 : List Int) (a1 : Int) (r : List Int) (w0 w : World) (hB : Below w0.heap.size w0 w) (ho0 : Kd.R (Kd.int .u8) 5 w w0.heap.size P0_ u9000_ l0) (h : field_Put64.f k l0 a1 = some r) :
    Calls Try.prog 40 #[u9000_, .int .i64 a1] w fun e w' => ∃ v0_ : Value, e = .returned (v0_) ∧ Kd.R (Kd.int .u8) 5 w' w0.heap.size (fun k_ => (P0_ k_ ∨ w.heap.size ≤ k_)) v0_ r ∧ Below w0.heap.size w0 w' ∧ Kept w w' (fun k_ => P0_ k_) := by
  have HO0 := Aside0.mk (show Kd.R (Kd.int .u8) 5 w w0.heap.size (fun k_ => (P0_ k_ ∨ w.heap.size ≤ k_)) u9000_ l0 from Kd.R_mono ho0 (fun k_ hk => (.inl hk)))
  have HK := Aside0.mk (Kept.refl w (fun k_ => P0_ k_))
  have HW0 := Aside0.mk hB.size
  have HB := Aside0.mk hB
  clear hB
  have H : ((field_put_uint64.f k l0 (IntKind.u64.wrap (a1)) 8).bind fun t131 => (some t131)) = some r := h
  clear h
  replace H := Option.bind_eq_some_iff.mp H
  obtain ⟨t131, A30, H⟩ := H
  replace H : (some t131) = some r := H
  have A3 := Aside0.mk A30
  clear A30
  obtain rfl := Option.some.inj H
  obtain ⟨Ao4, co4, eo4⟩ := Kd.R_slice HO0.out
  subst eo4
  go_enter Try.func40, Try.ntmps40
  go_wp2_with (first | ((with_reducible refine gate_callee (f := 67) rfl ?_); refine goesL_ (some 8) rfl rfl Try.func67 (by kernel_rfl) rfl #[.slice Ao4 l0.length co4, .int .u64 (IntKind.u64.wrap (a1)), .int .i64 8] rfl (by (try simp only [List.map_toArray, List.map_cons, List.map_nil]); first | done | rfl | (simp only [List.length_drop, List.length_take]; rfl)) ?_; (with_reducible refine (field_put_uint64.calls k (fun k_ => some k_ = (.slice Ao4 l0.length co4 : Value).ownBlock) (.slice Ao4 l0.length co4) l0 (IntKind.u64.wrap (a1)) 8 t131 w0 _ ?side1 ?side2 A3.out).mono ?_); (case side1 => repeat (first | (with_reducible first | exact HB.out | apply below_alloc | apply pw_below_drewN | apply below_drew1) | exact HB.out)); (case side2 => exact Kd.R_tight rfl HO0.out); rintro e w5 ⟨v132, rfl, ho0, hb, hkp⟩; refine ⟨_, rfl, ?_⟩; have n0_ := Aside0.mk (Kd.R_mono (ok' := fun k_ => (P0_ k_ ∨ w.heap.size ≤ k_)) ho0 (fun k_ hk_ => Or.elim hk_ (fun hs_ => (HO0.out.1 k_ (hs_).symm)) (fun hn_ => (.inr (Nat.le_trans (by first | exact HK.out.1 | exact (show Kept w _ (fun k_ => P0_ k_) from by repeat (first | (with_reducible first | exact HK.out | apply Kept.alloc | apply Kept.drewN | apply Kept.drew) | exact HK.out)).1) hn_))))); have n1_ := Aside0.mk (Kept.then_ (S := (fun k_ => P0_ k_)) (by repeat (first | (with_reducible first | exact HK.out | apply Kept.alloc | apply Kept.drewN | apply Kept.drew) | exact HK.out)) hkp (fun k_ hs_ => (fun e_ => (HO0.out.1 k_ e_.symm)) hs_)); have n2_ := Aside0.mk (hb); clear HK; clear HB; clear HO0; have HO133 := n0_; have HK := n1_; have HB := n2_; clear n0_ n1_ n2_; (try clear hb); (try clear hkp); (try clear ho0)))
  go_ret
  exact ⟨_, by first | rfl | (simp [errW_none, errW_some] <;> rfl) | (simp [*, errW_none, errW_some] <;> rfl), by (with_reducible repeat (first | apply Kd.R_alloc | apply Kd.R_drewN | apply Kd.R_drew)); exact HO133.out, by repeat (first | (with_reducible first | exact HB.out | apply below_alloc | apply pw_below_drewN | apply below_drew1) | exact HB.out), by repeat (first | (with_reducible first | exact HK.out | apply Kept.alloc | apply Kept.drewN | apply Kept.drew) | exact HK.out)⟩
end Go.Proofs.Ytehcmedeeaoebaa.PB
end
section
namespace Go.Proofs.Ytehcmedeeaoebaa.PB
open Go.RowKit Go.Proofs.YtehcmedeeaoebaaW.PrintWords Go.Proofs.YtehcmedeeaoebaaW.PrintLast Go.Proofs.YtehcmedeeaoebaaW.PrintMore
attribute [local go_sem] max2_int min2_int max_two min_two max_three min_three max_four min_four
set_option linter.unusedVariables false
set_option linter.unusedSimpArgs false
def batch_Bytes.l0 : Nat → List Int → List (S52) → Int → Int → Option (ByteArray × Int)
  | 0, _, _, _, _ => none
  | k + 1, x5, x23, x24, x25 => if x25 < x24 then (if 0 ≤ x25 then (if x25 < (x23.length : Int) then (if (rd_T52 x23 x25).f2 = true then ((field_Put8.f k x5 1).bind fun t147 => ((batch_short.f k t147 ((rd_T52 x23 x25).f0)).bind fun t150 => ((batch_short.f k t150 ((rd_T52 x23 x25).f1)).bind fun t153 => (batch_Bytes.l0 k t153 x23 x24 (wrap64 (x25 + 1)))))) else ((field_Put8.f k x5 0).bind fun t156 => ((batch_short.f k t156 ((rd_T52 x23 x25).f0)).bind fun t159 => ((batch_short.f k t159 ((rd_T52 x23 x25).f1)).bind fun t162 => (batch_Bytes.l0 k t162 x23 x24 (wrap64 (x25 + 1))))))) else (none)) else (none)) else (some (strOfNums x5, 0))
def batch_Bytes.f (k : Nat) (a0_0 : Int) (l0_1 : List (S52)) : Option (ByteArray × Int) := (batch_Check.f k a0_0 l0_1).bind fun t135 => (if t135 = 0 then ((field_Put64.f k (([66] : List Int)) a0_0).bind fun t139 => ((field_Put8.f k t139 (l0_1.length : Int)).bind fun t142 => (batch_Bytes.l0 k t142 l0_1 (l0_1.length : Int) 0))) else (some ((⟨#[]⟩ : ByteArray), t135)))
def batch_Bytes.T4 : Bool × List (List Nat × List Nat) := (true, [([], []), ([], []), ([1], [1]), ([0, 2], [0, 2]), ([], []), ([4], [4]), ([5], [5]), ([3, 6, 3], [3, 6]), ([7, 7, 0, 1, 2, 3, 4, 5, 6, 7], [7])])
def batch_Bytes.B4 : List Nat := [0, 0, 2, 7, 0, 16, 48, 127, 255]
theorem batch_Bytes.tab4 : rtab .any (opsOf Try.f14 4) = batch_Bytes.T4 := by kernel_rfl
theorem batch_Bytes.bits4 : waitsOk batch_Bytes.T4.2 batch_Bytes.B4 = true := by kernel_rfl
def batch_Bytes.T11 : Bool × List (List Nat × List Nat) := (true, [([], []), ([], []), ([0, 1], [0, 1]), ([], []), ([3], [3]), ([2, 4, 2], [2, 4]), ([], []), ([6], [6]), ([5, 7, 5], [5, 7]), ([8, 8, 0, 1, 2, 3, 4, 5, 6, 7, 8], [0, 8])])
def batch_Bytes.B11 : List Nat := [0, 0, 3, 0, 8, 31, 0, 64, 255, 511]
theorem batch_Bytes.tab11 : rtab .any (opsOf Try.f14 11) = batch_Bytes.T11 := by kernel_rfl
theorem batch_Bytes.bits11 : waitsOk batch_Bytes.T11.2 batch_Bytes.B11 = true := by kernel_rfl
set_option maxHeartbeats 8000000 in
set_option maxRecDepth 100000 in
theorem batch_Bytes.calls (k : Nat) (a0_0 : Int) (A0_1 : Option Addr) (c0_1 : Nat) (l0_1 : List (S52)) (r1 : ByteArray) (r2 : Int) (w : World) (hr0_1 : Kd.C k52 w A0_1 l0_1.length l0_1) (hc0_1 : l0_1.length ≤ c0_1) (h : batch_Bytes.f k a0_0 l0_1 = some (r1, r2)) :
    Calls Try.prog 14 #[.agg #[.int .i64 a0_0, .slice A0_1 l0_1.length c0_1]] w fun e w' => e = .returned (.tuple #[.string r1, .int .i64 r2]) ∧ Below w.heap.size w w' := by
  have hu24 := Try.underlying24
  have hu52 := Try.underlying52
  have HR0_1 := Aside0.mk hr0_1
  have HC0_1 := Aside0.mk hc0_1
  clear hr0_1 hc0_1
  have HB := Aside0.mk (Below.refl w.heap.size w)
  have H : ((batch_Check.f k a0_0 l0_1).bind fun t135 => (if t135 = 0 then ((field_Put64.f k (([66] : List Int)) a0_0).bind fun t139 => ((field_Put8.f k t139 (l0_1.length : Int)).bind fun t142 => (batch_Bytes.l0 k t142 l0_1 (l0_1.length : Int) 0))) else (some ((⟨#[]⟩ : ByteArray), t135)))) = some (r1, r2) := h
  clear h
  replace H := Option.bind_eq_some_iff.mp H
  obtain ⟨t135, A20, H⟩ := H
  replace H : (if t135 = 0 then ((field_Put64.f k (([66] : List Int)) a0_0).bind fun t139 => ((field_Put8.f k t139 (l0_1.length : Int)).bind fun t142 => (batch_Bytes.l0 k t142 l0_1 (l0_1.length : Int) 0))) else (some ((⟨#[]⟩ : ByteArray), t135))) = some (r1, r2) := H
  have A2 := Aside0.mk A20
  clear A20
  by_cases c3 : t135 = 0
  · rw [if_pos c3] at H
    have c3b0 : (t135 == 0) = true := beq_iff_eq.mpr c3
    have c3b1 : (t135 != 0) = false := bne_eq_false_iff_eq.mpr c3
    clear c3
    obtain ⟨y136, hy136⟩ : ∃ y_ : List Int, y_ = (([66] : List Int)) := ⟨_, rfl⟩
    replace H : ((field_Put64.f k y136 a0_0).bind fun t139 => ((field_Put8.f k t139 (l0_1.length : Int)).bind fun t142 => (batch_Bytes.l0 k t142 l0_1 (l0_1.length : Int) 0))) = some (r1, r2) := by first | (rw [hy136]; with_reducible exact H) | (have H2_ := (Option.bind_some _ _).symm.trans H; rw [hy136]; with_reducible exact H2_) | (have H2_ := (Option.bind_some _ _).symm.trans H; with_reducible exact H2_) | with_reducible exact H | (rw [hy136]; exact H) | exact H
    have Ny136 := Aside0.mk hy136
    clear hy136
    replace H := Option.bind_eq_some_iff.mp H
    obtain ⟨t139, A40, H⟩ := H
    replace H : ((field_Put8.f k t139 (l0_1.length : Int)).bind fun t142 => (batch_Bytes.l0 k t142 l0_1 (l0_1.length : Int) 0)) = some (r1, r2) := H
    have A4 := Aside0.mk A40
    clear A40
    replace H := Option.bind_eq_some_iff.mp H
    obtain ⟨t142, A50, H⟩ := H
    replace H : (batch_Bytes.l0 k t142 l0_1 (l0_1.length : Int) 0) = some (r1, r2) := H
    have A5 := Aside0.mk A50
    clear A50
    have H' := Aside0.mk H
    clear H
    go_enter Try.func14, Try.ntmps14
    try go_wp2_with (first | ((with_reducible refine gate_dst (N := 1) rfl ?_); refine box_event ?hg (N := 1) ?hd (cs := #[.int .i64 a0_0, .slice A0_1 l0_1.length c0_1]) (t := 24) ?hr ?_; (case hd => rfl); (case hg => rfl); (case hr => first | (go_simp; done) | (go_simp; rfl)); intro gb134 hg w6 hbox hb; have n0_ := Aside0.mk (below_step (by repeat (first | (with_reducible first | exact HB.out | apply below_alloc | apply pw_below_drewN | apply below_drew1) | exact HB.out)) hb); have n1_ := Aside0.mk (hbox); have n2_ := Aside0.mk ((by rw [hg]; exact (below_size (by repeat (first | (with_reducible first | exact HB.out | apply below_alloc | apply pw_below_drewN | apply below_drew1) | exact HB.out))) : w.heap.size ≤ gb134)); have n3_ := Aside0.mk ((by rw [hg]; exact (below_size (by repeat (first | (with_reducible first | exact HB.out | apply below_alloc | apply pw_below_drewN | apply below_drew1) | exact HB.out))) : w.heap.size ≤ gb134)); clear HB; have HB := n0_; have BK134 := n1_; have GW134 := n2_; have GE134 := n3_; clear n0_ n1_ n2_ n3_; clear hb hbox hg; have hcz7_0 : w6.cell? ⟨gb134, 0, none⟩ = some (.int .i64 a0_0) := (blk_cell BK134.out 0).trans rfl; have hcz7_1 : w6.cell? ⟨gb134, 1, none⟩ = some (.slice A0_1 l0_1.length c0_1) := (blk_cell BK134.out 1).trans rfl; have hfz7_0 := blk_frozen BK134.out 0; have hfz7_1 := blk_frozen BK134.out 1) | ((with_reducible refine gate_callee (f := 18) rfl ?_); refine goesL_ (some 10) rfl rfl Try.func18 (by kernel_rfl) rfl #[.agg #[.int .i64 a0_0, .slice A0_1 l0_1.length c0_1]] rfl (by (try simp only [List.map_toArray, List.map_cons, List.map_nil]); first | done | rfl | (simp only [List.length_drop, List.length_take]; rfl)) ?_; (with_reducible refine (batch_Check.calls k a0_0 _ _ l0_1 t135 _ ?side1 ?side2 A2.out).mono ?_); (case side1 => repeat (first | exact (Kd.C_below HR0_1.out HB.out) | (with_reducible refine Kd.C_alloc ?_ _) | (with_reducible refine Kd.C_drewN ?_ _) | (with_reducible refine Kd.C_drew ?_))); (case side2 => exact HC0_1.out); rintro e w8 ⟨rfl, hb⟩; refine ⟨_, rfl, ?_⟩; have n0_ := Aside0.mk (blk_below (g := gb134) (o := .cells #[.int .i64 a0_0, .slice A0_1 l0_1.length c0_1] 24 (0, 0)) (by (with_reducible repeat (first | refine blk_drewN ?_ _ | refine blk_drew ?_ | refine blk_alloc ?_ _)); exact BK134.out) hb); have n1_ := Aside0.mk (below_step (by repeat (first | (with_reducible first | exact HB.out | apply below_alloc | apply pw_below_drewN | apply below_drew1 | refine below_set ?_ GE134.out) | exact HB.out)) hb); clear BK134; clear HB; have BK134 := n0_; have HB := n1_; clear n0_ n1_; (try clear hb); (try clear hb2); (try clear hk); (try clear hi)))
    have n0_ := Aside0.mk (blk_drew BK134.out)
    have n1_ := Aside0.mk (below_drew1 HB.out)
    clear BK134
    clear HB
    have BK134 := n0_
    have HB := n1_
    clear n0_ n1_
    refine start_ (n := 9) (S := fun w' => w'.cell? ⟨gb134, 0, none⟩ = some (.int .i64 a0_0) ∧ w'.cell? ⟨gb134, 1, none⟩ = some (.slice A0_1 l0_1.length c0_1)) (ds := []) #[false, false, false, false, false, false, false, false, false] (by kernel_rfl) rfl rfl ⟨(blk_cell BK134.out 0).trans rfl, (blk_cell BK134.out 1).trans rfl⟩ (fun hHeld => ?_); refine with_tabW batch_Bytes.tab4 batch_Bytes.bits4 (fun HT_ HW_ => ?_)
    generalize w8.drew = w9 at BK134 HB hHeld ⊢
    refine pure_ (i := 1) (N := some 15) (v := ?_) (a' := ?_) #[false, true, false, false, false, false, false, false, false] rfl rfl (any_of HT_.out (by kernel_rfl)) (fun _ _ _ h => h) (Or.inl ⟨by rfl, ?_⟩) ?_ ?_
    rotate_left
    · intro w'
      go_simp
      with_reducible rfl
    rotate_left
    · simp only [Act.put, List.setIfInBounds_toArray, List.set_cons_zero, List.set_cons_succ, i64_w, i32_w]
      rfl
    refine pure_ (i := 4) (N := some 18) (v := ?_) (a' := ?_) #[false, true, false, false, true, false, false, false, false] rfl rfl (any_of HT_.out (by kernel_rfl)) (fun _ _ _ h => h) (Or.inl ⟨by rfl, ?_⟩) ?_ ?_
    rotate_left
    · intro w'
      go_simp
      with_reducible rfl
    rotate_left
    · simp only [Act.put, List.setIfInBounds_toArray, List.set_cons_zero, List.set_cons_succ, i64_w, i32_w]
      rfl
    refine take_ (i := 2) (N := some 16) (v := ?_) (a' := ?_) #[false, true, true, false, true, false, false, false, false] rfl rfl (take_ofW HT_.out HW_.out (by kernel_rfl)) (fun _ _ _ h => h) (Or.inl ⟨by rfl, ?_⟩) hHeld ?_ ?_
    rotate_left
    · rintro w' ⟨s0, s1⟩
      go_simp
      with_reducible rfl
    rotate_left
    · simp only [Act.put, List.setIfInBounds_toArray, List.set_cons_zero, List.set_cons_succ, i64_w, i32_w]
      rfl
    refine take_ (i := 5) (N := some 19) (v := ?_) (a' := ?_) #[false, true, true, false, true, true, false, false, false] rfl rfl (take_ofW HT_.out HW_.out (by kernel_rfl)) (fun _ _ _ h => h) (Or.inl ⟨by rfl, ?_⟩) hHeld ?_ ?_
    rotate_left
    · rintro w' ⟨s0, s1⟩
      go_simp
      with_reducible rfl
    rotate_left
    · simp only [Act.put, List.setIfInBounds_toArray, List.set_cons_zero, List.set_cons_succ, i64_w, i32_w]
      rfl
    refine pure_ (i := 6) (N := some 20) (v := ?_) (a' := ?_) #[false, true, true, false, true, true, true, false, false] rfl rfl (any_of HT_.out (by kernel_rfl)) (fun _ _ _ h => h) (Or.inl ⟨by rfl, ?_⟩) ?_ ?_
    rotate_left
    · intro w'
      go_simp
      with_reducible rfl
    rotate_left
    · simp only [Act.put, List.setIfInBounds_toArray, List.set_cons_zero, List.set_cons_succ, i64_w, i32_w]
      rfl
    refine one_ (i := 0) (N := some 14) #[true, true, true, false, true, true, true, false, false] rfl rfl (one_of HT_.out (by kernel_rfl)) (by decide) (fun K hK => ?_)
    refine Kd.R_lit_step (Kd.int .u8) _ 5 ?hg (N := 14) ?hd (xs := ([66] : List Int)) (inner := [.int .u8 66]) (ok := fun _ => True) (okp := fun _ => True) ?hr ?hp (fun _ hk => hk) trivial (Below.refl _ _) (Nat.le_refl _) (by simp) ?_; (case hd => rfl); (case hg => rfl); (case hr => first | (go_simp; done) | (go_simp; rfl)); (case hp => exact (Reps.one (show Kd.M (Kd.int .u8) _ _ _ 66 [.int .u8 66] from rfl) (Reps.none _ _)))
    intro v137 w10 ho11 hb hg_ hnew_
    clear hg_ hnew_
    (first | rw [← Ny136.out] at ho11 | (simp only [Int.reduceToNat] at ho11; rw [← Ny136.out] at ho11))
    have n0_ := Aside0.mk (Kd.R_lower ho11 (below_size (by repeat (first | (with_reducible first | exact HB.out | apply below_alloc | apply pw_below_drewN | apply below_drew1 | refine below_set ?_ GE134.out) | exact HB.out))))
    have n1_ := Aside0.mk (blk_below (g := gb134) (o := .cells #[.int .i64 a0_0, .slice A0_1 l0_1.length c0_1] 24 (0, 0)) (by (with_reducible repeat (first | refine blk_drewN ?_ _ | refine blk_drew ?_ | refine blk_alloc ?_ _)); exact BK134.out) hb)
    have n2_ := Aside0.mk (below_step (by repeat (first | (with_reducible first | exact HB.out | apply below_alloc | apply pw_below_drewN | apply below_drew1 | refine below_set ?_ GE134.out) | exact HB.out)) hb)
    clear BK134
    clear HB
    have HO138 := n0_
    have BK134 := n1_
    have HB := n2_
    clear n0_ n1_ n2_
    clear hb ho11
    obtain ⟨Ao12, co12, eo12⟩ := Kd.R_slice HO138.out
    (first | subst eo12 | (injection eo12 with f1_ f2_ f3_; have f4_ := f1_.symm; have f5_ := f3_.symm; clear f1_ f2_ f3_; subst f4_; subst f5_))
    refine hK.out _ _ ⟨(blk_cell BK134.out 0).trans rfl, (blk_cell BK134.out 1).trans rfl⟩ (fun hHeld => ?_)
    clear hK K
    refine norm_ (a' := ?_) ?_ ?_
    rotate_left
    · show Act.put _ (some 14) _ = _
      simp only [Act.put, List.setIfInBounds_toArray, List.set_cons_zero, List.set_cons_succ, i64_w, i32_w]
      rfl
    refine one_ (i := 3) (N := some 17) #[true, true, true, true, true, true, true, false, false] rfl rfl (one_of HT_.out (by kernel_rfl)) (by decide) (fun K hK => ?_)
    refine goes_ Try.func40 (by kernel_rfl) rfl #[.slice Ao12 y136.length co12, .int .i64 a0_0] (by rfl) rfl rfl (by (try simp only [List.map_toArray, List.map_cons, List.map_nil]); first | done | rfl | (simp only [List.length_drop, List.length_take]; rfl)) ?_
    with_reducible refine (field_Put64.calls k (fun k_ => some k_ = (.slice Ao12 y136.length co12 : Value).ownBlock) (.slice Ao12 y136.length co12) y136 a0_0 t139 w _ ?side1 ?side2 A4.out).mono ?_
    (case side1 => repeat (first | (with_reducible first | exact HB.out | apply below_alloc | apply pw_below_drewN | apply below_drew1 | refine below_set ?_ GE134.out) | exact HB.out))
    (case side2 => exact Kd.R_tight rfl HO138.out)
    rintro e w13 ⟨v140, rfl, ho0, hb, hkp⟩
    refine ⟨_, rfl, ?_⟩
    have n0_ := Aside0.mk (blk_kept (by (with_reducible repeat (first | refine blk_drewN ?_ _ | refine blk_drew ?_ | refine blk_alloc ?_ _)); exact BK134.out) hkp (fun hs_ => (fun e_ => (Kd.R_ne HO138.out BK134.out (by decide)) e_) hs_))
    have n1_ := Aside0.mk (Kd.R_mono (ok' := fun k_ => True) ho0 (fun k_ hk_ => trivial))
    have n2_ := Aside0.mk (hb)
    clear BK134
    clear HB
    clear HO138
    have BK134 := n0_
    have HO141 := n1_
    have HB := n2_
    clear n0_ n1_ n2_
    (try clear hb)
    (try clear hkp)
    (try clear ho0)
    obtain ⟨Ao14, co14, eo14⟩ := Kd.R_slice HO141.out
    (first | subst eo14 | (injection eo14 with f1_ f2_ f3_; have f4_ := f1_.symm; have f5_ := f3_.symm; clear f1_ f2_ f3_; subst f4_; subst f5_))
    refine hK.out _ _ ⟨(blk_cell BK134.out 0).trans rfl, (blk_cell BK134.out 1).trans rfl⟩ (fun hHeld => ?_)
    clear hK K
    refine norm_ (a' := ?_) ?_ ?_
    rotate_left
    · show Act.put _ (some 17) _ = _
      simp only [Act.put, List.setIfInBounds_toArray, List.set_cons_zero, List.set_cons_succ, i64_w, i32_w]
      rfl
    refine one_ (i := 7) (N := some 21) #[true, true, true, true, true, true, true, true, false] rfl rfl (one_of HT_.out (by kernel_rfl)) (by decide) (fun K hK => ?_)
    refine goes_ Try.func39 (by kernel_rfl) rfl #[.slice Ao14 t139.length co14, .int .i64 (l0_1.length : Int)] (by rfl) rfl rfl (by (try simp only [List.map_toArray, List.map_cons, List.map_nil]); first | done | rfl | (simp only [List.length_drop, List.length_take]; rfl)) ?_
    with_reducible refine (field_Put8.calls k (fun k_ => some k_ = (.slice Ao14 t139.length co14 : Value).ownBlock) (.slice Ao14 t139.length co14) t139 (l0_1.length : Int) t142 w _ ?side1 ?side2 A5.out).mono ?_
    (case side1 => repeat (first | (with_reducible first | exact HB.out | apply below_alloc | apply pw_below_drewN | apply below_drew1 | refine below_set ?_ GE134.out) | exact HB.out))
    (case side2 => exact Kd.R_tight rfl HO141.out)
    rintro e w15 ⟨v143, rfl, ho0, hb, hkp⟩
    refine ⟨_, rfl, ?_⟩
    have n0_ := Aside0.mk (blk_kept (by (with_reducible repeat (first | refine blk_drewN ?_ _ | refine blk_drew ?_ | refine blk_alloc ?_ _)); exact BK134.out) hkp (fun hs_ => (fun e_ => (Kd.R_ne HO141.out BK134.out (by decide)) e_) hs_))
    have n1_ := Aside0.mk (Kd.R_mono (ok' := fun k_ => True) ho0 (fun k_ hk_ => trivial))
    have n2_ := Aside0.mk (hb)
    clear BK134
    clear HB
    clear HO141
    have BK134 := n0_
    have HO144 := n1_
    have HB := n2_
    clear n0_ n1_ n2_
    (try clear hb)
    (try clear hkp)
    (try clear ho0)
    refine hK.out _ _ ⟨(blk_cell BK134.out 0).trans rfl, (blk_cell BK134.out 1).trans rfl⟩ (fun hHeld => ?_)
    clear hK K
    refine norm_ (a' := ?_) ?_ ?_
    rotate_left
    · show Act.put _ (some 21) _ = _
      simp only [Act.put, List.setIfInBounds_toArray, List.set_cons_zero, List.set_cons_succ, i64_w, i32_w]
      rfl
    refine pure_ (i := 8) (N := some 5) (v := ?_) (a' := ?_) #[true, true, true, true, true, true, true, true, true] rfl rfl (any_of HT_.out (by kernel_rfl)) (fun _ _ _ h => h) (Or.inl ⟨by rfl, ?_⟩) ?_ ?_
    rotate_left
    · intro w'
      go_simp
      with_reducible rfl
    rotate_left
    · simp only [Act.put, List.setIfInBounds_toArray, List.set_cons_zero, List.set_cons_succ, i64_w, i32_w]
      rfl
    refine done_ (done_of HT_.out (by kernel_rfl)) ?_
    have hcz16_0 : w15.cell? ⟨gb134, 0, none⟩ = some (.int .i64 a0_0) := (blk_cell BK134.out 0).trans rfl
    have hcz16_1 : w15.cell? ⟨gb134, 1, none⟩ = some (.slice A0_1 l0_1.length c0_1) := (blk_cell BK134.out 1).trans rfl
    have hfz16_0 := blk_frozen BK134.out 0
    have hfz16_1 := blk_frozen BK134.out 1
    try go_wp2
    go_loopg [5, 25] k (fun kq v5 v25 w' => ∃ (x5_1 : List Int) (x25_1 : Int), v25 = .int .i64 x25_1 ∧ Aside0 (batch_Bytes.l0 kq x5_1 l0_1 (l0_1.length : Int) x25_1 = some (r1, r2)) ∧ Aside0 (kq ≤ k) ∧ Aside0 (Kd.R (Kd.int .u8) 5 w' w.heap.size (fun _ => True) v5 x5_1) ∧ Aside0 (w'.heap[gb134]? = some (.cells #[.int .i64 a0_0, (.slice A0_1 l0_1.length c0_1)] 24 (0, 0))) ∧ Aside0 (Below w.heap.size w w'))
    case atStart => exact ⟨(t142), (0), (by first | rfl | (simp; done) | (simp [*]; done)), H', ⟨Nat.le_refl _⟩, ⟨by (with_reducible repeat (first | apply Kd.R_alloc | apply Kd.R_drewN | apply Kd.R_drew)); exact HO144.out⟩, ⟨by (with_reducible repeat (first | refine blk_drewN ?_ _ | refine blk_drew ?_ | refine blk_alloc ?_ _)); exact BK134.out⟩, ⟨by repeat (first | (with_reducible first | exact HB.out | apply below_alloc | apply pw_below_drewN | apply below_drew1 | refine below_set ?_ GE134.out) | exact HB.out)⟩⟩
    case round =>
      clear H'
      try clear c1
      try clear p2
      try clear c3
      try clear c3b0
      try clear c3b1
      try clear c4
      try clear c14
      try clear hcz16_0
      try clear hcz16_1
      try clear hcz7_0
      try clear hcz7_1
      try clear hfz16_0
      try clear hfz16_1
      try clear hfz7_0
      try clear hfz7_1
      obtain ⟨x5_1, x25_1, rfl, HA, HK1, HO_5, BK134, HB⟩ := hrel
      cases gk with
      | zero => exact absurd HA.out (by simp [batch_Bytes.l0])
      | succ k1 =>
        have H := HA.out
        clear HA
        simp only [batch_Bytes.l0] at H
        by_cases c17 : x25_1 < (l0_1.length : Int)
        · rw [if_pos c17] at H
          have c17b0 : decide (x25_1 < (l0_1.length : Int)) = true := decide_eq_true c17
          clear c17
          by_cases c18 : 0 ≤ x25_1
          · rw [if_pos c18] at H
            have c18b0 : decide (0 ≤ x25_1) = true := decide_eq_true c18
            clear c18
            by_cases c19 : x25_1 < (l0_1.length : Int)
            · rw [if_pos c19] at H
              have c19b0 : decide (x25_1 < (l0_1.length : Int)) = true := decide_eq_true c19
              clear c19
              obtain ⟨bq20, hbq20⟩ : ∃ b_ : Bool, b_ = ((rd_T52 l0_1 x25_1).f2) := ⟨_, rfl⟩
              replace H : (if bq20 = true then ((field_Put8.f k1 x5_1 1).bind fun t147 => ((batch_short.f k1 t147 ((rd_T52 l0_1 x25_1).f0)).bind fun t150 => ((batch_short.f k1 t150 ((rd_T52 l0_1 x25_1).f1)).bind fun t153 => (batch_Bytes.l0 k1 t153 l0_1 (l0_1.length : Int) (wrap64 (x25_1 + 1)))))) else ((field_Put8.f k1 x5_1 0).bind fun t156 => ((batch_short.f k1 t156 ((rd_T52 l0_1 x25_1).f0)).bind fun t159 => ((batch_short.f k1 t159 ((rd_T52 l0_1 x25_1).f1)).bind fun t162 => (batch_Bytes.l0 k1 t162 l0_1 (l0_1.length : Int) (wrap64 (x25_1 + 1))))))) = some (r1, r2) := by rw [← hbq20] at H; exact H
              have Nbq20 := Aside0.mk hbq20
              clear hbq20
              by_cases c21 : bq20 = true
              · subst c21
                have H1 : ((field_Put8.f k1 x5_1 1).bind fun t147 => ((batch_short.f k1 t147 ((rd_T52 l0_1 x25_1).f0)).bind fun t150 => ((batch_short.f k1 t150 ((rd_T52 l0_1 x25_1).f1)).bind fun t153 => (batch_Bytes.l0 k1 t153 l0_1 (l0_1.length : Int) (wrap64 (x25_1 + 1)))))) = some (r1, r2) := by rw [if_pos rfl] at H; exact H
                clear H
                have H := H1
                clear H1
                replace H := Option.bind_eq_some_iff.mp H
                obtain ⟨t147, A220, H⟩ := H
                replace H : ((batch_short.f k1 t147 ((rd_T52 l0_1 x25_1).f0)).bind fun t150 => ((batch_short.f k1 t150 ((rd_T52 l0_1 x25_1).f1)).bind fun t153 => (batch_Bytes.l0 k1 t153 l0_1 (l0_1.length : Int) (wrap64 (x25_1 + 1))))) = some (r1, r2) := H
                have A22 := Aside0.mk A220
                clear A220
                replace H := Option.bind_eq_some_iff.mp H
                obtain ⟨t150, A230, H⟩ := H
                replace H : ((batch_short.f k1 t150 ((rd_T52 l0_1 x25_1).f1)).bind fun t153 => (batch_Bytes.l0 k1 t153 l0_1 (l0_1.length : Int) (wrap64 (x25_1 + 1)))) = some (r1, r2) := H
                have A23 := Aside0.mk A230
                clear A230
                replace H := Option.bind_eq_some_iff.mp H
                obtain ⟨t153, A240, H⟩ := H
                replace H : (batch_Bytes.l0 k1 t153 l0_1 (l0_1.length : Int) (wrap64 (x25_1 + 1))) = some (r1, r2) := H
                have A24 := Aside0.mk A240
                clear A240
                have H' := Aside0.mk H
                clear H
                have p145 : 0 ≤ (x25_1 : Int) := of_decide_eq_true (by first | (with_reducible assumption) | assumption)
                have q145 : x25_1 < (l0_1.length : Int) := of_decide_eq_true (by first | (with_reducible assumption) | assumption)
                obtain ⟨ad145, e145, hx145_0, hx145_1, hx145_2⟩ := at_T52 HR0_1.out x25_1 p145 q145
                (try rw [← Nbq20.out] at hx145_2)
                cases e145
                replace hx145_0 := (HB.out.cell (World.block_lt_of_cell? w _ hx145_0)).trans hx145_0
                replace hx145_1 := (HB.out.cell (World.block_lt_of_cell? w _ hx145_1)).trans hx145_1
                replace hx145_2 := (HB.out.cell (World.block_lt_of_cell? w _ hx145_2)).trans hx145_2
                replace p145 := eq_true p145
                replace q145 := eq_true q145
                try go_wp2_with (first | ((with_reducible refine gate_dst (N := 7) rfl ?_); refine box_event ?hg (N := 7) ?hd (cs := #[.string (⟨#[]⟩ : ByteArray), .string (⟨#[]⟩ : ByteArray), .bool false]) (t := 52) ?hr ?_; (case hd => rfl); (case hg => rfl); (case hr => first | (go_simp; done) | (go_simp; rfl)); intro gb146 hg w25 hbox hb; have n0_ := Aside0.mk (Kd.R_below (by (with_reducible repeat (first | apply Kd.R_alloc | apply Kd.R_drewN | apply Kd.R_drew)); exact HO_5.out) hb); have n1_ := Aside0.mk (blk_below (g := gb134) (o := .cells #[.int .i64 a0_0, .slice (some ad145) l0_1.length c0_1] 24 (0, 0)) (by (with_reducible repeat (first | refine blk_drewN ?_ _ | refine blk_drew ?_ | refine blk_alloc ?_ _)); exact BK134.out) hb); have n2_ := Aside0.mk (below_step (by repeat (first | (with_reducible first | exact HB.out | apply below_alloc | apply pw_below_drewN | apply below_drew1 | refine below_set ?_ GE134.out) | exact HB.out)) hb); have n3_ := Aside0.mk (hbox); have n4_ := Aside0.mk ((by rw [hg]; exact (below_size (by repeat (first | (with_reducible first | exact HB.out | apply below_alloc | apply pw_below_drewN | apply below_drew1 | refine below_set ?_ GE134.out) | exact HB.out))) : w.heap.size ≤ gb146)); have n5_ := Aside0.mk ((by rw [hg]; exact (below_size (by repeat (first | (with_reducible first | exact HB.out | apply below_alloc | apply pw_below_drewN | apply below_drew1 | refine below_set ?_ GE134.out) | exact HB.out))) : w.heap.size ≤ gb146)); have n6_ := Aside0.mk ((by rw [hg]; exact Nat.ne_of_lt (blk_lt (g := gb134) (o := .cells #[.int .i64 a0_0, .slice (some ad145) l0_1.length c0_1] 24 (0, 0)) (by (with_reducible repeat (first | refine blk_drewN ?_ _ | refine blk_drew ?_ | refine blk_alloc ?_ _)); exact BK134.out)) : gb134 ≠ gb146)); have n7_ := Aside0.mk ((by rw [hg]; exact Nat.ne_of_gt (blk_lt (g := gb134) (o := .cells #[.int .i64 a0_0, .slice (some ad145) l0_1.length c0_1] 24 (0, 0)) (by (with_reducible repeat (first | refine blk_drewN ?_ _ | refine blk_drew ?_ | refine blk_alloc ?_ _)); exact BK134.out)) : gb146 ≠ gb134)); clear HO_5; clear BK134; clear HB; have HO_5 := n0_; have BK134 := n1_; have HB := n2_; have BK146 := n3_; have GW146 := n4_; have GE146 := n5_; have NB134_146 := n6_; have NB146_134 := n7_; clear n0_ n1_ n2_ n3_ n4_ n5_ n6_ n7_; clear hb hbox hg; have hnb26 := NB146_134.out; have hnc26 := NB134_146.out; have hcz27_0 : w25.cell? ⟨gb146, 0, none⟩ = some (.string (⟨#[]⟩ : ByteArray)) := (blk_cell BK146.out 0).trans rfl; have hcz27_1 : w25.cell? ⟨gb146, 1, none⟩ = some (.string (⟨#[]⟩ : ByteArray)) := (blk_cell BK146.out 1).trans rfl; have hcz27_2 : w25.cell? ⟨gb146, 2, none⟩ = some (.bool false) := (blk_cell BK146.out 2).trans rfl; have hfz27_0 := blk_frozen BK146.out 0; have hfz27_1 := blk_frozen BK146.out 1; have hfz27_2 := blk_frozen BK146.out 2))
                have n0_ : Aside0 (Kd.R (Kd.int .u8) 5 (((w25.setCell ⟨gb146, 0, none⟩ (.string ((rd_T52 l0_1 x25_1).f0))).setCell ⟨gb146, 1, none⟩ (.string ((rd_T52 l0_1 x25_1).f1))).setCell ⟨gb146, 2, none⟩ (.bool true)) w.heap.size (fun _ => True) u5 x5_1) := ⟨by (with_reducible repeat (first | apply Kd.R_alloc | apply Kd.R_drewN | apply Kd.R_drew)); exact Kd.R_mono (Kd.R_far (p := ⟨gb146, 2, none⟩) (Kd.R_far (p := ⟨gb146, 1, none⟩) (Kd.R_far (p := ⟨gb146, 0, none⟩) (Kd.R_types HO_5.out BK146.out (by decide)) (fun _ hk => hk.2) (.string ((rd_T52 l0_1 x25_1).f0))) (fun _ hk => hk.2) (.string ((rd_T52 l0_1 x25_1).f1))) (fun _ hk => hk.2) (.bool true)) (fun _ hk => trivial)⟩
                have n1_ : Aside0 ((((w25.setCell ⟨gb146, 0, none⟩ (.string ((rd_T52 l0_1 x25_1).f0))).setCell ⟨gb146, 1, none⟩ (.string ((rd_T52 l0_1 x25_1).f1))).setCell ⟨gb146, 2, none⟩ (.bool true)).heap[gb134]? = some (.cells #[.int .i64 a0_0, .slice (some ad145) l0_1.length c0_1] 24 (0, 0))) := ⟨by (with_reducible repeat (first | refine blk_drewN ?_ _ | refine blk_drew ?_ | refine blk_alloc ?_ _)); refine blk_far ?_ NB134_146.out _; (with_reducible repeat (first | refine blk_drewN ?_ _ | refine blk_drew ?_ | refine blk_alloc ?_ _)); refine blk_far ?_ NB134_146.out _; (with_reducible repeat (first | refine blk_drewN ?_ _ | refine blk_drew ?_ | refine blk_alloc ?_ _)); refine blk_far ?_ NB134_146.out _; (with_reducible repeat (first | refine blk_drewN ?_ _ | refine blk_drew ?_ | refine blk_alloc ?_ _)); exact BK134.out⟩
                have n2_ : Aside0 ((((w25.setCell ⟨gb146, 0, none⟩ (.string ((rd_T52 l0_1 x25_1).f0))).setCell ⟨gb146, 1, none⟩ (.string ((rd_T52 l0_1 x25_1).f1))).setCell ⟨gb146, 2, none⟩ (.bool true)).heap[gb146]? = some (.cells #[.string ((rd_T52 l0_1 x25_1).f0), .string ((rd_T52 l0_1 x25_1).f1), .bool true] 52 (0, 0))) := ⟨by (with_reducible repeat (first | refine blk_drewN ?_ _ | refine blk_drew ?_ | refine blk_alloc ?_ _)); refine blk_put (cs := #[.string ((rd_T52 l0_1 x25_1).f0), .string ((rd_T52 l0_1 x25_1).f1), .bool false]) ?_ 2 _ rfl; (with_reducible repeat (first | refine blk_drewN ?_ _ | refine blk_drew ?_ | refine blk_alloc ?_ _)); refine blk_put (cs := #[.string ((rd_T52 l0_1 x25_1).f0), .string (⟨#[]⟩ : ByteArray), .bool false]) ?_ 1 _ rfl; (with_reducible repeat (first | refine blk_drewN ?_ _ | refine blk_drew ?_ | refine blk_alloc ?_ _)); refine blk_put (cs := #[.string (⟨#[]⟩ : ByteArray), .string (⟨#[]⟩ : ByteArray), .bool false]) ?_ 0 _ rfl; (with_reducible repeat (first | refine blk_drewN ?_ _ | refine blk_drew ?_ | refine blk_alloc ?_ _)); exact BK146.out⟩
                have n3_ : Aside0 (Below w.heap.size w (((w25.setCell ⟨gb146, 0, none⟩ (.string ((rd_T52 l0_1 x25_1).f0))).setCell ⟨gb146, 1, none⟩ (.string ((rd_T52 l0_1 x25_1).f1))).setCell ⟨gb146, 2, none⟩ (.bool true))) := ⟨by repeat (first | (with_reducible first | exact HB.out | apply below_alloc | apply pw_below_drewN | apply below_drew1 | refine below_set ?_ GE134.out | refine below_set ?_ GE146.out) | exact HB.out)⟩
                (try clear HO_5)
                (try clear BK134)
                (try clear BK146)
                (try clear HB)
                generalize (((w25.setCell ⟨gb146, 0, none⟩ (.string ((rd_T52 l0_1 x25_1).f0))).setCell ⟨gb146, 1, none⟩ (.string ((rd_T52 l0_1 x25_1).f1))).setCell ⟨gb146, 2, none⟩ (.bool true)) = w28 at n0_ n1_ n2_ n3_ ⊢
                have HO_5 := n0_
                have BK134 := n1_
                have BK146 := n2_
                have HB := n3_
                clear n0_ n1_ n2_ n3_
                have n0_ := Aside0.mk (Kd.R_drew HO_5.out)
                have n1_ := Aside0.mk (blk_drew BK134.out)
                have n2_ := Aside0.mk (blk_drew BK146.out)
                have n3_ := Aside0.mk (below_drew1 HB.out)
                clear HO_5
                clear BK134
                clear BK146
                clear HB
                have HO_5 := n0_
                have BK134 := n1_
                have BK146 := n2_
                have HB := n3_
                clear n0_ n1_ n2_ n3_
                obtain ⟨Ao30, co30, eo30⟩ := Kd.R_slice HO_5.out
                (first | subst eo30 | (injection eo30 with f1_ f2_ f3_; have f4_ := f1_.symm; have f5_ := f3_.symm; clear f1_ f2_ f3_; subst f4_; subst f5_))
                refine start_ (n := 10) (S := fun w' => w'.cell? ⟨gb146, 0, none⟩ = some (.string ((rd_T52 l0_1 x25_1).f0)) ∧ w'.cell? ⟨gb146, 1, none⟩ = some (.string ((rd_T52 l0_1 x25_1).f1)) ∧ w'.cell? ⟨gb146, 2, none⟩ = some (.bool true)) (ds := []) #[false, false, false, false, false, false, false, false, false, false] (by kernel_rfl) rfl rfl ⟨(blk_cell BK146.out 0).trans rfl, (blk_cell BK146.out 1).trans rfl, (blk_cell BK146.out 2).trans rfl⟩ (fun hHeld => ?_); refine with_tabW batch_Bytes.tab11 batch_Bytes.bits11 (fun HT_ HW_ => ?_)
                generalize w28.drew = w29 at HO_5 BK134 BK146 HB hHeld ⊢
                refine pure_ (i := 0) (N := some 31) (v := ?_) (a' := ?_) #[true, false, false, false, false, false, false, false, false, false] rfl rfl (any_of HT_.out (by kernel_rfl)) (fun _ _ _ h => h) (Or.inl ⟨by rfl, ?_⟩) ?_ ?_
                rotate_left
                · intro w'
                  go_simp
                  with_reducible rfl
                rotate_left
                · simp only [Act.put, List.setIfInBounds_toArray, List.set_cons_zero, List.set_cons_succ, i64_w, i32_w]
                  rfl
                refine pure_ (i := 1) (N := some 32) (v := ?_) (a' := ?_) #[true, true, false, false, false, false, false, false, false, false] rfl rfl (any_of HT_.out (by kernel_rfl)) (fun _ _ _ h => h) (Or.inl ⟨by rfl, ?_⟩) ?_ ?_
                rotate_left
                · intro w'
                  go_simp
                  with_reducible rfl
                rotate_left
                · simp only [Act.put, List.setIfInBounds_toArray, List.set_cons_zero, List.set_cons_succ, i64_w, i32_w]
                  rfl
                refine pure_ (i := 3) (N := some 34) (v := ?_) (a' := ?_) #[true, true, false, true, false, false, false, false, false, false] rfl rfl (any_of HT_.out (by kernel_rfl)) (fun _ _ _ h => h) (Or.inl ⟨by rfl, ?_⟩) ?_ ?_
                rotate_left
                · intro w'
                  go_simp
                  with_reducible rfl
                rotate_left
                · simp only [Act.put, List.setIfInBounds_toArray, List.set_cons_zero, List.set_cons_succ, i64_w, i32_w]
                  rfl
                refine pure_ (i := 6) (N := some 37) (v := ?_) (a' := ?_) #[true, true, false, true, false, false, true, false, false, false] rfl rfl (any_of HT_.out (by kernel_rfl)) (fun _ _ _ h => h) (Or.inl ⟨by rfl, ?_⟩) ?_ ?_
                rotate_left
                · intro w'
                  go_simp
                  with_reducible rfl
                rotate_left
                · simp only [Act.put, List.setIfInBounds_toArray, List.set_cons_zero, List.set_cons_succ, i64_w, i32_w]
                  rfl
                refine take_ (i := 4) (N := some 35) (v := ?_) (a' := ?_) #[true, true, false, true, true, false, true, false, false, false] rfl rfl (take_ofW HT_.out HW_.out (by kernel_rfl)) (fun _ _ _ h => h) (Or.inl ⟨by rfl, ?_⟩) hHeld ?_ ?_
                rotate_left
                · rintro w' ⟨s0, s1, s2⟩
                  go_simp
                  with_reducible rfl
                rotate_left
                · simp only [Act.put, List.setIfInBounds_toArray, List.set_cons_zero, List.set_cons_succ, i64_w, i32_w]
                  rfl
                refine take_ (i := 7) (N := some 38) (v := ?_) (a' := ?_) #[true, true, false, true, true, false, true, true, false, false] rfl rfl (take_ofW HT_.out HW_.out (by kernel_rfl)) (fun _ _ _ h => h) (Or.inl ⟨by rfl, ?_⟩) hHeld ?_ ?_
                rotate_left
                · rintro w' ⟨s0, s1, s2⟩
                  go_simp
                  with_reducible rfl
                rotate_left
                · simp only [Act.put, List.setIfInBounds_toArray, List.set_cons_zero, List.set_cons_succ, i64_w, i32_w]
                  rfl
                refine one_ (i := 2) (N := some 33) #[true, true, true, true, true, false, true, true, false, false] rfl rfl (one_of HT_.out (by kernel_rfl)) (by decide) (fun K hK => ?_)
                refine goes_ Try.func39 (by kernel_rfl) rfl #[.slice Ao30 x5_1.length co30, .int .i64 1] (by rfl) rfl rfl (by (try simp only [List.map_toArray, List.map_cons, List.map_nil]); first | done | rfl | (simp only [List.length_drop, List.length_take]; rfl)) ?_
                with_reducible refine (field_Put8.calls k1 (fun k_ => some k_ = (.slice Ao30 x5_1.length co30 : Value).ownBlock) (.slice Ao30 x5_1.length co30) x5_1 1 t147 w _ ?side1 ?side2 A22.out).mono ?_
                (case side1 => repeat (first | (with_reducible first | exact HB.out | apply below_alloc | apply pw_below_drewN | apply below_drew1 | refine below_set ?_ GE134.out | refine below_set ?_ GE146.out) | exact HB.out))
                (case side2 => exact Kd.R_tight rfl HO_5.out)
                rintro e w31 ⟨v148, rfl, ho0, hb, hkp⟩
                refine ⟨_, rfl, ?_⟩
                have n0_ := Aside0.mk (blk_kept (by (with_reducible repeat (first | refine blk_drewN ?_ _ | refine blk_drew ?_ | refine blk_alloc ?_ _)); exact BK134.out) hkp (fun hs_ => (fun e_ => (Kd.R_ne HO_5.out BK134.out (by decide)) e_) hs_))
                have n1_ := Aside0.mk (blk_kept (by (with_reducible repeat (first | refine blk_drewN ?_ _ | refine blk_drew ?_ | refine blk_alloc ?_ _)); exact BK146.out) hkp (fun hs_ => (fun e_ => (Kd.R_ne HO_5.out BK146.out (by decide)) e_) hs_))
                have n2_ := Aside0.mk (Kd.R_mono (ok' := fun k_ => True) ho0 (fun k_ hk_ => trivial))
                have n3_ := Aside0.mk (hb)
                clear BK134
                clear BK146
                clear HB
                clear HO_5
                have BK134 := n0_
                have BK146 := n1_
                have HO149 := n2_
                have HB := n3_
                clear n0_ n1_ n2_ n3_
                (try clear hb)
                (try clear hkp)
                (try clear ho0)
                obtain ⟨Ao32, co32, eo32⟩ := Kd.R_slice HO149.out
                (first | subst eo32 | (injection eo32 with f1_ f2_ f3_; have f4_ := f1_.symm; have f5_ := f3_.symm; clear f1_ f2_ f3_; subst f4_; subst f5_))
                refine hK.out _ _ ⟨(blk_cell BK146.out 0).trans rfl, (blk_cell BK146.out 1).trans rfl, (blk_cell BK146.out 2).trans rfl⟩ (fun hHeld => ?_)
                clear hK K
                refine norm_ (a' := ?_) ?_ ?_
                rotate_left
                · show Act.put _ (some 33) _ = _
                  simp only [Act.put, List.setIfInBounds_toArray, List.set_cons_zero, List.set_cons_succ, i64_w, i32_w]
                  rfl
                refine one_ (i := 5) (N := some 36) #[true, true, true, true, true, true, true, true, false, false] rfl rfl (one_of HT_.out (by kernel_rfl)) (by decide) (fun K hK => ?_)
                refine goes_ Try.func41 (by kernel_rfl) rfl #[.slice Ao32 t147.length co32, .string ((rd_T52 l0_1 x25_1).f0)] (by rfl) rfl rfl (by (try simp only [List.map_toArray, List.map_cons, List.map_nil]); first | done | rfl | (simp only [List.length_drop, List.length_take]; rfl)) ?_
                with_reducible refine (batch_short.calls k1 (fun k_ => some k_ = (.slice Ao32 t147.length co32 : Value).ownBlock) (.slice Ao32 t147.length co32) t147 ((rd_T52 l0_1 x25_1).f0) t150 w _ ?side1 ?side2 A23.out).mono ?_
                (case side1 => repeat (first | (with_reducible first | exact HB.out | apply below_alloc | apply pw_below_drewN | apply below_drew1 | refine below_set ?_ GE134.out | refine below_set ?_ GE146.out) | exact HB.out))
                (case side2 => exact Kd.R_tight rfl HO149.out)
                rintro e w33 ⟨v151, rfl, ho0, hb, hkp⟩
                refine ⟨_, rfl, ?_⟩
                have n0_ := Aside0.mk (blk_kept (by (with_reducible repeat (first | refine blk_drewN ?_ _ | refine blk_drew ?_ | refine blk_alloc ?_ _)); exact BK134.out) hkp (fun hs_ => (fun e_ => (Kd.R_ne HO149.out BK134.out (by decide)) e_) hs_))
                have n1_ := Aside0.mk (blk_kept (by (with_reducible repeat (first | refine blk_drewN ?_ _ | refine blk_drew ?_ | refine blk_alloc ?_ _)); exact BK146.out) hkp (fun hs_ => (fun e_ => (Kd.R_ne HO149.out BK146.out (by decide)) e_) hs_))
                have n2_ := Aside0.mk (Kd.R_mono (ok' := fun k_ => True) ho0 (fun k_ hk_ => trivial))
                have n3_ := Aside0.mk (hb)
                clear BK134
                clear BK146
                clear HB
                clear HO149
                have BK134 := n0_
                have BK146 := n1_
                have HO152 := n2_
                have HB := n3_
                clear n0_ n1_ n2_ n3_
                (try clear hb)
                (try clear hkp)
                (try clear ho0)
                obtain ⟨Ao34, co34, eo34⟩ := Kd.R_slice HO152.out
                (first | subst eo34 | (injection eo34 with f1_ f2_ f3_; have f4_ := f1_.symm; have f5_ := f3_.symm; clear f1_ f2_ f3_; subst f4_; subst f5_))
                refine hK.out _ _ ⟨(blk_cell BK146.out 0).trans rfl, (blk_cell BK146.out 1).trans rfl, (blk_cell BK146.out 2).trans rfl⟩ (fun hHeld => ?_)
                clear hK K
                refine norm_ (a' := ?_) ?_ ?_
                rotate_left
                · show Act.put _ (some 36) _ = _
                  simp only [Act.put, List.setIfInBounds_toArray, List.set_cons_zero, List.set_cons_succ, i64_w, i32_w]
                  rfl
                refine one_ (i := 8) (N := some 39) #[true, true, true, true, true, true, true, true, true, false] rfl rfl (one_of HT_.out (by kernel_rfl)) (by decide) (fun K hK => ?_)
                refine goes_ Try.func41 (by kernel_rfl) rfl #[.slice Ao34 t150.length co34, .string ((rd_T52 l0_1 x25_1).f1)] (by rfl) rfl rfl (by (try simp only [List.map_toArray, List.map_cons, List.map_nil]); first | done | rfl | (simp only [List.length_drop, List.length_take]; rfl)) ?_
                with_reducible refine (batch_short.calls k1 (fun k_ => some k_ = (.slice Ao34 t150.length co34 : Value).ownBlock) (.slice Ao34 t150.length co34) t150 ((rd_T52 l0_1 x25_1).f1) t153 w _ ?side1 ?side2 A24.out).mono ?_
                (case side1 => repeat (first | (with_reducible first | exact HB.out | apply below_alloc | apply pw_below_drewN | apply below_drew1 | refine below_set ?_ GE134.out | refine below_set ?_ GE146.out) | exact HB.out))
                (case side2 => exact Kd.R_tight rfl HO152.out)
                rintro e w35 ⟨v154, rfl, ho0, hb, hkp⟩
                refine ⟨_, rfl, ?_⟩
                have n0_ := Aside0.mk (blk_kept (by (with_reducible repeat (first | refine blk_drewN ?_ _ | refine blk_drew ?_ | refine blk_alloc ?_ _)); exact BK134.out) hkp (fun hs_ => (fun e_ => (Kd.R_ne HO152.out BK134.out (by decide)) e_) hs_))
                have n1_ := Aside0.mk (blk_kept (by (with_reducible repeat (first | refine blk_drewN ?_ _ | refine blk_drew ?_ | refine blk_alloc ?_ _)); exact BK146.out) hkp (fun hs_ => (fun e_ => (Kd.R_ne HO152.out BK146.out (by decide)) e_) hs_))
                have n2_ := Aside0.mk (Kd.R_mono (ok' := fun k_ => True) ho0 (fun k_ hk_ => trivial))
                have n3_ := Aside0.mk (hb)
                clear BK134
                clear BK146
                clear HB
                clear HO152
                have BK134 := n0_
                have BK146 := n1_
                have HO155 := n2_
                have HB := n3_
                clear n0_ n1_ n2_ n3_
                (try clear hb)
                (try clear hkp)
                (try clear ho0)
                refine hK.out _ _ ⟨(blk_cell BK146.out 0).trans rfl, (blk_cell BK146.out 1).trans rfl, (blk_cell BK146.out 2).trans rfl⟩ (fun hHeld => ?_)
                clear hK K
                refine norm_ (a' := ?_) ?_ ?_
                rotate_left
                · show Act.put _ (some 39) _ = _
                  simp only [Act.put, List.setIfInBounds_toArray, List.set_cons_zero, List.set_cons_succ, i64_w, i32_w]
                  rfl
                refine pure_ (i := 9) (N := some 5) (v := ?_) (a' := ?_) #[true, true, true, true, true, true, true, true, true, true] rfl rfl (any_of HT_.out (by kernel_rfl)) (fun _ _ _ h => h) (Or.inl ⟨by rfl, ?_⟩) ?_ ?_
                rotate_left
                · intro w'
                  go_simp
                  with_reducible rfl
                rotate_left
                · simp only [Act.put, List.setIfInBounds_toArray, List.set_cons_zero, List.set_cons_succ, i64_w, i32_w]
                  rfl
                refine done_ (done_of HT_.out (by kernel_rfl)) ?_
                try go_wp2
                go_roundg k1
                case measure => have := HK1.out; omega
                case rel => exact ⟨(t153), (wrap64 (x25_1 + 1)), (by first | rfl | (simp; done) | (simp [*]; done)), H', ⟨by have := HK1.out; omega⟩, ⟨by (with_reducible repeat (first | apply Kd.R_alloc | apply Kd.R_drewN | apply Kd.R_drew)); exact HO155.out⟩, ⟨by (with_reducible repeat (first | refine blk_drewN ?_ _ | refine blk_drew ?_ | refine blk_alloc ?_ _)); exact BK134.out⟩, ⟨by repeat (first | (with_reducible first | exact HB.out | apply below_alloc | apply pw_below_drewN | apply below_drew1 | refine below_set ?_ GE134.out | refine below_set ?_ GE146.out) | exact HB.out)⟩⟩
              · replace c21 := Bool.eq_false_iff.mpr c21
                subst c21
                have H1 : ((field_Put8.f k1 x5_1 0).bind fun t156 => ((batch_short.f k1 t156 ((rd_T52 l0_1 x25_1).f0)).bind fun t159 => ((batch_short.f k1 t159 ((rd_T52 l0_1 x25_1).f1)).bind fun t162 => (batch_Bytes.l0 k1 t162 l0_1 (l0_1.length : Int) (wrap64 (x25_1 + 1)))))) = some (r1, r2) := by rw [if_neg (show ¬ (false = true) by decide)] at H; exact H
                clear H
                have H := H1
                clear H1
                replace H := Option.bind_eq_some_iff.mp H
                obtain ⟨t156, A360, H⟩ := H
                replace H : ((batch_short.f k1 t156 ((rd_T52 l0_1 x25_1).f0)).bind fun t159 => ((batch_short.f k1 t159 ((rd_T52 l0_1 x25_1).f1)).bind fun t162 => (batch_Bytes.l0 k1 t162 l0_1 (l0_1.length : Int) (wrap64 (x25_1 + 1))))) = some (r1, r2) := H
                have A36 := Aside0.mk A360
                clear A360
                replace H := Option.bind_eq_some_iff.mp H
                obtain ⟨t159, A370, H⟩ := H
                replace H : ((batch_short.f k1 t159 ((rd_T52 l0_1 x25_1).f1)).bind fun t162 => (batch_Bytes.l0 k1 t162 l0_1 (l0_1.length : Int) (wrap64 (x25_1 + 1)))) = some (r1, r2) := H
                have A37 := Aside0.mk A370
                clear A370
                replace H := Option.bind_eq_some_iff.mp H
                obtain ⟨t162, A380, H⟩ := H
                replace H : (batch_Bytes.l0 k1 t162 l0_1 (l0_1.length : Int) (wrap64 (x25_1 + 1))) = some (r1, r2) := H
                have A38 := Aside0.mk A380
                clear A380
                have H' := Aside0.mk H
                clear H
                have p145 : 0 ≤ (x25_1 : Int) := of_decide_eq_true (by first | (with_reducible assumption) | assumption)
                have q145 : x25_1 < (l0_1.length : Int) := of_decide_eq_true (by first | (with_reducible assumption) | assumption)
                obtain ⟨ad145, e145, hx145_0, hx145_1, hx145_2⟩ := at_T52 HR0_1.out x25_1 p145 q145
                (try rw [← Nbq20.out] at hx145_2)
                cases e145
                replace hx145_0 := (HB.out.cell (World.block_lt_of_cell? w _ hx145_0)).trans hx145_0
                replace hx145_1 := (HB.out.cell (World.block_lt_of_cell? w _ hx145_1)).trans hx145_1
                replace hx145_2 := (HB.out.cell (World.block_lt_of_cell? w _ hx145_2)).trans hx145_2
                replace p145 := eq_true p145
                replace q145 := eq_true q145
                try go_wp2_with (first | ((with_reducible refine gate_dst (N := 7) rfl ?_); refine box_event ?hg (N := 7) ?hd (cs := #[.string (⟨#[]⟩ : ByteArray), .string (⟨#[]⟩ : ByteArray), .bool false]) (t := 52) ?hr ?_; (case hd => rfl); (case hg => rfl); (case hr => first | (go_simp; done) | (go_simp; rfl)); intro gb146 hg w39 hbox hb; have n0_ := Aside0.mk (Kd.R_below (by (with_reducible repeat (first | apply Kd.R_alloc | apply Kd.R_drewN | apply Kd.R_drew)); exact HO_5.out) hb); have n1_ := Aside0.mk (blk_below (g := gb134) (o := .cells #[.int .i64 a0_0, .slice (some ad145) l0_1.length c0_1] 24 (0, 0)) (by (with_reducible repeat (first | refine blk_drewN ?_ _ | refine blk_drew ?_ | refine blk_alloc ?_ _)); exact BK134.out) hb); have n2_ := Aside0.mk (below_step (by repeat (first | (with_reducible first | exact HB.out | apply below_alloc | apply pw_below_drewN | apply below_drew1 | refine below_set ?_ GE134.out) | exact HB.out)) hb); have n3_ := Aside0.mk (hbox); have n4_ := Aside0.mk ((by rw [hg]; exact (below_size (by repeat (first | (with_reducible first | exact HB.out | apply below_alloc | apply pw_below_drewN | apply below_drew1 | refine below_set ?_ GE134.out) | exact HB.out))) : w.heap.size ≤ gb146)); have n5_ := Aside0.mk ((by rw [hg]; exact (below_size (by repeat (first | (with_reducible first | exact HB.out | apply below_alloc | apply pw_below_drewN | apply below_drew1 | refine below_set ?_ GE134.out) | exact HB.out))) : w.heap.size ≤ gb146)); have n6_ := Aside0.mk ((by rw [hg]; exact Nat.ne_of_lt (blk_lt (g := gb134) (o := .cells #[.int .i64 a0_0, .slice (some ad145) l0_1.length c0_1] 24 (0, 0)) (by (with_reducible repeat (first | refine blk_drewN ?_ _ | refine blk_drew ?_ | refine blk_alloc ?_ _)); exact BK134.out)) : gb134 ≠ gb146)); have n7_ := Aside0.mk ((by rw [hg]; exact Nat.ne_of_gt (blk_lt (g := gb134) (o := .cells #[.int .i64 a0_0, .slice (some ad145) l0_1.length c0_1] 24 (0, 0)) (by (with_reducible repeat (first | refine blk_drewN ?_ _ | refine blk_drew ?_ | refine blk_alloc ?_ _)); exact BK134.out)) : gb146 ≠ gb134)); clear HO_5; clear BK134; clear HB; have HO_5 := n0_; have BK134 := n1_; have HB := n2_; have BK146 := n3_; have GW146 := n4_; have GE146 := n5_; have NB134_146 := n6_; have NB146_134 := n7_; clear n0_ n1_ n2_ n3_ n4_ n5_ n6_ n7_; clear hb hbox hg; have hnb40 := NB146_134.out; have hnc40 := NB134_146.out; have hcz41_0 : w39.cell? ⟨gb146, 0, none⟩ = some (.string (⟨#[]⟩ : ByteArray)) := (blk_cell BK146.out 0).trans rfl; have hcz41_1 : w39.cell? ⟨gb146, 1, none⟩ = some (.string (⟨#[]⟩ : ByteArray)) := (blk_cell BK146.out 1).trans rfl; have hcz41_2 : w39.cell? ⟨gb146, 2, none⟩ = some (.bool false) := (blk_cell BK146.out 2).trans rfl; have hfz41_0 := blk_frozen BK146.out 0; have hfz41_1 := blk_frozen BK146.out 1; have hfz41_2 := blk_frozen BK146.out 2))
                have n0_ : Aside0 (Kd.R (Kd.int .u8) 5 (((w39.setCell ⟨gb146, 0, none⟩ (.string ((rd_T52 l0_1 x25_1).f0))).setCell ⟨gb146, 1, none⟩ (.string ((rd_T52 l0_1 x25_1).f1))).setCell ⟨gb146, 2, none⟩ (.bool false)) w.heap.size (fun _ => True) u5 x5_1) := ⟨by (with_reducible repeat (first | apply Kd.R_alloc | apply Kd.R_drewN | apply Kd.R_drew)); exact Kd.R_mono (Kd.R_far (p := ⟨gb146, 2, none⟩) (Kd.R_far (p := ⟨gb146, 1, none⟩) (Kd.R_far (p := ⟨gb146, 0, none⟩) (Kd.R_types HO_5.out BK146.out (by decide)) (fun _ hk => hk.2) (.string ((rd_T52 l0_1 x25_1).f0))) (fun _ hk => hk.2) (.string ((rd_T52 l0_1 x25_1).f1))) (fun _ hk => hk.2) (.bool false)) (fun _ hk => trivial)⟩
                have n1_ : Aside0 ((((w39.setCell ⟨gb146, 0, none⟩ (.string ((rd_T52 l0_1 x25_1).f0))).setCell ⟨gb146, 1, none⟩ (.string ((rd_T52 l0_1 x25_1).f1))).setCell ⟨gb146, 2, none⟩ (.bool false)).heap[gb134]? = some (.cells #[.int .i64 a0_0, .slice (some ad145) l0_1.length c0_1] 24 (0, 0))) := ⟨by (with_reducible repeat (first | refine blk_drewN ?_ _ | refine blk_drew ?_ | refine blk_alloc ?_ _)); refine blk_far ?_ NB134_146.out _; (with_reducible repeat (first | refine blk_drewN ?_ _ | refine blk_drew ?_ | refine blk_alloc ?_ _)); refine blk_far ?_ NB134_146.out _; (with_reducible repeat (first | refine blk_drewN ?_ _ | refine blk_drew ?_ | refine blk_alloc ?_ _)); refine blk_far ?_ NB134_146.out _; (with_reducible repeat (first | refine blk_drewN ?_ _ | refine blk_drew ?_ | refine blk_alloc ?_ _)); exact BK134.out⟩
                have n2_ : Aside0 ((((w39.setCell ⟨gb146, 0, none⟩ (.string ((rd_T52 l0_1 x25_1).f0))).setCell ⟨gb146, 1, none⟩ (.string ((rd_T52 l0_1 x25_1).f1))).setCell ⟨gb146, 2, none⟩ (.bool false)).heap[gb146]? = some (.cells #[.string ((rd_T52 l0_1 x25_1).f0), .string ((rd_T52 l0_1 x25_1).f1), .bool false] 52 (0, 0))) := ⟨by (with_reducible repeat (first | refine blk_drewN ?_ _ | refine blk_drew ?_ | refine blk_alloc ?_ _)); refine blk_put (cs := #[.string ((rd_T52 l0_1 x25_1).f0), .string ((rd_T52 l0_1 x25_1).f1), .bool false]) ?_ 2 _ rfl; (with_reducible repeat (first | refine blk_drewN ?_ _ | refine blk_drew ?_ | refine blk_alloc ?_ _)); refine blk_put (cs := #[.string ((rd_T52 l0_1 x25_1).f0), .string (⟨#[]⟩ : ByteArray), .bool false]) ?_ 1 _ rfl; (with_reducible repeat (first | refine blk_drewN ?_ _ | refine blk_drew ?_ | refine blk_alloc ?_ _)); refine blk_put (cs := #[.string (⟨#[]⟩ : ByteArray), .string (⟨#[]⟩ : ByteArray), .bool false]) ?_ 0 _ rfl; (with_reducible repeat (first | refine blk_drewN ?_ _ | refine blk_drew ?_ | refine blk_alloc ?_ _)); exact BK146.out⟩
                have n3_ : Aside0 (Below w.heap.size w (((w39.setCell ⟨gb146, 0, none⟩ (.string ((rd_T52 l0_1 x25_1).f0))).setCell ⟨gb146, 1, none⟩ (.string ((rd_T52 l0_1 x25_1).f1))).setCell ⟨gb146, 2, none⟩ (.bool false))) := ⟨by repeat (first | (with_reducible first | exact HB.out | apply below_alloc | apply pw_below_drewN | apply below_drew1 | refine below_set ?_ GE134.out | refine below_set ?_ GE146.out) | exact HB.out)⟩
                (try clear HO_5)
                (try clear BK134)
                (try clear BK146)
                (try clear HB)
                generalize (((w39.setCell ⟨gb146, 0, none⟩ (.string ((rd_T52 l0_1 x25_1).f0))).setCell ⟨gb146, 1, none⟩ (.string ((rd_T52 l0_1 x25_1).f1))).setCell ⟨gb146, 2, none⟩ (.bool false)) = w42 at n0_ n1_ n2_ n3_ ⊢
                have HO_5 := n0_
                have BK134 := n1_
                have BK146 := n2_
                have HB := n3_
                clear n0_ n1_ n2_ n3_
                have n0_ := Aside0.mk (Kd.R_drew HO_5.out)
                have n1_ := Aside0.mk (blk_drew BK134.out)
                have n2_ := Aside0.mk (blk_drew BK146.out)
                have n3_ := Aside0.mk (below_drew1 HB.out)
                clear HO_5
                clear BK134
                clear BK146
                clear HB
                have HO_5 := n0_
                have BK134 := n1_
                have BK146 := n2_
                have HB := n3_
                clear n0_ n1_ n2_ n3_
                obtain ⟨Ao44, co44, eo44⟩ := Kd.R_slice HO_5.out
                (first | subst eo44 | (injection eo44 with f1_ f2_ f3_; have f4_ := f1_.symm; have f5_ := f3_.symm; clear f1_ f2_ f3_; subst f4_; subst f5_))
                refine start_ (n := 10) (S := fun w' => w'.cell? ⟨gb146, 0, none⟩ = some (.string ((rd_T52 l0_1 x25_1).f0)) ∧ w'.cell? ⟨gb146, 1, none⟩ = some (.string ((rd_T52 l0_1 x25_1).f1)) ∧ w'.cell? ⟨gb146, 2, none⟩ = some (.bool false)) (ds := []) #[false, false, false, false, false, false, false, false, false, false] (by kernel_rfl) rfl rfl ⟨(blk_cell BK146.out 0).trans rfl, (blk_cell BK146.out 1).trans rfl, (blk_cell BK146.out 2).trans rfl⟩ (fun hHeld => ?_); refine with_tabW batch_Bytes.tab11 batch_Bytes.bits11 (fun HT_ HW_ => ?_)
                generalize w42.drew = w43 at HO_5 BK134 BK146 HB hHeld ⊢
                refine pure_ (i := 0) (N := some 31) (v := ?_) (a' := ?_) #[true, false, false, false, false, false, false, false, false, false] rfl rfl (any_of HT_.out (by kernel_rfl)) (fun _ _ _ h => h) (Or.inl ⟨by rfl, ?_⟩) ?_ ?_
                rotate_left
                · intro w'
                  go_simp
                  with_reducible rfl
                rotate_left
                · simp only [Act.put, List.setIfInBounds_toArray, List.set_cons_zero, List.set_cons_succ, i64_w, i32_w]
                  rfl
                refine pure_ (i := 1) (N := some 32) (v := ?_) (a' := ?_) #[true, true, false, false, false, false, false, false, false, false] rfl rfl (any_of HT_.out (by kernel_rfl)) (fun _ _ _ h => h) (Or.inl ⟨by rfl, ?_⟩) ?_ ?_
                rotate_left
                · intro w'
                  go_simp
                  with_reducible rfl
                rotate_left
                · simp only [Act.put, List.setIfInBounds_toArray, List.set_cons_zero, List.set_cons_succ, i64_w, i32_w]
                  rfl
                refine pure_ (i := 3) (N := some 34) (v := ?_) (a' := ?_) #[true, true, false, true, false, false, false, false, false, false] rfl rfl (any_of HT_.out (by kernel_rfl)) (fun _ _ _ h => h) (Or.inl ⟨by rfl, ?_⟩) ?_ ?_
                rotate_left
                · intro w'
                  go_simp
                  with_reducible rfl
                rotate_left
                · simp only [Act.put, List.setIfInBounds_toArray, List.set_cons_zero, List.set_cons_succ, i64_w, i32_w]
                  rfl
                refine pure_ (i := 6) (N := some 37) (v := ?_) (a' := ?_) #[true, true, false, true, false, false, true, false, false, false] rfl rfl (any_of HT_.out (by kernel_rfl)) (fun _ _ _ h => h) (Or.inl ⟨by rfl, ?_⟩) ?_ ?_
                rotate_left
                · intro w'
                  go_simp
                  with_reducible rfl
                rotate_left
                · simp only [Act.put, List.setIfInBounds_toArray, List.set_cons_zero, List.set_cons_succ, i64_w, i32_w]
                  rfl
                refine take_ (i := 4) (N := some 35) (v := ?_) (a' := ?_) #[true, true, false, true, true, false, true, false, false, false] rfl rfl (take_ofW HT_.out HW_.out (by kernel_rfl)) (fun _ _ _ h => h) (Or.inl ⟨by rfl, ?_⟩) hHeld ?_ ?_
                rotate_left
                · rintro w' ⟨s0, s1, s2⟩
                  go_simp
                  with_reducible rfl
                rotate_left
                · simp only [Act.put, List.setIfInBounds_toArray, List.set_cons_zero, List.set_cons_succ, i64_w, i32_w]
                  rfl
                refine take_ (i := 7) (N := some 38) (v := ?_) (a' := ?_) #[true, true, false, true, true, false, true, true, false, false] rfl rfl (take_ofW HT_.out HW_.out (by kernel_rfl)) (fun _ _ _ h => h) (Or.inl ⟨by rfl, ?_⟩) hHeld ?_ ?_
                rotate_left
                · rintro w' ⟨s0, s1, s2⟩
                  go_simp
                  with_reducible rfl
                rotate_left
                · simp only [Act.put, List.setIfInBounds_toArray, List.set_cons_zero, List.set_cons_succ, i64_w, i32_w]
                  rfl
                refine one_ (i := 2) (N := some 33) #[true, true, true, true, true, false, true, true, false, false] rfl rfl (one_of HT_.out (by kernel_rfl)) (by decide) (fun K hK => ?_)
                refine goes_ Try.func39 (by kernel_rfl) rfl #[.slice Ao44 x5_1.length co44, .int .i64 0] (by rfl) rfl rfl (by (try simp only [List.map_toArray, List.map_cons, List.map_nil]); first | done | rfl | (simp only [List.length_drop, List.length_take]; rfl)) ?_
                with_reducible refine (field_Put8.calls k1 (fun k_ => some k_ = (.slice Ao44 x5_1.length co44 : Value).ownBlock) (.slice Ao44 x5_1.length co44) x5_1 0 t156 w _ ?side1 ?side2 A36.out).mono ?_
                (case side1 => repeat (first | (with_reducible first | exact HB.out | apply below_alloc | apply pw_below_drewN | apply below_drew1 | refine below_set ?_ GE134.out | refine below_set ?_ GE146.out) | exact HB.out))
                (case side2 => exact Kd.R_tight rfl HO_5.out)
                rintro e w45 ⟨v157, rfl, ho0, hb, hkp⟩
                refine ⟨_, rfl, ?_⟩
                have n0_ := Aside0.mk (blk_kept (by (with_reducible repeat (first | refine blk_drewN ?_ _ | refine blk_drew ?_ | refine blk_alloc ?_ _)); exact BK134.out) hkp (fun hs_ => (fun e_ => (Kd.R_ne HO_5.out BK134.out (by decide)) e_) hs_))
                have n1_ := Aside0.mk (blk_kept (by (with_reducible repeat (first | refine blk_drewN ?_ _ | refine blk_drew ?_ | refine blk_alloc ?_ _)); exact BK146.out) hkp (fun hs_ => (fun e_ => (Kd.R_ne HO_5.out BK146.out (by decide)) e_) hs_))
                have n2_ := Aside0.mk (Kd.R_mono (ok' := fun k_ => True) ho0 (fun k_ hk_ => trivial))
                have n3_ := Aside0.mk (hb)
                clear BK134
                clear BK146
                clear HB
                clear HO_5
                have BK134 := n0_
                have BK146 := n1_
                have HO158 := n2_
                have HB := n3_
                clear n0_ n1_ n2_ n3_
                (try clear hb)
                (try clear hkp)
                (try clear ho0)
                obtain ⟨Ao46, co46, eo46⟩ := Kd.R_slice HO158.out
                (first | subst eo46 | (injection eo46 with f1_ f2_ f3_; have f4_ := f1_.symm; have f5_ := f3_.symm; clear f1_ f2_ f3_; subst f4_; subst f5_))
                refine hK.out _ _ ⟨(blk_cell BK146.out 0).trans rfl, (blk_cell BK146.out 1).trans rfl, (blk_cell BK146.out 2).trans rfl⟩ (fun hHeld => ?_)
                clear hK K
                refine norm_ (a' := ?_) ?_ ?_
                rotate_left
                · show Act.put _ (some 33) _ = _
                  simp only [Act.put, List.setIfInBounds_toArray, List.set_cons_zero, List.set_cons_succ, i64_w, i32_w]
                  rfl
                refine one_ (i := 5) (N := some 36) #[true, true, true, true, true, true, true, true, false, false] rfl rfl (one_of HT_.out (by kernel_rfl)) (by decide) (fun K hK => ?_)
                refine goes_ Try.func41 (by kernel_rfl) rfl #[.slice Ao46 t156.length co46, .string ((rd_T52 l0_1 x25_1).f0)] (by rfl) rfl rfl (by (try simp only [List.map_toArray, List.map_cons, List.map_nil]); first | done | rfl | (simp only [List.length_drop, List.length_take]; rfl)) ?_
                with_reducible refine (batch_short.calls k1 (fun k_ => some k_ = (.slice Ao46 t156.length co46 : Value).ownBlock) (.slice Ao46 t156.length co46) t156 ((rd_T52 l0_1 x25_1).f0) t159 w _ ?side1 ?side2 A37.out).mono ?_
                (case side1 => repeat (first | (with_reducible first | exact HB.out | apply below_alloc | apply pw_below_drewN | apply below_drew1 | refine below_set ?_ GE134.out | refine below_set ?_ GE146.out) | exact HB.out))
                (case side2 => exact Kd.R_tight rfl HO158.out)
                rintro e w47 ⟨v160, rfl, ho0, hb, hkp⟩
                refine ⟨_, rfl, ?_⟩
                have n0_ := Aside0.mk (blk_kept (by (with_reducible repeat (first | refine blk_drewN ?_ _ | refine blk_drew ?_ | refine blk_alloc ?_ _)); exact BK134.out) hkp (fun hs_ => (fun e_ => (Kd.R_ne HO158.out BK134.out (by decide)) e_) hs_))
                have n1_ := Aside0.mk (blk_kept (by (with_reducible repeat (first | refine blk_drewN ?_ _ | refine blk_drew ?_ | refine blk_alloc ?_ _)); exact BK146.out) hkp (fun hs_ => (fun e_ => (Kd.R_ne HO158.out BK146.out (by decide)) e_) hs_))
                have n2_ := Aside0.mk (Kd.R_mono (ok' := fun k_ => True) ho0 (fun k_ hk_ => trivial))
                have n3_ := Aside0.mk (hb)
                clear BK134
                clear BK146
                clear HB
                clear HO158
                have BK134 := n0_
                have BK146 := n1_
                have HO161 := n2_
                have HB := n3_
                clear n0_ n1_ n2_ n3_
                (try clear hb)
                (try clear hkp)
                (try clear ho0)
                obtain ⟨Ao48, co48, eo48⟩ := Kd.R_slice HO161.out
                (first | subst eo48 | (injection eo48 with f1_ f2_ f3_; have f4_ := f1_.symm; have f5_ := f3_.symm; clear f1_ f2_ f3_; subst f4_; subst f5_))
                refine hK.out _ _ ⟨(blk_cell BK146.out 0).trans rfl, (blk_cell BK146.out 1).trans rfl, (blk_cell BK146.out 2).trans rfl⟩ (fun hHeld => ?_)
                clear hK K
                refine norm_ (a' := ?_) ?_ ?_
                rotate_left
                · show Act.put _ (some 36) _ = _
                  simp only [Act.put, List.setIfInBounds_toArray, List.set_cons_zero, List.set_cons_succ, i64_w, i32_w]
                  rfl
                refine one_ (i := 8) (N := some 39) #[true, true, true, true, true, true, true, true, true, false] rfl rfl (one_of HT_.out (by kernel_rfl)) (by decide) (fun K hK => ?_)
                refine goes_ Try.func41 (by kernel_rfl) rfl #[.slice Ao48 t159.length co48, .string ((rd_T52 l0_1 x25_1).f1)] (by rfl) rfl rfl (by (try simp only [List.map_toArray, List.map_cons, List.map_nil]); first | done | rfl | (simp only [List.length_drop, List.length_take]; rfl)) ?_
                with_reducible refine (batch_short.calls k1 (fun k_ => some k_ = (.slice Ao48 t159.length co48 : Value).ownBlock) (.slice Ao48 t159.length co48) t159 ((rd_T52 l0_1 x25_1).f1) t162 w _ ?side1 ?side2 A38.out).mono ?_
                (case side1 => repeat (first | (with_reducible first | exact HB.out | apply below_alloc | apply pw_below_drewN | apply below_drew1 | refine below_set ?_ GE134.out | refine below_set ?_ GE146.out) | exact HB.out))
                (case side2 => exact Kd.R_tight rfl HO161.out)
                rintro e w49 ⟨v163, rfl, ho0, hb, hkp⟩
                refine ⟨_, rfl, ?_⟩
                have n0_ := Aside0.mk (blk_kept (by (with_reducible repeat (first | refine blk_drewN ?_ _ | refine blk_drew ?_ | refine blk_alloc ?_ _)); exact BK134.out) hkp (fun hs_ => (fun e_ => (Kd.R_ne HO161.out BK134.out (by decide)) e_) hs_))
                have n1_ := Aside0.mk (blk_kept (by (with_reducible repeat (first | refine blk_drewN ?_ _ | refine blk_drew ?_ | refine blk_alloc ?_ _)); exact BK146.out) hkp (fun hs_ => (fun e_ => (Kd.R_ne HO161.out BK146.out (by decide)) e_) hs_))
                have n2_ := Aside0.mk (Kd.R_mono (ok' := fun k_ => True) ho0 (fun k_ hk_ => trivial))
                have n3_ := Aside0.mk (hb)
                clear BK134
                clear BK146
                clear HB
                clear HO161
                have BK134 := n0_
                have BK146 := n1_
                have HO164 := n2_
                have HB := n3_
                clear n0_ n1_ n2_ n3_
                (try clear hb)
                (try clear hkp)
                (try clear ho0)
                refine hK.out _ _ ⟨(blk_cell BK146.out 0).trans rfl, (blk_cell BK146.out 1).trans rfl, (blk_cell BK146.out 2).trans rfl⟩ (fun hHeld => ?_)
                clear hK K
                refine norm_ (a' := ?_) ?_ ?_
                rotate_left
                · show Act.put _ (some 39) _ = _
                  simp only [Act.put, List.setIfInBounds_toArray, List.set_cons_zero, List.set_cons_succ, i64_w, i32_w]
                  rfl
                refine pure_ (i := 9) (N := some 5) (v := ?_) (a' := ?_) #[true, true, true, true, true, true, true, true, true, true] rfl rfl (any_of HT_.out (by kernel_rfl)) (fun _ _ _ h => h) (Or.inl ⟨by rfl, ?_⟩) ?_ ?_
                rotate_left
                · intro w'
                  go_simp
                  with_reducible rfl
                rotate_left
                · simp only [Act.put, List.setIfInBounds_toArray, List.set_cons_zero, List.set_cons_succ, i64_w, i32_w]
                  rfl
                refine done_ (done_of HT_.out (by kernel_rfl)) ?_
                try go_wp2
                go_roundg k1
                case measure => have := HK1.out; omega
                case rel => exact ⟨(t162), (wrap64 (x25_1 + 1)), (by first | rfl | (simp; done) | (simp [*]; done)), H', ⟨by have := HK1.out; omega⟩, ⟨by (with_reducible repeat (first | apply Kd.R_alloc | apply Kd.R_drewN | apply Kd.R_drew)); exact HO164.out⟩, ⟨by (with_reducible repeat (first | refine blk_drewN ?_ _ | refine blk_drew ?_ | refine blk_alloc ?_ _)); exact BK134.out⟩, ⟨by repeat (first | (with_reducible first | exact HB.out | apply below_alloc | apply pw_below_drewN | apply below_drew1 | refine below_set ?_ GE134.out | refine below_set ?_ GE146.out) | exact HB.out)⟩⟩
            · rw [if_neg c19] at H
              exact absurd H (by simp)
          · rw [if_neg c18] at H
            exact absurd H (by simp)
        · rw [if_neg c17] at H
          have c17b0 : decide (x25_1 < (l0_1.length : Int)) = false := decide_eq_false c17
          clear c17
          simp only [Option.some.injEq, Prod.mk.injEq] at H
          obtain ⟨rfl, rfl⟩ := H
          have hcv50 := own_string (P := Try.prog) Try.underlying72 Try.underlying5 Try.underlying9 (Kd.own_of_R HO_5.out)
          go_wp2
          go_ret2
          exact ⟨by first | rfl | (simp [errW_none, errW_some] <;> rfl) | (simp [*, errW_none, errW_some] <;> rfl), by repeat (first | (with_reducible first | exact HB.out | apply below_alloc | apply pw_below_drewN | apply below_drew1 | refine below_set ?_ GE134.out) | exact HB.out)⟩
  · rw [if_neg c3] at H
    have c3b0 : (t135 == 0) = false := beq_eq_false_iff_ne.mpr c3
    have c3b1 : (t135 != 0) = true := bne_iff_ne.mpr c3
    simp only [Option.some.injEq, Prod.mk.injEq] at H
    obtain ⟨rfl, rfl⟩ := H
    go_enter Try.func14, Try.ntmps14
    go_wp2_with (first | ((with_reducible refine gate_dst (N := 1) rfl ?_); refine box_event ?hg (N := 1) ?hd (cs := #[.int .i64 a0_0, .slice A0_1 l0_1.length c0_1]) (t := 24) ?hr ?_; (case hd => rfl); (case hg => rfl); (case hr => first | (go_simp; done) | (go_simp; rfl)); intro gb134 hg w51 hbox hb; have n0_ := Aside0.mk (below_step (by repeat (first | (with_reducible first | exact HB.out | apply below_alloc | apply pw_below_drewN | apply below_drew1) | exact HB.out)) hb); have n1_ := Aside0.mk (hbox); have n2_ := Aside0.mk ((by rw [hg]; exact (below_size (by repeat (first | (with_reducible first | exact HB.out | apply below_alloc | apply pw_below_drewN | apply below_drew1) | exact HB.out))) : w.heap.size ≤ gb134)); have n3_ := Aside0.mk ((by rw [hg]; exact (below_size (by repeat (first | (with_reducible first | exact HB.out | apply below_alloc | apply pw_below_drewN | apply below_drew1) | exact HB.out))) : w.heap.size ≤ gb134)); clear HB; have HB := n0_; have BK134 := n1_; have GW134 := n2_; have GE134 := n3_; clear n0_ n1_ n2_ n3_; clear hb hbox hg; have hcz52_0 : w51.cell? ⟨gb134, 0, none⟩ = some (.int .i64 a0_0) := (blk_cell BK134.out 0).trans rfl; have hcz52_1 : w51.cell? ⟨gb134, 1, none⟩ = some (.slice A0_1 l0_1.length c0_1) := (blk_cell BK134.out 1).trans rfl; have hfz52_0 := blk_frozen BK134.out 0; have hfz52_1 := blk_frozen BK134.out 1) | ((with_reducible refine gate_callee (f := 18) rfl ?_); refine goesL_ (some 10) rfl rfl Try.func18 (by kernel_rfl) rfl #[.agg #[.int .i64 a0_0, .slice A0_1 l0_1.length c0_1]] rfl (by (try simp only [List.map_toArray, List.map_cons, List.map_nil]); first | done | rfl | (simp only [List.length_drop, List.length_take]; rfl)) ?_; (with_reducible refine (batch_Check.calls k a0_0 _ _ l0_1 t135 _ ?side1 ?side2 A2.out).mono ?_); (case side1 => repeat (first | exact (Kd.C_below HR0_1.out HB.out) | (with_reducible refine Kd.C_alloc ?_ _) | (with_reducible refine Kd.C_drewN ?_ _) | (with_reducible refine Kd.C_drew ?_))); (case side2 => exact HC0_1.out); rintro e w53 ⟨rfl, hb⟩; refine ⟨_, rfl, ?_⟩; have n0_ := Aside0.mk (blk_below (g := gb134) (o := .cells #[.int .i64 a0_0, .slice A0_1 l0_1.length c0_1] 24 (0, 0)) (by (with_reducible repeat (first | refine blk_drewN ?_ _ | refine blk_drew ?_ | refine blk_alloc ?_ _)); exact BK134.out) hb); have n1_ := Aside0.mk (below_step (by repeat (first | (with_reducible first | exact HB.out | apply below_alloc | apply pw_below_drewN | apply below_drew1 | refine below_set ?_ GE134.out) | exact HB.out)) hb); clear BK134; clear HB; have BK134 := n0_; have HB := n1_; clear n0_ n1_; (try clear hb); (try clear hb2); (try clear hk); (try clear hi)))
    go_ret2
    exact ⟨by first | rfl | (simp [errW_none, errW_some] <;> rfl) | (simp [*, errW_none, errW_some] <;> rfl), by repeat (first | (with_reducible first | exact HB.out | apply below_alloc | apply pw_below_drewN | apply below_drew1 | refine below_set ?_ GE134.out) | exact HB.out)⟩
end Go.Proofs.Ytehcmedeeaoebaa.PB
end
section
namespace Go.Proofs.Ytehcmedeeaoebaa.PB
open Go.RowKit Go.Proofs.YtehcmedeeaoebaaW.PrintWords Go.Proofs.YtehcmedeeaoebaaW.PrintLast Go.Proofs.YtehcmedeeaoebaaW.PrintMore
attribute [local go_sem] max2_int min2_int max_two min_two max_three min_three max_four min_four
set_option linter.unusedVariables false
set_option linter.unusedSimpArgs false
def ambrylaw15_lives.f (k : Nat)  : Option (Bool) := (batch_Bytes.f k 5 (([(⟨(⟨#[97]⟩ : ByteArray), (⟨#[120]⟩ : ByteArray), false⟩ : S52)] : List (S52)))).bind fun bt177 => ((batch_Pairs.f k (([(⟨(⟨#[97]⟩ : ByteArray), (([(⟨5, (⟨#[]⟩ : ByteArray), true⟩ : S80)] : List (S80)))⟩ : S67)] : List (S67)))).bind fun bt185 => ((batch_Read.f k (⟨#[77, 0, 0, 0, 0, 0, 0, 0, 9]⟩ : ByteArray)).bind fun bt189 => (if bt177.1.toList = ([66, 0, 0, 0, 0, 0, 0, 0, 5, 1, 0, 1, 97, 1, 120] : List UInt8) then (if bt177.2 = 0 then ((ambryref10_Same.f k bt185.1 (([(⟨(⟨#[97, 15, 255, 255, 255, 255, 255, 255, 251]⟩ : ByteArray), (⟨#[0]⟩ : ByteArray)⟩ : S69)] : List (S69)))).bind fun t199 => (if t199 = true then (if bt185.2 = 0 then (if bt189.2.2.1 = 9 then (if bt189.2.2.2 = 0 then (some true) else (some false)) else (some false)) else (some false)) else (some false))) else (some false)) else (some false))))
end Go.Proofs.Ytehcmedeeaoebaa.PB
end
